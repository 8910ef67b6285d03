/- The law KeepAges: printed functions, their contracts, the plain laws and the row, part 6. -/
import Derived.Test.YtigmekgknhoidaaKKeepAges4
import Derived.Test.YtigmekgknhoidaaKKeepAges5
-- written by a program of the proving session, out of the translation; Lean checks it
namespace Go.Proofs.Ytigmekgknhoidaa.P
open Go.RowKit Go.Proofs.Ytigmekgknhoidaa.Sq Go.Proofs.YtigmekgknhoidaaW.PrintWords Go.Proofs.YtigmekgknhoidaaW.PrintLast Go.Proofs.YtigmekgknhoidaaW.PrintMore
attribute [local go_sem] max2_int min2_int max_two min_two max_three min_three max_four min_four   -- for this text's walks alone
set_option linter.unusedVariables false
set_option linter.unusedSimpArgs false

/-! ### fairwayref10_Seg: function 44 -/
mutual
def fairwayref10_Seg.l0 : Nat → Int → Int → List (S25) → Option (Bool)
 | 0, _, _, _ => none
 | k + 1, x3, x198000, x198001 => if x3 < (x198001.length : Int) then (fairwayref10_Seg.j1 k x3 x198000 x198001) else ((fairwayref0_Num.f x198000 1099511627776).bind fun t198 => (if t198 = true then (some (decide ((x198001.length : Int) ≤ 200))) else (some false)))
def fairwayref10_Seg.j1 : Nat → Int → Int → List (S25) → Option (Bool)
 | 0, _, _, _ => none
 | k + 1, x3, x198000, x198001 => if 0 ≤ x3 then (if x3 < (x198001.length : Int) then ((fairwayref10_Rec.f ((rd_T25 x198001 x3).f0) ((rd_T25 x198001 x3).f1) ((rd_T25 x198001 x3).f2) ((rd_T25 x198001 x3).f3) ((rd_T25 x198001 x3).f4) ((rd_T25 x198001 x3).f5)).bind fun t200 => (if t200 = true then (if ((rd_T25 x198001 x3).f0) < x198000 then (fairwayref10_Seg.j2 k x3 true x198000 x198001) else (if x3 > 0 then (if 0 ≤ (wrap64 (x3 - 1)) then (if (wrap64 (x3 - 1)) < (x198001.length : Int) then (if ((rd_T25 x198001 (wrap64 (x3 - 1))).f0) ≥ ((rd_T25 x198001 x3).f0) then (fairwayref10_Seg.j2 k x3 true x198000 x198001) else (fairwayref10_Seg.j2 k x3 (decide (((rd_T25 x198001 (wrap64 (x3 - 1))).f1) > ((rd_T25 x198001 x3).f1))) x198000 x198001)) else (none)) else (none)) else (fairwayref10_Seg.j2 k x3 false x198000 x198001))) else (fairwayref10_Seg.j2 k x3 true x198000 x198001))) else (none)) else (none)
def fairwayref10_Seg.j2 : Nat → Int → Bool → Int → List (S25) → Option (Bool)
 | 0, _, _, _, _ => none
 | k + 1, x3, x64, x198000, x198001 => if x64 = true then (some false) else (fairwayref10_Seg.l0 k (wrap64 (x3 + 1)) x198000 x198001)
end
def fairwayref10_Seg.f (k : Nat) (a0_0 : Int) (l0_1 : List (S25)) : Option (Bool) := fairwayref10_Seg.l0 k 0 a0_0 l0_1
theorem fairwayref10_Seg.mono_l : ∀ k, (∀ y0 y1 y2, LeO (fairwayref10_Seg.l0 k y0 y1 y2) (fairwayref10_Seg.l0 (k + 1) y0 y1 y2)) ∧ (∀ y0 y1 y2, LeO (fairwayref10_Seg.j1 k y0 y1 y2) (fairwayref10_Seg.j1 (k + 1) y0 y1 y2)) ∧ (∀ y0 y1 y2 y3, LeO (fairwayref10_Seg.j2 k y0 y1 y2 y3) (fairwayref10_Seg.j2 (k + 1) y0 y1 y2 y3))
 | 0 => ⟨fun _ _ _ r h => by simp [fairwayref10_Seg.l0] at h, fun _ _ _ r h => by simp [fairwayref10_Seg.j1] at h, fun _ _ _ _ r h => by simp [fairwayref10_Seg.j2] at h⟩
 | k + 1 => by
  obtain ⟨ih0, ih1, ih2⟩ := fairwayref10_Seg.mono_l k
  refine ⟨?_, ?_, ?_⟩
  ·intro y0 y1 y2
   unfold fairwayref10_Seg.l0
   repeat' first
   | (with_reducible exact ih0 _ _ _)
   | (with_reducible exact ih1 _ _ _)
   | (with_reducible exact ih2 _ _ _ _)
   | (with_reducible exact LeO.refl _)
   | (with_reducible exact LeO.none _)
   | (with_reducible refine LeO.ite ?_ ?_)
   | (with_reducible refine LeO.bind ?_ (fun _ => ?_))
   | exact ih0 _ _ _
   | exact ih1 _ _ _
   | exact ih2 _ _ _ _
   | exact LeO.none _
   | refine LeO.ite ?_ ?_
   | refine LeO.bind ?_ (fun _ => ?_)
  ·intro y0 y1 y2
   unfold fairwayref10_Seg.j1
   repeat' first
   | (with_reducible exact ih0 _ _ _)
   | (with_reducible exact ih1 _ _ _)
   | (with_reducible exact ih2 _ _ _ _)
   | (with_reducible exact LeO.refl _)
   | (with_reducible exact LeO.none _)
   | (with_reducible refine LeO.ite ?_ ?_)
   | (with_reducible refine LeO.bind ?_ (fun _ => ?_))
   | exact ih0 _ _ _
   | exact ih1 _ _ _
   | exact ih2 _ _ _ _
   | exact LeO.none _
   | refine LeO.ite ?_ ?_
   | refine LeO.bind ?_ (fun _ => ?_)
  ·intro y0 y1 y2 y3
   unfold fairwayref10_Seg.j2
   repeat' first
   | (with_reducible exact ih0 _ _ _)
   | (with_reducible exact ih1 _ _ _)
   | (with_reducible exact ih2 _ _ _ _)
   | (with_reducible exact LeO.refl _)
   | (with_reducible exact LeO.none _)
   | (with_reducible refine LeO.ite ?_ ?_)
   | (with_reducible refine LeO.bind ?_ (fun _ => ?_))
   | exact ih0 _ _ _
   | exact ih1 _ _ _
   | exact ih2 _ _ _ _
   | exact LeO.none _
   | refine LeO.ite ?_ ?_
   | refine LeO.bind ?_ (fun _ => ?_)
theorem fairwayref10_Seg.mono : ∀ a0 a1 k, LeO (fairwayref10_Seg.f k a0 a1) (fairwayref10_Seg.f (k + 1) a0 a1) := by
 intro a0 a1 k
 obtain ⟨ih0, ih1, ih2⟩ := fairwayref10_Seg.mono_l k
 unfold fairwayref10_Seg.f
 repeat' first
  | (with_reducible exact ih0 _ _ _)
  | (with_reducible exact ih1 _ _ _)
  | (with_reducible exact ih2 _ _ _ _)
  | (with_reducible exact LeO.refl _)
  | (with_reducible exact LeO.none _)
  | (with_reducible refine LeO.ite ?_ ?_)
  | (with_reducible refine LeO.bind ?_ (fun _ => ?_))
  | exact ih0 _ _ _
  | exact ih1 _ _ _
  | exact ih2 _ _ _ _
  | exact LeO.none _
  | refine LeO.ite ?_ ?_
  | refine LeO.bind ?_ (fun _ => ?_)
def fairwayref10_Seg.T4 : Bool × List (List Nat × List Nat) := (true, [([], []), ([0], [0]), ([], []), ([1, 2], [1, 2]), ([3], [3]), ([4], [4]), ([5], [5]), ([6, 5], [6]), ([7], [7]), ([8, 7], [7, 8]), ([7], [7]), ([9, 10, 7], [7, 9, 10]), ([11, 7], [7, 11]), ([12, 7], [7, 12]), ([7], [7]), ([14, 7], [7, 14]), ([13, 15, 7], [7, 13, 15]), ([7, 16], [7, 16]), ([17, 7], [17]), ([18], [18]), ([19, 18], [18, 19]), ([20, 18, 18], [18, 20]), ([21], [21]), ([22, 21], [21, 22]), ([21], [21]), ([24, 21], [21, 24]), ([23, 25, 21], [21, 23, 25]), ([26, 21], [21, 26]), ([27, 21], [21, 27]), ([21], [21]), ([29, 21], [21, 29]), ([21], [21]), ([30, 31, 21], [21, 30, 31]), ([32, 21], [21, 32]), ([33, 21], [21, 33]), ([28, 34, 21], [21, 28, 34]), ([35, 21, 21], [21, 35]), ([36], [36]), ([37, 36], [36, 37]), ([36], [36]), ([39, 36], [36, 39]), ([38, 40, 36], [36, 38, 40]), ([41, 36], [36, 41]), ([42, 36], [36, 42]), ([36], [36]), ([44, 36], [36, 44]), ([36], [36]), ([45, 46, 36], [36, 45, 46]), ([47, 36], [36, 47]), ([48, 36], [36, 48]), ([43, 49, 36], [36, 43, 49]), ([36, 50, 21], [21, 36, 50]), ([21, 51, 18], [18, 21, 51]), ([18, 52], [18, 52])])
def fairwayref10_Seg.B4 : List Nat := [0, 1, 0, 7, 15, 31, 63, 127, 255, 511, 255, 2047, 4095, 8191, 255, 16639, 65535, 131071, 262143, 524287, 1048575, 2097151, 4194303, 8388607, 4194303, 20971519, 67108863, 134217727, 268435455, 4194303, 541065215, 4194303, 3762290687, 8057257983, 16647192575, 34359738367, 68719476735, 137438953471, 274877906943, 137438953471, 687194767359, 2199023255551, 4398046511103, 8796093022207, 137438953471, 17729624997887, 137438953471, 123282741264383, 264020229619711, 545495206330367, 1125899906842623, 2251799813685247, 4503599627370495, 9007199254740991]
theorem fairwayref10_Seg.tab4 : rtab .any (opsOf Try.f44 4) = fairwayref10_Seg.T4 := by kernel_rfl
theorem fairwayref10_Seg.bits4 : waitsOk fairwayref10_Seg.T4.2 fairwayref10_Seg.B4 = true := by kernel_rfl
set_option maxHeartbeats 8000000 in
set_option maxRecDepth 100000 in
theorem fairwayref10_Seg.calls (k : Nat) (a0_0 : Int) (A0_1 : Option Addr) (c0_1 : Nat) (l0_1 : List (S25)) (r : Bool) (w : World) (hr0_1 : Kd.C k25 w A0_1 l0_1.length l0_1) (hc0_1 : l0_1.length ≤ c0_1) (h : fairwayref10_Seg.f k a0_0 l0_1 = some r) :
 Calls Try.prog 44 #[.agg #[.int .i64 a0_0, .slice A0_1 l0_1.length c0_1]] w fun e w' => e = .returned (.bool r) ∧ Below w.heap.size w w' := by
 have hu29 := Try.underlying29
 have hu25 := Try.underlying25
 have HR0_1 := Aside0.mk hr0_1
 have HC0_1 := Aside0.mk hc0_1
 clear hr0_1 hc0_1
 have HB := Aside0.mk (Below.refl w.heap.size w)
 have H : (fairwayref10_Seg.l0 k 0 a0_0 l0_1) = some r := h
 clear h
 have H' := Aside0.mk H
 clear H
 go_enter Try.func44, Try.ntmps44
 go_wp2_with (first | ((with_reducible refine gate_dst (N := 1) rfl ?_); (try (refine gate_guard (by rfl) ?_; dsimp only)); refine box_event ?hg (N := 1) ?hd (cs := #[.int .i64 a0_0, .slice A0_1 l0_1.length c0_1]) (t := 29) ?hr ?_; (case hd => rfl); (case hg => rfl); (case hr => first | (go_simp; done) | (go_simp; rfl)); intro gb197 hg w2 hbox hb; have BK197 := Aside0.mk (hbox); have GW197 := Aside0.mk ((by rw [hg]; exact (below_size bo) : w.heap.size ≤ gb197)); have GE197 := Aside0.mk ((by rw [hg]; exact (below_size bo) : w.heap.size ≤ gb197)); replace HB := Aside0.mk (below_step bo hb); clear hb hbox hg))
 go_loopg [3] k (fun kq v3 w' => ∃ (x3_1 : Int), v3 = .int .i64 x3_1 ∧ Aside0 (fairwayref10_Seg.l0 kq x3_1 a0_0 l0_1 = some r) ∧ Aside0 (kq ≤ k) ∧ Aside0 (w'.heap[gb197]? = some (.cells #[.int .i64 a0_0, (.slice A0_1 l0_1.length c0_1)] 29 (0, 0))) ∧ Aside0 (Below w.heap.size w w'))
 case atStart => exact ⟨(0), ap, H', ⟨Nat.le_refl _⟩, ⟨by (with_reducible repeat (first | refine blk_drewN ?_ _ | refine blk_drew ?_ | refine blk_alloc ?_ _)); exact BK197.out⟩, ⟨bo⟩⟩
 case round =>
  clear H'
  try clear p2
  obtain ⟨x3_1, rfl, HA, HK1, BK197, HB⟩ := hrel
  cases gk with
  | zero => exact absurd HA.out (by simp [fairwayref10_Seg.l0])
  | succ k1 =>
   have H := HA.out
   clear HA
   simp only [fairwayref10_Seg.l0] at H
   have HC3 := Aside0.mk H
   clear H
   have hcz4_0 : wr.cell? ⟨gb197, 0, none⟩ = some (.int .i64 a0_0) := (blk_cell BK197.out 0).trans rfl
   have hcz4_1 : wr.cell? ⟨gb197, 1, none⟩ = some (.slice A0_1 l0_1.length c0_1) := (blk_cell BK197.out 1).trans rfl
   have hfz4_0 := blk_frozen BK197.out 0
   have hfz4_1 := blk_frozen BK197.out 1
   go_upto_if 8 with (fail)
   go_cut [] (fun wc => ∃ (kq : Nat), Aside0 (fairwayref10_Seg.j1 kq x3_1 a0_0 l0_1 = some r) ∧ Aside0 (kq ≤ k1) ∧ Aside0 (wc.heap[gb197]? = some (.cells #[.int .i64 a0_0, (.slice A0_1 l0_1.length c0_1)] 29 (0, 0))) ∧ Aside0 (Below w.heap.size w wc))
   case first =>
    have H := HC3.out
    clear HC3
    by_cases c5 : x3_1 < (l0_1.length : Int)
    ·rw [if_pos c5] at H
     have c5b0 : decide (x3_1 < (l0_1.length : Int)) = true := decide_eq_true c5
     clear c5
     (first | rw [c5b0] | (simp only [i64_w, i32_w]; rw [c5b0]) | skip)
     have H' := Aside0.mk H
     clear H
     go_wp2
     go_meet
     case rel => exact ⟨_, H', ⟨by have := HK1.out; first | omega | exact Nat.le_refl _⟩, ⟨by (with_reducible repeat (first | refine blk_drewN ?_ _ | refine blk_drew ?_ | refine blk_alloc ?_ _)); exact BK197.out⟩, ⟨bo⟩⟩
    ·rw [if_neg c5] at H
     have c5b0 : decide (x3_1 < (l0_1.length : Int)) = false := decide_eq_false c5
     clear c5
     (first | rw [c5b0] | (simp only [i64_w, i32_w]; rw [c5b0]) | skip)
     replace H := Option.bind_eq_some_iff.mp H
     obtain ⟨t198, A60, H⟩ := H
     replace H : (if t198 = true then (some (decide ((l0_1.length : Int) ≤ 200))) else (some false)) = some r := H
     have A6 := Aside0.mk A60
     clear A60
     by_cases c7 : t198 = true
     ·subst c7
      have H1 : (some (decide ((l0_1.length : Int) ≤ 200))) = some r := by rw [if_pos rfl] at H; exact H
      clear H
      have H := H1
      clear H1
      obtain rfl := Option.some.inj H
      have hcz8_0 : wr.cell? ⟨gb197, 0, none⟩ = some (.int .i64 a0_0) := (blk_cell BK197.out 0).trans rfl
      have hcz8_1 : wr.cell? ⟨gb197, 1, none⟩ = some (.slice A0_1 l0_1.length c0_1) := (blk_cell BK197.out 1).trans rfl
      have hfz8_0 := blk_frozen BK197.out 0
      have hfz8_1 := blk_frozen BK197.out 1
      go_wp2_with (first | ((with_reducible refine gate_callee (f := 49) rfl ?_); refine goesL_ (some 67) rfl rfl Try.func49 (by kernel_rfl) rfl #[.int .i64 a0_0, .int .i64 1099511627776] rfl aa ?_; (with_reducible refine (fairwayref0_Num.calls a0_0 1099511627776 true _ A6.out).mono ?_); rintro e w' ⟨rfl, ⟨nd, rfl⟩⟩; refine ⟨_, rfl, ?_⟩))
      go_ret
      exact ⟨er, bo⟩
     ·replace c7 := Bool.eq_false_iff.mpr c7
      subst c7
      have H1 : (some false) = some r := by rw [if_neg (show ¬ (false = true) by decide)] at H; exact H
      clear H
      have H := H1
      clear H1
      obtain rfl := Option.some.inj H
      have hcz9_0 : wr.cell? ⟨gb197, 0, none⟩ = some (.int .i64 a0_0) := (blk_cell BK197.out 0).trans rfl
      have hcz9_1 : wr.cell? ⟨gb197, 1, none⟩ = some (.slice A0_1 l0_1.length c0_1) := (blk_cell BK197.out 1).trans rfl
      have hfz9_0 := blk_frozen BK197.out 0
      have hfz9_1 := blk_frozen BK197.out 1
      go_wp2_with (first | ((with_reducible refine gate_callee (f := 49) rfl ?_); refine goesL_ (some 67) rfl rfl Try.func49 (by kernel_rfl) rfl #[.int .i64 a0_0, .int .i64 1099511627776] rfl aa ?_; (with_reducible refine (fairwayref0_Num.calls a0_0 1099511627776 false _ A6.out).mono ?_); rintro e w' ⟨rfl, ⟨nd, rfl⟩⟩; refine ⟨_, rfl, ?_⟩))
      go_ret
      exact ⟨er, bo⟩
   case rest =>
    clear HC3
    try clear p2
    try clear c4
    try clear c5
    try clear c5b0
    try clear c7
    try clear hcz4_0
    try clear hcz4_1
    try clear hcz8_0
    try clear hcz8_1
    try clear hcz9_0
    try clear hcz9_1
    try clear hfz4_0
    try clear hfz4_1
    try clear hfz8_0
    try clear hfz8_1
    try clear hfz9_0
    try clear hfz9_1
    try clear p2
    obtain ⟨kq, HA, HJ2, BK197, HB⟩ := hcut
    cases kq with
    | zero => exact absurd HA.out (by simp [fairwayref10_Seg.j1])
    | succ kj2 =>
     have H := HA.out
     clear HA
     simp only [fairwayref10_Seg.j1] at H
     have HC10 := Aside0.mk H
     clear H
     go_upto_region 4 with (fail)
     go_cut [64] (fun v64 wc => ∃ (kq : Nat) (x64_9 : Bool), v64 = .bool x64_9 ∧ Aside0 (fairwayref10_Seg.j2 kq x3_1 x64_9 a0_0 l0_1 = some r) ∧ Aside0 (kq ≤ kj2) ∧ Aside0 (wc.heap[gb197]? = some (.cells #[.int .i64 a0_0, (.slice A0_1 l0_1.length c0_1)] 29 (0, 0))) ∧ Aside0 (Below w.heap.size w wc))
     case first =>
      have H := HC10.out
      clear HC10
      by_cases c11 : 0 ≤ x3_1
      ·rw [if_pos c11] at H
       have c11b0 : decide (0 ≤ x3_1) = true := decide_eq_true c11
       clear c11
       (first | rw [c11b0] | (simp only [i64_w, i32_w]; rw [c11b0]) | skip)
       by_cases c12 : x3_1 < (l0_1.length : Int)
       ·rw [if_pos c12] at H
        have c12b0 : decide (x3_1 < (l0_1.length : Int)) = true := decide_eq_true c12
        clear c12
        replace H := Option.bind_eq_some_iff.mp H
        obtain ⟨t200, A130, H⟩ := H
        replace H : (if t200 = true then (if ((rd_T25 l0_1 x3_1).f0) < a0_0 then (fairwayref10_Seg.j2 kj2 x3_1 true a0_0 l0_1) else (if x3_1 > 0 then (if 0 ≤ (wrap64 (x3_1 - 1)) then (if (wrap64 (x3_1 - 1)) < (l0_1.length : Int) then (if ((rd_T25 l0_1 (wrap64 (x3_1 - 1))).f0) ≥ ((rd_T25 l0_1 x3_1).f0) then (fairwayref10_Seg.j2 kj2 x3_1 true a0_0 l0_1) else (fairwayref10_Seg.j2 kj2 x3_1 (decide (((rd_T25 l0_1 (wrap64 (x3_1 - 1))).f1) > ((rd_T25 l0_1 x3_1).f1))) a0_0 l0_1)) else (none)) else (none)) else (fairwayref10_Seg.j2 kj2 x3_1 false a0_0 l0_1))) else (fairwayref10_Seg.j2 kj2 x3_1 true a0_0 l0_1)) = some r := H
        have A13 := Aside0.mk A130
        clear A130
        by_cases c14 : t200 = true
        ·subst c14
         have H1 : (if ((rd_T25 l0_1 x3_1).f0) < a0_0 then (fairwayref10_Seg.j2 kj2 x3_1 true a0_0 l0_1) else (if x3_1 > 0 then (if 0 ≤ (wrap64 (x3_1 - 1)) then (if (wrap64 (x3_1 - 1)) < (l0_1.length : Int) then (if ((rd_T25 l0_1 (wrap64 (x3_1 - 1))).f0) ≥ ((rd_T25 l0_1 x3_1).f0) then (fairwayref10_Seg.j2 kj2 x3_1 true a0_0 l0_1) else (fairwayref10_Seg.j2 kj2 x3_1 (decide (((rd_T25 l0_1 (wrap64 (x3_1 - 1))).f1) > ((rd_T25 l0_1 x3_1).f1))) a0_0 l0_1)) else (none)) else (none)) else (fairwayref10_Seg.j2 kj2 x3_1 false a0_0 l0_1))) = some r := by rw [if_pos rfl] at H; exact H
         clear H
         have H := H1
         clear H1
         by_cases c15 : ((rd_T25 l0_1 x3_1).f0) < a0_0
         ·rw [if_pos c15] at H
          have c15b0 : decide (((rd_T25 l0_1 x3_1).f0) < a0_0) = true := decide_eq_true c15
          clear c15
          have H' := Aside0.mk H
          clear H
          try go_wp2
          replace BK197 := Aside0.mk (blk_drew BK197.out)
          replace HB := Aside0.mk (below_drew1 HB.out)
          have p199 : 0 ≤ (x3_1 : Int) := od
          have q199 : x3_1 < (l0_1.length : Int) := od
          obtain ⟨ad199, e199, hx199_0, hx199_1, hx199_2, hx199_3, hx199_4, hx199_5⟩ := at_T25 HR0_1.out x3_1 p199 q199
          have hw199_5 := hx199_5
          have hw199_4 := hx199_4
          have hw199_3 := hx199_3
          have hw199_2 := hx199_2
          have hw199_1 := hx199_1
          have hw199_0 := hx199_0
          cases e199
          replace hx199_0 := cx HB.out hx199_0
          replace hx199_1 := cx HB.out hx199_1
          replace hx199_2 := cx HB.out hx199_2
          replace hx199_3 := cx HB.out hx199_3
          replace hx199_4 := cx HB.out hx199_4
          replace hx199_5 := cx HB.out hx199_5
          replace p199 := eq_true p199
          replace q199 := eq_true q199
          have p201 : 0 ≤ (x3_1 : Int) := od
          have q201 : x3_1 < (l0_1.length : Int) := od
          obtain ⟨ad201, e201, hx201_0, hx201_1, hx201_2, hx201_3, hx201_4, hx201_5⟩ := at_T25 HR0_1.out x3_1 p201 q201
          have hw201_5 := hx201_5
          have hw201_4 := hx201_4
          have hw201_3 := hx201_3
          have hw201_2 := hx201_2
          have hw201_1 := hx201_1
          have hw201_0 := hx201_0
          obtain rfl : ad199 = ad201 := (by injection e201)
          replace hx201_0 := cx HB.out hx201_0
          replace hx201_1 := cx HB.out hx201_1
          replace hx201_2 := cx HB.out hx201_2
          replace hx201_3 := cx HB.out hx201_3
          replace hx201_4 := cx HB.out hx201_4
          replace hx201_5 := cx HB.out hx201_5
          replace p201 := eq_true p201
          replace q201 := eq_true q201
          refine start_ (n := 54) (S := fun w' => w'.cell? ⟨gb197, 0, none⟩ = some (.int .i64 a0_0) ∧ w'.cell? ⟨gb197, 1, none⟩ = some (.slice (some ad199) l0_1.length c0_1) ∧ w'.cell? (ad199.add ((x3_1).toNat * 6)) = some (.int .i64 ((rd_T25 l0_1 x3_1).f0)) ∧ w'.cell? ⟨(ad199.add ((x3_1).toNat * 6)).block, (ad199.add ((x3_1).toNat * 6)).off + 1, none⟩ = some (.int .i64 ((rd_T25 l0_1 x3_1).f1)) ∧ w'.cell? ⟨(ad199.add ((x3_1).toNat * 6)).block, (ad199.add ((x3_1).toNat * 6)).off + 2, none⟩ = some (.string ((rd_T25 l0_1 x3_1).f2)) ∧ w'.cell? ⟨(ad199.add ((x3_1).toNat * 6)).block, (ad199.add ((x3_1).toNat * 6)).off + 3, none⟩ = some (.string ((rd_T25 l0_1 x3_1).f3)) ∧ w'.cell? ⟨(ad199.add ((x3_1).toNat * 6)).block, (ad199.add ((x3_1).toNat * 6)).off + 4, none⟩ = some (.int .i64 ((rd_T25 l0_1 x3_1).f4)) ∧ w'.cell? ⟨(ad199.add ((x3_1).toNat * 6)).block, (ad199.add ((x3_1).toNat * 6)).off + 5, none⟩ = some (.bool ((rd_T25 l0_1 x3_1).f5)) ∧ w'.cell? (ad199.add ((x3_1).toNat * 6)) = some (.int .i64 ((rd_T25 l0_1 x3_1).f0)) ∧ w'.cell? ⟨(ad199.add ((x3_1).toNat * 6)).block, (ad199.add ((x3_1).toNat * 6)).off + 1, none⟩ = some (.int .i64 ((rd_T25 l0_1 x3_1).f1)) ∧ w'.cell? ⟨(ad199.add ((x3_1).toNat * 6)).block, (ad199.add ((x3_1).toNat * 6)).off + 2, none⟩ = some (.string ((rd_T25 l0_1 x3_1).f2)) ∧ w'.cell? ⟨(ad199.add ((x3_1).toNat * 6)).block, (ad199.add ((x3_1).toNat * 6)).off + 3, none⟩ = some (.string ((rd_T25 l0_1 x3_1).f3)) ∧ w'.cell? ⟨(ad199.add ((x3_1).toNat * 6)).block, (ad199.add ((x3_1).toNat * 6)).off + 4, none⟩ = some (.int .i64 ((rd_T25 l0_1 x3_1).f4)) ∧ w'.cell? ⟨(ad199.add ((x3_1).toNat * 6)).block, (ad199.add ((x3_1).toNat * 6)).off + 5, none⟩ = some (.bool ((rd_T25 l0_1 x3_1).f5))) (ds := []) #[O,O,O,O,O,O,O,O,O,O,O,O,O,O,O,O,O,O,O,O,O,O,O,O,O,O,O,O,O,O,O,O,O,O,O,O,O,O,O,O,O,O,O,O,O,O,O,O,O,O,O,O,O,O] (by kernel_rfl) rfl rfl ⟨(blk_cell BK197.out 0).trans rfl, (blk_cell BK197.out 1).trans rfl, ((HB.out.cell (World.block_lt_of_cell? w _ hw199_0)).trans hw199_0), ((HB.out.cell (World.block_lt_of_cell? w _ hw199_1)).trans hw199_1), ((HB.out.cell (World.block_lt_of_cell? w _ hw199_2)).trans hw199_2), ((HB.out.cell (World.block_lt_of_cell? w _ hw199_3)).trans hw199_3), ((HB.out.cell (World.block_lt_of_cell? w _ hw199_4)).trans hw199_4), ((HB.out.cell (World.block_lt_of_cell? w _ hw199_5)).trans hw199_5), ((HB.out.cell (World.block_lt_of_cell? w _ hw201_0)).trans hw201_0), ((HB.out.cell (World.block_lt_of_cell? w _ hw201_1)).trans hw201_1), ((HB.out.cell (World.block_lt_of_cell? w _ hw201_2)).trans hw201_2), ((HB.out.cell (World.block_lt_of_cell? w _ hw201_3)).trans hw201_3), ((HB.out.cell (World.block_lt_of_cell? w _ hw201_4)).trans hw201_4), ((HB.out.cell (World.block_lt_of_cell? w _ hw201_5)).trans hw201_5)⟩ (fun hHeld => ?_); refine with_tabW fairwayref10_Seg.tab4 fairwayref10_Seg.bits4 (fun HT_ HW_ => ?_)
          generalize wc.drew = w16 at BK197 HB hx199_0 hx199_1 hx199_2 hx199_3 hx199_4 hx199_5 hx201_0 hx201_1 hx201_2 hx201_3 hx201_4 hx201_5 hHeld ⊢
          refine pz (i := 0) (N := some 11) #[I,O,O,O,O,O,O,O,O,O,O,O,O,O,O,O,O,O,O,O,O,O,O,O,O,O,O,O,O,O,O,O,O,O,O,O,O,O,O,O,O,O,O,O,O,O,O,O,O,O,O,O,O,O] ?_
          refine pz (i := 2) (N := some 13) #[I,O,I,O,O,O,O,O,O,O,O,O,O,O,O,O,O,O,O,O,O,O,O,O,O,O,O,O,O,O,O,O,O,O,O,O,O,O,O,O,O,O,O,O,O,O,O,O,O,O,O,O,O,O] ?_
          refine tz (i := 1) (N := some 12) #[I,I,I,O,O,O,O,O,O,O,O,O,O,O,O,O,O,O,O,O,O,O,O,O,O,O,O,O,O,O,O,O,O,O,O,O,O,O,O,O,O,O,O,O,O,O,O,O,O,O,O,O,O,O] ?_
          refine pz (i := 3) (N := some 14) #[I,I,I,I,O,O,O,O,O,O,O,O,O,O,O,O,O,O,O,O,O,O,O,O,O,O,O,O,O,O,O,O,O,O,O,O,O,O,O,O,O,O,O,O,O,O,O,O,O,O,O,O,O,O] ?_
          refine tz (i := 4) (N := some 15) #[I,I,I,I,I,O,O,O,O,O,O,O,O,O,O,O,O,O,O,O,O,O,O,O,O,O,O,O,O,O,O,O,O,O,O,O,O,O,O,O,O,O,O,O,O,O,O,O,O,O,O,O,O,O] ?_
          refine one_ (i := 5) (N := some 16) #[I,I,I,I,I,I,O,O,O,O,O,O,O,O,O,O,O,O,O,O,O,O,O,O,O,O,O,O,O,O,O,O,O,O,O,O,O,O,O,O,O,O,O,O,O,O,O,O,O,O,O,O,O,O] rfl rfl (one_of HT_.out (by kernel_rfl)) (by decide) (fun K hK => ?_)
          refine goes_ Try.func26 (by kernel_rfl) rfl #[.agg #[.int .i64 ((rd_T25 l0_1 x3_1).f0), .int .i64 ((rd_T25 l0_1 x3_1).f1), .string ((rd_T25 l0_1 x3_1).f2), .string ((rd_T25 l0_1 x3_1).f3), .int .i64 ((rd_T25 l0_1 x3_1).f4), .bool ((rd_T25 l0_1 x3_1).f5)]] (by rfl) rfl rfl aa ?_
          with_reducible refine (fairwayref10_Rec.calls ((rd_T25 l0_1 x3_1).f0) ((rd_T25 l0_1 x3_1).f1) ((rd_T25 l0_1 x3_1).f2) ((rd_T25 l0_1 x3_1).f3) ((rd_T25 l0_1 x3_1).f4) ((rd_T25 l0_1 x3_1).f5) true _ A13.out).mono ?_
          rintro e w17 ⟨rfl, hb⟩
          refine ⟨_, rfl, ?_⟩
          replace BK197 := Aside0.mk (blk_below (g := gb197) (o := .cells #[.int .i64 a0_0, .slice (some ad199) l0_1.length c0_1] 29 (0, 0)) (bk BK197.out) hb)
          replace HB := Aside0.mk (below_step bo hb)
          (try clear hb)
          (try clear hb2)
          (try clear hk)
          (try clear hi)
          refine hK.out _ _ ⟨(blk_cell BK197.out 0).trans rfl, (blk_cell BK197.out 1).trans rfl, ((HB.out.cell (World.block_lt_of_cell? w _ hw199_0)).trans hw199_0), ((HB.out.cell (World.block_lt_of_cell? w _ hw199_1)).trans hw199_1), ((HB.out.cell (World.block_lt_of_cell? w _ hw199_2)).trans hw199_2), ((HB.out.cell (World.block_lt_of_cell? w _ hw199_3)).trans hw199_3), ((HB.out.cell (World.block_lt_of_cell? w _ hw199_4)).trans hw199_4), ((HB.out.cell (World.block_lt_of_cell? w _ hw199_5)).trans hw199_5), ((HB.out.cell (World.block_lt_of_cell? w _ hw201_0)).trans hw201_0), ((HB.out.cell (World.block_lt_of_cell? w _ hw201_1)).trans hw201_1), ((HB.out.cell (World.block_lt_of_cell? w _ hw201_2)).trans hw201_2), ((HB.out.cell (World.block_lt_of_cell? w _ hw201_3)).trans hw201_3), ((HB.out.cell (World.block_lt_of_cell? w _ hw201_4)).trans hw201_4), ((HB.out.cell (World.block_lt_of_cell? w _ hw201_5)).trans hw201_5)⟩ (fun hHeld => ?_)
          clear hK K
          refine norm_ (a' := ?_) ?_ ?_
          rotate_left
          ·show Act.put _ (some 16) _ = _
           simp only [Act.put, List.setIfInBounds_toArray, List.set_cons_zero, List.set_cons_succ, i64_w, i32_w]
           rfl
          refine pz (i := 6) (N := some 17) #[I,I,I,I,I,I,I,O,O,O,O,O,O,O,O,O,O,O,O,O,O,O,O,O,O,O,O,O,O,O,O,O,O,O,O,O,O,O,O,O,O,O,O,O,O,O,O,O,O,O,O,O,O,O] ?_
          refine pz (i := 7) (N := some 18) #[I,I,I,I,I,I,I,I,O,O,O,O,O,O,O,O,O,O,O,O,O,O,O,O,O,O,O,O,O,O,O,O,O,O,O,O,O,O,O,O,O,O,O,O,O,O,O,O,O,O,O,O,O,O] ?_
          refine pz (i := 8) (N := some 19) #[I,I,I,I,I,I,I,I,I,O,O,O,O,O,O,O,O,O,O,O,O,O,O,O,O,O,O,O,O,O,O,O,O,O,O,O,O,O,O,O,O,O,O,O,O,O,O,O,O,O,O,O,O,O] ?_
          refine pz (i := 10) (N := some 21) #[I,I,I,I,I,I,I,I,I,O,I,O,O,O,O,O,O,O,O,O,O,O,O,O,O,O,O,O,O,O,O,O,O,O,O,O,O,O,O,O,O,O,O,O,O,O,O,O,O,O,O,O,O,O] ?_
          refine pz (i := 14) (N := some 25) #[I,I,I,I,I,I,I,I,I,O,I,O,O,O,I,O,O,O,O,O,O,O,O,O,O,O,O,O,O,O,O,O,O,O,O,O,O,O,O,O,O,O,O,O,O,O,O,O,O,O,O,O,O,O] ?_
          refine tz (i := 9) (N := some 20) #[I,I,I,I,I,I,I,I,I,I,I,O,O,O,I,O,O,O,O,O,O,O,O,O,O,O,O,O,O,O,O,O,O,O,O,O,O,O,O,O,O,O,O,O,O,O,O,O,O,O,O,O,O,O] ?_
          refine pz (i := 11) (N := some 22) #[I,I,I,I,I,I,I,I,I,I,I,I,O,O,I,O,O,O,O,O,O,O,O,O,O,O,O,O,O,O,O,O,O,O,O,O,O,O,O,O,O,O,O,O,O,O,O,O,O,O,O,O,O,O] ?_
          refine pz (i := 12) (N := some 23) #[I,I,I,I,I,I,I,I,I,I,I,I,I,O,I,O,O,O,O,O,O,O,O,O,O,O,O,O,O,O,O,O,O,O,O,O,O,O,O,O,O,O,O,O,O,O,O,O,O,O,O,O,O,O] ?_
          refine tz (i := 13) (N := some 24) #[I,I,I,I,I,I,I,I,I,I,I,I,I,I,I,O,O,O,O,O,O,O,O,O,O,O,O,O,O,O,O,O,O,O,O,O,O,O,O,O,O,O,O,O,O,O,O,O,O,O,O,O,O,O] ?_
          refine tz (i := 15) (N := some 26) #[I,I,I,I,I,I,I,I,I,I,I,I,I,I,I,I,O,O,O,O,O,O,O,O,O,O,O,O,O,O,O,O,O,O,O,O,O,O,O,O,O,O,O,O,O,O,O,O,O,O,O,O,O,O] ?_
          refine pz (i := 16) (N := some 27) #[I,I,I,I,I,I,I,I,I,I,I,I,I,I,I,I,I,O,O,O,O,O,O,O,O,O,O,O,O,O,O,O,O,O,O,O,O,O,O,O,O,O,O,O,O,O,O,O,O,O,O,O,O,O] ?_
          refine pz (i := 17) (N := some 28) #[I,I,I,I,I,I,I,I,I,I,I,I,I,I,I,I,I,I,O,O,O,O,O,O,O,O,O,O,O,O,O,O,O,O,O,O,O,O,O,O,O,O,O,O,O,O,O,O,O,O,O,O,O,O] ?_
          refine pz (i := 18) (N := some 29) #[I,I,I,I,I,I,I,I,I,I,I,I,I,I,I,I,I,I,I,O,O,O,O,O,O,O,O,O,O,O,O,O,O,O,O,O,O,O,O,O,O,O,O,O,O,O,O,O,O,O,O,O,O,O] ?_
          refine pu (i := 19) (N := some 30) #[I,I,I,I,I,I,I,I,I,I,I,I,I,I,I,I,I,I,I,I,O,O,O,O,O,O,O,O,O,O,O,O,O,O,O,O,O,O,O,O,O,O,O,O,O,O,O,O,O,O,O,O,O,O] ?_
          refine pu (i := 20) (N := some 31) #[I,I,I,I,I,I,I,I,I,I,I,I,I,I,I,I,I,I,I,I,I,O,O,O,O,O,O,O,O,O,O,O,O,O,O,O,O,O,O,O,O,O,O,O,O,O,O,O,O,O,O,O,O,O] ?_
          refine pu (i := 21) (N := some 32) #[I,I,I,I,I,I,I,I,I,I,I,I,I,I,I,I,I,I,I,I,I,I,O,O,O,O,O,O,O,O,O,O,O,O,O,O,O,O,O,O,O,O,O,O,O,O,O,O,O,O,O,O,O,O] ?_
          refine pu (i := 22) (N := some 33) #[I,I,I,I,I,I,I,I,I,I,I,I,I,I,I,I,I,I,I,I,I,I,I,O,O,O,O,O,O,O,O,O,O,O,O,O,O,O,O,O,O,O,O,O,O,O,O,O,O,O,O,O,O,O] ?_
          refine pu (i := 23) (N := some 34) #[I,I,I,I,I,I,I,I,I,I,I,I,I,I,I,I,I,I,I,I,I,I,I,I,O,O,O,O,O,O,O,O,O,O,O,O,O,O,O,O,O,O,O,O,O,O,O,O,O,O,O,O,O,O] ?_
          refine pu (i := 24) (N := some 35) #[I,I,I,I,I,I,I,I,I,I,I,I,I,I,I,I,I,I,I,I,I,I,I,I,I,O,O,O,O,O,O,O,O,O,O,O,O,O,O,O,O,O,O,O,O,O,O,O,O,O,O,O,O,O] ?_
          refine pu (i := 25) (N := some 36) #[I,I,I,I,I,I,I,I,I,I,I,I,I,I,I,I,I,I,I,I,I,I,I,I,I,I,O,O,O,O,O,O,O,O,O,O,O,O,O,O,O,O,O,O,O,O,O,O,O,O,O,O,O,O] ?_
          refine pu (i := 26) (N := some 37) #[I,I,I,I,I,I,I,I,I,I,I,I,I,I,I,I,I,I,I,I,I,I,I,I,I,I,I,O,O,O,O,O,O,O,O,O,O,O,O,O,O,O,O,O,O,O,O,O,O,O,O,O,O,O] ?_
          refine pu (i := 27) (N := some 38) #[I,I,I,I,I,I,I,I,I,I,I,I,I,I,I,I,I,I,I,I,I,I,I,I,I,I,I,I,O,O,O,O,O,O,O,O,O,O,O,O,O,O,O,O,O,O,O,O,O,O,O,O,O,O] ?_
          refine pu (i := 28) (N := some 39) #[I,I,I,I,I,I,I,I,I,I,I,I,I,I,I,I,I,I,I,I,I,I,I,I,I,I,I,I,I,O,O,O,O,O,O,O,O,O,O,O,O,O,O,O,O,O,O,O,O,O,O,O,O,O] ?_
          refine pu (i := 29) (N := some 40) #[I,I,I,I,I,I,I,I,I,I,I,I,I,I,I,I,I,I,I,I,I,I,I,I,I,I,I,I,I,I,O,O,O,O,O,O,O,O,O,O,O,O,O,O,O,O,O,O,O,O,O,O,O,O] ?_
          refine pu (i := 30) (N := some 41) #[I,I,I,I,I,I,I,I,I,I,I,I,I,I,I,I,I,I,I,I,I,I,I,I,I,I,I,I,I,I,I,O,O,O,O,O,O,O,O,O,O,O,O,O,O,O,O,O,O,O,O,O,O,O] ?_
          refine pu (i := 31) (N := some 42) #[I,I,I,I,I,I,I,I,I,I,I,I,I,I,I,I,I,I,I,I,I,I,I,I,I,I,I,I,I,I,I,I,O,O,O,O,O,O,O,O,O,O,O,O,O,O,O,O,O,O,O,O,O,O] ?_
          refine pu (i := 32) (N := some 43) #[I,I,I,I,I,I,I,I,I,I,I,I,I,I,I,I,I,I,I,I,I,I,I,I,I,I,I,I,I,I,I,I,I,O,O,O,O,O,O,O,O,O,O,O,O,O,O,O,O,O,O,O,O,O] ?_
          refine pu (i := 33) (N := some 44) #[I,I,I,I,I,I,I,I,I,I,I,I,I,I,I,I,I,I,I,I,I,I,I,I,I,I,I,I,I,I,I,I,I,I,O,O,O,O,O,O,O,O,O,O,O,O,O,O,O,O,O,O,O,O] ?_
          refine pu (i := 34) (N := some 45) #[I,I,I,I,I,I,I,I,I,I,I,I,I,I,I,I,I,I,I,I,I,I,I,I,I,I,I,I,I,I,I,I,I,I,I,O,O,O,O,O,O,O,O,O,O,O,O,O,O,O,O,O,O,O] ?_
          refine pu (i := 35) (N := some 46) #[I,I,I,I,I,I,I,I,I,I,I,I,I,I,I,I,I,I,I,I,I,I,I,I,I,I,I,I,I,I,I,I,I,I,I,I,O,O,O,O,O,O,O,O,O,O,O,O,O,O,O,O,O,O] ?_
          refine pu (i := 36) (N := some 47) #[I,I,I,I,I,I,I,I,I,I,I,I,I,I,I,I,I,I,I,I,I,I,I,I,I,I,I,I,I,I,I,I,I,I,I,I,I,O,O,O,O,O,O,O,O,O,O,O,O,O,O,O,O,O] ?_
          refine pu (i := 37) (N := some 48) #[I,I,I,I,I,I,I,I,I,I,I,I,I,I,I,I,I,I,I,I,I,I,I,I,I,I,I,I,I,I,I,I,I,I,I,I,I,I,O,O,O,O,O,O,O,O,O,O,O,O,O,O,O,O] ?_
          refine pu (i := 38) (N := some 49) #[I,I,I,I,I,I,I,I,I,I,I,I,I,I,I,I,I,I,I,I,I,I,I,I,I,I,I,I,I,I,I,I,I,I,I,I,I,I,I,O,O,O,O,O,O,O,O,O,O,O,O,O,O,O] ?_
          refine pu (i := 39) (N := some 50) #[I,I,I,I,I,I,I,I,I,I,I,I,I,I,I,I,I,I,I,I,I,I,I,I,I,I,I,I,I,I,I,I,I,I,I,I,I,I,I,I,O,O,O,O,O,O,O,O,O,O,O,O,O,O] ?_
          refine pu (i := 40) (N := some 51) #[I,I,I,I,I,I,I,I,I,I,I,I,I,I,I,I,I,I,I,I,I,I,I,I,I,I,I,I,I,I,I,I,I,I,I,I,I,I,I,I,I,O,O,O,O,O,O,O,O,O,O,O,O,O] ?_
          refine pu (i := 41) (N := some 52) #[I,I,I,I,I,I,I,I,I,I,I,I,I,I,I,I,I,I,I,I,I,I,I,I,I,I,I,I,I,I,I,I,I,I,I,I,I,I,I,I,I,I,O,O,O,O,O,O,O,O,O,O,O,O] ?_
          refine pu (i := 42) (N := some 53) #[I,I,I,I,I,I,I,I,I,I,I,I,I,I,I,I,I,I,I,I,I,I,I,I,I,I,I,I,I,I,I,I,I,I,I,I,I,I,I,I,I,I,I,O,O,O,O,O,O,O,O,O,O,O] ?_
          refine pu (i := 43) (N := some 54) #[I,I,I,I,I,I,I,I,I,I,I,I,I,I,I,I,I,I,I,I,I,I,I,I,I,I,I,I,I,I,I,I,I,I,I,I,I,I,I,I,I,I,I,I,O,O,O,O,O,O,O,O,O,O] ?_
          refine pu (i := 44) (N := some 55) #[I,I,I,I,I,I,I,I,I,I,I,I,I,I,I,I,I,I,I,I,I,I,I,I,I,I,I,I,I,I,I,I,I,I,I,I,I,I,I,I,I,I,I,I,I,O,O,O,O,O,O,O,O,O] ?_
          refine pu (i := 45) (N := some 56) #[I,I,I,I,I,I,I,I,I,I,I,I,I,I,I,I,I,I,I,I,I,I,I,I,I,I,I,I,I,I,I,I,I,I,I,I,I,I,I,I,I,I,I,I,I,I,O,O,O,O,O,O,O,O] ?_
          refine pu (i := 46) (N := some 57) #[I,I,I,I,I,I,I,I,I,I,I,I,I,I,I,I,I,I,I,I,I,I,I,I,I,I,I,I,I,I,I,I,I,I,I,I,I,I,I,I,I,I,I,I,I,I,I,O,O,O,O,O,O,O] ?_
          refine pu (i := 47) (N := some 58) #[I,I,I,I,I,I,I,I,I,I,I,I,I,I,I,I,I,I,I,I,I,I,I,I,I,I,I,I,I,I,I,I,I,I,I,I,I,I,I,I,I,I,I,I,I,I,I,I,O,O,O,O,O,O] ?_
          refine pu (i := 48) (N := some 59) #[I,I,I,I,I,I,I,I,I,I,I,I,I,I,I,I,I,I,I,I,I,I,I,I,I,I,I,I,I,I,I,I,I,I,I,I,I,I,I,I,I,I,I,I,I,I,I,I,I,O,O,O,O,O] ?_
          refine pu (i := 49) (N := some 60) #[I,I,I,I,I,I,I,I,I,I,I,I,I,I,I,I,I,I,I,I,I,I,I,I,I,I,I,I,I,I,I,I,I,I,I,I,I,I,I,I,I,I,I,I,I,I,I,I,I,I,O,O,O,O] ?_
          refine pu (i := 50) (N := some 61) #[I,I,I,I,I,I,I,I,I,I,I,I,I,I,I,I,I,I,I,I,I,I,I,I,I,I,I,I,I,I,I,I,I,I,I,I,I,I,I,I,I,I,I,I,I,I,I,I,I,I,I,O,O,O] ?_
          refine pu (i := 51) (N := some 62) #[I,I,I,I,I,I,I,I,I,I,I,I,I,I,I,I,I,I,I,I,I,I,I,I,I,I,I,I,I,I,I,I,I,I,I,I,I,I,I,I,I,I,I,I,I,I,I,I,I,I,I,I,O,O] ?_
          refine pu (i := 52) (N := some 63) #[I,I,I,I,I,I,I,I,I,I,I,I,I,I,I,I,I,I,I,I,I,I,I,I,I,I,I,I,I,I,I,I,I,I,I,I,I,I,I,I,I,I,I,I,I,I,I,I,I,I,I,I,I,O] ?_
          refine pz (i := 53) (N := some 64) #[I,I,I,I,I,I,I,I,I,I,I,I,I,I,I,I,I,I,I,I,I,I,I,I,I,I,I,I,I,I,I,I,I,I,I,I,I,I,I,I,I,I,I,I,I,I,I,I,I,I,I,I,I,I] ?_
          refine done_ (done_of HT_.out (by kernel_rfl)) ?_
          try go_wp2
          go_meet
          case rel => exact ⟨_, (true), ap, H', ⟨by have := HK1.out; have := HJ2.out; first | omega | exact Nat.le_refl _⟩, ⟨by (with_reducible repeat (first | refine blk_drewN ?_ _ | refine blk_drew ?_ | refine blk_alloc ?_ _)); exact BK197.out⟩, ⟨bo⟩⟩
         ·rw [if_neg c15] at H
          have c15b0 : decide (((rd_T25 l0_1 x3_1).f0) < a0_0) = false := decide_eq_false c15
          clear c15
          by_cases c18 : x3_1 > 0
          ·rw [if_pos c18] at H
           have c18b0 : decide (0 < x3_1) = true := decide_eq_true c18
           clear c18
           obtain ⟨ji19, hji19⟩ : ∃ j_ : Int, (wrap64 (x3_1 - 1)) = j_ := ⟨_, rfl⟩
           replace H : (if 0 ≤ (ji19) then (if (ji19) < (l0_1.length : Int) then (if ((rd_T25 l0_1 (ji19)).f0) ≥ ((rd_T25 l0_1 x3_1).f0) then (fairwayref10_Seg.j2 kj2 x3_1 true a0_0 l0_1) else (fairwayref10_Seg.j2 kj2 x3_1 (decide (((rd_T25 l0_1 (ji19)).f1) > ((rd_T25 l0_1 x3_1).f1))) a0_0 l0_1)) else (none)) else (none)) = some r := by first | (rw [hji19] at H; exact H) | (simp only [hji19] at H ⊢; exact H)
           (try rw [hji19] at A13)
           have hji19w : (IntKind.i64.wrap (x3_1 - 1)) = ji19 := (i64_w _).trans hji19
           by_cases c20 : 0 ≤ (ji19)
           ·rw [if_pos c20] at H
            have c20b0 : decide (0 ≤ (ji19)) = true := decide_eq_true c20
            clear c20
            by_cases c21 : (ji19) < (l0_1.length : Int)
            ·rw [if_pos c21] at H
             have c21b0 : decide ((ji19) < (l0_1.length : Int)) = true := decide_eq_true c21
             clear c21
             by_cases c22 : ((rd_T25 l0_1 (ji19)).f0) ≥ ((rd_T25 l0_1 x3_1).f0)
             ·rw [if_pos c22] at H
              have c22b0 : decide (((rd_T25 l0_1 x3_1).f0) ≤ ((rd_T25 l0_1 (ji19)).f0)) = true := decide_eq_true c22
              clear c22
              have H' := Aside0.mk H
              clear H
              try go_wp2
              replace BK197 := Aside0.mk (blk_drew BK197.out)
              replace HB := Aside0.mk (below_drew1 HB.out)
              have p199 : 0 ≤ (x3_1 : Int) := od
              have q199 : x3_1 < (l0_1.length : Int) := od
              obtain ⟨ad199, e199, hx199_0, hx199_1, hx199_2, hx199_3, hx199_4, hx199_5⟩ := at_T25 HR0_1.out x3_1 p199 q199
              have hw199_5 := hx199_5
              have hw199_4 := hx199_4
              have hw199_3 := hx199_3
              have hw199_2 := hx199_2
              have hw199_1 := hx199_1
              have hw199_0 := hx199_0
              cases e199
              replace hx199_0 := cx HB.out hx199_0
              replace hx199_1 := cx HB.out hx199_1
              replace hx199_2 := cx HB.out hx199_2
              replace hx199_3 := cx HB.out hx199_3
              replace hx199_4 := cx HB.out hx199_4
              replace hx199_5 := cx HB.out hx199_5
              replace p199 := eq_true p199
              replace q199 := eq_true q199
              have p201 : 0 ≤ (x3_1 : Int) := od
              have q201 : x3_1 < (l0_1.length : Int) := od
              obtain ⟨ad201, e201, hx201_0, hx201_1, hx201_2, hx201_3, hx201_4, hx201_5⟩ := at_T25 HR0_1.out x3_1 p201 q201
              have hw201_5 := hx201_5
              have hw201_4 := hx201_4
              have hw201_3 := hx201_3
              have hw201_2 := hx201_2
              have hw201_1 := hx201_1
              have hw201_0 := hx201_0
              obtain rfl : ad199 = ad201 := (by injection e201)
              replace hx201_0 := cx HB.out hx201_0
              replace hx201_1 := cx HB.out hx201_1
              replace hx201_2 := cx HB.out hx201_2
              replace hx201_3 := cx HB.out hx201_3
              replace hx201_4 := cx HB.out hx201_4
              replace hx201_5 := cx HB.out hx201_5
              replace p201 := eq_true p201
              replace q201 := eq_true q201
              have p202 : 0 ≤ ((ji19) : Int) := od
              have q202 : (ji19) < (l0_1.length : Int) := od
              obtain ⟨ad202, e202, hx202_0, hx202_1, hx202_2, hx202_3, hx202_4, hx202_5⟩ := at_T25 HR0_1.out (ji19) p202 q202
              have hw202_5 := hx202_5
              have hw202_4 := hx202_4
              have hw202_3 := hx202_3
              have hw202_2 := hx202_2
              have hw202_1 := hx202_1
              have hw202_0 := hx202_0
              obtain rfl : ad199 = ad202 := (by injection e202)
              replace hx202_0 := cx HB.out hx202_0
              replace hx202_1 := cx HB.out hx202_1
              replace hx202_2 := cx HB.out hx202_2
              replace hx202_3 := cx HB.out hx202_3
              replace hx202_4 := cx HB.out hx202_4
              replace hx202_5 := cx HB.out hx202_5
              replace p202 := eq_true p202
              replace q202 := eq_true q202
              have p203 : 0 ≤ (x3_1 : Int) := od
              have q203 : x3_1 < (l0_1.length : Int) := od
              obtain ⟨ad203, e203, hx203_0, hx203_1, hx203_2, hx203_3, hx203_4, hx203_5⟩ := at_T25 HR0_1.out x3_1 p203 q203
              have hw203_5 := hx203_5
              have hw203_4 := hx203_4
              have hw203_3 := hx203_3
              have hw203_2 := hx203_2
              have hw203_1 := hx203_1
              have hw203_0 := hx203_0
              obtain rfl : ad199 = ad203 := (by injection e203)
              replace hx203_0 := cx HB.out hx203_0
              replace hx203_1 := cx HB.out hx203_1
              replace hx203_2 := cx HB.out hx203_2
              replace hx203_3 := cx HB.out hx203_3
              replace hx203_4 := cx HB.out hx203_4
              replace hx203_5 := cx HB.out hx203_5
              replace p203 := eq_true p203
              replace q203 := eq_true q203
              refine start_ (n := 54) (S := fun w' => w'.cell? ⟨gb197, 0, none⟩ = some (.int .i64 a0_0) ∧ w'.cell? ⟨gb197, 1, none⟩ = some (.slice (some ad199) l0_1.length c0_1) ∧ w'.cell? (ad199.add ((x3_1).toNat * 6)) = some (.int .i64 ((rd_T25 l0_1 x3_1).f0)) ∧ w'.cell? ⟨(ad199.add ((x3_1).toNat * 6)).block, (ad199.add ((x3_1).toNat * 6)).off + 1, none⟩ = some (.int .i64 ((rd_T25 l0_1 x3_1).f1)) ∧ w'.cell? ⟨(ad199.add ((x3_1).toNat * 6)).block, (ad199.add ((x3_1).toNat * 6)).off + 2, none⟩ = some (.string ((rd_T25 l0_1 x3_1).f2)) ∧ w'.cell? ⟨(ad199.add ((x3_1).toNat * 6)).block, (ad199.add ((x3_1).toNat * 6)).off + 3, none⟩ = some (.string ((rd_T25 l0_1 x3_1).f3)) ∧ w'.cell? ⟨(ad199.add ((x3_1).toNat * 6)).block, (ad199.add ((x3_1).toNat * 6)).off + 4, none⟩ = some (.int .i64 ((rd_T25 l0_1 x3_1).f4)) ∧ w'.cell? ⟨(ad199.add ((x3_1).toNat * 6)).block, (ad199.add ((x3_1).toNat * 6)).off + 5, none⟩ = some (.bool ((rd_T25 l0_1 x3_1).f5)) ∧ w'.cell? (ad199.add ((x3_1).toNat * 6)) = some (.int .i64 ((rd_T25 l0_1 x3_1).f0)) ∧ w'.cell? ⟨(ad199.add ((x3_1).toNat * 6)).block, (ad199.add ((x3_1).toNat * 6)).off + 1, none⟩ = some (.int .i64 ((rd_T25 l0_1 x3_1).f1)) ∧ w'.cell? ⟨(ad199.add ((x3_1).toNat * 6)).block, (ad199.add ((x3_1).toNat * 6)).off + 2, none⟩ = some (.string ((rd_T25 l0_1 x3_1).f2)) ∧ w'.cell? ⟨(ad199.add ((x3_1).toNat * 6)).block, (ad199.add ((x3_1).toNat * 6)).off + 3, none⟩ = some (.string ((rd_T25 l0_1 x3_1).f3)) ∧ w'.cell? ⟨(ad199.add ((x3_1).toNat * 6)).block, (ad199.add ((x3_1).toNat * 6)).off + 4, none⟩ = some (.int .i64 ((rd_T25 l0_1 x3_1).f4)) ∧ w'.cell? ⟨(ad199.add ((x3_1).toNat * 6)).block, (ad199.add ((x3_1).toNat * 6)).off + 5, none⟩ = some (.bool ((rd_T25 l0_1 x3_1).f5)) ∧ w'.cell? (ad199.add (((ji19)).toNat * 6)) = some (.int .i64 ((rd_T25 l0_1 (ji19)).f0)) ∧ w'.cell? ⟨(ad199.add (((ji19)).toNat * 6)).block, (ad199.add (((ji19)).toNat * 6)).off + 1, none⟩ = some (.int .i64 ((rd_T25 l0_1 (ji19)).f1)) ∧ w'.cell? ⟨(ad199.add (((ji19)).toNat * 6)).block, (ad199.add (((ji19)).toNat * 6)).off + 2, none⟩ = some (.string ((rd_T25 l0_1 (ji19)).f2)) ∧ w'.cell? ⟨(ad199.add (((ji19)).toNat * 6)).block, (ad199.add (((ji19)).toNat * 6)).off + 3, none⟩ = some (.string ((rd_T25 l0_1 (ji19)).f3)) ∧ w'.cell? ⟨(ad199.add (((ji19)).toNat * 6)).block, (ad199.add (((ji19)).toNat * 6)).off + 4, none⟩ = some (.int .i64 ((rd_T25 l0_1 (ji19)).f4)) ∧ w'.cell? ⟨(ad199.add (((ji19)).toNat * 6)).block, (ad199.add (((ji19)).toNat * 6)).off + 5, none⟩ = some (.bool ((rd_T25 l0_1 (ji19)).f5)) ∧ w'.cell? (ad199.add ((x3_1).toNat * 6)) = some (.int .i64 ((rd_T25 l0_1 x3_1).f0)) ∧ w'.cell? ⟨(ad199.add ((x3_1).toNat * 6)).block, (ad199.add ((x3_1).toNat * 6)).off + 1, none⟩ = some (.int .i64 ((rd_T25 l0_1 x3_1).f1)) ∧ w'.cell? ⟨(ad199.add ((x3_1).toNat * 6)).block, (ad199.add ((x3_1).toNat * 6)).off + 2, none⟩ = some (.string ((rd_T25 l0_1 x3_1).f2)) ∧ w'.cell? ⟨(ad199.add ((x3_1).toNat * 6)).block, (ad199.add ((x3_1).toNat * 6)).off + 3, none⟩ = some (.string ((rd_T25 l0_1 x3_1).f3)) ∧ w'.cell? ⟨(ad199.add ((x3_1).toNat * 6)).block, (ad199.add ((x3_1).toNat * 6)).off + 4, none⟩ = some (.int .i64 ((rd_T25 l0_1 x3_1).f4)) ∧ w'.cell? ⟨(ad199.add ((x3_1).toNat * 6)).block, (ad199.add ((x3_1).toNat * 6)).off + 5, none⟩ = some (.bool ((rd_T25 l0_1 x3_1).f5))) (ds := []) #[O,O,O,O,O,O,O,O,O,O,O,O,O,O,O,O,O,O,O,O,O,O,O,O,O,O,O,O,O,O,O,O,O,O,O,O,O,O,O,O,O,O,O,O,O,O,O,O,O,O,O,O,O,O] (by kernel_rfl) rfl rfl ⟨(blk_cell BK197.out 0).trans rfl, (blk_cell BK197.out 1).trans rfl, ((HB.out.cell (World.block_lt_of_cell? w _ hw199_0)).trans hw199_0), ((HB.out.cell (World.block_lt_of_cell? w _ hw199_1)).trans hw199_1), ((HB.out.cell (World.block_lt_of_cell? w _ hw199_2)).trans hw199_2), ((HB.out.cell (World.block_lt_of_cell? w _ hw199_3)).trans hw199_3), ((HB.out.cell (World.block_lt_of_cell? w _ hw199_4)).trans hw199_4), ((HB.out.cell (World.block_lt_of_cell? w _ hw199_5)).trans hw199_5), ((HB.out.cell (World.block_lt_of_cell? w _ hw201_0)).trans hw201_0), ((HB.out.cell (World.block_lt_of_cell? w _ hw201_1)).trans hw201_1), ((HB.out.cell (World.block_lt_of_cell? w _ hw201_2)).trans hw201_2), ((HB.out.cell (World.block_lt_of_cell? w _ hw201_3)).trans hw201_3), ((HB.out.cell (World.block_lt_of_cell? w _ hw201_4)).trans hw201_4), ((HB.out.cell (World.block_lt_of_cell? w _ hw201_5)).trans hw201_5), ((HB.out.cell (World.block_lt_of_cell? w _ hw202_0)).trans hw202_0), ((HB.out.cell (World.block_lt_of_cell? w _ hw202_1)).trans hw202_1), ((HB.out.cell (World.block_lt_of_cell? w _ hw202_2)).trans hw202_2), ((HB.out.cell (World.block_lt_of_cell? w _ hw202_3)).trans hw202_3), ((HB.out.cell (World.block_lt_of_cell? w _ hw202_4)).trans hw202_4), ((HB.out.cell (World.block_lt_of_cell? w _ hw202_5)).trans hw202_5), ((HB.out.cell (World.block_lt_of_cell? w _ hw203_0)).trans hw203_0), ((HB.out.cell (World.block_lt_of_cell? w _ hw203_1)).trans hw203_1), ((HB.out.cell (World.block_lt_of_cell? w _ hw203_2)).trans hw203_2), ((HB.out.cell (World.block_lt_of_cell? w _ hw203_3)).trans hw203_3), ((HB.out.cell (World.block_lt_of_cell? w _ hw203_4)).trans hw203_4), ((HB.out.cell (World.block_lt_of_cell? w _ hw203_5)).trans hw203_5)⟩ (fun hHeld => ?_); refine with_tabW fairwayref10_Seg.tab4 fairwayref10_Seg.bits4 (fun HT_ HW_ => ?_)
              generalize wc.drew = w23 at BK197 HB hx199_0 hx199_1 hx199_2 hx199_3 hx199_4 hx199_5 hx201_0 hx201_1 hx201_2 hx201_3 hx201_4 hx201_5 hx202_0 hx202_1 hx202_2 hx202_3 hx202_4 hx202_5 hx203_0 hx203_1 hx203_2 hx203_3 hx203_4 hx203_5 hHeld ⊢
              refine pz (i := 0) (N := some 11) #[I,O,O,O,O,O,O,O,O,O,O,O,O,O,O,O,O,O,O,O,O,O,O,O,O,O,O,O,O,O,O,O,O,O,O,O,O,O,O,O,O,O,O,O,O,O,O,O,O,O,O,O,O,O] ?_
              refine pz (i := 2) (N := some 13) #[I,O,I,O,O,O,O,O,O,O,O,O,O,O,O,O,O,O,O,O,O,O,O,O,O,O,O,O,O,O,O,O,O,O,O,O,O,O,O,O,O,O,O,O,O,O,O,O,O,O,O,O,O,O] ?_
              refine tz (i := 1) (N := some 12) #[I,I,I,O,O,O,O,O,O,O,O,O,O,O,O,O,O,O,O,O,O,O,O,O,O,O,O,O,O,O,O,O,O,O,O,O,O,O,O,O,O,O,O,O,O,O,O,O,O,O,O,O,O,O] ?_
              refine pz (i := 3) (N := some 14) #[I,I,I,I,O,O,O,O,O,O,O,O,O,O,O,O,O,O,O,O,O,O,O,O,O,O,O,O,O,O,O,O,O,O,O,O,O,O,O,O,O,O,O,O,O,O,O,O,O,O,O,O,O,O] ?_
              refine tz (i := 4) (N := some 15) #[I,I,I,I,I,O,O,O,O,O,O,O,O,O,O,O,O,O,O,O,O,O,O,O,O,O,O,O,O,O,O,O,O,O,O,O,O,O,O,O,O,O,O,O,O,O,O,O,O,O,O,O,O,O] ?_
              refine one_ (i := 5) (N := some 16) #[I,I,I,I,I,I,O,O,O,O,O,O,O,O,O,O,O,O,O,O,O,O,O,O,O,O,O,O,O,O,O,O,O,O,O,O,O,O,O,O,O,O,O,O,O,O,O,O,O,O,O,O,O,O] rfl rfl (one_of HT_.out (by kernel_rfl)) (by decide) (fun K hK => ?_)
              refine goes_ Try.func26 (by kernel_rfl) rfl #[.agg #[.int .i64 ((rd_T25 l0_1 x3_1).f0), .int .i64 ((rd_T25 l0_1 x3_1).f1), .string ((rd_T25 l0_1 x3_1).f2), .string ((rd_T25 l0_1 x3_1).f3), .int .i64 ((rd_T25 l0_1 x3_1).f4), .bool ((rd_T25 l0_1 x3_1).f5)]] (by rfl) rfl rfl aa ?_
              with_reducible refine (fairwayref10_Rec.calls ((rd_T25 l0_1 x3_1).f0) ((rd_T25 l0_1 x3_1).f1) ((rd_T25 l0_1 x3_1).f2) ((rd_T25 l0_1 x3_1).f3) ((rd_T25 l0_1 x3_1).f4) ((rd_T25 l0_1 x3_1).f5) true _ A13.out).mono ?_
              rintro e w24 ⟨rfl, hb⟩
              refine ⟨_, rfl, ?_⟩
              replace BK197 := Aside0.mk (blk_below (g := gb197) (o := .cells #[.int .i64 a0_0, .slice (some ad199) l0_1.length c0_1] 29 (0, 0)) (bk BK197.out) hb)
              replace HB := Aside0.mk (below_step bo hb)
              (try clear hb)
              (try clear hb2)
              (try clear hk)
              (try clear hi)
              refine hK.out _ _ ⟨(blk_cell BK197.out 0).trans rfl, (blk_cell BK197.out 1).trans rfl, ((HB.out.cell (World.block_lt_of_cell? w _ hw199_0)).trans hw199_0), ((HB.out.cell (World.block_lt_of_cell? w _ hw199_1)).trans hw199_1), ((HB.out.cell (World.block_lt_of_cell? w _ hw199_2)).trans hw199_2), ((HB.out.cell (World.block_lt_of_cell? w _ hw199_3)).trans hw199_3), ((HB.out.cell (World.block_lt_of_cell? w _ hw199_4)).trans hw199_4), ((HB.out.cell (World.block_lt_of_cell? w _ hw199_5)).trans hw199_5), ((HB.out.cell (World.block_lt_of_cell? w _ hw201_0)).trans hw201_0), ((HB.out.cell (World.block_lt_of_cell? w _ hw201_1)).trans hw201_1), ((HB.out.cell (World.block_lt_of_cell? w _ hw201_2)).trans hw201_2), ((HB.out.cell (World.block_lt_of_cell? w _ hw201_3)).trans hw201_3), ((HB.out.cell (World.block_lt_of_cell? w _ hw201_4)).trans hw201_4), ((HB.out.cell (World.block_lt_of_cell? w _ hw201_5)).trans hw201_5), ((HB.out.cell (World.block_lt_of_cell? w _ hw202_0)).trans hw202_0), ((HB.out.cell (World.block_lt_of_cell? w _ hw202_1)).trans hw202_1), ((HB.out.cell (World.block_lt_of_cell? w _ hw202_2)).trans hw202_2), ((HB.out.cell (World.block_lt_of_cell? w _ hw202_3)).trans hw202_3), ((HB.out.cell (World.block_lt_of_cell? w _ hw202_4)).trans hw202_4), ((HB.out.cell (World.block_lt_of_cell? w _ hw202_5)).trans hw202_5), ((HB.out.cell (World.block_lt_of_cell? w _ hw203_0)).trans hw203_0), ((HB.out.cell (World.block_lt_of_cell? w _ hw203_1)).trans hw203_1), ((HB.out.cell (World.block_lt_of_cell? w _ hw203_2)).trans hw203_2), ((HB.out.cell (World.block_lt_of_cell? w _ hw203_3)).trans hw203_3), ((HB.out.cell (World.block_lt_of_cell? w _ hw203_4)).trans hw203_4), ((HB.out.cell (World.block_lt_of_cell? w _ hw203_5)).trans hw203_5)⟩ (fun hHeld => ?_)
              clear hK K
              refine norm_ (a' := ?_) ?_ ?_
              rotate_left
              ·show Act.put _ (some 16) _ = _
               simp only [Act.put, List.setIfInBounds_toArray, List.set_cons_zero, List.set_cons_succ, i64_w, i32_w]
               rfl
              refine pz (i := 6) (N := some 17) #[I,I,I,I,I,I,I,O,O,O,O,O,O,O,O,O,O,O,O,O,O,O,O,O,O,O,O,O,O,O,O,O,O,O,O,O,O,O,O,O,O,O,O,O,O,O,O,O,O,O,O,O,O,O] ?_
              refine pz (i := 7) (N := some 18) #[I,I,I,I,I,I,I,I,O,O,O,O,O,O,O,O,O,O,O,O,O,O,O,O,O,O,O,O,O,O,O,O,O,O,O,O,O,O,O,O,O,O,O,O,O,O,O,O,O,O,O,O,O,O] ?_
              refine pz (i := 8) (N := some 19) #[I,I,I,I,I,I,I,I,I,O,O,O,O,O,O,O,O,O,O,O,O,O,O,O,O,O,O,O,O,O,O,O,O,O,O,O,O,O,O,O,O,O,O,O,O,O,O,O,O,O,O,O,O,O] ?_
              refine pz (i := 10) (N := some 21) #[I,I,I,I,I,I,I,I,I,O,I,O,O,O,O,O,O,O,O,O,O,O,O,O,O,O,O,O,O,O,O,O,O,O,O,O,O,O,O,O,O,O,O,O,O,O,O,O,O,O,O,O,O,O] ?_
              refine pz (i := 14) (N := some 25) #[I,I,I,I,I,I,I,I,I,O,I,O,O,O,I,O,O,O,O,O,O,O,O,O,O,O,O,O,O,O,O,O,O,O,O,O,O,O,O,O,O,O,O,O,O,O,O,O,O,O,O,O,O,O] ?_
              refine tz (i := 9) (N := some 20) #[I,I,I,I,I,I,I,I,I,I,I,O,O,O,I,O,O,O,O,O,O,O,O,O,O,O,O,O,O,O,O,O,O,O,O,O,O,O,O,O,O,O,O,O,O,O,O,O,O,O,O,O,O,O] ?_
              refine pz (i := 11) (N := some 22) #[I,I,I,I,I,I,I,I,I,I,I,I,O,O,I,O,O,O,O,O,O,O,O,O,O,O,O,O,O,O,O,O,O,O,O,O,O,O,O,O,O,O,O,O,O,O,O,O,O,O,O,O,O,O] ?_
              refine pz (i := 12) (N := some 23) #[I,I,I,I,I,I,I,I,I,I,I,I,I,O,I,O,O,O,O,O,O,O,O,O,O,O,O,O,O,O,O,O,O,O,O,O,O,O,O,O,O,O,O,O,O,O,O,O,O,O,O,O,O,O] ?_
              refine tz (i := 13) (N := some 24) #[I,I,I,I,I,I,I,I,I,I,I,I,I,I,I,O,O,O,O,O,O,O,O,O,O,O,O,O,O,O,O,O,O,O,O,O,O,O,O,O,O,O,O,O,O,O,O,O,O,O,O,O,O,O] ?_
              refine tz (i := 15) (N := some 26) #[I,I,I,I,I,I,I,I,I,I,I,I,I,I,I,I,O,O,O,O,O,O,O,O,O,O,O,O,O,O,O,O,O,O,O,O,O,O,O,O,O,O,O,O,O,O,O,O,O,O,O,O,O,O] ?_
              refine pz (i := 16) (N := some 27) #[I,I,I,I,I,I,I,I,I,I,I,I,I,I,I,I,I,O,O,O,O,O,O,O,O,O,O,O,O,O,O,O,O,O,O,O,O,O,O,O,O,O,O,O,O,O,O,O,O,O,O,O,O,O] ?_
              refine pz (i := 17) (N := some 28) #[I,I,I,I,I,I,I,I,I,I,I,I,I,I,I,I,I,I,O,O,O,O,O,O,O,O,O,O,O,O,O,O,O,O,O,O,O,O,O,O,O,O,O,O,O,O,O,O,O,O,O,O,O,O] ?_
              refine pz (i := 18) (N := some 29) #[I,I,I,I,I,I,I,I,I,I,I,I,I,I,I,I,I,I,I,O,O,O,O,O,O,O,O,O,O,O,O,O,O,O,O,O,O,O,O,O,O,O,O,O,O,O,O,O,O,O,O,O,O,O] ?_
              refine pz (i := 19) (N := some 30) #[I,I,I,I,I,I,I,I,I,I,I,I,I,I,I,I,I,I,I,I,O,O,O,O,O,O,O,O,O,O,O,O,O,O,O,O,O,O,O,O,O,O,O,O,O,O,O,O,O,O,O,O,O,O] ?_
              refine pz (i := 20) (N := some 31) #[I,I,I,I,I,I,I,I,I,I,I,I,I,I,I,I,I,I,I,I,I,O,O,O,O,O,O,O,O,O,O,O,O,O,O,O,O,O,O,O,O,O,O,O,O,O,O,O,O,O,O,O,O,O] ?_
              refine pz (i := 21) (N := some 32) #[I,I,I,I,I,I,I,I,I,I,I,I,I,I,I,I,I,I,I,I,I,I,O,O,O,O,O,O,O,O,O,O,O,O,O,O,O,O,O,O,O,O,O,O,O,O,O,O,O,O,O,O,O,O] ?_
              refine pz (i := 22) (N := some 33) #[I,I,I,I,I,I,I,I,I,I,I,I,I,I,I,I,I,I,I,I,I,I,I,O,O,O,O,O,O,O,O,O,O,O,O,O,O,O,O,O,O,O,O,O,O,O,O,O,O,O,O,O,O,O] ?_
              refine pz (i := 24) (N := some 35) #[I,I,I,I,I,I,I,I,I,I,I,I,I,I,I,I,I,I,I,I,I,I,I,O,I,O,O,O,O,O,O,O,O,O,O,O,O,O,O,O,O,O,O,O,O,O,O,O,O,O,O,O,O,O] ?_
              refine pz (i := 25) (N := some 36) #[I,I,I,I,I,I,I,I,I,I,I,I,I,I,I,I,I,I,I,I,I,I,I,O,I,I,O,O,O,O,O,O,O,O,O,O,O,O,O,O,O,O,O,O,O,O,O,O,O,O,O,O,O,O] ?_
              refine pz (i := 29) (N := some 40) #[I,I,I,I,I,I,I,I,I,I,I,I,I,I,I,I,I,I,I,I,I,I,I,O,I,I,O,O,O,I,O,O,O,O,O,O,O,O,O,O,O,O,O,O,O,O,O,O,O,O,O,O,O,O] ?_
              refine pz (i := 31) (N := some 42) #[I,I,I,I,I,I,I,I,I,I,I,I,I,I,I,I,I,I,I,I,I,I,I,O,I,I,O,O,O,I,O,I,O,O,O,O,O,O,O,O,O,O,O,O,O,O,O,O,O,O,O,O,O,O] ?_
              refine tz (i := 23) (N := some 34) #[I,I,I,I,I,I,I,I,I,I,I,I,I,I,I,I,I,I,I,I,I,I,I,I,I,I,O,O,O,I,O,I,O,O,O,O,O,O,O,O,O,O,O,O,O,O,O,O,O,O,O,O,O,O] ?_
              refine pz (i := 26) (N := some 37) #[I,I,I,I,I,I,I,I,I,I,I,I,I,I,I,I,I,I,I,I,I,I,I,I,I,I,I,O,O,I,O,I,O,O,O,O,O,O,O,O,O,O,O,O,O,O,O,O,O,O,O,O,O,O] ?_
              refine pz (i := 27) (N := some 38) #[I,I,I,I,I,I,I,I,I,I,I,I,I,I,I,I,I,I,I,I,I,I,I,I,I,I,I,I,O,I,O,I,O,O,O,O,O,O,O,O,O,O,O,O,O,O,O,O,O,O,O,O,O,O] ?_
              refine tz (i := 28) (N := some 39) #[I,I,I,I,I,I,I,I,I,I,I,I,I,I,I,I,I,I,I,I,I,I,I,I,I,I,I,I,I,I,O,I,O,O,O,O,O,O,O,O,O,O,O,O,O,O,O,O,O,O,O,O,O,O] ?_
              refine tz (i := 30) (N := some 41) #[I,I,I,I,I,I,I,I,I,I,I,I,I,I,I,I,I,I,I,I,I,I,I,I,I,I,I,I,I,I,I,I,O,O,O,O,O,O,O,O,O,O,O,O,O,O,O,O,O,O,O,O,O,O] ?_
              refine pz (i := 32) (N := some 43) #[I,I,I,I,I,I,I,I,I,I,I,I,I,I,I,I,I,I,I,I,I,I,I,I,I,I,I,I,I,I,I,I,I,O,O,O,O,O,O,O,O,O,O,O,O,O,O,O,O,O,O,O,O,O] ?_
              refine pz (i := 33) (N := some 44) #[I,I,I,I,I,I,I,I,I,I,I,I,I,I,I,I,I,I,I,I,I,I,I,I,I,I,I,I,I,I,I,I,I,I,O,O,O,O,O,O,O,O,O,O,O,O,O,O,O,O,O,O,O,O] ?_
              refine tz (i := 34) (N := some 45) #[I,I,I,I,I,I,I,I,I,I,I,I,I,I,I,I,I,I,I,I,I,I,I,I,I,I,I,I,I,I,I,I,I,I,I,O,O,O,O,O,O,O,O,O,O,O,O,O,O,O,O,O,O,O] ?_
              refine pz (i := 35) (N := some 46) #[I,I,I,I,I,I,I,I,I,I,I,I,I,I,I,I,I,I,I,I,I,I,I,I,I,I,I,I,I,I,I,I,I,I,I,I,O,O,O,O,O,O,O,O,O,O,O,O,O,O,O,O,O,O] ?_
              refine pz (i := 36) (N := some 47) #[I,I,I,I,I,I,I,I,I,I,I,I,I,I,I,I,I,I,I,I,I,I,I,I,I,I,I,I,I,I,I,I,I,I,I,I,I,O,O,O,O,O,O,O,O,O,O,O,O,O,O,O,O,O] ?_
              refine pu (i := 37) (N := some 48) #[I,I,I,I,I,I,I,I,I,I,I,I,I,I,I,I,I,I,I,I,I,I,I,I,I,I,I,I,I,I,I,I,I,I,I,I,I,I,O,O,O,O,O,O,O,O,O,O,O,O,O,O,O,O] ?_
              refine pu (i := 38) (N := some 49) #[I,I,I,I,I,I,I,I,I,I,I,I,I,I,I,I,I,I,I,I,I,I,I,I,I,I,I,I,I,I,I,I,I,I,I,I,I,I,I,O,O,O,O,O,O,O,O,O,O,O,O,O,O,O] ?_
              refine pu (i := 39) (N := some 50) #[I,I,I,I,I,I,I,I,I,I,I,I,I,I,I,I,I,I,I,I,I,I,I,I,I,I,I,I,I,I,I,I,I,I,I,I,I,I,I,I,O,O,O,O,O,O,O,O,O,O,O,O,O,O] ?_
              refine pu (i := 40) (N := some 51) #[I,I,I,I,I,I,I,I,I,I,I,I,I,I,I,I,I,I,I,I,I,I,I,I,I,I,I,I,I,I,I,I,I,I,I,I,I,I,I,I,I,O,O,O,O,O,O,O,O,O,O,O,O,O] ?_
              refine pu (i := 41) (N := some 52) #[I,I,I,I,I,I,I,I,I,I,I,I,I,I,I,I,I,I,I,I,I,I,I,I,I,I,I,I,I,I,I,I,I,I,I,I,I,I,I,I,I,I,O,O,O,O,O,O,O,O,O,O,O,O] ?_
              refine pu (i := 42) (N := some 53) #[I,I,I,I,I,I,I,I,I,I,I,I,I,I,I,I,I,I,I,I,I,I,I,I,I,I,I,I,I,I,I,I,I,I,I,I,I,I,I,I,I,I,I,O,O,O,O,O,O,O,O,O,O,O] ?_
              refine pu (i := 43) (N := some 54) #[I,I,I,I,I,I,I,I,I,I,I,I,I,I,I,I,I,I,I,I,I,I,I,I,I,I,I,I,I,I,I,I,I,I,I,I,I,I,I,I,I,I,I,I,O,O,O,O,O,O,O,O,O,O] ?_
              refine pu (i := 44) (N := some 55) #[I,I,I,I,I,I,I,I,I,I,I,I,I,I,I,I,I,I,I,I,I,I,I,I,I,I,I,I,I,I,I,I,I,I,I,I,I,I,I,I,I,I,I,I,I,O,O,O,O,O,O,O,O,O] ?_
              refine pu (i := 45) (N := some 56) #[I,I,I,I,I,I,I,I,I,I,I,I,I,I,I,I,I,I,I,I,I,I,I,I,I,I,I,I,I,I,I,I,I,I,I,I,I,I,I,I,I,I,I,I,I,I,O,O,O,O,O,O,O,O] ?_
              refine pu (i := 46) (N := some 57) #[I,I,I,I,I,I,I,I,I,I,I,I,I,I,I,I,I,I,I,I,I,I,I,I,I,I,I,I,I,I,I,I,I,I,I,I,I,I,I,I,I,I,I,I,I,I,I,O,O,O,O,O,O,O] ?_
              refine pu (i := 47) (N := some 58) #[I,I,I,I,I,I,I,I,I,I,I,I,I,I,I,I,I,I,I,I,I,I,I,I,I,I,I,I,I,I,I,I,I,I,I,I,I,I,I,I,I,I,I,I,I,I,I,I,O,O,O,O,O,O] ?_
              refine pu (i := 48) (N := some 59) #[I,I,I,I,I,I,I,I,I,I,I,I,I,I,I,I,I,I,I,I,I,I,I,I,I,I,I,I,I,I,I,I,I,I,I,I,I,I,I,I,I,I,I,I,I,I,I,I,I,O,O,O,O,O] ?_
              refine pu (i := 49) (N := some 60) #[I,I,I,I,I,I,I,I,I,I,I,I,I,I,I,I,I,I,I,I,I,I,I,I,I,I,I,I,I,I,I,I,I,I,I,I,I,I,I,I,I,I,I,I,I,I,I,I,I,I,O,O,O,O] ?_
              refine pu (i := 50) (N := some 61) #[I,I,I,I,I,I,I,I,I,I,I,I,I,I,I,I,I,I,I,I,I,I,I,I,I,I,I,I,I,I,I,I,I,I,I,I,I,I,I,I,I,I,I,I,I,I,I,I,I,I,I,O,O,O] ?_
              refine pz (i := 51) (N := some 62) #[I,I,I,I,I,I,I,I,I,I,I,I,I,I,I,I,I,I,I,I,I,I,I,I,I,I,I,I,I,I,I,I,I,I,I,I,I,I,I,I,I,I,I,I,I,I,I,I,I,I,I,I,O,O] ?_
              refine pz (i := 52) (N := some 63) #[I,I,I,I,I,I,I,I,I,I,I,I,I,I,I,I,I,I,I,I,I,I,I,I,I,I,I,I,I,I,I,I,I,I,I,I,I,I,I,I,I,I,I,I,I,I,I,I,I,I,I,I,I,O] ?_
              refine pz (i := 53) (N := some 64) #[I,I,I,I,I,I,I,I,I,I,I,I,I,I,I,I,I,I,I,I,I,I,I,I,I,I,I,I,I,I,I,I,I,I,I,I,I,I,I,I,I,I,I,I,I,I,I,I,I,I,I,I,I,I] ?_
              refine done_ (done_of HT_.out (by kernel_rfl)) ?_
              try go_wp2
              go_meet
              case rel => exact ⟨_, (true), ap, H', ⟨by have := HK1.out; have := HJ2.out; first | omega | exact Nat.le_refl _⟩, ⟨by (with_reducible repeat (first | refine blk_drewN ?_ _ | refine blk_drew ?_ | refine blk_alloc ?_ _)); exact BK197.out⟩, ⟨bo⟩⟩
             ·rw [if_neg c22] at H
              have c22b0 : decide (((rd_T25 l0_1 x3_1).f0) ≤ ((rd_T25 l0_1 (ji19)).f0)) = false := decide_eq_false c22
              clear c22
              have H' := Aside0.mk H
              clear H
              try go_wp2
              replace BK197 := Aside0.mk (blk_drew BK197.out)
              replace HB := Aside0.mk (below_drew1 HB.out)
              have p199 : 0 ≤ (x3_1 : Int) := od
              have q199 : x3_1 < (l0_1.length : Int) := od
              obtain ⟨ad199, e199, hx199_0, hx199_1, hx199_2, hx199_3, hx199_4, hx199_5⟩ := at_T25 HR0_1.out x3_1 p199 q199
              have hw199_5 := hx199_5
              have hw199_4 := hx199_4
              have hw199_3 := hx199_3
              have hw199_2 := hx199_2
              have hw199_1 := hx199_1
              have hw199_0 := hx199_0
              cases e199
              replace hx199_0 := cx HB.out hx199_0
              replace hx199_1 := cx HB.out hx199_1
              replace hx199_2 := cx HB.out hx199_2
              replace hx199_3 := cx HB.out hx199_3
              replace hx199_4 := cx HB.out hx199_4
              replace hx199_5 := cx HB.out hx199_5
              replace p199 := eq_true p199
              replace q199 := eq_true q199
              have p201 : 0 ≤ (x3_1 : Int) := od
              have q201 : x3_1 < (l0_1.length : Int) := od
              obtain ⟨ad201, e201, hx201_0, hx201_1, hx201_2, hx201_3, hx201_4, hx201_5⟩ := at_T25 HR0_1.out x3_1 p201 q201
              have hw201_5 := hx201_5
              have hw201_4 := hx201_4
              have hw201_3 := hx201_3
              have hw201_2 := hx201_2
              have hw201_1 := hx201_1
              have hw201_0 := hx201_0
              obtain rfl : ad199 = ad201 := (by injection e201)
              replace hx201_0 := cx HB.out hx201_0
              replace hx201_1 := cx HB.out hx201_1
              replace hx201_2 := cx HB.out hx201_2
              replace hx201_3 := cx HB.out hx201_3
              replace hx201_4 := cx HB.out hx201_4
              replace hx201_5 := cx HB.out hx201_5
              replace p201 := eq_true p201
              replace q201 := eq_true q201
              have p202 : 0 ≤ ((ji19) : Int) := od
              have q202 : (ji19) < (l0_1.length : Int) := od
              obtain ⟨ad202, e202, hx202_0, hx202_1, hx202_2, hx202_3, hx202_4, hx202_5⟩ := at_T25 HR0_1.out (ji19) p202 q202
              have hw202_5 := hx202_5
              have hw202_4 := hx202_4
              have hw202_3 := hx202_3
              have hw202_2 := hx202_2
              have hw202_1 := hx202_1
              have hw202_0 := hx202_0
              obtain rfl : ad199 = ad202 := (by injection e202)
              replace hx202_0 := cx HB.out hx202_0
              replace hx202_1 := cx HB.out hx202_1
              replace hx202_2 := cx HB.out hx202_2
              replace hx202_3 := cx HB.out hx202_3
              replace hx202_4 := cx HB.out hx202_4
              replace hx202_5 := cx HB.out hx202_5
              replace p202 := eq_true p202
              replace q202 := eq_true q202
              have p203 : 0 ≤ (x3_1 : Int) := od
              have q203 : x3_1 < (l0_1.length : Int) := od
              obtain ⟨ad203, e203, hx203_0, hx203_1, hx203_2, hx203_3, hx203_4, hx203_5⟩ := at_T25 HR0_1.out x3_1 p203 q203
              have hw203_5 := hx203_5
              have hw203_4 := hx203_4
              have hw203_3 := hx203_3
              have hw203_2 := hx203_2
              have hw203_1 := hx203_1
              have hw203_0 := hx203_0
              obtain rfl : ad199 = ad203 := (by injection e203)
              replace hx203_0 := cx HB.out hx203_0
              replace hx203_1 := cx HB.out hx203_1
              replace hx203_2 := cx HB.out hx203_2
              replace hx203_3 := cx HB.out hx203_3
              replace hx203_4 := cx HB.out hx203_4
              replace hx203_5 := cx HB.out hx203_5
              replace p203 := eq_true p203
              replace q203 := eq_true q203
              have p204 : 0 ≤ ((ji19) : Int) := od
              have q204 : (ji19) < (l0_1.length : Int) := od
              obtain ⟨ad204, e204, hx204_0, hx204_1, hx204_2, hx204_3, hx204_4, hx204_5⟩ := at_T25 HR0_1.out (ji19) p204 q204
              have hw204_5 := hx204_5
              have hw204_4 := hx204_4
              have hw204_3 := hx204_3
              have hw204_2 := hx204_2
              have hw204_1 := hx204_1
              have hw204_0 := hx204_0
              obtain rfl : ad199 = ad204 := (by injection e204)
              replace hx204_0 := cx HB.out hx204_0
              replace hx204_1 := cx HB.out hx204_1
              replace hx204_2 := cx HB.out hx204_2
              replace hx204_3 := cx HB.out hx204_3
              replace hx204_4 := cx HB.out hx204_4
              replace hx204_5 := cx HB.out hx204_5
              replace p204 := eq_true p204
              replace q204 := eq_true q204
              have p205 : 0 ≤ (x3_1 : Int) := od
              have q205 : x3_1 < (l0_1.length : Int) := od
              obtain ⟨ad205, e205, hx205_0, hx205_1, hx205_2, hx205_3, hx205_4, hx205_5⟩ := at_T25 HR0_1.out x3_1 p205 q205
              have hw205_5 := hx205_5
              have hw205_4 := hx205_4
              have hw205_3 := hx205_3
              have hw205_2 := hx205_2
              have hw205_1 := hx205_1
              have hw205_0 := hx205_0
              obtain rfl : ad199 = ad205 := (by injection e205)
              replace hx205_0 := cx HB.out hx205_0
              replace hx205_1 := cx HB.out hx205_1
              replace hx205_2 := cx HB.out hx205_2
              replace hx205_3 := cx HB.out hx205_3
              replace hx205_4 := cx HB.out hx205_4
              replace hx205_5 := cx HB.out hx205_5
              replace p205 := eq_true p205
              replace q205 := eq_true q205
              refine start_ (n := 54) (S := fun w' => w'.cell? ⟨gb197, 0, none⟩ = some (.int .i64 a0_0) ∧ w'.cell? ⟨gb197, 1, none⟩ = some (.slice (some ad199) l0_1.length c0_1) ∧ w'.cell? (ad199.add ((x3_1).toNat * 6)) = some (.int .i64 ((rd_T25 l0_1 x3_1).f0)) ∧ w'.cell? ⟨(ad199.add ((x3_1).toNat * 6)).block, (ad199.add ((x3_1).toNat * 6)).off + 1, none⟩ = some (.int .i64 ((rd_T25 l0_1 x3_1).f1)) ∧ w'.cell? ⟨(ad199.add ((x3_1).toNat * 6)).block, (ad199.add ((x3_1).toNat * 6)).off + 2, none⟩ = some (.string ((rd_T25 l0_1 x3_1).f2)) ∧ w'.cell? ⟨(ad199.add ((x3_1).toNat * 6)).block, (ad199.add ((x3_1).toNat * 6)).off + 3, none⟩ = some (.string ((rd_T25 l0_1 x3_1).f3)) ∧ w'.cell? ⟨(ad199.add ((x3_1).toNat * 6)).block, (ad199.add ((x3_1).toNat * 6)).off + 4, none⟩ = some (.int .i64 ((rd_T25 l0_1 x3_1).f4)) ∧ w'.cell? ⟨(ad199.add ((x3_1).toNat * 6)).block, (ad199.add ((x3_1).toNat * 6)).off + 5, none⟩ = some (.bool ((rd_T25 l0_1 x3_1).f5)) ∧ w'.cell? (ad199.add ((x3_1).toNat * 6)) = some (.int .i64 ((rd_T25 l0_1 x3_1).f0)) ∧ w'.cell? ⟨(ad199.add ((x3_1).toNat * 6)).block, (ad199.add ((x3_1).toNat * 6)).off + 1, none⟩ = some (.int .i64 ((rd_T25 l0_1 x3_1).f1)) ∧ w'.cell? ⟨(ad199.add ((x3_1).toNat * 6)).block, (ad199.add ((x3_1).toNat * 6)).off + 2, none⟩ = some (.string ((rd_T25 l0_1 x3_1).f2)) ∧ w'.cell? ⟨(ad199.add ((x3_1).toNat * 6)).block, (ad199.add ((x3_1).toNat * 6)).off + 3, none⟩ = some (.string ((rd_T25 l0_1 x3_1).f3)) ∧ w'.cell? ⟨(ad199.add ((x3_1).toNat * 6)).block, (ad199.add ((x3_1).toNat * 6)).off + 4, none⟩ = some (.int .i64 ((rd_T25 l0_1 x3_1).f4)) ∧ w'.cell? ⟨(ad199.add ((x3_1).toNat * 6)).block, (ad199.add ((x3_1).toNat * 6)).off + 5, none⟩ = some (.bool ((rd_T25 l0_1 x3_1).f5)) ∧ w'.cell? (ad199.add (((ji19)).toNat * 6)) = some (.int .i64 ((rd_T25 l0_1 (ji19)).f0)) ∧ w'.cell? ⟨(ad199.add (((ji19)).toNat * 6)).block, (ad199.add (((ji19)).toNat * 6)).off + 1, none⟩ = some (.int .i64 ((rd_T25 l0_1 (ji19)).f1)) ∧ w'.cell? ⟨(ad199.add (((ji19)).toNat * 6)).block, (ad199.add (((ji19)).toNat * 6)).off + 2, none⟩ = some (.string ((rd_T25 l0_1 (ji19)).f2)) ∧ w'.cell? ⟨(ad199.add (((ji19)).toNat * 6)).block, (ad199.add (((ji19)).toNat * 6)).off + 3, none⟩ = some (.string ((rd_T25 l0_1 (ji19)).f3)) ∧ w'.cell? ⟨(ad199.add (((ji19)).toNat * 6)).block, (ad199.add (((ji19)).toNat * 6)).off + 4, none⟩ = some (.int .i64 ((rd_T25 l0_1 (ji19)).f4)) ∧ w'.cell? ⟨(ad199.add (((ji19)).toNat * 6)).block, (ad199.add (((ji19)).toNat * 6)).off + 5, none⟩ = some (.bool ((rd_T25 l0_1 (ji19)).f5)) ∧ w'.cell? (ad199.add ((x3_1).toNat * 6)) = some (.int .i64 ((rd_T25 l0_1 x3_1).f0)) ∧ w'.cell? ⟨(ad199.add ((x3_1).toNat * 6)).block, (ad199.add ((x3_1).toNat * 6)).off + 1, none⟩ = some (.int .i64 ((rd_T25 l0_1 x3_1).f1)) ∧ w'.cell? ⟨(ad199.add ((x3_1).toNat * 6)).block, (ad199.add ((x3_1).toNat * 6)).off + 2, none⟩ = some (.string ((rd_T25 l0_1 x3_1).f2)) ∧ w'.cell? ⟨(ad199.add ((x3_1).toNat * 6)).block, (ad199.add ((x3_1).toNat * 6)).off + 3, none⟩ = some (.string ((rd_T25 l0_1 x3_1).f3)) ∧ w'.cell? ⟨(ad199.add ((x3_1).toNat * 6)).block, (ad199.add ((x3_1).toNat * 6)).off + 4, none⟩ = some (.int .i64 ((rd_T25 l0_1 x3_1).f4)) ∧ w'.cell? ⟨(ad199.add ((x3_1).toNat * 6)).block, (ad199.add ((x3_1).toNat * 6)).off + 5, none⟩ = some (.bool ((rd_T25 l0_1 x3_1).f5)) ∧ w'.cell? (ad199.add (((ji19)).toNat * 6)) = some (.int .i64 ((rd_T25 l0_1 (ji19)).f0)) ∧ w'.cell? ⟨(ad199.add (((ji19)).toNat * 6)).block, (ad199.add (((ji19)).toNat * 6)).off + 1, none⟩ = some (.int .i64 ((rd_T25 l0_1 (ji19)).f1)) ∧ w'.cell? ⟨(ad199.add (((ji19)).toNat * 6)).block, (ad199.add (((ji19)).toNat * 6)).off + 2, none⟩ = some (.string ((rd_T25 l0_1 (ji19)).f2)) ∧ w'.cell? ⟨(ad199.add (((ji19)).toNat * 6)).block, (ad199.add (((ji19)).toNat * 6)).off + 3, none⟩ = some (.string ((rd_T25 l0_1 (ji19)).f3)) ∧ w'.cell? ⟨(ad199.add (((ji19)).toNat * 6)).block, (ad199.add (((ji19)).toNat * 6)).off + 4, none⟩ = some (.int .i64 ((rd_T25 l0_1 (ji19)).f4)) ∧ w'.cell? ⟨(ad199.add (((ji19)).toNat * 6)).block, (ad199.add (((ji19)).toNat * 6)).off + 5, none⟩ = some (.bool ((rd_T25 l0_1 (ji19)).f5)) ∧ w'.cell? (ad199.add ((x3_1).toNat * 6)) = some (.int .i64 ((rd_T25 l0_1 x3_1).f0)) ∧ w'.cell? ⟨(ad199.add ((x3_1).toNat * 6)).block, (ad199.add ((x3_1).toNat * 6)).off + 1, none⟩ = some (.int .i64 ((rd_T25 l0_1 x3_1).f1)) ∧ w'.cell? ⟨(ad199.add ((x3_1).toNat * 6)).block, (ad199.add ((x3_1).toNat * 6)).off + 2, none⟩ = some (.string ((rd_T25 l0_1 x3_1).f2)) ∧ w'.cell? ⟨(ad199.add ((x3_1).toNat * 6)).block, (ad199.add ((x3_1).toNat * 6)).off + 3, none⟩ = some (.string ((rd_T25 l0_1 x3_1).f3)) ∧ w'.cell? ⟨(ad199.add ((x3_1).toNat * 6)).block, (ad199.add ((x3_1).toNat * 6)).off + 4, none⟩ = some (.int .i64 ((rd_T25 l0_1 x3_1).f4)) ∧ w'.cell? ⟨(ad199.add ((x3_1).toNat * 6)).block, (ad199.add ((x3_1).toNat * 6)).off + 5, none⟩ = some (.bool ((rd_T25 l0_1 x3_1).f5))) (ds := []) #[O,O,O,O,O,O,O,O,O,O,O,O,O,O,O,O,O,O,O,O,O,O,O,O,O,O,O,O,O,O,O,O,O,O,O,O,O,O,O,O,O,O,O,O,O,O,O,O,O,O,O,O,O,O] (by kernel_rfl) rfl rfl ⟨(blk_cell BK197.out 0).trans rfl, (blk_cell BK197.out 1).trans rfl, ((HB.out.cell (World.block_lt_of_cell? w _ hw199_0)).trans hw199_0), ((HB.out.cell (World.block_lt_of_cell? w _ hw199_1)).trans hw199_1), ((HB.out.cell (World.block_lt_of_cell? w _ hw199_2)).trans hw199_2), ((HB.out.cell (World.block_lt_of_cell? w _ hw199_3)).trans hw199_3), ((HB.out.cell (World.block_lt_of_cell? w _ hw199_4)).trans hw199_4), ((HB.out.cell (World.block_lt_of_cell? w _ hw199_5)).trans hw199_5), ((HB.out.cell (World.block_lt_of_cell? w _ hw201_0)).trans hw201_0), ((HB.out.cell (World.block_lt_of_cell? w _ hw201_1)).trans hw201_1), ((HB.out.cell (World.block_lt_of_cell? w _ hw201_2)).trans hw201_2), ((HB.out.cell (World.block_lt_of_cell? w _ hw201_3)).trans hw201_3), ((HB.out.cell (World.block_lt_of_cell? w _ hw201_4)).trans hw201_4), ((HB.out.cell (World.block_lt_of_cell? w _ hw201_5)).trans hw201_5), ((HB.out.cell (World.block_lt_of_cell? w _ hw202_0)).trans hw202_0), ((HB.out.cell (World.block_lt_of_cell? w _ hw202_1)).trans hw202_1), ((HB.out.cell (World.block_lt_of_cell? w _ hw202_2)).trans hw202_2), ((HB.out.cell (World.block_lt_of_cell? w _ hw202_3)).trans hw202_3), ((HB.out.cell (World.block_lt_of_cell? w _ hw202_4)).trans hw202_4), ((HB.out.cell (World.block_lt_of_cell? w _ hw202_5)).trans hw202_5), ((HB.out.cell (World.block_lt_of_cell? w _ hw203_0)).trans hw203_0), ((HB.out.cell (World.block_lt_of_cell? w _ hw203_1)).trans hw203_1), ((HB.out.cell (World.block_lt_of_cell? w _ hw203_2)).trans hw203_2), ((HB.out.cell (World.block_lt_of_cell? w _ hw203_3)).trans hw203_3), ((HB.out.cell (World.block_lt_of_cell? w _ hw203_4)).trans hw203_4), ((HB.out.cell (World.block_lt_of_cell? w _ hw203_5)).trans hw203_5), ((HB.out.cell (World.block_lt_of_cell? w _ hw204_0)).trans hw204_0), ((HB.out.cell (World.block_lt_of_cell? w _ hw204_1)).trans hw204_1), ((HB.out.cell (World.block_lt_of_cell? w _ hw204_2)).trans hw204_2), ((HB.out.cell (World.block_lt_of_cell? w _ hw204_3)).trans hw204_3), ((HB.out.cell (World.block_lt_of_cell? w _ hw204_4)).trans hw204_4), ((HB.out.cell (World.block_lt_of_cell? w _ hw204_5)).trans hw204_5), ((HB.out.cell (World.block_lt_of_cell? w _ hw205_0)).trans hw205_0), ((HB.out.cell (World.block_lt_of_cell? w _ hw205_1)).trans hw205_1), ((HB.out.cell (World.block_lt_of_cell? w _ hw205_2)).trans hw205_2), ((HB.out.cell (World.block_lt_of_cell? w _ hw205_3)).trans hw205_3), ((HB.out.cell (World.block_lt_of_cell? w _ hw205_4)).trans hw205_4), ((HB.out.cell (World.block_lt_of_cell? w _ hw205_5)).trans hw205_5)⟩ (fun hHeld => ?_); refine with_tabW fairwayref10_Seg.tab4 fairwayref10_Seg.bits4 (fun HT_ HW_ => ?_)
              generalize wc.drew = w25 at BK197 HB hx199_0 hx199_1 hx199_2 hx199_3 hx199_4 hx199_5 hx201_0 hx201_1 hx201_2 hx201_3 hx201_4 hx201_5 hx202_0 hx202_1 hx202_2 hx202_3 hx202_4 hx202_5 hx203_0 hx203_1 hx203_2 hx203_3 hx203_4 hx203_5 hx204_0 hx204_1 hx204_2 hx204_3 hx204_4 hx204_5 hx205_0 hx205_1 hx205_2 hx205_3 hx205_4 hx205_5 hHeld ⊢
              refine pz (i := 0) (N := some 11) #[I,O,O,O,O,O,O,O,O,O,O,O,O,O,O,O,O,O,O,O,O,O,O,O,O,O,O,O,O,O,O,O,O,O,O,O,O,O,O,O,O,O,O,O,O,O,O,O,O,O,O,O,O,O] ?_
              refine pz (i := 2) (N := some 13) #[I,O,I,O,O,O,O,O,O,O,O,O,O,O,O,O,O,O,O,O,O,O,O,O,O,O,O,O,O,O,O,O,O,O,O,O,O,O,O,O,O,O,O,O,O,O,O,O,O,O,O,O,O,O] ?_
              refine tz (i := 1) (N := some 12) #[I,I,I,O,O,O,O,O,O,O,O,O,O,O,O,O,O,O,O,O,O,O,O,O,O,O,O,O,O,O,O,O,O,O,O,O,O,O,O,O,O,O,O,O,O,O,O,O,O,O,O,O,O,O] ?_
              refine pz (i := 3) (N := some 14) #[I,I,I,I,O,O,O,O,O,O,O,O,O,O,O,O,O,O,O,O,O,O,O,O,O,O,O,O,O,O,O,O,O,O,O,O,O,O,O,O,O,O,O,O,O,O,O,O,O,O,O,O,O,O] ?_
              refine tz (i := 4) (N := some 15) #[I,I,I,I,I,O,O,O,O,O,O,O,O,O,O,O,O,O,O,O,O,O,O,O,O,O,O,O,O,O,O,O,O,O,O,O,O,O,O,O,O,O,O,O,O,O,O,O,O,O,O,O,O,O] ?_
              refine one_ (i := 5) (N := some 16) #[I,I,I,I,I,I,O,O,O,O,O,O,O,O,O,O,O,O,O,O,O,O,O,O,O,O,O,O,O,O,O,O,O,O,O,O,O,O,O,O,O,O,O,O,O,O,O,O,O,O,O,O,O,O] rfl rfl (one_of HT_.out (by kernel_rfl)) (by decide) (fun K hK => ?_)
              refine goes_ Try.func26 (by kernel_rfl) rfl #[.agg #[.int .i64 ((rd_T25 l0_1 x3_1).f0), .int .i64 ((rd_T25 l0_1 x3_1).f1), .string ((rd_T25 l0_1 x3_1).f2), .string ((rd_T25 l0_1 x3_1).f3), .int .i64 ((rd_T25 l0_1 x3_1).f4), .bool ((rd_T25 l0_1 x3_1).f5)]] (by rfl) rfl rfl aa ?_
              with_reducible refine (fairwayref10_Rec.calls ((rd_T25 l0_1 x3_1).f0) ((rd_T25 l0_1 x3_1).f1) ((rd_T25 l0_1 x3_1).f2) ((rd_T25 l0_1 x3_1).f3) ((rd_T25 l0_1 x3_1).f4) ((rd_T25 l0_1 x3_1).f5) true _ A13.out).mono ?_
              rintro e w26 ⟨rfl, hb⟩
              refine ⟨_, rfl, ?_⟩
              replace BK197 := Aside0.mk (blk_below (g := gb197) (o := .cells #[.int .i64 a0_0, .slice (some ad199) l0_1.length c0_1] 29 (0, 0)) (bk BK197.out) hb)
              replace HB := Aside0.mk (below_step bo hb)
              (try clear hb)
              (try clear hb2)
              (try clear hk)
              (try clear hi)
              refine hK.out _ _ ⟨(blk_cell BK197.out 0).trans rfl, (blk_cell BK197.out 1).trans rfl, ((HB.out.cell (World.block_lt_of_cell? w _ hw199_0)).trans hw199_0), ((HB.out.cell (World.block_lt_of_cell? w _ hw199_1)).trans hw199_1), ((HB.out.cell (World.block_lt_of_cell? w _ hw199_2)).trans hw199_2), ((HB.out.cell (World.block_lt_of_cell? w _ hw199_3)).trans hw199_3), ((HB.out.cell (World.block_lt_of_cell? w _ hw199_4)).trans hw199_4), ((HB.out.cell (World.block_lt_of_cell? w _ hw199_5)).trans hw199_5), ((HB.out.cell (World.block_lt_of_cell? w _ hw201_0)).trans hw201_0), ((HB.out.cell (World.block_lt_of_cell? w _ hw201_1)).trans hw201_1), ((HB.out.cell (World.block_lt_of_cell? w _ hw201_2)).trans hw201_2), ((HB.out.cell (World.block_lt_of_cell? w _ hw201_3)).trans hw201_3), ((HB.out.cell (World.block_lt_of_cell? w _ hw201_4)).trans hw201_4), ((HB.out.cell (World.block_lt_of_cell? w _ hw201_5)).trans hw201_5), ((HB.out.cell (World.block_lt_of_cell? w _ hw202_0)).trans hw202_0), ((HB.out.cell (World.block_lt_of_cell? w _ hw202_1)).trans hw202_1), ((HB.out.cell (World.block_lt_of_cell? w _ hw202_2)).trans hw202_2), ((HB.out.cell (World.block_lt_of_cell? w _ hw202_3)).trans hw202_3), ((HB.out.cell (World.block_lt_of_cell? w _ hw202_4)).trans hw202_4), ((HB.out.cell (World.block_lt_of_cell? w _ hw202_5)).trans hw202_5), ((HB.out.cell (World.block_lt_of_cell? w _ hw203_0)).trans hw203_0), ((HB.out.cell (World.block_lt_of_cell? w _ hw203_1)).trans hw203_1), ((HB.out.cell (World.block_lt_of_cell? w _ hw203_2)).trans hw203_2), ((HB.out.cell (World.block_lt_of_cell? w _ hw203_3)).trans hw203_3), ((HB.out.cell (World.block_lt_of_cell? w _ hw203_4)).trans hw203_4), ((HB.out.cell (World.block_lt_of_cell? w _ hw203_5)).trans hw203_5), ((HB.out.cell (World.block_lt_of_cell? w _ hw204_0)).trans hw204_0), ((HB.out.cell (World.block_lt_of_cell? w _ hw204_1)).trans hw204_1), ((HB.out.cell (World.block_lt_of_cell? w _ hw204_2)).trans hw204_2), ((HB.out.cell (World.block_lt_of_cell? w _ hw204_3)).trans hw204_3), ((HB.out.cell (World.block_lt_of_cell? w _ hw204_4)).trans hw204_4), ((HB.out.cell (World.block_lt_of_cell? w _ hw204_5)).trans hw204_5), ((HB.out.cell (World.block_lt_of_cell? w _ hw205_0)).trans hw205_0), ((HB.out.cell (World.block_lt_of_cell? w _ hw205_1)).trans hw205_1), ((HB.out.cell (World.block_lt_of_cell? w _ hw205_2)).trans hw205_2), ((HB.out.cell (World.block_lt_of_cell? w _ hw205_3)).trans hw205_3), ((HB.out.cell (World.block_lt_of_cell? w _ hw205_4)).trans hw205_4), ((HB.out.cell (World.block_lt_of_cell? w _ hw205_5)).trans hw205_5)⟩ (fun hHeld => ?_)
              clear hK K
              refine norm_ (a' := ?_) ?_ ?_
              rotate_left
              ·show Act.put _ (some 16) _ = _
               simp only [Act.put, List.setIfInBounds_toArray, List.set_cons_zero, List.set_cons_succ, i64_w, i32_w]
               rfl
              refine pz (i := 6) (N := some 17) #[I,I,I,I,I,I,I,O,O,O,O,O,O,O,O,O,O,O,O,O,O,O,O,O,O,O,O,O,O,O,O,O,O,O,O,O,O,O,O,O,O,O,O,O,O,O,O,O,O,O,O,O,O,O] ?_
              refine pz (i := 7) (N := some 18) #[I,I,I,I,I,I,I,I,O,O,O,O,O,O,O,O,O,O,O,O,O,O,O,O,O,O,O,O,O,O,O,O,O,O,O,O,O,O,O,O,O,O,O,O,O,O,O,O,O,O,O,O,O,O] ?_
              refine pz (i := 8) (N := some 19) #[I,I,I,I,I,I,I,I,I,O,O,O,O,O,O,O,O,O,O,O,O,O,O,O,O,O,O,O,O,O,O,O,O,O,O,O,O,O,O,O,O,O,O,O,O,O,O,O,O,O,O,O,O,O] ?_
              refine pz (i := 10) (N := some 21) #[I,I,I,I,I,I,I,I,I,O,I,O,O,O,O,O,O,O,O,O,O,O,O,O,O,O,O,O,O,O,O,O,O,O,O,O,O,O,O,O,O,O,O,O,O,O,O,O,O,O,O,O,O,O] ?_
              refine pz (i := 14) (N := some 25) #[I,I,I,I,I,I,I,I,I,O,I,O,O,O,I,O,O,O,O,O,O,O,O,O,O,O,O,O,O,O,O,O,O,O,O,O,O,O,O,O,O,O,O,O,O,O,O,O,O,O,O,O,O,O] ?_
              refine tz (i := 9) (N := some 20) #[I,I,I,I,I,I,I,I,I,I,I,O,O,O,I,O,O,O,O,O,O,O,O,O,O,O,O,O,O,O,O,O,O,O,O,O,O,O,O,O,O,O,O,O,O,O,O,O,O,O,O,O,O,O] ?_
              refine pz (i := 11) (N := some 22) #[I,I,I,I,I,I,I,I,I,I,I,I,O,O,I,O,O,O,O,O,O,O,O,O,O,O,O,O,O,O,O,O,O,O,O,O,O,O,O,O,O,O,O,O,O,O,O,O,O,O,O,O,O,O] ?_
              refine pz (i := 12) (N := some 23) #[I,I,I,I,I,I,I,I,I,I,I,I,I,O,I,O,O,O,O,O,O,O,O,O,O,O,O,O,O,O,O,O,O,O,O,O,O,O,O,O,O,O,O,O,O,O,O,O,O,O,O,O,O,O] ?_
              refine tz (i := 13) (N := some 24) #[I,I,I,I,I,I,I,I,I,I,I,I,I,I,I,O,O,O,O,O,O,O,O,O,O,O,O,O,O,O,O,O,O,O,O,O,O,O,O,O,O,O,O,O,O,O,O,O,O,O,O,O,O,O] ?_
              refine tz (i := 15) (N := some 26) #[I,I,I,I,I,I,I,I,I,I,I,I,I,I,I,I,O,O,O,O,O,O,O,O,O,O,O,O,O,O,O,O,O,O,O,O,O,O,O,O,O,O,O,O,O,O,O,O,O,O,O,O,O,O] ?_
              refine pz (i := 16) (N := some 27) #[I,I,I,I,I,I,I,I,I,I,I,I,I,I,I,I,I,O,O,O,O,O,O,O,O,O,O,O,O,O,O,O,O,O,O,O,O,O,O,O,O,O,O,O,O,O,O,O,O,O,O,O,O,O] ?_
              refine pz (i := 17) (N := some 28) #[I,I,I,I,I,I,I,I,I,I,I,I,I,I,I,I,I,I,O,O,O,O,O,O,O,O,O,O,O,O,O,O,O,O,O,O,O,O,O,O,O,O,O,O,O,O,O,O,O,O,O,O,O,O] ?_
              refine pz (i := 18) (N := some 29) #[I,I,I,I,I,I,I,I,I,I,I,I,I,I,I,I,I,I,I,O,O,O,O,O,O,O,O,O,O,O,O,O,O,O,O,O,O,O,O,O,O,O,O,O,O,O,O,O,O,O,O,O,O,O] ?_
              refine pz (i := 19) (N := some 30) #[I,I,I,I,I,I,I,I,I,I,I,I,I,I,I,I,I,I,I,I,O,O,O,O,O,O,O,O,O,O,O,O,O,O,O,O,O,O,O,O,O,O,O,O,O,O,O,O,O,O,O,O,O,O] ?_
              refine pz (i := 20) (N := some 31) #[I,I,I,I,I,I,I,I,I,I,I,I,I,I,I,I,I,I,I,I,I,O,O,O,O,O,O,O,O,O,O,O,O,O,O,O,O,O,O,O,O,O,O,O,O,O,O,O,O,O,O,O,O,O] ?_
              refine pz (i := 21) (N := some 32) #[I,I,I,I,I,I,I,I,I,I,I,I,I,I,I,I,I,I,I,I,I,I,O,O,O,O,O,O,O,O,O,O,O,O,O,O,O,O,O,O,O,O,O,O,O,O,O,O,O,O,O,O,O,O] ?_
              refine pz (i := 22) (N := some 33) #[I,I,I,I,I,I,I,I,I,I,I,I,I,I,I,I,I,I,I,I,I,I,I,O,O,O,O,O,O,O,O,O,O,O,O,O,O,O,O,O,O,O,O,O,O,O,O,O,O,O,O,O,O,O] ?_
              refine pz (i := 24) (N := some 35) #[I,I,I,I,I,I,I,I,I,I,I,I,I,I,I,I,I,I,I,I,I,I,I,O,I,O,O,O,O,O,O,O,O,O,O,O,O,O,O,O,O,O,O,O,O,O,O,O,O,O,O,O,O,O] ?_
              refine pz (i := 25) (N := some 36) #[I,I,I,I,I,I,I,I,I,I,I,I,I,I,I,I,I,I,I,I,I,I,I,O,I,I,O,O,O,O,O,O,O,O,O,O,O,O,O,O,O,O,O,O,O,O,O,O,O,O,O,O,O,O] ?_
              refine pz (i := 29) (N := some 40) #[I,I,I,I,I,I,I,I,I,I,I,I,I,I,I,I,I,I,I,I,I,I,I,O,I,I,O,O,O,I,O,O,O,O,O,O,O,O,O,O,O,O,O,O,O,O,O,O,O,O,O,O,O,O] ?_
              refine pz (i := 31) (N := some 42) #[I,I,I,I,I,I,I,I,I,I,I,I,I,I,I,I,I,I,I,I,I,I,I,O,I,I,O,O,O,I,O,I,O,O,O,O,O,O,O,O,O,O,O,O,O,O,O,O,O,O,O,O,O,O] ?_
              refine tz (i := 23) (N := some 34) #[I,I,I,I,I,I,I,I,I,I,I,I,I,I,I,I,I,I,I,I,I,I,I,I,I,I,O,O,O,I,O,I,O,O,O,O,O,O,O,O,O,O,O,O,O,O,O,O,O,O,O,O,O,O] ?_
              refine pz (i := 26) (N := some 37) #[I,I,I,I,I,I,I,I,I,I,I,I,I,I,I,I,I,I,I,I,I,I,I,I,I,I,I,O,O,I,O,I,O,O,O,O,O,O,O,O,O,O,O,O,O,O,O,O,O,O,O,O,O,O] ?_
              refine pz (i := 27) (N := some 38) #[I,I,I,I,I,I,I,I,I,I,I,I,I,I,I,I,I,I,I,I,I,I,I,I,I,I,I,I,O,I,O,I,O,O,O,O,O,O,O,O,O,O,O,O,O,O,O,O,O,O,O,O,O,O] ?_
              refine tz (i := 28) (N := some 39) #[I,I,I,I,I,I,I,I,I,I,I,I,I,I,I,I,I,I,I,I,I,I,I,I,I,I,I,I,I,I,O,I,O,O,O,O,O,O,O,O,O,O,O,O,O,O,O,O,O,O,O,O,O,O] ?_
              refine tz (i := 30) (N := some 41) #[I,I,I,I,I,I,I,I,I,I,I,I,I,I,I,I,I,I,I,I,I,I,I,I,I,I,I,I,I,I,I,I,O,O,O,O,O,O,O,O,O,O,O,O,O,O,O,O,O,O,O,O,O,O] ?_
              refine pz (i := 32) (N := some 43) #[I,I,I,I,I,I,I,I,I,I,I,I,I,I,I,I,I,I,I,I,I,I,I,I,I,I,I,I,I,I,I,I,I,O,O,O,O,O,O,O,O,O,O,O,O,O,O,O,O,O,O,O,O,O] ?_
              refine pz (i := 33) (N := some 44) #[I,I,I,I,I,I,I,I,I,I,I,I,I,I,I,I,I,I,I,I,I,I,I,I,I,I,I,I,I,I,I,I,I,I,O,O,O,O,O,O,O,O,O,O,O,O,O,O,O,O,O,O,O,O] ?_
              refine tz (i := 34) (N := some 45) #[I,I,I,I,I,I,I,I,I,I,I,I,I,I,I,I,I,I,I,I,I,I,I,I,I,I,I,I,I,I,I,I,I,I,I,O,O,O,O,O,O,O,O,O,O,O,O,O,O,O,O,O,O,O] ?_
              refine pz (i := 35) (N := some 46) #[I,I,I,I,I,I,I,I,I,I,I,I,I,I,I,I,I,I,I,I,I,I,I,I,I,I,I,I,I,I,I,I,I,I,I,I,O,O,O,O,O,O,O,O,O,O,O,O,O,O,O,O,O,O] ?_
              refine pz (i := 36) (N := some 47) #[I,I,I,I,I,I,I,I,I,I,I,I,I,I,I,I,I,I,I,I,I,I,I,I,I,I,I,I,I,I,I,I,I,I,I,I,I,O,O,O,O,O,O,O,O,O,O,O,O,O,O,O,O,O] ?_
              refine pz (i := 37) (N := some 48) #[I,I,I,I,I,I,I,I,I,I,I,I,I,I,I,I,I,I,I,I,I,I,I,I,I,I,I,I,I,I,I,I,I,I,I,I,I,I,O,O,O,O,O,O,O,O,O,O,O,O,O,O,O,O] ?_
              refine pz (i := 39) (N := some 50) #[I,I,I,I,I,I,I,I,I,I,I,I,I,I,I,I,I,I,I,I,I,I,I,I,I,I,I,I,I,I,I,I,I,I,I,I,I,I,O,I,O,O,O,O,O,O,O,O,O,O,O,O,O,O] ?_
              refine pz (i := 40) (N := some 51) #[I,I,I,I,I,I,I,I,I,I,I,I,I,I,I,I,I,I,I,I,I,I,I,I,I,I,I,I,I,I,I,I,I,I,I,I,I,I,O,I,I,O,O,O,O,O,O,O,O,O,O,O,O,O] ?_
              refine pz (i := 44) (N := some 55) #[I,I,I,I,I,I,I,I,I,I,I,I,I,I,I,I,I,I,I,I,I,I,I,I,I,I,I,I,I,I,I,I,I,I,I,I,I,I,O,I,I,O,O,O,I,O,O,O,O,O,O,O,O,O] ?_
              refine pz (i := 46) (N := some 57) #[I,I,I,I,I,I,I,I,I,I,I,I,I,I,I,I,I,I,I,I,I,I,I,I,I,I,I,I,I,I,I,I,I,I,I,I,I,I,O,I,I,O,O,O,I,O,I,O,O,O,O,O,O,O] ?_
              refine tz (i := 38) (N := some 49) #[I,I,I,I,I,I,I,I,I,I,I,I,I,I,I,I,I,I,I,I,I,I,I,I,I,I,I,I,I,I,I,I,I,I,I,I,I,I,I,I,I,O,O,O,I,O,I,O,O,O,O,O,O,O] ?_
              refine pz (i := 41) (N := some 52) #[I,I,I,I,I,I,I,I,I,I,I,I,I,I,I,I,I,I,I,I,I,I,I,I,I,I,I,I,I,I,I,I,I,I,I,I,I,I,I,I,I,I,O,O,I,O,I,O,O,O,O,O,O,O] ?_
              refine pz (i := 42) (N := some 53) #[I,I,I,I,I,I,I,I,I,I,I,I,I,I,I,I,I,I,I,I,I,I,I,I,I,I,I,I,I,I,I,I,I,I,I,I,I,I,I,I,I,I,I,O,I,O,I,O,O,O,O,O,O,O] ?_
              refine tz (i := 43) (N := some 54) #[I,I,I,I,I,I,I,I,I,I,I,I,I,I,I,I,I,I,I,I,I,I,I,I,I,I,I,I,I,I,I,I,I,I,I,I,I,I,I,I,I,I,I,I,I,O,I,O,O,O,O,O,O,O] ?_
              refine tz (i := 45) (N := some 56) #[I,I,I,I,I,I,I,I,I,I,I,I,I,I,I,I,I,I,I,I,I,I,I,I,I,I,I,I,I,I,I,I,I,I,I,I,I,I,I,I,I,I,I,I,I,I,I,O,O,O,O,O,O,O] ?_
              refine pz (i := 47) (N := some 58) #[I,I,I,I,I,I,I,I,I,I,I,I,I,I,I,I,I,I,I,I,I,I,I,I,I,I,I,I,I,I,I,I,I,I,I,I,I,I,I,I,I,I,I,I,I,I,I,I,O,O,O,O,O,O] ?_
              refine pz (i := 48) (N := some 59) #[I,I,I,I,I,I,I,I,I,I,I,I,I,I,I,I,I,I,I,I,I,I,I,I,I,I,I,I,I,I,I,I,I,I,I,I,I,I,I,I,I,I,I,I,I,I,I,I,I,O,O,O,O,O] ?_
              refine tz (i := 49) (N := some 60) #[I,I,I,I,I,I,I,I,I,I,I,I,I,I,I,I,I,I,I,I,I,I,I,I,I,I,I,I,I,I,I,I,I,I,I,I,I,I,I,I,I,I,I,I,I,I,I,I,I,I,O,O,O,O] ?_
              refine pz (i := 50) (N := some 61) #[I,I,I,I,I,I,I,I,I,I,I,I,I,I,I,I,I,I,I,I,I,I,I,I,I,I,I,I,I,I,I,I,I,I,I,I,I,I,I,I,I,I,I,I,I,I,I,I,I,I,I,O,O,O] ?_
              refine pz (i := 51) (N := some 62) #[I,I,I,I,I,I,I,I,I,I,I,I,I,I,I,I,I,I,I,I,I,I,I,I,I,I,I,I,I,I,I,I,I,I,I,I,I,I,I,I,I,I,I,I,I,I,I,I,I,I,I,I,O,O] ?_
              refine pz (i := 52) (N := some 63) #[I,I,I,I,I,I,I,I,I,I,I,I,I,I,I,I,I,I,I,I,I,I,I,I,I,I,I,I,I,I,I,I,I,I,I,I,I,I,I,I,I,I,I,I,I,I,I,I,I,I,I,I,I,O] ?_
              refine pz (i := 53) (N := some 64) #[I,I,I,I,I,I,I,I,I,I,I,I,I,I,I,I,I,I,I,I,I,I,I,I,I,I,I,I,I,I,I,I,I,I,I,I,I,I,I,I,I,I,I,I,I,I,I,I,I,I,I,I,I,I] ?_
              refine done_ (done_of HT_.out (by kernel_rfl)) ?_
              try go_wp2
              go_meet
              case rel => exact ⟨_, (decide (((rd_T25 l0_1 (ji19)).f1) > ((rd_T25 l0_1 x3_1).f1))), (by first | rfl | (simp; done) | (simp only [← hji19] <;> (first | rfl | simp)) | (simp [*]; done)), H', ⟨by have := HK1.out; have := HJ2.out; first | omega | exact Nat.le_refl _⟩, ⟨by (with_reducible repeat (first | refine blk_drewN ?_ _ | refine blk_drew ?_ | refine blk_alloc ?_ _)); exact BK197.out⟩, ⟨bo⟩⟩
            ·rw [if_neg c21] at H
             exact absurd H (by simp)
           ·rw [if_neg c20] at H
            exact absurd H (by simp)
          ·rw [if_neg c18] at H
           have c18b0 : decide (0 < x3_1) = false := decide_eq_false c18
           clear c18
           have H' := Aside0.mk H
           clear H
           try go_wp2
           replace BK197 := Aside0.mk (blk_drew BK197.out)
           replace HB := Aside0.mk (below_drew1 HB.out)
           have p199 : 0 ≤ (x3_1 : Int) := od
           have q199 : x3_1 < (l0_1.length : Int) := od
           obtain ⟨ad199, e199, hx199_0, hx199_1, hx199_2, hx199_3, hx199_4, hx199_5⟩ := at_T25 HR0_1.out x3_1 p199 q199
           have hw199_5 := hx199_5
           have hw199_4 := hx199_4
           have hw199_3 := hx199_3
           have hw199_2 := hx199_2
           have hw199_1 := hx199_1
           have hw199_0 := hx199_0
           cases e199
           replace hx199_0 := cx HB.out hx199_0
           replace hx199_1 := cx HB.out hx199_1
           replace hx199_2 := cx HB.out hx199_2
           replace hx199_3 := cx HB.out hx199_3
           replace hx199_4 := cx HB.out hx199_4
           replace hx199_5 := cx HB.out hx199_5
           replace p199 := eq_true p199
           replace q199 := eq_true q199
           have p201 : 0 ≤ (x3_1 : Int) := od
           have q201 : x3_1 < (l0_1.length : Int) := od
           obtain ⟨ad201, e201, hx201_0, hx201_1, hx201_2, hx201_3, hx201_4, hx201_5⟩ := at_T25 HR0_1.out x3_1 p201 q201
           have hw201_5 := hx201_5
           have hw201_4 := hx201_4
           have hw201_3 := hx201_3
           have hw201_2 := hx201_2
           have hw201_1 := hx201_1
           have hw201_0 := hx201_0
           obtain rfl : ad199 = ad201 := (by injection e201)
           replace hx201_0 := cx HB.out hx201_0
           replace hx201_1 := cx HB.out hx201_1
           replace hx201_2 := cx HB.out hx201_2
           replace hx201_3 := cx HB.out hx201_3
           replace hx201_4 := cx HB.out hx201_4
           replace hx201_5 := cx HB.out hx201_5
           replace p201 := eq_true p201
           replace q201 := eq_true q201
           refine start_ (n := 54) (S := fun w' => w'.cell? ⟨gb197, 0, none⟩ = some (.int .i64 a0_0) ∧ w'.cell? ⟨gb197, 1, none⟩ = some (.slice (some ad199) l0_1.length c0_1) ∧ w'.cell? (ad199.add ((x3_1).toNat * 6)) = some (.int .i64 ((rd_T25 l0_1 x3_1).f0)) ∧ w'.cell? ⟨(ad199.add ((x3_1).toNat * 6)).block, (ad199.add ((x3_1).toNat * 6)).off + 1, none⟩ = some (.int .i64 ((rd_T25 l0_1 x3_1).f1)) ∧ w'.cell? ⟨(ad199.add ((x3_1).toNat * 6)).block, (ad199.add ((x3_1).toNat * 6)).off + 2, none⟩ = some (.string ((rd_T25 l0_1 x3_1).f2)) ∧ w'.cell? ⟨(ad199.add ((x3_1).toNat * 6)).block, (ad199.add ((x3_1).toNat * 6)).off + 3, none⟩ = some (.string ((rd_T25 l0_1 x3_1).f3)) ∧ w'.cell? ⟨(ad199.add ((x3_1).toNat * 6)).block, (ad199.add ((x3_1).toNat * 6)).off + 4, none⟩ = some (.int .i64 ((rd_T25 l0_1 x3_1).f4)) ∧ w'.cell? ⟨(ad199.add ((x3_1).toNat * 6)).block, (ad199.add ((x3_1).toNat * 6)).off + 5, none⟩ = some (.bool ((rd_T25 l0_1 x3_1).f5)) ∧ w'.cell? (ad199.add ((x3_1).toNat * 6)) = some (.int .i64 ((rd_T25 l0_1 x3_1).f0)) ∧ w'.cell? ⟨(ad199.add ((x3_1).toNat * 6)).block, (ad199.add ((x3_1).toNat * 6)).off + 1, none⟩ = some (.int .i64 ((rd_T25 l0_1 x3_1).f1)) ∧ w'.cell? ⟨(ad199.add ((x3_1).toNat * 6)).block, (ad199.add ((x3_1).toNat * 6)).off + 2, none⟩ = some (.string ((rd_T25 l0_1 x3_1).f2)) ∧ w'.cell? ⟨(ad199.add ((x3_1).toNat * 6)).block, (ad199.add ((x3_1).toNat * 6)).off + 3, none⟩ = some (.string ((rd_T25 l0_1 x3_1).f3)) ∧ w'.cell? ⟨(ad199.add ((x3_1).toNat * 6)).block, (ad199.add ((x3_1).toNat * 6)).off + 4, none⟩ = some (.int .i64 ((rd_T25 l0_1 x3_1).f4)) ∧ w'.cell? ⟨(ad199.add ((x3_1).toNat * 6)).block, (ad199.add ((x3_1).toNat * 6)).off + 5, none⟩ = some (.bool ((rd_T25 l0_1 x3_1).f5))) (ds := []) #[O,O,O,O,O,O,O,O,O,O,O,O,O,O,O,O,O,O,O,O,O,O,O,O,O,O,O,O,O,O,O,O,O,O,O,O,O,O,O,O,O,O,O,O,O,O,O,O,O,O,O,O,O,O] (by kernel_rfl) rfl rfl ⟨(blk_cell BK197.out 0).trans rfl, (blk_cell BK197.out 1).trans rfl, ((HB.out.cell (World.block_lt_of_cell? w _ hw199_0)).trans hw199_0), ((HB.out.cell (World.block_lt_of_cell? w _ hw199_1)).trans hw199_1), ((HB.out.cell (World.block_lt_of_cell? w _ hw199_2)).trans hw199_2), ((HB.out.cell (World.block_lt_of_cell? w _ hw199_3)).trans hw199_3), ((HB.out.cell (World.block_lt_of_cell? w _ hw199_4)).trans hw199_4), ((HB.out.cell (World.block_lt_of_cell? w _ hw199_5)).trans hw199_5), ((HB.out.cell (World.block_lt_of_cell? w _ hw201_0)).trans hw201_0), ((HB.out.cell (World.block_lt_of_cell? w _ hw201_1)).trans hw201_1), ((HB.out.cell (World.block_lt_of_cell? w _ hw201_2)).trans hw201_2), ((HB.out.cell (World.block_lt_of_cell? w _ hw201_3)).trans hw201_3), ((HB.out.cell (World.block_lt_of_cell? w _ hw201_4)).trans hw201_4), ((HB.out.cell (World.block_lt_of_cell? w _ hw201_5)).trans hw201_5)⟩ (fun hHeld => ?_); refine with_tabW fairwayref10_Seg.tab4 fairwayref10_Seg.bits4 (fun HT_ HW_ => ?_)
           generalize wc.drew = w27 at BK197 HB hx199_0 hx199_1 hx199_2 hx199_3 hx199_4 hx199_5 hx201_0 hx201_1 hx201_2 hx201_3 hx201_4 hx201_5 hHeld ⊢
           refine pz (i := 0) (N := some 11) #[I,O,O,O,O,O,O,O,O,O,O,O,O,O,O,O,O,O,O,O,O,O,O,O,O,O,O,O,O,O,O,O,O,O,O,O,O,O,O,O,O,O,O,O,O,O,O,O,O,O,O,O,O,O] ?_
           refine pz (i := 2) (N := some 13) #[I,O,I,O,O,O,O,O,O,O,O,O,O,O,O,O,O,O,O,O,O,O,O,O,O,O,O,O,O,O,O,O,O,O,O,O,O,O,O,O,O,O,O,O,O,O,O,O,O,O,O,O,O,O] ?_
           refine tz (i := 1) (N := some 12) #[I,I,I,O,O,O,O,O,O,O,O,O,O,O,O,O,O,O,O,O,O,O,O,O,O,O,O,O,O,O,O,O,O,O,O,O,O,O,O,O,O,O,O,O,O,O,O,O,O,O,O,O,O,O] ?_
           refine pz (i := 3) (N := some 14) #[I,I,I,I,O,O,O,O,O,O,O,O,O,O,O,O,O,O,O,O,O,O,O,O,O,O,O,O,O,O,O,O,O,O,O,O,O,O,O,O,O,O,O,O,O,O,O,O,O,O,O,O,O,O] ?_
           refine tz (i := 4) (N := some 15) #[I,I,I,I,I,O,O,O,O,O,O,O,O,O,O,O,O,O,O,O,O,O,O,O,O,O,O,O,O,O,O,O,O,O,O,O,O,O,O,O,O,O,O,O,O,O,O,O,O,O,O,O,O,O] ?_
           refine one_ (i := 5) (N := some 16) #[I,I,I,I,I,I,O,O,O,O,O,O,O,O,O,O,O,O,O,O,O,O,O,O,O,O,O,O,O,O,O,O,O,O,O,O,O,O,O,O,O,O,O,O,O,O,O,O,O,O,O,O,O,O] rfl rfl (one_of HT_.out (by kernel_rfl)) (by decide) (fun K hK => ?_)
           refine goes_ Try.func26 (by kernel_rfl) rfl #[.agg #[.int .i64 ((rd_T25 l0_1 x3_1).f0), .int .i64 ((rd_T25 l0_1 x3_1).f1), .string ((rd_T25 l0_1 x3_1).f2), .string ((rd_T25 l0_1 x3_1).f3), .int .i64 ((rd_T25 l0_1 x3_1).f4), .bool ((rd_T25 l0_1 x3_1).f5)]] (by rfl) rfl rfl aa ?_
           with_reducible refine (fairwayref10_Rec.calls ((rd_T25 l0_1 x3_1).f0) ((rd_T25 l0_1 x3_1).f1) ((rd_T25 l0_1 x3_1).f2) ((rd_T25 l0_1 x3_1).f3) ((rd_T25 l0_1 x3_1).f4) ((rd_T25 l0_1 x3_1).f5) true _ A13.out).mono ?_
           rintro e w28 ⟨rfl, hb⟩
           refine ⟨_, rfl, ?_⟩
           replace BK197 := Aside0.mk (blk_below (g := gb197) (o := .cells #[.int .i64 a0_0, .slice (some ad199) l0_1.length c0_1] 29 (0, 0)) (bk BK197.out) hb)
           replace HB := Aside0.mk (below_step bo hb)
           (try clear hb)
           (try clear hb2)
           (try clear hk)
           (try clear hi)
           refine hK.out _ _ ⟨(blk_cell BK197.out 0).trans rfl, (blk_cell BK197.out 1).trans rfl, ((HB.out.cell (World.block_lt_of_cell? w _ hw199_0)).trans hw199_0), ((HB.out.cell (World.block_lt_of_cell? w _ hw199_1)).trans hw199_1), ((HB.out.cell (World.block_lt_of_cell? w _ hw199_2)).trans hw199_2), ((HB.out.cell (World.block_lt_of_cell? w _ hw199_3)).trans hw199_3), ((HB.out.cell (World.block_lt_of_cell? w _ hw199_4)).trans hw199_4), ((HB.out.cell (World.block_lt_of_cell? w _ hw199_5)).trans hw199_5), ((HB.out.cell (World.block_lt_of_cell? w _ hw201_0)).trans hw201_0), ((HB.out.cell (World.block_lt_of_cell? w _ hw201_1)).trans hw201_1), ((HB.out.cell (World.block_lt_of_cell? w _ hw201_2)).trans hw201_2), ((HB.out.cell (World.block_lt_of_cell? w _ hw201_3)).trans hw201_3), ((HB.out.cell (World.block_lt_of_cell? w _ hw201_4)).trans hw201_4), ((HB.out.cell (World.block_lt_of_cell? w _ hw201_5)).trans hw201_5)⟩ (fun hHeld => ?_)
           clear hK K
           refine norm_ (a' := ?_) ?_ ?_
           rotate_left
           ·show Act.put _ (some 16) _ = _
            simp only [Act.put, List.setIfInBounds_toArray, List.set_cons_zero, List.set_cons_succ, i64_w, i32_w]
            rfl
           refine pz (i := 6) (N := some 17) #[I,I,I,I,I,I,I,O,O,O,O,O,O,O,O,O,O,O,O,O,O,O,O,O,O,O,O,O,O,O,O,O,O,O,O,O,O,O,O,O,O,O,O,O,O,O,O,O,O,O,O,O,O,O] ?_
           refine pz (i := 7) (N := some 18) #[I,I,I,I,I,I,I,I,O,O,O,O,O,O,O,O,O,O,O,O,O,O,O,O,O,O,O,O,O,O,O,O,O,O,O,O,O,O,O,O,O,O,O,O,O,O,O,O,O,O,O,O,O,O] ?_
           refine pz (i := 8) (N := some 19) #[I,I,I,I,I,I,I,I,I,O,O,O,O,O,O,O,O,O,O,O,O,O,O,O,O,O,O,O,O,O,O,O,O,O,O,O,O,O,O,O,O,O,O,O,O,O,O,O,O,O,O,O,O,O] ?_
           refine pz (i := 10) (N := some 21) #[I,I,I,I,I,I,I,I,I,O,I,O,O,O,O,O,O,O,O,O,O,O,O,O,O,O,O,O,O,O,O,O,O,O,O,O,O,O,O,O,O,O,O,O,O,O,O,O,O,O,O,O,O,O] ?_
           refine pz (i := 14) (N := some 25) #[I,I,I,I,I,I,I,I,I,O,I,O,O,O,I,O,O,O,O,O,O,O,O,O,O,O,O,O,O,O,O,O,O,O,O,O,O,O,O,O,O,O,O,O,O,O,O,O,O,O,O,O,O,O] ?_
           refine tz (i := 9) (N := some 20) #[I,I,I,I,I,I,I,I,I,I,I,O,O,O,I,O,O,O,O,O,O,O,O,O,O,O,O,O,O,O,O,O,O,O,O,O,O,O,O,O,O,O,O,O,O,O,O,O,O,O,O,O,O,O] ?_
           refine pz (i := 11) (N := some 22) #[I,I,I,I,I,I,I,I,I,I,I,I,O,O,I,O,O,O,O,O,O,O,O,O,O,O,O,O,O,O,O,O,O,O,O,O,O,O,O,O,O,O,O,O,O,O,O,O,O,O,O,O,O,O] ?_
           refine pz (i := 12) (N := some 23) #[I,I,I,I,I,I,I,I,I,I,I,I,I,O,I,O,O,O,O,O,O,O,O,O,O,O,O,O,O,O,O,O,O,O,O,O,O,O,O,O,O,O,O,O,O,O,O,O,O,O,O,O,O,O] ?_
           refine tz (i := 13) (N := some 24) #[I,I,I,I,I,I,I,I,I,I,I,I,I,I,I,O,O,O,O,O,O,O,O,O,O,O,O,O,O,O,O,O,O,O,O,O,O,O,O,O,O,O,O,O,O,O,O,O,O,O,O,O,O,O] ?_
           refine tz (i := 15) (N := some 26) #[I,I,I,I,I,I,I,I,I,I,I,I,I,I,I,I,O,O,O,O,O,O,O,O,O,O,O,O,O,O,O,O,O,O,O,O,O,O,O,O,O,O,O,O,O,O,O,O,O,O,O,O,O,O] ?_
           refine pz (i := 16) (N := some 27) #[I,I,I,I,I,I,I,I,I,I,I,I,I,I,I,I,I,O,O,O,O,O,O,O,O,O,O,O,O,O,O,O,O,O,O,O,O,O,O,O,O,O,O,O,O,O,O,O,O,O,O,O,O,O] ?_
           refine pz (i := 17) (N := some 28) #[I,I,I,I,I,I,I,I,I,I,I,I,I,I,I,I,I,I,O,O,O,O,O,O,O,O,O,O,O,O,O,O,O,O,O,O,O,O,O,O,O,O,O,O,O,O,O,O,O,O,O,O,O,O] ?_
           refine pz (i := 18) (N := some 29) #[I,I,I,I,I,I,I,I,I,I,I,I,I,I,I,I,I,I,I,O,O,O,O,O,O,O,O,O,O,O,O,O,O,O,O,O,O,O,O,O,O,O,O,O,O,O,O,O,O,O,O,O,O,O] ?_
           refine pz (i := 19) (N := some 30) #[I,I,I,I,I,I,I,I,I,I,I,I,I,I,I,I,I,I,I,I,O,O,O,O,O,O,O,O,O,O,O,O,O,O,O,O,O,O,O,O,O,O,O,O,O,O,O,O,O,O,O,O,O,O] ?_
           refine pz (i := 20) (N := some 31) #[I,I,I,I,I,I,I,I,I,I,I,I,I,I,I,I,I,I,I,I,I,O,O,O,O,O,O,O,O,O,O,O,O,O,O,O,O,O,O,O,O,O,O,O,O,O,O,O,O,O,O,O,O,O] ?_
           refine pz (i := 21) (N := some 32) #[I,I,I,I,I,I,I,I,I,I,I,I,I,I,I,I,I,I,I,I,I,I,O,O,O,O,O,O,O,O,O,O,O,O,O,O,O,O,O,O,O,O,O,O,O,O,O,O,O,O,O,O,O,O] ?_
           refine pu (i := 22) (N := some 33) #[I,I,I,I,I,I,I,I,I,I,I,I,I,I,I,I,I,I,I,I,I,I,I,O,O,O,O,O,O,O,O,O,O,O,O,O,O,O,O,O,O,O,O,O,O,O,O,O,O,O,O,O,O,O] ?_
           refine pu (i := 23) (N := some 34) #[I,I,I,I,I,I,I,I,I,I,I,I,I,I,I,I,I,I,I,I,I,I,I,I,O,O,O,O,O,O,O,O,O,O,O,O,O,O,O,O,O,O,O,O,O,O,O,O,O,O,O,O,O,O] ?_
           refine pu (i := 24) (N := some 35) #[I,I,I,I,I,I,I,I,I,I,I,I,I,I,I,I,I,I,I,I,I,I,I,I,I,O,O,O,O,O,O,O,O,O,O,O,O,O,O,O,O,O,O,O,O,O,O,O,O,O,O,O,O,O] ?_
           refine pu (i := 25) (N := some 36) #[I,I,I,I,I,I,I,I,I,I,I,I,I,I,I,I,I,I,I,I,I,I,I,I,I,I,O,O,O,O,O,O,O,O,O,O,O,O,O,O,O,O,O,O,O,O,O,O,O,O,O,O,O,O] ?_
           refine pu (i := 26) (N := some 37) #[I,I,I,I,I,I,I,I,I,I,I,I,I,I,I,I,I,I,I,I,I,I,I,I,I,I,I,O,O,O,O,O,O,O,O,O,O,O,O,O,O,O,O,O,O,O,O,O,O,O,O,O,O,O] ?_
           refine pu (i := 27) (N := some 38) #[I,I,I,I,I,I,I,I,I,I,I,I,I,I,I,I,I,I,I,I,I,I,I,I,I,I,I,I,O,O,O,O,O,O,O,O,O,O,O,O,O,O,O,O,O,O,O,O,O,O,O,O,O,O] ?_
           refine pu (i := 28) (N := some 39) #[I,I,I,I,I,I,I,I,I,I,I,I,I,I,I,I,I,I,I,I,I,I,I,I,I,I,I,I,I,O,O,O,O,O,O,O,O,O,O,O,O,O,O,O,O,O,O,O,O,O,O,O,O,O] ?_
           refine pu (i := 29) (N := some 40) #[I,I,I,I,I,I,I,I,I,I,I,I,I,I,I,I,I,I,I,I,I,I,I,I,I,I,I,I,I,I,O,O,O,O,O,O,O,O,O,O,O,O,O,O,O,O,O,O,O,O,O,O,O,O] ?_
           refine pu (i := 30) (N := some 41) #[I,I,I,I,I,I,I,I,I,I,I,I,I,I,I,I,I,I,I,I,I,I,I,I,I,I,I,I,I,I,I,O,O,O,O,O,O,O,O,O,O,O,O,O,O,O,O,O,O,O,O,O,O,O] ?_
           refine pu (i := 31) (N := some 42) #[I,I,I,I,I,I,I,I,I,I,I,I,I,I,I,I,I,I,I,I,I,I,I,I,I,I,I,I,I,I,I,I,O,O,O,O,O,O,O,O,O,O,O,O,O,O,O,O,O,O,O,O,O,O] ?_
           refine pu (i := 32) (N := some 43) #[I,I,I,I,I,I,I,I,I,I,I,I,I,I,I,I,I,I,I,I,I,I,I,I,I,I,I,I,I,I,I,I,I,O,O,O,O,O,O,O,O,O,O,O,O,O,O,O,O,O,O,O,O,O] ?_
           refine pu (i := 33) (N := some 44) #[I,I,I,I,I,I,I,I,I,I,I,I,I,I,I,I,I,I,I,I,I,I,I,I,I,I,I,I,I,I,I,I,I,I,O,O,O,O,O,O,O,O,O,O,O,O,O,O,O,O,O,O,O,O] ?_
           refine pu (i := 34) (N := some 45) #[I,I,I,I,I,I,I,I,I,I,I,I,I,I,I,I,I,I,I,I,I,I,I,I,I,I,I,I,I,I,I,I,I,I,I,O,O,O,O,O,O,O,O,O,O,O,O,O,O,O,O,O,O,O] ?_
           refine pu (i := 35) (N := some 46) #[I,I,I,I,I,I,I,I,I,I,I,I,I,I,I,I,I,I,I,I,I,I,I,I,I,I,I,I,I,I,I,I,I,I,I,I,O,O,O,O,O,O,O,O,O,O,O,O,O,O,O,O,O,O] ?_
           refine pu (i := 36) (N := some 47) #[I,I,I,I,I,I,I,I,I,I,I,I,I,I,I,I,I,I,I,I,I,I,I,I,I,I,I,I,I,I,I,I,I,I,I,I,I,O,O,O,O,O,O,O,O,O,O,O,O,O,O,O,O,O] ?_
           refine pu (i := 37) (N := some 48) #[I,I,I,I,I,I,I,I,I,I,I,I,I,I,I,I,I,I,I,I,I,I,I,I,I,I,I,I,I,I,I,I,I,I,I,I,I,I,O,O,O,O,O,O,O,O,O,O,O,O,O,O,O,O] ?_
           refine pu (i := 38) (N := some 49) #[I,I,I,I,I,I,I,I,I,I,I,I,I,I,I,I,I,I,I,I,I,I,I,I,I,I,I,I,I,I,I,I,I,I,I,I,I,I,I,O,O,O,O,O,O,O,O,O,O,O,O,O,O,O] ?_
           refine pu (i := 39) (N := some 50) #[I,I,I,I,I,I,I,I,I,I,I,I,I,I,I,I,I,I,I,I,I,I,I,I,I,I,I,I,I,I,I,I,I,I,I,I,I,I,I,I,O,O,O,O,O,O,O,O,O,O,O,O,O,O] ?_
           refine pu (i := 40) (N := some 51) #[I,I,I,I,I,I,I,I,I,I,I,I,I,I,I,I,I,I,I,I,I,I,I,I,I,I,I,I,I,I,I,I,I,I,I,I,I,I,I,I,I,O,O,O,O,O,O,O,O,O,O,O,O,O] ?_
           refine pu (i := 41) (N := some 52) #[I,I,I,I,I,I,I,I,I,I,I,I,I,I,I,I,I,I,I,I,I,I,I,I,I,I,I,I,I,I,I,I,I,I,I,I,I,I,I,I,I,I,O,O,O,O,O,O,O,O,O,O,O,O] ?_
           refine pu (i := 42) (N := some 53) #[I,I,I,I,I,I,I,I,I,I,I,I,I,I,I,I,I,I,I,I,I,I,I,I,I,I,I,I,I,I,I,I,I,I,I,I,I,I,I,I,I,I,I,O,O,O,O,O,O,O,O,O,O,O] ?_
           refine pu (i := 43) (N := some 54) #[I,I,I,I,I,I,I,I,I,I,I,I,I,I,I,I,I,I,I,I,I,I,I,I,I,I,I,I,I,I,I,I,I,I,I,I,I,I,I,I,I,I,I,I,O,O,O,O,O,O,O,O,O,O] ?_
           refine pu (i := 44) (N := some 55) #[I,I,I,I,I,I,I,I,I,I,I,I,I,I,I,I,I,I,I,I,I,I,I,I,I,I,I,I,I,I,I,I,I,I,I,I,I,I,I,I,I,I,I,I,I,O,O,O,O,O,O,O,O,O] ?_
           refine pu (i := 45) (N := some 56) #[I,I,I,I,I,I,I,I,I,I,I,I,I,I,I,I,I,I,I,I,I,I,I,I,I,I,I,I,I,I,I,I,I,I,I,I,I,I,I,I,I,I,I,I,I,I,O,O,O,O,O,O,O,O] ?_
           refine pu (i := 46) (N := some 57) #[I,I,I,I,I,I,I,I,I,I,I,I,I,I,I,I,I,I,I,I,I,I,I,I,I,I,I,I,I,I,I,I,I,I,I,I,I,I,I,I,I,I,I,I,I,I,I,O,O,O,O,O,O,O] ?_
           refine pu (i := 47) (N := some 58) #[I,I,I,I,I,I,I,I,I,I,I,I,I,I,I,I,I,I,I,I,I,I,I,I,I,I,I,I,I,I,I,I,I,I,I,I,I,I,I,I,I,I,I,I,I,I,I,I,O,O,O,O,O,O] ?_
           refine pu (i := 48) (N := some 59) #[I,I,I,I,I,I,I,I,I,I,I,I,I,I,I,I,I,I,I,I,I,I,I,I,I,I,I,I,I,I,I,I,I,I,I,I,I,I,I,I,I,I,I,I,I,I,I,I,I,O,O,O,O,O] ?_
           refine pu (i := 49) (N := some 60) #[I,I,I,I,I,I,I,I,I,I,I,I,I,I,I,I,I,I,I,I,I,I,I,I,I,I,I,I,I,I,I,I,I,I,I,I,I,I,I,I,I,I,I,I,I,I,I,I,I,I,O,O,O,O] ?_
           refine pu (i := 50) (N := some 61) #[I,I,I,I,I,I,I,I,I,I,I,I,I,I,I,I,I,I,I,I,I,I,I,I,I,I,I,I,I,I,I,I,I,I,I,I,I,I,I,I,I,I,I,I,I,I,I,I,I,I,I,O,O,O] ?_
           refine pu (i := 51) (N := some 62) #[I,I,I,I,I,I,I,I,I,I,I,I,I,I,I,I,I,I,I,I,I,I,I,I,I,I,I,I,I,I,I,I,I,I,I,I,I,I,I,I,I,I,I,I,I,I,I,I,I,I,I,I,O,O] ?_
           refine pz (i := 52) (N := some 63) #[I,I,I,I,I,I,I,I,I,I,I,I,I,I,I,I,I,I,I,I,I,I,I,I,I,I,I,I,I,I,I,I,I,I,I,I,I,I,I,I,I,I,I,I,I,I,I,I,I,I,I,I,I,O] ?_
           refine pz (i := 53) (N := some 64) #[I,I,I,I,I,I,I,I,I,I,I,I,I,I,I,I,I,I,I,I,I,I,I,I,I,I,I,I,I,I,I,I,I,I,I,I,I,I,I,I,I,I,I,I,I,I,I,I,I,I,I,I,I,I] ?_
           refine done_ (done_of HT_.out (by kernel_rfl)) ?_
           try go_wp2
           go_meet
           case rel => exact ⟨_, (false), ap, H', ⟨by have := HK1.out; have := HJ2.out; first | omega | exact Nat.le_refl _⟩, ⟨by (with_reducible repeat (first | refine blk_drewN ?_ _ | refine blk_drew ?_ | refine blk_alloc ?_ _)); exact BK197.out⟩, ⟨bo⟩⟩
        ·replace c14 := Bool.eq_false_iff.mpr c14
         subst c14
         have H1 : (fairwayref10_Seg.j2 kj2 x3_1 true a0_0 l0_1) = some r := by rw [if_neg (show ¬ (false = true) by decide)] at H; exact H
         clear H
         have H := H1
         clear H1
         have H' := Aside0.mk H
         clear H
         try go_wp2
         replace BK197 := Aside0.mk (blk_drew BK197.out)
         replace HB := Aside0.mk (below_drew1 HB.out)
         have p199 : 0 ≤ (x3_1 : Int) := od
         have q199 : x3_1 < (l0_1.length : Int) := od
         obtain ⟨ad199, e199, hx199_0, hx199_1, hx199_2, hx199_3, hx199_4, hx199_5⟩ := at_T25 HR0_1.out x3_1 p199 q199
         have hw199_5 := hx199_5
         have hw199_4 := hx199_4
         have hw199_3 := hx199_3
         have hw199_2 := hx199_2
         have hw199_1 := hx199_1
         have hw199_0 := hx199_0
         cases e199
         replace hx199_0 := cx HB.out hx199_0
         replace hx199_1 := cx HB.out hx199_1
         replace hx199_2 := cx HB.out hx199_2
         replace hx199_3 := cx HB.out hx199_3
         replace hx199_4 := cx HB.out hx199_4
         replace hx199_5 := cx HB.out hx199_5
         replace p199 := eq_true p199
         replace q199 := eq_true q199
         refine start_ (n := 54) (S := fun w' => w'.cell? ⟨gb197, 0, none⟩ = some (.int .i64 a0_0) ∧ w'.cell? ⟨gb197, 1, none⟩ = some (.slice (some ad199) l0_1.length c0_1) ∧ w'.cell? (ad199.add ((x3_1).toNat * 6)) = some (.int .i64 ((rd_T25 l0_1 x3_1).f0)) ∧ w'.cell? ⟨(ad199.add ((x3_1).toNat * 6)).block, (ad199.add ((x3_1).toNat * 6)).off + 1, none⟩ = some (.int .i64 ((rd_T25 l0_1 x3_1).f1)) ∧ w'.cell? ⟨(ad199.add ((x3_1).toNat * 6)).block, (ad199.add ((x3_1).toNat * 6)).off + 2, none⟩ = some (.string ((rd_T25 l0_1 x3_1).f2)) ∧ w'.cell? ⟨(ad199.add ((x3_1).toNat * 6)).block, (ad199.add ((x3_1).toNat * 6)).off + 3, none⟩ = some (.string ((rd_T25 l0_1 x3_1).f3)) ∧ w'.cell? ⟨(ad199.add ((x3_1).toNat * 6)).block, (ad199.add ((x3_1).toNat * 6)).off + 4, none⟩ = some (.int .i64 ((rd_T25 l0_1 x3_1).f4)) ∧ w'.cell? ⟨(ad199.add ((x3_1).toNat * 6)).block, (ad199.add ((x3_1).toNat * 6)).off + 5, none⟩ = some (.bool ((rd_T25 l0_1 x3_1).f5))) (ds := []) #[O,O,O,O,O,O,O,O,O,O,O,O,O,O,O,O,O,O,O,O,O,O,O,O,O,O,O,O,O,O,O,O,O,O,O,O,O,O,O,O,O,O,O,O,O,O,O,O,O,O,O,O,O,O] (by kernel_rfl) rfl rfl ⟨(blk_cell BK197.out 0).trans rfl, (blk_cell BK197.out 1).trans rfl, ((HB.out.cell (World.block_lt_of_cell? w _ hw199_0)).trans hw199_0), ((HB.out.cell (World.block_lt_of_cell? w _ hw199_1)).trans hw199_1), ((HB.out.cell (World.block_lt_of_cell? w _ hw199_2)).trans hw199_2), ((HB.out.cell (World.block_lt_of_cell? w _ hw199_3)).trans hw199_3), ((HB.out.cell (World.block_lt_of_cell? w _ hw199_4)).trans hw199_4), ((HB.out.cell (World.block_lt_of_cell? w _ hw199_5)).trans hw199_5)⟩ (fun hHeld => ?_); refine with_tabW fairwayref10_Seg.tab4 fairwayref10_Seg.bits4 (fun HT_ HW_ => ?_)
         generalize wc.drew = w29 at BK197 HB hx199_0 hx199_1 hx199_2 hx199_3 hx199_4 hx199_5 hHeld ⊢
         refine pz (i := 0) (N := some 11) #[I,O,O,O,O,O,O,O,O,O,O,O,O,O,O,O,O,O,O,O,O,O,O,O,O,O,O,O,O,O,O,O,O,O,O,O,O,O,O,O,O,O,O,O,O,O,O,O,O,O,O,O,O,O] ?_
         refine pz (i := 2) (N := some 13) #[I,O,I,O,O,O,O,O,O,O,O,O,O,O,O,O,O,O,O,O,O,O,O,O,O,O,O,O,O,O,O,O,O,O,O,O,O,O,O,O,O,O,O,O,O,O,O,O,O,O,O,O,O,O] ?_
         refine tz (i := 1) (N := some 12) #[I,I,I,O,O,O,O,O,O,O,O,O,O,O,O,O,O,O,O,O,O,O,O,O,O,O,O,O,O,O,O,O,O,O,O,O,O,O,O,O,O,O,O,O,O,O,O,O,O,O,O,O,O,O] ?_
         refine pz (i := 3) (N := some 14) #[I,I,I,I,O,O,O,O,O,O,O,O,O,O,O,O,O,O,O,O,O,O,O,O,O,O,O,O,O,O,O,O,O,O,O,O,O,O,O,O,O,O,O,O,O,O,O,O,O,O,O,O,O,O] ?_
         refine tz (i := 4) (N := some 15) #[I,I,I,I,I,O,O,O,O,O,O,O,O,O,O,O,O,O,O,O,O,O,O,O,O,O,O,O,O,O,O,O,O,O,O,O,O,O,O,O,O,O,O,O,O,O,O,O,O,O,O,O,O,O] ?_
         refine one_ (i := 5) (N := some 16) #[I,I,I,I,I,I,O,O,O,O,O,O,O,O,O,O,O,O,O,O,O,O,O,O,O,O,O,O,O,O,O,O,O,O,O,O,O,O,O,O,O,O,O,O,O,O,O,O,O,O,O,O,O,O] rfl rfl (one_of HT_.out (by kernel_rfl)) (by decide) (fun K hK => ?_)
         refine goes_ Try.func26 (by kernel_rfl) rfl #[.agg #[.int .i64 ((rd_T25 l0_1 x3_1).f0), .int .i64 ((rd_T25 l0_1 x3_1).f1), .string ((rd_T25 l0_1 x3_1).f2), .string ((rd_T25 l0_1 x3_1).f3), .int .i64 ((rd_T25 l0_1 x3_1).f4), .bool ((rd_T25 l0_1 x3_1).f5)]] (by rfl) rfl rfl aa ?_
         with_reducible refine (fairwayref10_Rec.calls ((rd_T25 l0_1 x3_1).f0) ((rd_T25 l0_1 x3_1).f1) ((rd_T25 l0_1 x3_1).f2) ((rd_T25 l0_1 x3_1).f3) ((rd_T25 l0_1 x3_1).f4) ((rd_T25 l0_1 x3_1).f5) false _ A13.out).mono ?_
         rintro e w30 ⟨rfl, hb⟩
         refine ⟨_, rfl, ?_⟩
         replace BK197 := Aside0.mk (blk_below (g := gb197) (o := .cells #[.int .i64 a0_0, .slice (some ad199) l0_1.length c0_1] 29 (0, 0)) (bk BK197.out) hb)
         replace HB := Aside0.mk (below_step bo hb)
         (try clear hb)
         (try clear hb2)
         (try clear hk)
         (try clear hi)
         refine hK.out _ _ ⟨(blk_cell BK197.out 0).trans rfl, (blk_cell BK197.out 1).trans rfl, ((HB.out.cell (World.block_lt_of_cell? w _ hw199_0)).trans hw199_0), ((HB.out.cell (World.block_lt_of_cell? w _ hw199_1)).trans hw199_1), ((HB.out.cell (World.block_lt_of_cell? w _ hw199_2)).trans hw199_2), ((HB.out.cell (World.block_lt_of_cell? w _ hw199_3)).trans hw199_3), ((HB.out.cell (World.block_lt_of_cell? w _ hw199_4)).trans hw199_4), ((HB.out.cell (World.block_lt_of_cell? w _ hw199_5)).trans hw199_5)⟩ (fun hHeld => ?_)
         clear hK K
         refine norm_ (a' := ?_) ?_ ?_
         rotate_left
         ·show Act.put _ (some 16) _ = _
          simp only [Act.put, List.setIfInBounds_toArray, List.set_cons_zero, List.set_cons_succ, i64_w, i32_w]
          rfl
         refine pz (i := 6) (N := some 17) #[I,I,I,I,I,I,I,O,O,O,O,O,O,O,O,O,O,O,O,O,O,O,O,O,O,O,O,O,O,O,O,O,O,O,O,O,O,O,O,O,O,O,O,O,O,O,O,O,O,O,O,O,O,O] ?_
         refine pz (i := 7) (N := some 18) #[I,I,I,I,I,I,I,I,O,O,O,O,O,O,O,O,O,O,O,O,O,O,O,O,O,O,O,O,O,O,O,O,O,O,O,O,O,O,O,O,O,O,O,O,O,O,O,O,O,O,O,O,O,O] ?_
         refine pu (i := 8) (N := some 19) #[I,I,I,I,I,I,I,I,I,O,O,O,O,O,O,O,O,O,O,O,O,O,O,O,O,O,O,O,O,O,O,O,O,O,O,O,O,O,O,O,O,O,O,O,O,O,O,O,O,O,O,O,O,O] ?_
         refine pu (i := 9) (N := some 20) #[I,I,I,I,I,I,I,I,I,I,O,O,O,O,O,O,O,O,O,O,O,O,O,O,O,O,O,O,O,O,O,O,O,O,O,O,O,O,O,O,O,O,O,O,O,O,O,O,O,O,O,O,O,O] ?_
         refine pu (i := 10) (N := some 21) #[I,I,I,I,I,I,I,I,I,I,I,O,O,O,O,O,O,O,O,O,O,O,O,O,O,O,O,O,O,O,O,O,O,O,O,O,O,O,O,O,O,O,O,O,O,O,O,O,O,O,O,O,O,O] ?_
         refine pu (i := 11) (N := some 22) #[I,I,I,I,I,I,I,I,I,I,I,I,O,O,O,O,O,O,O,O,O,O,O,O,O,O,O,O,O,O,O,O,O,O,O,O,O,O,O,O,O,O,O,O,O,O,O,O,O,O,O,O,O,O] ?_
         refine pu (i := 12) (N := some 23) #[I,I,I,I,I,I,I,I,I,I,I,I,I,O,O,O,O,O,O,O,O,O,O,O,O,O,O,O,O,O,O,O,O,O,O,O,O,O,O,O,O,O,O,O,O,O,O,O,O,O,O,O,O,O] ?_
         refine pu (i := 13) (N := some 24) #[I,I,I,I,I,I,I,I,I,I,I,I,I,I,O,O,O,O,O,O,O,O,O,O,O,O,O,O,O,O,O,O,O,O,O,O,O,O,O,O,O,O,O,O,O,O,O,O,O,O,O,O,O,O] ?_
         refine pu (i := 14) (N := some 25) #[I,I,I,I,I,I,I,I,I,I,I,I,I,I,I,O,O,O,O,O,O,O,O,O,O,O,O,O,O,O,O,O,O,O,O,O,O,O,O,O,O,O,O,O,O,O,O,O,O,O,O,O,O,O] ?_
         refine pu (i := 15) (N := some 26) #[I,I,I,I,I,I,I,I,I,I,I,I,I,I,I,I,O,O,O,O,O,O,O,O,O,O,O,O,O,O,O,O,O,O,O,O,O,O,O,O,O,O,O,O,O,O,O,O,O,O,O,O,O,O] ?_
         refine pu (i := 16) (N := some 27) #[I,I,I,I,I,I,I,I,I,I,I,I,I,I,I,I,I,O,O,O,O,O,O,O,O,O,O,O,O,O,O,O,O,O,O,O,O,O,O,O,O,O,O,O,O,O,O,O,O,O,O,O,O,O] ?_
         refine pz (i := 17) (N := some 28) #[I,I,I,I,I,I,I,I,I,I,I,I,I,I,I,I,I,I,O,O,O,O,O,O,O,O,O,O,O,O,O,O,O,O,O,O,O,O,O,O,O,O,O,O,O,O,O,O,O,O,O,O,O,O] ?_
         refine pz (i := 18) (N := some 29) #[I,I,I,I,I,I,I,I,I,I,I,I,I,I,I,I,I,I,I,O,O,O,O,O,O,O,O,O,O,O,O,O,O,O,O,O,O,O,O,O,O,O,O,O,O,O,O,O,O,O,O,O,O,O] ?_
         refine pu (i := 19) (N := some 30) #[I,I,I,I,I,I,I,I,I,I,I,I,I,I,I,I,I,I,I,I,O,O,O,O,O,O,O,O,O,O,O,O,O,O,O,O,O,O,O,O,O,O,O,O,O,O,O,O,O,O,O,O,O,O] ?_
         refine pu (i := 20) (N := some 31) #[I,I,I,I,I,I,I,I,I,I,I,I,I,I,I,I,I,I,I,I,I,O,O,O,O,O,O,O,O,O,O,O,O,O,O,O,O,O,O,O,O,O,O,O,O,O,O,O,O,O,O,O,O,O] ?_
         refine pu (i := 21) (N := some 32) #[I,I,I,I,I,I,I,I,I,I,I,I,I,I,I,I,I,I,I,I,I,I,O,O,O,O,O,O,O,O,O,O,O,O,O,O,O,O,O,O,O,O,O,O,O,O,O,O,O,O,O,O,O,O] ?_
         refine pu (i := 22) (N := some 33) #[I,I,I,I,I,I,I,I,I,I,I,I,I,I,I,I,I,I,I,I,I,I,I,O,O,O,O,O,O,O,O,O,O,O,O,O,O,O,O,O,O,O,O,O,O,O,O,O,O,O,O,O,O,O] ?_
         refine pu (i := 23) (N := some 34) #[I,I,I,I,I,I,I,I,I,I,I,I,I,I,I,I,I,I,I,I,I,I,I,I,O,O,O,O,O,O,O,O,O,O,O,O,O,O,O,O,O,O,O,O,O,O,O,O,O,O,O,O,O,O] ?_
         refine pu (i := 24) (N := some 35) #[I,I,I,I,I,I,I,I,I,I,I,I,I,I,I,I,I,I,I,I,I,I,I,I,I,O,O,O,O,O,O,O,O,O,O,O,O,O,O,O,O,O,O,O,O,O,O,O,O,O,O,O,O,O] ?_
         refine pu (i := 25) (N := some 36) #[I,I,I,I,I,I,I,I,I,I,I,I,I,I,I,I,I,I,I,I,I,I,I,I,I,I,O,O,O,O,O,O,O,O,O,O,O,O,O,O,O,O,O,O,O,O,O,O,O,O,O,O,O,O] ?_
         refine pu (i := 26) (N := some 37) #[I,I,I,I,I,I,I,I,I,I,I,I,I,I,I,I,I,I,I,I,I,I,I,I,I,I,I,O,O,O,O,O,O,O,O,O,O,O,O,O,O,O,O,O,O,O,O,O,O,O,O,O,O,O] ?_
         refine pu (i := 27) (N := some 38) #[I,I,I,I,I,I,I,I,I,I,I,I,I,I,I,I,I,I,I,I,I,I,I,I,I,I,I,I,O,O,O,O,O,O,O,O,O,O,O,O,O,O,O,O,O,O,O,O,O,O,O,O,O,O] ?_
         refine pu (i := 28) (N := some 39) #[I,I,I,I,I,I,I,I,I,I,I,I,I,I,I,I,I,I,I,I,I,I,I,I,I,I,I,I,I,O,O,O,O,O,O,O,O,O,O,O,O,O,O,O,O,O,O,O,O,O,O,O,O,O] ?_
         refine pu (i := 29) (N := some 40) #[I,I,I,I,I,I,I,I,I,I,I,I,I,I,I,I,I,I,I,I,I,I,I,I,I,I,I,I,I,I,O,O,O,O,O,O,O,O,O,O,O,O,O,O,O,O,O,O,O,O,O,O,O,O] ?_
         refine pu (i := 30) (N := some 41) #[I,I,I,I,I,I,I,I,I,I,I,I,I,I,I,I,I,I,I,I,I,I,I,I,I,I,I,I,I,I,I,O,O,O,O,O,O,O,O,O,O,O,O,O,O,O,O,O,O,O,O,O,O,O] ?_
         refine pu (i := 31) (N := some 42) #[I,I,I,I,I,I,I,I,I,I,I,I,I,I,I,I,I,I,I,I,I,I,I,I,I,I,I,I,I,I,I,I,O,O,O,O,O,O,O,O,O,O,O,O,O,O,O,O,O,O,O,O,O,O] ?_
         refine pu (i := 32) (N := some 43) #[I,I,I,I,I,I,I,I,I,I,I,I,I,I,I,I,I,I,I,I,I,I,I,I,I,I,I,I,I,I,I,I,I,O,O,O,O,O,O,O,O,O,O,O,O,O,O,O,O,O,O,O,O,O] ?_
         refine pu (i := 33) (N := some 44) #[I,I,I,I,I,I,I,I,I,I,I,I,I,I,I,I,I,I,I,I,I,I,I,I,I,I,I,I,I,I,I,I,I,I,O,O,O,O,O,O,O,O,O,O,O,O,O,O,O,O,O,O,O,O] ?_
         refine pu (i := 34) (N := some 45) #[I,I,I,I,I,I,I,I,I,I,I,I,I,I,I,I,I,I,I,I,I,I,I,I,I,I,I,I,I,I,I,I,I,I,I,O,O,O,O,O,O,O,O,O,O,O,O,O,O,O,O,O,O,O] ?_
         refine pu (i := 35) (N := some 46) #[I,I,I,I,I,I,I,I,I,I,I,I,I,I,I,I,I,I,I,I,I,I,I,I,I,I,I,I,I,I,I,I,I,I,I,I,O,O,O,O,O,O,O,O,O,O,O,O,O,O,O,O,O,O] ?_
         refine pu (i := 36) (N := some 47) #[I,I,I,I,I,I,I,I,I,I,I,I,I,I,I,I,I,I,I,I,I,I,I,I,I,I,I,I,I,I,I,I,I,I,I,I,I,O,O,O,O,O,O,O,O,O,O,O,O,O,O,O,O,O] ?_
         refine pu (i := 37) (N := some 48) #[I,I,I,I,I,I,I,I,I,I,I,I,I,I,I,I,I,I,I,I,I,I,I,I,I,I,I,I,I,I,I,I,I,I,I,I,I,I,O,O,O,O,O,O,O,O,O,O,O,O,O,O,O,O] ?_
         refine pu (i := 38) (N := some 49) #[I,I,I,I,I,I,I,I,I,I,I,I,I,I,I,I,I,I,I,I,I,I,I,I,I,I,I,I,I,I,I,I,I,I,I,I,I,I,I,O,O,O,O,O,O,O,O,O,O,O,O,O,O,O] ?_
         refine pu (i := 39) (N := some 50) #[I,I,I,I,I,I,I,I,I,I,I,I,I,I,I,I,I,I,I,I,I,I,I,I,I,I,I,I,I,I,I,I,I,I,I,I,I,I,I,I,O,O,O,O,O,O,O,O,O,O,O,O,O,O] ?_
         refine pu (i := 40) (N := some 51) #[I,I,I,I,I,I,I,I,I,I,I,I,I,I,I,I,I,I,I,I,I,I,I,I,I,I,I,I,I,I,I,I,I,I,I,I,I,I,I,I,I,O,O,O,O,O,O,O,O,O,O,O,O,O] ?_
         refine pu (i := 41) (N := some 52) #[I,I,I,I,I,I,I,I,I,I,I,I,I,I,I,I,I,I,I,I,I,I,I,I,I,I,I,I,I,I,I,I,I,I,I,I,I,I,I,I,I,I,O,O,O,O,O,O,O,O,O,O,O,O] ?_
         refine pu (i := 42) (N := some 53) #[I,I,I,I,I,I,I,I,I,I,I,I,I,I,I,I,I,I,I,I,I,I,I,I,I,I,I,I,I,I,I,I,I,I,I,I,I,I,I,I,I,I,I,O,O,O,O,O,O,O,O,O,O,O] ?_
         refine pu (i := 43) (N := some 54) #[I,I,I,I,I,I,I,I,I,I,I,I,I,I,I,I,I,I,I,I,I,I,I,I,I,I,I,I,I,I,I,I,I,I,I,I,I,I,I,I,I,I,I,I,O,O,O,O,O,O,O,O,O,O] ?_
         refine pu (i := 44) (N := some 55) #[I,I,I,I,I,I,I,I,I,I,I,I,I,I,I,I,I,I,I,I,I,I,I,I,I,I,I,I,I,I,I,I,I,I,I,I,I,I,I,I,I,I,I,I,I,O,O,O,O,O,O,O,O,O] ?_
         refine pu (i := 45) (N := some 56) #[I,I,I,I,I,I,I,I,I,I,I,I,I,I,I,I,I,I,I,I,I,I,I,I,I,I,I,I,I,I,I,I,I,I,I,I,I,I,I,I,I,I,I,I,I,I,O,O,O,O,O,O,O,O] ?_
         refine pu (i := 46) (N := some 57) #[I,I,I,I,I,I,I,I,I,I,I,I,I,I,I,I,I,I,I,I,I,I,I,I,I,I,I,I,I,I,I,I,I,I,I,I,I,I,I,I,I,I,I,I,I,I,I,O,O,O,O,O,O,O] ?_
         refine pu (i := 47) (N := some 58) #[I,I,I,I,I,I,I,I,I,I,I,I,I,I,I,I,I,I,I,I,I,I,I,I,I,I,I,I,I,I,I,I,I,I,I,I,I,I,I,I,I,I,I,I,I,I,I,I,O,O,O,O,O,O] ?_
         refine pu (i := 48) (N := some 59) #[I,I,I,I,I,I,I,I,I,I,I,I,I,I,I,I,I,I,I,I,I,I,I,I,I,I,I,I,I,I,I,I,I,I,I,I,I,I,I,I,I,I,I,I,I,I,I,I,I,O,O,O,O,O] ?_
         refine pu (i := 49) (N := some 60) #[I,I,I,I,I,I,I,I,I,I,I,I,I,I,I,I,I,I,I,I,I,I,I,I,I,I,I,I,I,I,I,I,I,I,I,I,I,I,I,I,I,I,I,I,I,I,I,I,I,I,O,O,O,O] ?_
         refine pu (i := 50) (N := some 61) #[I,I,I,I,I,I,I,I,I,I,I,I,I,I,I,I,I,I,I,I,I,I,I,I,I,I,I,I,I,I,I,I,I,I,I,I,I,I,I,I,I,I,I,I,I,I,I,I,I,I,I,O,O,O] ?_
         refine pu (i := 51) (N := some 62) #[I,I,I,I,I,I,I,I,I,I,I,I,I,I,I,I,I,I,I,I,I,I,I,I,I,I,I,I,I,I,I,I,I,I,I,I,I,I,I,I,I,I,I,I,I,I,I,I,I,I,I,I,O,O] ?_
         refine pu (i := 52) (N := some 63) #[I,I,I,I,I,I,I,I,I,I,I,I,I,I,I,I,I,I,I,I,I,I,I,I,I,I,I,I,I,I,I,I,I,I,I,I,I,I,I,I,I,I,I,I,I,I,I,I,I,I,I,I,I,O] ?_
         refine pz (i := 53) (N := some 64) #[I,I,I,I,I,I,I,I,I,I,I,I,I,I,I,I,I,I,I,I,I,I,I,I,I,I,I,I,I,I,I,I,I,I,I,I,I,I,I,I,I,I,I,I,I,I,I,I,I,I,I,I,I,I] ?_
         refine done_ (done_of HT_.out (by kernel_rfl)) ?_
         try go_wp2
         go_meet
         case rel => exact ⟨_, (true), ap, H', ⟨by have := HK1.out; have := HJ2.out; first | omega | exact Nat.le_refl _⟩, ⟨by (with_reducible repeat (first | refine blk_drewN ?_ _ | refine blk_drew ?_ | refine blk_alloc ?_ _)); exact BK197.out⟩, ⟨bo⟩⟩
       ·rw [if_neg c12] at H
        exact absurd H (by simp)
      ·rw [if_neg c11] at H
       exact absurd H (by simp)
     case rest =>
      clear HC10
      try clear c1
      try clear p1
      try clear q1
      try clear hx1
      try clear c2
      try clear p2
      try clear c11
      try clear c12
      try clear c14
      try clear p19
      try clear q19
      try clear hx19
      try clear c26
      try clear hx199_0
      try clear hx199_1
      try clear hx199_2
      try clear hx199_3
      try clear hx199_4
      try clear hx199_5
      try clear p199
      try clear q199
      obtain ⟨kq, x64_9, rfl, HA, HJ9, BK197, HB⟩ := hcut
      cases kq with
      | zero => exact absurd HA.out (by simp [fairwayref10_Seg.j2])
      | succ kj9 =>
       have H := HA.out
       clear HA
       simp only [fairwayref10_Seg.j2] at H
       by_cases c31 : x64_9 = true
       ·subst c31
        have H1 : (some false) = some r := by rw [if_pos rfl] at H; exact H
        clear H
        have H := H1
        clear H1
        obtain rfl := Option.some.inj H
        go_wp2
        go_ret
        exact ⟨er, bo⟩
       ·replace c31 := Bool.eq_false_iff.mpr c31
        subst c31
        have H1 : (fairwayref10_Seg.l0 kj9 (wrap64 (x3_1 + 1)) a0_0 l0_1) = some r := by rw [if_neg (show ¬ (false = true) by decide)] at H; exact H
        clear H
        have H := H1
        clear H1
        have H' := Aside0.mk H
        clear H
        go_wp2
        go_roundg kj9
        case measure => have := HK1.out; have := HJ2.out; have := HJ9.out; omega
        case rel => exact ⟨(wrap64 (x3_1 + 1)), ap, H', ⟨by have := HK1.out; have := HJ2.out; have := HJ9.out; omega⟩, ⟨by (with_reducible repeat (first | refine blk_drewN ?_ _ | refine blk_drew ?_ | refine blk_alloc ?_ _)); exact BK197.out⟩, ⟨bo⟩⟩

end Go.Proofs.Ytigmekgknhoidaa.P

-- written by a program of the proving session, out of the translation; Lean checks it
namespace Go.Proofs.Ytigmekgknhoidaa.P
open Go.RowKit Go.Proofs.Ytigmekgknhoidaa.Sq Go.Proofs.YtigmekgknhoidaaW.PrintWords Go.Proofs.YtigmekgknhoidaaW.PrintLast Go.Proofs.YtigmekgknhoidaaW.PrintMore
attribute [local go_sem] max2_int min2_int max_two min_two max_three min_three max_four min_four   -- for this text's walks alone
set_option linter.unusedVariables false
set_option linter.unusedSimpArgs false

/-! ### fairwayref13_Recs: function 45 -/
def fairwayref13_Recs.l0 : Nat → List (S29) → List (S25) → Int → Option ((List (S25)))
 | 0, _, _, _ => none
 | k + 1, x0, x3, x4 => if x4 < (x0.length : Int) then (if 0 ≤ x4 then (if x3.length + ((rd_T29 x0 x4).f1).length < 2199023255552 then (fairwayref13_Recs.l0 k x0 (x3 ++ ((rd_T29 x0 x4).f1)) (wrap64 (x4 + 1))) else (none)) else (none)) else (some x3)
def fairwayref13_Recs.f (k : Nat) (l0 : List (S29)) : Option ((List (S25))) := fairwayref13_Recs.l0 k l0 ([] : List (S25)) 0
theorem fairwayref13_Recs.mono_l : ∀ k, (∀ y0 y1 y2, LeO (fairwayref13_Recs.l0 k y0 y1 y2) (fairwayref13_Recs.l0 (k + 1) y0 y1 y2))
 | 0 => fun _ _ _ r h => by simp [fairwayref13_Recs.l0] at h
 | k + 1 => by
  have ih0 := fairwayref13_Recs.mono_l k
  ·intro y0 y1 y2
   unfold fairwayref13_Recs.l0
   repeat' first
   | (with_reducible exact ih0 _ _ _)
   | (with_reducible exact LeO.refl _)
   | (with_reducible exact LeO.none _)
   | (with_reducible refine LeO.ite ?_ ?_)
   | (with_reducible refine LeO.bind ?_ (fun _ => ?_))
   | exact ih0 _ _ _
   | exact LeO.none _
   | refine LeO.ite ?_ ?_
   | refine LeO.bind ?_ (fun _ => ?_)
theorem fairwayref13_Recs.mono : ∀ a0 k, LeO (fairwayref13_Recs.f k a0) (fairwayref13_Recs.f (k + 1) a0) := by
 intro a0 k
 have ih0 := fairwayref13_Recs.mono_l k
 unfold fairwayref13_Recs.f
 repeat' first
  | (with_reducible exact ih0 _ _ _)
  | (with_reducible exact LeO.refl _)
  | (with_reducible exact LeO.none _)
  | (with_reducible refine LeO.ite ?_ ?_)
  | (with_reducible refine LeO.bind ?_ (fun _ => ?_))
  | exact ih0 _ _ _
  | exact LeO.none _
  | refine LeO.ite ?_ ?_
  | refine LeO.bind ?_ (fun _ => ?_)
set_option maxHeartbeats 8000000 in
set_option maxRecDepth 100000 in
theorem fairwayref13_Recs.calls (k : Nat) (A0 : Option Addr) (c0 : Nat) (l0 : List (S29)) (r : List (S25)) (w : World) (hr0 : Kd.C k29 w A0 l0.length l0) (hc0 : l0.length ≤ c0) (h : fairwayref13_Recs.f k l0 = some r) :
 Calls Try.prog 45 #[.slice A0 l0.length c0] w fun e w' => ∃ v0_ : Value, e = .returned (v0_) ∧ Kd.R k25 25 w' w.heap.size (fun _ => True) v0_ r ∧ Below w.heap.size w w' := by
 have HR0 := Aside0.mk hr0
 have HC0 := Aside0.mk hc0
 clear hr0 hc0
 have HB := Aside0.mk (Below.refl w.heap.size w)
 have H : (fairwayref13_Recs.l0 k l0 ([] : List (S25)) 0) = some r := h
 clear h
 have H' := Aside0.mk H
 clear H
 go_enter Try.func45, Try.ntmps45
 go_wp2
 go_loopg [3, 4] k (fun kq v3 v4 w' => ∃ (x3_1 : List (S25)) (x4_1 : Int), v4 = .int .i64 x4_1 ∧ Aside0 (fairwayref13_Recs.l0 kq l0 x3_1 x4_1 = some r) ∧ Aside0 (kq ≤ k) ∧ Aside0 (Kd.R k25 25 w' w.heap.size (fun _ => True) v3 x3_1) ∧ Aside0 (Below w.heap.size w w'))
 case atStart => exact ⟨(([] : List (S25))), (0), ap, H', ⟨Nat.le_refl _⟩, ⟨by first | exact Kd.R_nil _ _ _ _ _ | exact Kd.N_nil _ _ _ _ _ | exact Kd.V_nil _ _ _ _ _ | exact Kd.Q_nil _ _ _ _ _ | exact Kd.S_nil _ _ _ _ _⟩, ⟨bo⟩⟩
 case round =>
  clear H'
  obtain ⟨x3_1, x4_1, rfl, HA, HK1, HO_3, HB⟩ := hrel
  cases gk with
  | zero => exact absurd HA.out (by simp [fairwayref13_Recs.l0])
  | succ k1 =>
   have H := HA.out
   clear HA
   simp only [fairwayref13_Recs.l0] at H
   by_cases c2 : x4_1 < (l0.length : Int)
   ·rw [if_pos c2] at H
    have c2b0 : decide (x4_1 < (l0.length : Int)) = true := decide_eq_true c2
    clear c2
    by_cases c3 : 0 ≤ x4_1
    ·rw [if_pos c3] at H
     have c3b0 : decide (0 ≤ x4_1) = true := decide_eq_true c3
     clear c3
     by_cases c4 : x3_1.length + ((rd_T29 l0 x4_1).f1).length < 2199023255552
     ·rw [if_pos c4] at H
      have LMc4 := Aside0.mk c4
      clear c4
      obtain ⟨y207, hy207⟩ : ∃ y_ : List (S25), y_ = (x3_1 ++ ((rd_T29 l0 x4_1).f1)) := ⟨_, rfl⟩
      replace H : (fairwayref13_Recs.l0 k1 l0 y207 (wrap64 (x4_1 + 1))) = some r := by first | (rw [hy207]; with_reducible exact H) | (have H2_ := (Option.bind_some _ _).symm.trans H; rw [hy207]; with_reducible exact H2_) | (have H2_ := (Option.bind_some _ _).symm.trans H; with_reducible exact H2_) | with_reducible exact H | (rw [hy207]; exact H) | exact H
      have Ny207 := Aside0.mk hy207
      clear hy207
      have H' := Aside0.mk H
      clear H
      have p206 : 0 ≤ (x4_1 : Int) := od
      have q206 : x4_1 < (l0.length : Int) := od
      obtain ⟨ad206, A206_1, c206_1, e206, hx206_0, hx206_1, hl206_1, hi206_1⟩ := at_T29 HR0.out x4_1 p206 q206
      cases e206
      replace hx206_0 := cx HB.out hx206_0
      replace hx206_1 := cx HB.out hx206_1
      have HR206_1 := Aside0.mk hi206_1
      have HC206_1 := Aside0.mk hl206_1
      clear hi206_1 hl206_1
      replace p206 := eq_true p206
      replace q206 := eq_true q206
      go_wp2_with (first | ((with_reducible refine gate_builtin (b := .append) (xs := #[.tmp 11, .tmp 16]) rfl ?_); at_builtin; refine Kd.R_append_rows k25 (w0 := w) w.heap.size rfl (.tmp 11) (.tmp 16) 27 25 (.agg #[(.int .i64 0), (.int .i64 0), (.string ⟨#[]⟩), (.string ⟨#[]⟩), (.int .i64 0), (.bool false)]) 64 rfl Try.underlying27 info25 rfl (by decide) (by omega) u3 x3_1 ((rd_T29 l0 x4_1).f1) _ _ _ (fun _ => True) (fun _ => False) rfl rfl ?aO ?aR (fun _ _ h => h) (fun _ h => h.elim) ?aF ?aB ?aS ?aL ?_; (case aR => repeat (first | exact (Kd.C_below HR206_1.out HB.out) | (with_reducible refine Kd.C_alloc ?_ _) | (with_reducible refine Kd.C_drewN ?_ _) | (with_reducible refine Kd.C_drew ?_))); (case aB => exact bo); (case aF => exact (fun _ _ => trivial)); (case aO => exact (rk HO_3.out)); (case aS => exact (below_size bo)); (case aL => have := LMc4.out; omega); intro v208 w5 ho hb hg hat; rw [← Ny207.out] at ho; have n0_ := Aside0.mk (hb); have n1_ := Aside0.mk (ho); clear HB; clear HO_3; have HB := n0_; have HO209 := n1_; clear n0_ n1_; clear ho hb hg hat))
      go_roundg k1
      case measure => have := HK1.out; omega
      case rel => exact ⟨(y207), (wrap64 (x4_1 + 1)), ap, H', ⟨by have := HK1.out; omega⟩, ⟨by (with_reducible repeat (first | apply Kd.R_alloc | apply Kd.R_drewN | apply Kd.R_drew)); exact HO209.out⟩, ⟨bo⟩⟩
     ·rw [if_neg c4] at H
      exact absurd H (by simp)
    ·rw [if_neg c3] at H
     exact absurd H (by simp)
   ·rw [if_neg c2] at H
    have c2b0 : decide (x4_1 < (l0.length : Int)) = false := decide_eq_false c2
    clear c2
    obtain rfl := Option.some.inj H
    go_wp2
    go_ret
    exact ⟨_, er, by (with_reducible repeat (first | apply Kd.R_alloc | apply Kd.R_drewN | apply Kd.R_drew)); exact HO_3.out, bo⟩

end Go.Proofs.Ytigmekgknhoidaa.P

-- written by a program of the proving session, out of the translation; Lean checks it
namespace Go.Proofs.Ytigmekgknhoidaa.P
open Go.RowKit Go.Proofs.Ytigmekgknhoidaa.Sq Go.Proofs.YtigmekgknhoidaaW.PrintWords Go.Proofs.YtigmekgknhoidaaW.PrintLast Go.Proofs.YtigmekgknhoidaaW.PrintMore
attribute [local go_sem] max2_int min2_int max_two min_two max_three min_three max_four min_four   -- for this text's walks alone
set_option linter.unusedVariables false
set_option linter.unusedSimpArgs false

/-! ### fairwayref13_Row: function 14 -/
mutual
def fairwayref13_Row.l0 : Nat → List (S29) → Int → Option (Bool)
 | 0, _, _ => none
 | k + 1, x0, x3 => if x3 < (x0.length : Int) then (if 0 ≤ x3 then ((fairwayref10_Seg.f k ((rd_T29 x0 x3).f0) ((rd_T29 x0 x3).f1)).bind fun t214 => (if t214 = true then (if x3 > 0 then (if 0 ≤ (wrap64 (x3 - 1)) then (if (wrap64 (x3 - 1)) < (x0.length : Int) then (fairwayref13_Row.j1 k x0 x3 (decide (((rd_T29 x0 (wrap64 (x3 - 1))).f0) > ((rd_T29 x0 x3).f0)))) else (none)) else (none)) else (fairwayref13_Row.j1 k x0 x3 false)) else (fairwayref13_Row.j1 k x0 x3 true))) else (none)) else ((fairwayref13_Recs.f k x0).bind fun t210 => (if (t210.length : Int) ≤ 200 then (some (decide ((x0.length : Int) ≤ 201))) else (some false)))
def fairwayref13_Row.j1 : Nat → List (S29) → Int → Bool → Option (Bool)
 | 0, _, _, _ => none
 | k + 1, x0, x3, x38 => if x38 = true then (some false) else (if 0 ≤ x3 then (if x3 ≤ (x0.length : Int) then ((fairwayref13_Recs.f k (x0.take (x3 : Int).toNat)).bind fun t221 => (if (t221.length : Int) > 0 then (if 0 ≤ (wrap64 ((t221.length : Int) - 1)) then (if (wrap64 ((t221.length : Int) - 1)) < (t221.length : Int) then (if x3 < (x0.length : Int) then (if ((rd_T25 t221 (wrap64 ((t221.length : Int) - 1))).f0) ≥ ((rd_T29 x0 x3).f0) then (some false) else (if (((rd_T29 x0 x3).f1).length : Int) > 0 then (if 0 < (((rd_T29 x0 x3).f1).length : Int) then (if ((rd_T25 t221 (wrap64 ((t221.length : Int) - 1))).f1) > ((rd_T25 ((rd_T29 x0 x3).f1) 0).f1) then (some false) else (fairwayref13_Row.l0 k x0 (wrap64 (x3 + 1)))) else (none)) else (fairwayref13_Row.l0 k x0 (wrap64 (x3 + 1))))) else (none)) else (none)) else (none)) else (fairwayref13_Row.l0 k x0 (wrap64 (x3 + 1))))) else (none)) else (none))
end
def fairwayref13_Row.f (k : Nat) (l0 : List (S29)) : Option (Bool) := if (l0.length : Int) = 0 then (some false) else (fairwayref13_Row.l0 k l0 0)
theorem fairwayref13_Row.mono_l : ∀ k, (∀ y0 y1, LeO (fairwayref13_Row.l0 k y0 y1) (fairwayref13_Row.l0 (k + 1) y0 y1)) ∧ (∀ y0 y1 y2, LeO (fairwayref13_Row.j1 k y0 y1 y2) (fairwayref13_Row.j1 (k + 1) y0 y1 y2))
 | 0 => ⟨fun _ _ r h => by simp [fairwayref13_Row.l0] at h, fun _ _ _ r h => by simp [fairwayref13_Row.j1] at h⟩
 | k + 1 => by
  obtain ⟨ih0, ih1⟩ := fairwayref13_Row.mono_l k
  refine ⟨?_, ?_⟩
  ·intro y0 y1
   unfold fairwayref13_Row.l0
   repeat' first
   | (with_reducible exact ih0 _ _)
   | (with_reducible exact ih1 _ _ _)
   | (with_reducible exact fairwayref10_Seg.mono _ _ _)
   | (with_reducible exact fairwayref13_Recs.mono _ _)
   | (with_reducible exact LeO.refl _)
   | (with_reducible exact LeO.none _)
   | (with_reducible refine LeO.ite ?_ ?_)
   | (with_reducible refine LeO.bind ?_ (fun _ => ?_))
   | exact ih0 _ _
   | exact ih1 _ _ _
   | exact fairwayref10_Seg.mono _ _ _
   | exact fairwayref13_Recs.mono _ _
   | exact LeO.none _
   | refine LeO.ite ?_ ?_
   | refine LeO.bind ?_ (fun _ => ?_)
  ·intro y0 y1 y2
   unfold fairwayref13_Row.j1
   repeat' first
   | (with_reducible exact ih0 _ _)
   | (with_reducible exact ih1 _ _ _)
   | (with_reducible exact fairwayref10_Seg.mono _ _ _)
   | (with_reducible exact fairwayref13_Recs.mono _ _)
   | (with_reducible exact LeO.refl _)
   | (with_reducible exact LeO.none _)
   | (with_reducible refine LeO.ite ?_ ?_)
   | (with_reducible refine LeO.bind ?_ (fun _ => ?_))
   | exact ih0 _ _
   | exact ih1 _ _ _
   | exact fairwayref10_Seg.mono _ _ _
   | exact fairwayref13_Recs.mono _ _
   | exact LeO.none _
   | refine LeO.ite ?_ ?_
   | refine LeO.bind ?_ (fun _ => ?_)
theorem fairwayref13_Row.mono : ∀ a0 k, LeO (fairwayref13_Row.f k a0) (fairwayref13_Row.f (k + 1) a0) := by
 intro a0 k
 obtain ⟨ih0, ih1⟩ := fairwayref13_Row.mono_l k
 unfold fairwayref13_Row.f
 repeat' first
  | (with_reducible exact ih0 _ _)
  | (with_reducible exact ih1 _ _ _)
  | (with_reducible exact fairwayref10_Seg.mono _ _ _)
  | (with_reducible exact fairwayref13_Recs.mono _ _)
  | (with_reducible exact LeO.refl _)
  | (with_reducible exact LeO.none _)
  | (with_reducible refine LeO.ite ?_ ?_)
  | (with_reducible refine LeO.bind ?_ (fun _ => ?_))
  | exact ih0 _ _
  | exact ih1 _ _ _
  | exact fairwayref10_Seg.mono _ _ _
  | exact fairwayref13_Recs.mono _ _
  | exact LeO.none _
  | refine LeO.ite ?_ ?_
  | refine LeO.bind ?_ (fun _ => ?_)
def fairwayref13_Row.T6 : Bool × List (List Nat × List Nat) := (true, [([], []), ([], []), ([0, 1], [0, 1]), ([2], [2]), ([3], [3]), ([4], [4]), ([5, 4], [5]), ([6], [6]), ([7, 6], [6, 7]), ([8, 6, 6], [6, 8]), ([9], [9]), ([9], [9]), ([11, 9], [9, 11]), ([10, 12, 9], [9, 10, 12]), ([13, 9], [9, 13]), ([14, 9], [9, 14]), ([9], [9]), ([9], [9]), ([16, 17, 9], [9, 16, 17]), ([18, 9], [9, 18]), ([19, 9], [9, 19]), ([15, 20, 9], [9, 15, 20]), ([9, 21, 6], [6, 9, 21]), ([6, 22], [6, 22])])
def fairwayref13_Row.B6 : List Nat := [0, 0, 3, 7, 15, 31, 63, 127, 255, 511, 1023, 1023, 3071, 8191, 16383, 32767, 1023, 1023, 197631, 459775, 984063, 2097151, 4194303, 8388607]
theorem fairwayref13_Row.tab6 : rtab .any (opsOf Try.f14 6) = fairwayref13_Row.T6 := by kernel_rfl
theorem fairwayref13_Row.bits6 : waitsOk fairwayref13_Row.T6.2 fairwayref13_Row.B6 = true := by kernel_rfl
def fairwayref13_Row.T11 : Bool × List (List Nat × List Nat) := (true, [([], []), ([0], [0]), ([], []), ([], []), ([2, 3], [2, 3]), ([4], [4]), ([5], [5]), ([1, 6], [1, 6]), ([7], [7]), ([8], [8]), ([8], [8]), ([9, 10, 8], [8, 9, 10]), ([11, 8], [8, 11]), ([12, 8], [8, 12]), ([13, 8], [8, 13]), ([14, 8], [8, 14]), ([15, 8, 8], [8, 15]), ([16], [16]), ([17, 16], [16, 17]), ([16], [16]), ([16], [16]), ([19, 20, 16], [16, 19, 20]), ([21, 16], [16, 21]), ([22, 16], [16, 22]), ([23, 16], [16, 23]), ([24, 16], [16, 24]), ([25, 16], [16, 25]), ([18, 26, 16], [16, 18, 26]), ([16, 27, 8], [8, 16, 27]), ([8, 28], [8, 28])])
def fairwayref13_Row.B11 : List Nat := [0, 1, 0, 0, 12, 28, 60, 127, 255, 511, 511, 2047, 4095, 8191, 16383, 32767, 65535, 131071, 262143, 131071, 131071, 1703935, 3801087, 7995391, 16383999, 33161215, 66715647, 134217727, 268435455, 536870911]
theorem fairwayref13_Row.tab11 : rtab .any (opsOf Try.f14 11) = fairwayref13_Row.T11 := by kernel_rfl
theorem fairwayref13_Row.bits11 : waitsOk fairwayref13_Row.T11.2 fairwayref13_Row.B11 = true := by kernel_rfl
set_option maxHeartbeats 8000000 in
set_option maxRecDepth 100000 in
theorem fairwayref13_Row.calls (k : Nat) (A0 : Option Addr) (c0 : Nat) (l0 : List (S29)) (r : Bool) (w : World) (hr0 : Kd.C k29 w A0 l0.length l0) (hc0 : l0.length ≤ c0) (h : fairwayref13_Row.f k l0 = some r) :
 Calls Try.prog 14 #[.slice A0 l0.length c0] w fun e w' => e = .returned (.bool r) ∧ Below w.heap.size w w' := by
 have hu29 := Try.underlying29
 have hu25 := Try.underlying25
 have HR0 := Aside0.mk hr0
 have HC0 := Aside0.mk hc0
 clear hr0 hc0
 have HB := Aside0.mk (Below.refl w.heap.size w)
 have H : (if (l0.length : Int) = 0 then (some false) else (fairwayref13_Row.l0 k l0 0)) = some r := h
 clear h
 by_cases c2 : (l0.length : Int) = 0
 ·rw [if_pos c2] at H
  have c2b0 : ((l0.length : Int) == 0) = true := beq_iff_eq.mpr c2
  have c2b1 : ((l0.length : Int) != 0) = false := bne_eq_false_iff_eq.mpr c2
  clear c2
  obtain rfl := Option.some.inj H
  go_enter Try.func14, Try.ntmps14
  go_wp2
  go_ret
  exact ⟨er, bo⟩
 ·rw [if_neg c2] at H
  have c2b0 : ((l0.length : Int) == 0) = false := beq_eq_false_iff_ne.mpr c2
  have c2b1 : ((l0.length : Int) != 0) = true := bne_iff_ne.mpr c2
  have c2b2 : ¬ (l0 = []) := fun h_ => c2 (by rw [h_]; rfl)
  have H' := Aside0.mk H
  clear H
  go_enter Try.func14, Try.ntmps14
  go_wp2
  go_loopg [3] k (fun kq v3 w' => ∃ (x3_1 : Int), v3 = .int .i64 x3_1 ∧ Aside0 (fairwayref13_Row.l0 kq l0 x3_1 = some r) ∧ Aside0 (kq ≤ k) ∧ Aside0 (Below w.heap.size w w'))
  case atStart => exact ⟨(0), ap, H', ⟨Nat.le_refl _⟩, ⟨bo⟩⟩
  case round =>
   clear H'
   try clear c1
   try clear c2
   try clear c2b0
   try clear c2b1
   try clear c2b2
   try clear p2
   obtain ⟨x3_1, rfl, HA, HK1, HB⟩ := hrel
   cases gk with
   | zero => exact absurd HA.out (by simp [fairwayref13_Row.l0])
   | succ k1 =>
    have H := HA.out
    clear HA
    simp only [fairwayref13_Row.l0] at H
    by_cases c3 : x3_1 < (l0.length : Int)
    ·rw [if_pos c3] at H
     have c3b0 : decide (x3_1 < (l0.length : Int)) = true := decide_eq_true c3
     clear c3
     have HC4 := Aside0.mk H
     clear H
     go_upto_region 6 with (fail)
     go_cut [38] (fun v38 wc => ∃ (kq : Nat) (x38_3 : Bool), v38 = .bool x38_3 ∧ Aside0 (fairwayref13_Row.j1 kq l0 x3_1 x38_3 = some r) ∧ Aside0 (kq ≤ k1) ∧ Aside0 (Below w.heap.size w wc))
     case first =>
      have H := HC4.out
      clear HC4
      by_cases c5 : 0 ≤ x3_1
      ·rw [if_pos c5] at H
       have c5b0 : decide (0 ≤ x3_1) = true := decide_eq_true c5
       clear c5
       (first | rw [c5b0] | (simp only [i64_w, i32_w]; rw [c5b0]) | skip)
       replace H := Option.bind_eq_some_iff.mp H
       obtain ⟨t214, A60, H⟩ := H
       replace H : (if t214 = true then (if x3_1 > 0 then (if 0 ≤ (wrap64 (x3_1 - 1)) then (if (wrap64 (x3_1 - 1)) < (l0.length : Int) then (fairwayref13_Row.j1 k1 l0 x3_1 (decide (((rd_T29 l0 (wrap64 (x3_1 - 1))).f0) > ((rd_T29 l0 x3_1).f0)))) else (none)) else (none)) else (fairwayref13_Row.j1 k1 l0 x3_1 false)) else (fairwayref13_Row.j1 k1 l0 x3_1 true)) = some r := H
       have A6 := Aside0.mk A60
       clear A60
       by_cases c7 : t214 = true
       ·subst c7
        have H1 : (if x3_1 > 0 then (if 0 ≤ (wrap64 (x3_1 - 1)) then (if (wrap64 (x3_1 - 1)) < (l0.length : Int) then (fairwayref13_Row.j1 k1 l0 x3_1 (decide (((rd_T29 l0 (wrap64 (x3_1 - 1))).f0) > ((rd_T29 l0 x3_1).f0)))) else (none)) else (none)) else (fairwayref13_Row.j1 k1 l0 x3_1 false)) = some r := by rw [if_pos rfl] at H; exact H
        clear H
        have H := H1
        clear H1
        by_cases c8 : x3_1 > 0
        ·rw [if_pos c8] at H
         have c8b0 : decide (0 < x3_1) = true := decide_eq_true c8
         clear c8
         obtain ⟨ji9, hji9⟩ : ∃ j_ : Int, (wrap64 (x3_1 - 1)) = j_ := ⟨_, rfl⟩
         replace H : (if 0 ≤ (ji9) then (if (ji9) < (l0.length : Int) then (fairwayref13_Row.j1 k1 l0 x3_1 (decide (((rd_T29 l0 (ji9)).f0) > ((rd_T29 l0 x3_1).f0)))) else (none)) else (none)) = some r := by first | (rw [hji9] at H; exact H) | (simp only [hji9] at H ⊢; exact H)
         (try rw [hji9] at A6)
         have hji9w : (IntKind.i64.wrap (x3_1 - 1)) = ji9 := (i64_w _).trans hji9
         by_cases c10 : 0 ≤ (ji9)
         ·rw [if_pos c10] at H
          have c10b0 : decide (0 ≤ (ji9)) = true := decide_eq_true c10
          clear c10
          by_cases c11 : (ji9) < (l0.length : Int)
          ·rw [if_pos c11] at H
           have c11b0 : decide ((ji9) < (l0.length : Int)) = true := decide_eq_true c11
           clear c11
           have H' := Aside0.mk H
           clear H
           try go_wp2
           replace HB := Aside0.mk (below_drew1 HB.out)
           have p213 : 0 ≤ (x3_1 : Int) := od
           have q213 : x3_1 < (l0.length : Int) := od
           obtain ⟨ad213, A213_1, c213_1, e213, hx213_0, hx213_1, hl213_1, hi213_1⟩ := at_T29 HR0.out x3_1 p213 q213
           have hw213_1 := hx213_1
           have hw213_0 := hx213_0
           cases e213
           replace hx213_0 := cx HB.out hx213_0
           replace hx213_1 := cx HB.out hx213_1
           have HR213_1 := Aside0.mk hi213_1
           have HC213_1 := Aside0.mk hl213_1
           clear hi213_1 hl213_1
           replace p213 := eq_true p213
           replace q213 := eq_true q213
           have p215 : 0 ≤ ((ji9) : Int) := od
           have q215 : (ji9) < (l0.length : Int) := od
           obtain ⟨ad215, A215_1, c215_1, e215, hx215_0, hx215_1, hl215_1, hi215_1⟩ := at_T29 HR0.out (ji9) p215 q215
           have hw215_1 := hx215_1
           have hw215_0 := hx215_0
           obtain rfl : ad213 = ad215 := (by injection e215)
           replace hx215_0 := cx HB.out hx215_0
           replace hx215_1 := cx HB.out hx215_1
           have HR215_1 := Aside0.mk hi215_1
           have HC215_1 := Aside0.mk hl215_1
           clear hi215_1 hl215_1
           replace p215 := eq_true p215
           replace q215 := eq_true q215
           have p216 : 0 ≤ (x3_1 : Int) := od
           have q216 : x3_1 < (l0.length : Int) := od
           obtain ⟨ad216, A216_1, c216_1, e216, hx216_0, hx216_1, hl216_1, hi216_1⟩ := at_T29 HR0.out x3_1 p216 q216
           have hw216_1 := hx216_1
           have hw216_0 := hx216_0
           obtain rfl : ad213 = ad216 := (by injection e216)
           replace hx216_0 := cx HB.out hx216_0
           replace hx216_1 := cx HB.out hx216_1
           have HR216_1 := Aside0.mk hi216_1
           have HC216_1 := Aside0.mk hl216_1
           clear hi216_1 hl216_1
           replace p216 := eq_true p216
           replace q216 := eq_true q216
           refine start_ (n := 24) (S := fun w' => w'.cell? (ad213.add ((x3_1).toNat * 2)) = some (.int .i64 ((rd_T29 l0 x3_1).f0)) ∧ w'.cell? ⟨(ad213.add ((x3_1).toNat * 2)).block, (ad213.add ((x3_1).toNat * 2)).off + 1, none⟩ = some (.slice A213_1 ((rd_T29 l0 x3_1).f1).length c213_1) ∧ w'.cell? (ad213.add (((ji9)).toNat * 2)) = some (.int .i64 ((rd_T29 l0 (ji9)).f0)) ∧ w'.cell? ⟨(ad213.add (((ji9)).toNat * 2)).block, (ad213.add (((ji9)).toNat * 2)).off + 1, none⟩ = some (.slice A215_1 ((rd_T29 l0 (ji9)).f1).length c215_1) ∧ w'.cell? (ad213.add ((x3_1).toNat * 2)) = some (.int .i64 ((rd_T29 l0 x3_1).f0)) ∧ w'.cell? ⟨(ad213.add ((x3_1).toNat * 2)).block, (ad213.add ((x3_1).toNat * 2)).off + 1, none⟩ = some (.slice A216_1 ((rd_T29 l0 x3_1).f1).length c216_1)) (ds := []) #[O,O,O,O,O,O,O,O,O,O,O,O,O,O,O,O,O,O,O,O,O,O,O,O] (by kernel_rfl) rfl rfl ⟨((HB.out.cell (World.block_lt_of_cell? w _ hw213_0)).trans hw213_0), ((HB.out.cell (World.block_lt_of_cell? w _ hw213_1)).trans hw213_1), ((HB.out.cell (World.block_lt_of_cell? w _ hw215_0)).trans hw215_0), ((HB.out.cell (World.block_lt_of_cell? w _ hw215_1)).trans hw215_1), ((HB.out.cell (World.block_lt_of_cell? w _ hw216_0)).trans hw216_0), ((HB.out.cell (World.block_lt_of_cell? w _ hw216_1)).trans hw216_1)⟩ (fun hHeld => ?_); refine with_tabW fairwayref13_Row.tab6 fairwayref13_Row.bits6 (fun HT_ HW_ => ?_)
           generalize wr.drew = w12 at HB HR213_1 HR215_1 HR216_1 hx213_0 hx213_1 hx215_0 hx215_1 hx216_0 hx216_1 hHeld ⊢
           refine pz (i := 0) (N := some 15) #[I,O,O,O,O,O,O,O,O,O,O,O,O,O,O,O,O,O,O,O,O,O,O,O] ?_
           refine pz (i := 1) (N := some 16) #[I,I,O,O,O,O,O,O,O,O,O,O,O,O,O,O,O,O,O,O,O,O,O,O] ?_
           refine pz (i := 2) (N := some 17) #[I,I,I,O,O,O,O,O,O,O,O,O,O,O,O,O,O,O,O,O,O,O,O,O] ?_
           refine tz (i := 3) (N := some 18) #[I,I,I,I,O,O,O,O,O,O,O,O,O,O,O,O,O,O,O,O,O,O,O,O] ?_
           refine one_ (i := 4) (N := some 19) #[I,I,I,I,I,O,O,O,O,O,O,O,O,O,O,O,O,O,O,O,O,O,O,O] rfl rfl (one_of HT_.out (by kernel_rfl)) (by decide) (fun K hK => ?_)
           refine goes_ Try.func44 (by kernel_rfl) rfl #[.agg #[.int .i64 ((rd_T29 l0 x3_1).f0), .slice A213_1 ((rd_T29 l0 x3_1).f1).length c213_1]] (by rfl) rfl rfl aa ?_
           with_reducible refine (fairwayref10_Seg.calls k1 ((rd_T29 l0 x3_1).f0) _ _ ((rd_T29 l0 x3_1).f1) true _ ?side1 ?side2 A6.out).mono ?_
           (case side1 => repeat (first | exact (Kd.C_below HR213_1.out HB.out) | (with_reducible refine Kd.C_alloc ?_ _) | (with_reducible refine Kd.C_drewN ?_ _) | (with_reducible refine Kd.C_drew ?_)))
           (case side2 => exact HC213_1.out)
           rintro e w13 ⟨rfl, hb⟩
           refine ⟨_, rfl, ?_⟩
           replace HB := Aside0.mk (below_step bo hb)
           (try clear hb)
           (try clear hb2)
           (try clear hk)
           (try clear hi)
           refine hK.out _ _ ⟨((HB.out.cell (World.block_lt_of_cell? w _ hw213_0)).trans hw213_0), ((HB.out.cell (World.block_lt_of_cell? w _ hw213_1)).trans hw213_1), ((HB.out.cell (World.block_lt_of_cell? w _ hw215_0)).trans hw215_0), ((HB.out.cell (World.block_lt_of_cell? w _ hw215_1)).trans hw215_1), ((HB.out.cell (World.block_lt_of_cell? w _ hw216_0)).trans hw216_0), ((HB.out.cell (World.block_lt_of_cell? w _ hw216_1)).trans hw216_1)⟩ (fun hHeld => ?_)
           clear hK K
           refine norm_ (a' := ?_) ?_ ?_
           rotate_left
           ·show Act.put _ (some 19) _ = _
            simp only [Act.put, List.setIfInBounds_toArray, List.set_cons_zero, List.set_cons_succ, i64_w, i32_w]
            rfl
           refine pz (i := 5) (N := some 20) #[I,I,I,I,I,I,O,O,O,O,O,O,O,O,O,O,O,O,O,O,O,O,O,O] ?_
           refine pz (i := 6) (N := some 21) #[I,I,I,I,I,I,I,O,O,O,O,O,O,O,O,O,O,O,O,O,O,O,O,O] ?_
           refine pz (i := 7) (N := some 22) #[I,I,I,I,I,I,I,I,O,O,O,O,O,O,O,O,O,O,O,O,O,O,O,O] ?_
           refine pz (i := 8) (N := some 23) #[I,I,I,I,I,I,I,I,I,O,O,O,O,O,O,O,O,O,O,O,O,O,O,O] ?_
           refine pz (i := 9) (N := some 24) #[I,I,I,I,I,I,I,I,I,I,O,O,O,O,O,O,O,O,O,O,O,O,O,O] ?_
           refine pz (i := 10) (N := some 25) #[I,I,I,I,I,I,I,I,I,I,I,O,O,O,O,O,O,O,O,O,O,O,O,O] ?_
           refine pz (i := 11) (N := some 26) #[I,I,I,I,I,I,I,I,I,I,I,I,O,O,O,O,O,O,O,O,O,O,O,O] ?_
           refine pz (i := 12) (N := some 27) #[I,I,I,I,I,I,I,I,I,I,I,I,I,O,O,O,O,O,O,O,O,O,O,O] ?_
           refine pz (i := 13) (N := some 28) #[I,I,I,I,I,I,I,I,I,I,I,I,I,I,O,O,O,O,O,O,O,O,O,O] ?_
           refine pz (i := 14) (N := some 29) #[I,I,I,I,I,I,I,I,I,I,I,I,I,I,I,O,O,O,O,O,O,O,O,O] ?_
           refine pz (i := 16) (N := some 31) #[I,I,I,I,I,I,I,I,I,I,I,I,I,I,I,O,I,O,O,O,O,O,O,O] ?_
           refine pz (i := 17) (N := some 32) #[I,I,I,I,I,I,I,I,I,I,I,I,I,I,I,O,I,I,O,O,O,O,O,O] ?_
           refine pz (i := 18) (N := some 33) #[I,I,I,I,I,I,I,I,I,I,I,I,I,I,I,O,I,I,I,O,O,O,O,O] ?_
           refine pz (i := 19) (N := some 34) #[I,I,I,I,I,I,I,I,I,I,I,I,I,I,I,O,I,I,I,I,O,O,O,O] ?_
           refine tz (i := 15) (N := some 30) #[I,I,I,I,I,I,I,I,I,I,I,I,I,I,I,I,I,I,I,I,O,O,O,O] ?_
           refine tz (i := 20) (N := some 35) #[I,I,I,I,I,I,I,I,I,I,I,I,I,I,I,I,I,I,I,I,I,O,O,O] ?_
           refine pz (i := 21) (N := some 36) #[I,I,I,I,I,I,I,I,I,I,I,I,I,I,I,I,I,I,I,I,I,I,O,O] ?_
           refine pz (i := 22) (N := some 37) #[I,I,I,I,I,I,I,I,I,I,I,I,I,I,I,I,I,I,I,I,I,I,I,O] ?_
           refine pz (i := 23) (N := some 38) #[I,I,I,I,I,I,I,I,I,I,I,I,I,I,I,I,I,I,I,I,I,I,I,I] ?_
           refine done_ (done_of HT_.out (by kernel_rfl)) ?_
           try go_wp2
           go_meet
           case rel => exact ⟨_, (decide (((rd_T29 l0 (ji9)).f0) > ((rd_T29 l0 x3_1).f0))), (by first | rfl | (simp; done) | (simp only [← hji9] <;> (first | rfl | simp)) | (simp [*]; done)), H', ⟨by have := HK1.out; first | omega | exact Nat.le_refl _⟩, ⟨bo⟩⟩
          ·rw [if_neg c11] at H
           exact absurd H (by simp)
         ·rw [if_neg c10] at H
          exact absurd H (by simp)
        ·rw [if_neg c8] at H
         have c8b0 : decide (0 < x3_1) = false := decide_eq_false c8
         clear c8
         have H' := Aside0.mk H
         clear H
         try go_wp2
         replace HB := Aside0.mk (below_drew1 HB.out)
         have p213 : 0 ≤ (x3_1 : Int) := od
         have q213 : x3_1 < (l0.length : Int) := od
         obtain ⟨ad213, A213_1, c213_1, e213, hx213_0, hx213_1, hl213_1, hi213_1⟩ := at_T29 HR0.out x3_1 p213 q213
         have hw213_1 := hx213_1
         have hw213_0 := hx213_0
         cases e213
         replace hx213_0 := cx HB.out hx213_0
         replace hx213_1 := cx HB.out hx213_1
         have HR213_1 := Aside0.mk hi213_1
         have HC213_1 := Aside0.mk hl213_1
         clear hi213_1 hl213_1
         replace p213 := eq_true p213
         replace q213 := eq_true q213
         refine start_ (n := 24) (S := fun w' => w'.cell? (ad213.add ((x3_1).toNat * 2)) = some (.int .i64 ((rd_T29 l0 x3_1).f0)) ∧ w'.cell? ⟨(ad213.add ((x3_1).toNat * 2)).block, (ad213.add ((x3_1).toNat * 2)).off + 1, none⟩ = some (.slice A213_1 ((rd_T29 l0 x3_1).f1).length c213_1)) (ds := []) #[O,O,O,O,O,O,O,O,O,O,O,O,O,O,O,O,O,O,O,O,O,O,O,O] (by kernel_rfl) rfl rfl ⟨((HB.out.cell (World.block_lt_of_cell? w _ hw213_0)).trans hw213_0), ((HB.out.cell (World.block_lt_of_cell? w _ hw213_1)).trans hw213_1)⟩ (fun hHeld => ?_); refine with_tabW fairwayref13_Row.tab6 fairwayref13_Row.bits6 (fun HT_ HW_ => ?_)
         generalize wr.drew = w14 at HB HR213_1 hx213_0 hx213_1 hHeld ⊢
         refine pz (i := 0) (N := some 15) #[I,O,O,O,O,O,O,O,O,O,O,O,O,O,O,O,O,O,O,O,O,O,O,O] ?_
         refine pz (i := 1) (N := some 16) #[I,I,O,O,O,O,O,O,O,O,O,O,O,O,O,O,O,O,O,O,O,O,O,O] ?_
         refine pz (i := 2) (N := some 17) #[I,I,I,O,O,O,O,O,O,O,O,O,O,O,O,O,O,O,O,O,O,O,O,O] ?_
         refine tz (i := 3) (N := some 18) #[I,I,I,I,O,O,O,O,O,O,O,O,O,O,O,O,O,O,O,O,O,O,O,O] ?_
         refine one_ (i := 4) (N := some 19) #[I,I,I,I,I,O,O,O,O,O,O,O,O,O,O,O,O,O,O,O,O,O,O,O] rfl rfl (one_of HT_.out (by kernel_rfl)) (by decide) (fun K hK => ?_)
         refine goes_ Try.func44 (by kernel_rfl) rfl #[.agg #[.int .i64 ((rd_T29 l0 x3_1).f0), .slice A213_1 ((rd_T29 l0 x3_1).f1).length c213_1]] (by rfl) rfl rfl aa ?_
         with_reducible refine (fairwayref10_Seg.calls k1 ((rd_T29 l0 x3_1).f0) _ _ ((rd_T29 l0 x3_1).f1) true _ ?side1 ?side2 A6.out).mono ?_
         (case side1 => repeat (first | exact (Kd.C_below HR213_1.out HB.out) | (with_reducible refine Kd.C_alloc ?_ _) | (with_reducible refine Kd.C_drewN ?_ _) | (with_reducible refine Kd.C_drew ?_)))
         (case side2 => exact HC213_1.out)
         rintro e w15 ⟨rfl, hb⟩
         refine ⟨_, rfl, ?_⟩
         replace HB := Aside0.mk (below_step bo hb)
         (try clear hb)
         (try clear hb2)
         (try clear hk)
         (try clear hi)
         refine hK.out _ _ ⟨((HB.out.cell (World.block_lt_of_cell? w _ hw213_0)).trans hw213_0), ((HB.out.cell (World.block_lt_of_cell? w _ hw213_1)).trans hw213_1)⟩ (fun hHeld => ?_)
         clear hK K
         refine norm_ (a' := ?_) ?_ ?_
         rotate_left
         ·show Act.put _ (some 19) _ = _
          simp only [Act.put, List.setIfInBounds_toArray, List.set_cons_zero, List.set_cons_succ, i64_w, i32_w]
          rfl
         refine pz (i := 5) (N := some 20) #[I,I,I,I,I,I,O,O,O,O,O,O,O,O,O,O,O,O,O,O,O,O,O,O] ?_
         refine pz (i := 6) (N := some 21) #[I,I,I,I,I,I,I,O,O,O,O,O,O,O,O,O,O,O,O,O,O,O,O,O] ?_
         refine pz (i := 7) (N := some 22) #[I,I,I,I,I,I,I,I,O,O,O,O,O,O,O,O,O,O,O,O,O,O,O,O] ?_
         refine pz (i := 8) (N := some 23) #[I,I,I,I,I,I,I,I,I,O,O,O,O,O,O,O,O,O,O,O,O,O,O,O] ?_
         refine pz (i := 9) (N := some 24) #[I,I,I,I,I,I,I,I,I,I,O,O,O,O,O,O,O,O,O,O,O,O,O,O] ?_
         refine pu (i := 10) (N := some 25) #[I,I,I,I,I,I,I,I,I,I,I,O,O,O,O,O,O,O,O,O,O,O,O,O] ?_
         refine pu (i := 11) (N := some 26) #[I,I,I,I,I,I,I,I,I,I,I,I,O,O,O,O,O,O,O,O,O,O,O,O] ?_
         refine pu (i := 12) (N := some 27) #[I,I,I,I,I,I,I,I,I,I,I,I,I,O,O,O,O,O,O,O,O,O,O,O] ?_
         refine pu (i := 13) (N := some 28) #[I,I,I,I,I,I,I,I,I,I,I,I,I,I,O,O,O,O,O,O,O,O,O,O] ?_
         refine pu (i := 14) (N := some 29) #[I,I,I,I,I,I,I,I,I,I,I,I,I,I,I,O,O,O,O,O,O,O,O,O] ?_
         refine pu (i := 15) (N := some 30) #[I,I,I,I,I,I,I,I,I,I,I,I,I,I,I,I,O,O,O,O,O,O,O,O] ?_
         refine pu (i := 16) (N := some 31) #[I,I,I,I,I,I,I,I,I,I,I,I,I,I,I,I,I,O,O,O,O,O,O,O] ?_
         refine pu (i := 17) (N := some 32) #[I,I,I,I,I,I,I,I,I,I,I,I,I,I,I,I,I,I,O,O,O,O,O,O] ?_
         refine pu (i := 18) (N := some 33) #[I,I,I,I,I,I,I,I,I,I,I,I,I,I,I,I,I,I,I,O,O,O,O,O] ?_
         refine pu (i := 19) (N := some 34) #[I,I,I,I,I,I,I,I,I,I,I,I,I,I,I,I,I,I,I,I,O,O,O,O] ?_
         refine pu (i := 20) (N := some 35) #[I,I,I,I,I,I,I,I,I,I,I,I,I,I,I,I,I,I,I,I,I,O,O,O] ?_
         refine pu (i := 21) (N := some 36) #[I,I,I,I,I,I,I,I,I,I,I,I,I,I,I,I,I,I,I,I,I,I,O,O] ?_
         refine pz (i := 22) (N := some 37) #[I,I,I,I,I,I,I,I,I,I,I,I,I,I,I,I,I,I,I,I,I,I,I,O] ?_
         refine pz (i := 23) (N := some 38) #[I,I,I,I,I,I,I,I,I,I,I,I,I,I,I,I,I,I,I,I,I,I,I,I] ?_
         refine done_ (done_of HT_.out (by kernel_rfl)) ?_
         try go_wp2
         go_meet
         case rel => exact ⟨_, (false), ap, H', ⟨by have := HK1.out; first | omega | exact Nat.le_refl _⟩, ⟨bo⟩⟩
       ·replace c7 := Bool.eq_false_iff.mpr c7
        subst c7
        have H1 : (fairwayref13_Row.j1 k1 l0 x3_1 true) = some r := by rw [if_neg (show ¬ (false = true) by decide)] at H; exact H
        clear H
        have H := H1
        clear H1
        have H' := Aside0.mk H
        clear H
        try go_wp2
        replace HB := Aside0.mk (below_drew1 HB.out)
        have p213 : 0 ≤ (x3_1 : Int) := od
        have q213 : x3_1 < (l0.length : Int) := od
        obtain ⟨ad213, A213_1, c213_1, e213, hx213_0, hx213_1, hl213_1, hi213_1⟩ := at_T29 HR0.out x3_1 p213 q213
        have hw213_1 := hx213_1
        have hw213_0 := hx213_0
        cases e213
        replace hx213_0 := cx HB.out hx213_0
        replace hx213_1 := cx HB.out hx213_1
        have HR213_1 := Aside0.mk hi213_1
        have HC213_1 := Aside0.mk hl213_1
        clear hi213_1 hl213_1
        replace p213 := eq_true p213
        replace q213 := eq_true q213
        refine start_ (n := 24) (S := fun w' => w'.cell? (ad213.add ((x3_1).toNat * 2)) = some (.int .i64 ((rd_T29 l0 x3_1).f0)) ∧ w'.cell? ⟨(ad213.add ((x3_1).toNat * 2)).block, (ad213.add ((x3_1).toNat * 2)).off + 1, none⟩ = some (.slice A213_1 ((rd_T29 l0 x3_1).f1).length c213_1)) (ds := []) #[O,O,O,O,O,O,O,O,O,O,O,O,O,O,O,O,O,O,O,O,O,O,O,O] (by kernel_rfl) rfl rfl ⟨((HB.out.cell (World.block_lt_of_cell? w _ hw213_0)).trans hw213_0), ((HB.out.cell (World.block_lt_of_cell? w _ hw213_1)).trans hw213_1)⟩ (fun hHeld => ?_); refine with_tabW fairwayref13_Row.tab6 fairwayref13_Row.bits6 (fun HT_ HW_ => ?_)
        generalize wr.drew = w16 at HB HR213_1 hx213_0 hx213_1 hHeld ⊢
        refine pz (i := 0) (N := some 15) #[I,O,O,O,O,O,O,O,O,O,O,O,O,O,O,O,O,O,O,O,O,O,O,O] ?_
        refine pz (i := 1) (N := some 16) #[I,I,O,O,O,O,O,O,O,O,O,O,O,O,O,O,O,O,O,O,O,O,O,O] ?_
        refine pz (i := 2) (N := some 17) #[I,I,I,O,O,O,O,O,O,O,O,O,O,O,O,O,O,O,O,O,O,O,O,O] ?_
        refine tz (i := 3) (N := some 18) #[I,I,I,I,O,O,O,O,O,O,O,O,O,O,O,O,O,O,O,O,O,O,O,O] ?_
        refine one_ (i := 4) (N := some 19) #[I,I,I,I,I,O,O,O,O,O,O,O,O,O,O,O,O,O,O,O,O,O,O,O] rfl rfl (one_of HT_.out (by kernel_rfl)) (by decide) (fun K hK => ?_)
        refine goes_ Try.func44 (by kernel_rfl) rfl #[.agg #[.int .i64 ((rd_T29 l0 x3_1).f0), .slice A213_1 ((rd_T29 l0 x3_1).f1).length c213_1]] (by rfl) rfl rfl aa ?_
        with_reducible refine (fairwayref10_Seg.calls k1 ((rd_T29 l0 x3_1).f0) _ _ ((rd_T29 l0 x3_1).f1) false _ ?side1 ?side2 A6.out).mono ?_
        (case side1 => repeat (first | exact (Kd.C_below HR213_1.out HB.out) | (with_reducible refine Kd.C_alloc ?_ _) | (with_reducible refine Kd.C_drewN ?_ _) | (with_reducible refine Kd.C_drew ?_)))
        (case side2 => exact HC213_1.out)
        rintro e w17 ⟨rfl, hb⟩
        refine ⟨_, rfl, ?_⟩
        replace HB := Aside0.mk (below_step bo hb)
        (try clear hb)
        (try clear hb2)
        (try clear hk)
        (try clear hi)
        refine hK.out _ _ ⟨((HB.out.cell (World.block_lt_of_cell? w _ hw213_0)).trans hw213_0), ((HB.out.cell (World.block_lt_of_cell? w _ hw213_1)).trans hw213_1)⟩ (fun hHeld => ?_)
        clear hK K
        refine norm_ (a' := ?_) ?_ ?_
        rotate_left
        ·show Act.put _ (some 19) _ = _
         simp only [Act.put, List.setIfInBounds_toArray, List.set_cons_zero, List.set_cons_succ, i64_w, i32_w]
         rfl
        refine pz (i := 5) (N := some 20) #[I,I,I,I,I,I,O,O,O,O,O,O,O,O,O,O,O,O,O,O,O,O,O,O] ?_
        refine pz (i := 6) (N := some 21) #[I,I,I,I,I,I,I,O,O,O,O,O,O,O,O,O,O,O,O,O,O,O,O,O] ?_
        refine pu (i := 7) (N := some 22) #[I,I,I,I,I,I,I,I,O,O,O,O,O,O,O,O,O,O,O,O,O,O,O,O] ?_
        refine pu (i := 8) (N := some 23) #[I,I,I,I,I,I,I,I,I,O,O,O,O,O,O,O,O,O,O,O,O,O,O,O] ?_
        refine pu (i := 9) (N := some 24) #[I,I,I,I,I,I,I,I,I,I,O,O,O,O,O,O,O,O,O,O,O,O,O,O] ?_
        refine pu (i := 10) (N := some 25) #[I,I,I,I,I,I,I,I,I,I,I,O,O,O,O,O,O,O,O,O,O,O,O,O] ?_
        refine pu (i := 11) (N := some 26) #[I,I,I,I,I,I,I,I,I,I,I,I,O,O,O,O,O,O,O,O,O,O,O,O] ?_
        refine pu (i := 12) (N := some 27) #[I,I,I,I,I,I,I,I,I,I,I,I,I,O,O,O,O,O,O,O,O,O,O,O] ?_
        refine pu (i := 13) (N := some 28) #[I,I,I,I,I,I,I,I,I,I,I,I,I,I,O,O,O,O,O,O,O,O,O,O] ?_
        refine pu (i := 14) (N := some 29) #[I,I,I,I,I,I,I,I,I,I,I,I,I,I,I,O,O,O,O,O,O,O,O,O] ?_
        refine pu (i := 15) (N := some 30) #[I,I,I,I,I,I,I,I,I,I,I,I,I,I,I,I,O,O,O,O,O,O,O,O] ?_
        refine pu (i := 16) (N := some 31) #[I,I,I,I,I,I,I,I,I,I,I,I,I,I,I,I,I,O,O,O,O,O,O,O] ?_
        refine pu (i := 17) (N := some 32) #[I,I,I,I,I,I,I,I,I,I,I,I,I,I,I,I,I,I,O,O,O,O,O,O] ?_
        refine pu (i := 18) (N := some 33) #[I,I,I,I,I,I,I,I,I,I,I,I,I,I,I,I,I,I,I,O,O,O,O,O] ?_
        refine pu (i := 19) (N := some 34) #[I,I,I,I,I,I,I,I,I,I,I,I,I,I,I,I,I,I,I,I,O,O,O,O] ?_
        refine pu (i := 20) (N := some 35) #[I,I,I,I,I,I,I,I,I,I,I,I,I,I,I,I,I,I,I,I,I,O,O,O] ?_
        refine pu (i := 21) (N := some 36) #[I,I,I,I,I,I,I,I,I,I,I,I,I,I,I,I,I,I,I,I,I,I,O,O] ?_
        refine pu (i := 22) (N := some 37) #[I,I,I,I,I,I,I,I,I,I,I,I,I,I,I,I,I,I,I,I,I,I,I,O] ?_
        refine pz (i := 23) (N := some 38) #[I,I,I,I,I,I,I,I,I,I,I,I,I,I,I,I,I,I,I,I,I,I,I,I] ?_
        refine done_ (done_of HT_.out (by kernel_rfl)) ?_
        try go_wp2
        go_meet
        case rel => exact ⟨_, (true), ap, H', ⟨by have := HK1.out; first | omega | exact Nat.le_refl _⟩, ⟨bo⟩⟩
      ·rw [if_neg c5] at H
       exact absurd H (by simp)
     case rest =>
      clear HC4
      try clear c1
      try clear c2
      try clear p2
      try clear q2
      try clear hx2
      try clear c4
      try clear c5
      try clear c7
      try clear c8
      try clear c8b0
      try clear c10
      try clear c11
      try clear hx213_0
      try clear hx213_1
      try clear hx215_0
      try clear hx215_1
      try clear hx216_0
      try clear hx216_1
      try clear p213
      try clear p215
      try clear p216
      try clear q213
      try clear q215
      try clear q216
      obtain ⟨kq, x38_3, rfl, HA, HJ3, HB⟩ := hcut
      cases kq with
      | zero => exact absurd HA.out (by simp [fairwayref13_Row.j1])
      | succ kj3 =>
       have H := HA.out
       clear HA
       simp only [fairwayref13_Row.j1] at H
       by_cases c18 : x38_3 = true
       ·subst c18
        have H1 : (some false) = some r := by rw [if_pos rfl] at H; exact H
        clear H
        have H := H1
        clear H1
        obtain rfl := Option.some.inj H
        go_wp2
        go_ret
        exact ⟨er, bo⟩
       ·replace c18 := Bool.eq_false_iff.mpr c18
        subst c18
        have H1 : (if 0 ≤ x3_1 then (if x3_1 ≤ (l0.length : Int) then ((fairwayref13_Recs.f kj3 (l0.take (x3_1 : Int).toNat)).bind fun t221 => (if (t221.length : Int) > 0 then (if 0 ≤ (wrap64 ((t221.length : Int) - 1)) then (if (wrap64 ((t221.length : Int) - 1)) < (t221.length : Int) then (if x3_1 < (l0.length : Int) then (if ((rd_T25 t221 (wrap64 ((t221.length : Int) - 1))).f0) ≥ ((rd_T29 l0 x3_1).f0) then (some false) else (if (((rd_T29 l0 x3_1).f1).length : Int) > 0 then (if 0 < (((rd_T29 l0 x3_1).f1).length : Int) then (if ((rd_T25 t221 (wrap64 ((t221.length : Int) - 1))).f1) > ((rd_T25 ((rd_T29 l0 x3_1).f1) 0).f1) then (some false) else (fairwayref13_Row.l0 kj3 l0 (wrap64 (x3_1 + 1)))) else (none)) else (fairwayref13_Row.l0 kj3 l0 (wrap64 (x3_1 + 1))))) else (none)) else (none)) else (none)) else (fairwayref13_Row.l0 kj3 l0 (wrap64 (x3_1 + 1))))) else (none)) else (none)) = some r := by rw [if_neg (show ¬ (false = true) by decide)] at H; exact H
        clear H
        have H := H1
        clear H1
        by_cases c19 : 0 ≤ x3_1
        ·rw [if_pos c19] at H
         have c19b0 := eq_true c19
         have c19b1 : decide (0 ≤ x3_1) = true := decide_eq_true c19
         clear c19
         by_cases c20 : x3_1 ≤ (l0.length : Int)
         ·rw [if_pos c20] at H
          have c20b0 := eq_true c20
          have c20b1 : decide (x3_1 ≤ (l0.length : Int)) = true := decide_eq_true c20
          clear c20
          obtain ⟨y217, hy217⟩ : ∃ y_ : List (S29), y_ = (l0.take (x3_1 : Int).toNat) := ⟨_, rfl⟩
          replace H : ((fairwayref13_Recs.f kj3 y217).bind fun t221 => (if (t221.length : Int) > 0 then (if 0 ≤ (wrap64 ((t221.length : Int) - 1)) then (if (wrap64 ((t221.length : Int) - 1)) < (t221.length : Int) then (if x3_1 < (l0.length : Int) then (if ((rd_T25 t221 (wrap64 ((t221.length : Int) - 1))).f0) ≥ ((rd_T29 l0 x3_1).f0) then (some false) else (if (((rd_T29 l0 x3_1).f1).length : Int) > 0 then (if 0 < (((rd_T29 l0 x3_1).f1).length : Int) then (if ((rd_T25 t221 (wrap64 ((t221.length : Int) - 1))).f1) > ((rd_T25 ((rd_T29 l0 x3_1).f1) 0).f1) then (some false) else (fairwayref13_Row.l0 kj3 l0 (wrap64 (x3_1 + 1)))) else (none)) else (fairwayref13_Row.l0 kj3 l0 (wrap64 (x3_1 + 1))))) else (none)) else (none)) else (none)) else (fairwayref13_Row.l0 kj3 l0 (wrap64 (x3_1 + 1))))) = some r := by first | (rw [hy217]; with_reducible exact H) | (have H2_ := (Option.bind_some _ _).symm.trans H; rw [hy217]; with_reducible exact H2_) | (have H2_ := (Option.bind_some _ _).symm.trans H; with_reducible exact H2_) | with_reducible exact H | (rw [hy217]; exact H) | exact H
          have Ny217 := Aside0.mk hy217
          clear hy217
          replace H := Option.bind_eq_some_iff.mp H
          obtain ⟨t221, A210, H⟩ := H
          replace H : (if (t221.length : Int) > 0 then (if 0 ≤ (wrap64 ((t221.length : Int) - 1)) then (if (wrap64 ((t221.length : Int) - 1)) < (t221.length : Int) then (if x3_1 < (l0.length : Int) then (if ((rd_T25 t221 (wrap64 ((t221.length : Int) - 1))).f0) ≥ ((rd_T29 l0 x3_1).f0) then (some false) else (if (((rd_T29 l0 x3_1).f1).length : Int) > 0 then (if 0 < (((rd_T29 l0 x3_1).f1).length : Int) then (if ((rd_T25 t221 (wrap64 ((t221.length : Int) - 1))).f1) > ((rd_T25 ((rd_T29 l0 x3_1).f1) 0).f1) then (some false) else (fairwayref13_Row.l0 kj3 l0 (wrap64 (x3_1 + 1)))) else (none)) else (fairwayref13_Row.l0 kj3 l0 (wrap64 (x3_1 + 1))))) else (none)) else (none)) else (none)) else (fairwayref13_Row.l0 kj3 l0 (wrap64 (x3_1 + 1)))) = some r := H
          have A21 := Aside0.mk A210
          clear A210
          by_cases c22 : (t221.length : Int) > 0
          ·rw [if_pos c22] at H
           have c22b0 : decide (0 < (t221.length : Int)) = true := decide_eq_true c22
           have c22b1 : decide (0 < t221.length) = true := decide_eq_true (by omega)
           clear c22
           obtain ⟨ji23, hji23⟩ : ∃ j_ : Int, (wrap64 ((t221.length : Int) - 1)) = j_ := ⟨_, rfl⟩
           replace H : (if 0 ≤ (ji23) then (if (ji23) < (t221.length : Int) then (if x3_1 < (l0.length : Int) then (if ((rd_T25 t221 (ji23)).f0) ≥ ((rd_T29 l0 x3_1).f0) then (some false) else (if (((rd_T29 l0 x3_1).f1).length : Int) > 0 then (if 0 < (((rd_T29 l0 x3_1).f1).length : Int) then (if ((rd_T25 t221 (ji23)).f1) > ((rd_T25 ((rd_T29 l0 x3_1).f1) 0).f1) then (some false) else (fairwayref13_Row.l0 kj3 l0 (wrap64 (x3_1 + 1)))) else (none)) else (fairwayref13_Row.l0 kj3 l0 (wrap64 (x3_1 + 1))))) else (none)) else (none)) else (none)) = some r := by first | (rw [hji23] at H; exact H) | (simp only [hji23] at H ⊢; exact H)
           (try rw [hji23] at A21)
           have hji23w : (IntKind.i64.wrap ((t221.length : Int) - 1)) = ji23 := (i64_w _).trans hji23
           by_cases c24 : 0 ≤ (ji23)
           ·rw [if_pos c24] at H
            have c24b0 : decide (0 ≤ (ji23)) = true := decide_eq_true c24
            clear c24
            by_cases c25 : (ji23) < (t221.length : Int)
            ·rw [if_pos c25] at H
             have c25b0 : decide ((ji23) < (t221.length : Int)) = true := decide_eq_true c25
             clear c25
             by_cases c26 : x3_1 < (l0.length : Int)
             ·rw [if_pos c26] at H
              have c26b0 : decide (x3_1 < (l0.length : Int)) = true := decide_eq_true c26
              clear c26
              by_cases c27 : ((rd_T25 t221 (ji23)).f0) ≥ ((rd_T29 l0 x3_1).f0)
              ·rw [if_pos c27] at H
               have c27b0 : decide (((rd_T29 l0 x3_1).f0) ≤ ((rd_T25 t221 (ji23)).f0)) = true := decide_eq_true c27
               clear c27
               obtain rfl := Option.some.inj H
               have q28 : (x3_1 : Int) ≤ ((l0.length : Int) : Int) := od
               obtain ⟨i028, hi028, _, hsz28, _⟩ := info_parts info29
               have hroom28 : l0.length ≤ c0 := HC0.out
               have hC28 : Kd.C k29 _ A0 l0.length l0 := HR0.out
               have hcut28 := cut_to (P := Try.prog) 23 29 .i64 Try.underlying23 hi028 A0 l0.length c0 x3_1 (od) q28 hroom28
               have hr28 := Kd.C_take (m := (x3_1 : Int).toNat) hC28 (by omega)
               have hy28 : y217.length = (x3_1 : Int).toNat := (by rw [Ny217.out, List.length_take]; omega)
               rw [← Ny217.out] at hr28
               rw [← hy28] at hcut28
               have HR220 := Aside0.mk hr28
               have HC220 := Aside0.mk (show y217.length ≤ c0 from by omega)
               clear hr28 hC28 hroom28 hi028 hsz28
               have KY28 := Aside0.mk hy28
               clear hy28
               replace q28 := eq_true q28
               try go_wp2_with (first | ((with_reducible refine gate_callee (f := 45) rfl ?_); refine goesL_ (some 42) rfl rfl Try.func45 (by kernel_rfl) rfl #[.slice A0 y217.length c0] rfl aa ?_; (with_reducible refine (fairwayref13_Recs.calls kj3 _ _ y217 t221 _ ?side1 ?side2 A21.out).mono ?_); (case side1 => repeat (first | exact (Kd.C_below HR220.out HB.out) | (with_reducible refine Kd.C_alloc ?_ _) | (with_reducible refine Kd.C_drewN ?_ _) | (with_reducible refine Kd.C_drew ?_))); (case side2 => exact HC220.out); rintro e w29 ⟨v222, rfl, ho0, hb⟩; refine ⟨_, rfl, ?_⟩; have HO223 := Aside0.mk (Kd.R_lower ho0 (below_size bo)); replace HB := Aside0.mk (below_step bo hb); (try clear hb); (try clear hb2); (try clear hk); (try clear hi); (try clear ho0); obtain ⟨Ao30, co30, eo30⟩ := Kd.R_slice HO223.out; subst eo30; have p224 : 0 ≤ ((ji23) : Int) := od; have q224 : (ji23) < (t221.length : Int) := od; obtain ⟨ad224, e224, hx224_0, hx224_1, hx224_2, hx224_3, hx224_4, hx224_5⟩ := at_T25 (Kd.R_reads' HO223.out).2.2 (ji23) p224 q224; cases e224; replace p224 := eq_true p224; replace q224 := eq_true q224) | ((with_reducible refine gate_dst (N := 5) rfl ?_); (try (refine gate_guard (by rfl) ?_; dsimp only)); refine box_event ?hg (N := 5) ?hd (cs := #[.int .i64 0, .int .i64 0, .string (⟨#[]⟩ : ByteArray), .string (⟨#[]⟩ : ByteArray), .int .i64 0, .bool false]) (t := 25) ?hr ?_; (case hd => rfl); (case hg => rfl); (case hr => first | (go_simp; done) | (go_simp; rfl)); intro gb225 hg w31 hbox hb; replace HO223 := Aside0.mk (Kd.R_below (Kd.R_elderB (rk HO223.out) gb225 (Nat.le_of_eq hg.symm)) hb); have BK225 := Aside0.mk (hbox); have GW225 := Aside0.mk ((by rw [hg]; exact (below_size bo) : w.heap.size ≤ gb225)); have GE225 := Aside0.mk ((by rw [hg]; exact (below_size bo) : w.heap.size ≤ gb225)); replace HB := Aside0.mk (below_step bo hb); clear hb hbox hg; obtain ⟨hcz32_0, hcz32_1, hcz32_2, hcz32_3, hcz32_4, hcz32_5⟩ := cl6 BK225.out; obtain ⟨hfz32_0, hfz32_1, hfz32_2, hfz32_3, hfz32_4, hfz32_5⟩ := fz6 BK225.out))
               (try (rw [drewN_self w31]; generalize hq_ : World.drewN w31 _ = w31; have n0_ := Aside0.mk (Kd.R_at hq_ HO223.out); have n1_ := Aside0.mk (blk_at hq_ BK225.out); have n2_ := Aside0.mk (below_at hq_ HB.out); clear hq_ HO223 BK225 HB; have HO223 := n0_; have BK225 := n1_; have HB := n2_; clear n0_ n1_ n2_))
               have n0_ : Aside0 (Kd.R k25 25 ((((((w31.setCell ⟨gb225, 0, none⟩ (.int .i64 ((rd_T25 t221 (ji23)).f0))).setCell ⟨gb225, 1, none⟩ (.int .i64 ((rd_T25 t221 (ji23)).f1))).setCell ⟨gb225, 2, none⟩ (.string ((rd_T25 t221 (ji23)).f2))).setCell ⟨gb225, 3, none⟩ (.string ((rd_T25 t221 (ji23)).f3))).setCell ⟨gb225, 4, none⟩ (.int .i64 ((rd_T25 t221 (ji23)).f4))).setCell ⟨gb225, 5, none⟩ (.bool ((rd_T25 t221 (ji23)).f5))) w.heap.size (fun k_ => k_ ≠ gb225) (.slice (some ad224) t221.length co30) t221) := ⟨by (with_reducible repeat (first | apply Kd.R_alloc | apply Kd.R_drewN | apply Kd.R_drew)); exact Kd.R_mono (Kd.R_far (p := ⟨gb225, 5, none⟩) (Kd.R_far (p := ⟨gb225, 4, none⟩) (Kd.R_far (p := ⟨gb225, 3, none⟩) (Kd.R_far (p := ⟨gb225, 2, none⟩) (Kd.R_far (p := ⟨gb225, 1, none⟩) (Kd.R_far (p := ⟨gb225, 0, none⟩) (Kd.R_mono HO223.out (fun k_ hk => (⟨hk, hk.2⟩ : _ ∧ k_ ≠ gb225))) (fun _ hk => hk.2) (.int .i64 ((rd_T25 t221 (ji23)).f0))) (fun _ hk => hk.2) (.int .i64 ((rd_T25 t221 (ji23)).f1))) (fun _ hk => hk.2) (.string ((rd_T25 t221 (ji23)).f2))) (fun _ hk => hk.2) (.string ((rd_T25 t221 (ji23)).f3))) (fun _ hk => hk.2) (.int .i64 ((rd_T25 t221 (ji23)).f4))) (fun _ hk => hk.2) (.bool ((rd_T25 t221 (ji23)).f5))) (fun _ hk => hk.1.2)⟩
               have n1_ : Aside0 (((((((w31.setCell ⟨gb225, 0, none⟩ (.int .i64 ((rd_T25 t221 (ji23)).f0))).setCell ⟨gb225, 1, none⟩ (.int .i64 ((rd_T25 t221 (ji23)).f1))).setCell ⟨gb225, 2, none⟩ (.string ((rd_T25 t221 (ji23)).f2))).setCell ⟨gb225, 3, none⟩ (.string ((rd_T25 t221 (ji23)).f3))).setCell ⟨gb225, 4, none⟩ (.int .i64 ((rd_T25 t221 (ji23)).f4))).setCell ⟨gb225, 5, none⟩ (.bool ((rd_T25 t221 (ji23)).f5))).heap[gb225]? = some (.cells #[.int .i64 ((rd_T25 t221 (ji23)).f0), .int .i64 ((rd_T25 t221 (ji23)).f1), .string ((rd_T25 t221 (ji23)).f2), .string ((rd_T25 t221 (ji23)).f3), .int .i64 ((rd_T25 t221 (ji23)).f4), .bool ((rd_T25 t221 (ji23)).f5)] 25 (0, 0))) := ⟨by (with_reducible repeat (first | refine blk_drewN ?_ _ | refine blk_drew ?_ | refine blk_alloc ?_ _)); refine blk_put (cs := #[.int .i64 ((rd_T25 t221 (ji23)).f0), .int .i64 ((rd_T25 t221 (ji23)).f1), .string ((rd_T25 t221 (ji23)).f2), .string ((rd_T25 t221 (ji23)).f3), .int .i64 ((rd_T25 t221 (ji23)).f4), .bool false]) ?_ 5 _ rfl; (with_reducible repeat (first | refine blk_drewN ?_ _ | refine blk_drew ?_ | refine blk_alloc ?_ _)); refine blk_put (cs := #[.int .i64 ((rd_T25 t221 (ji23)).f0), .int .i64 ((rd_T25 t221 (ji23)).f1), .string ((rd_T25 t221 (ji23)).f2), .string ((rd_T25 t221 (ji23)).f3), .int .i64 0, .bool false]) ?_ 4 _ rfl; (with_reducible repeat (first | refine blk_drewN ?_ _ | refine blk_drew ?_ | refine blk_alloc ?_ _)); refine blk_put (cs := #[.int .i64 ((rd_T25 t221 (ji23)).f0), .int .i64 ((rd_T25 t221 (ji23)).f1), .string ((rd_T25 t221 (ji23)).f2), .string (⟨#[]⟩ : ByteArray), .int .i64 0, .bool false]) ?_ 3 _ rfl; (with_reducible repeat (first | refine blk_drewN ?_ _ | refine blk_drew ?_ | refine blk_alloc ?_ _)); refine blk_put (cs := #[.int .i64 ((rd_T25 t221 (ji23)).f0), .int .i64 ((rd_T25 t221 (ji23)).f1), .string (⟨#[]⟩ : ByteArray), .string (⟨#[]⟩ : ByteArray), .int .i64 0, .bool false]) ?_ 2 _ rfl; (with_reducible repeat (first | refine blk_drewN ?_ _ | refine blk_drew ?_ | refine blk_alloc ?_ _)); refine blk_put (cs := #[.int .i64 ((rd_T25 t221 (ji23)).f0), .int .i64 0, .string (⟨#[]⟩ : ByteArray), .string (⟨#[]⟩ : ByteArray), .int .i64 0, .bool false]) ?_ 1 _ rfl; (with_reducible repeat (first | refine blk_drewN ?_ _ | refine blk_drew ?_ | refine blk_alloc ?_ _)); refine blk_put (cs := #[.int .i64 0, .int .i64 0, .string (⟨#[]⟩ : ByteArray), .string (⟨#[]⟩ : ByteArray), .int .i64 0, .bool false]) ?_ 0 _ rfl; (with_reducible repeat (first | refine blk_drewN ?_ _ | refine blk_drew ?_ | refine blk_alloc ?_ _)); exact BK225.out⟩
               have n2_ : Aside0 (Below w.heap.size w ((((((w31.setCell ⟨gb225, 0, none⟩ (.int .i64 ((rd_T25 t221 (ji23)).f0))).setCell ⟨gb225, 1, none⟩ (.int .i64 ((rd_T25 t221 (ji23)).f1))).setCell ⟨gb225, 2, none⟩ (.string ((rd_T25 t221 (ji23)).f2))).setCell ⟨gb225, 3, none⟩ (.string ((rd_T25 t221 (ji23)).f3))).setCell ⟨gb225, 4, none⟩ (.int .i64 ((rd_T25 t221 (ji23)).f4))).setCell ⟨gb225, 5, none⟩ (.bool ((rd_T25 t221 (ji23)).f5)))) := ⟨bo⟩
               (try clear HO223)
               (try clear BK225)
               (try clear HB)
               generalize ((((((w31.setCell ⟨gb225, 0, none⟩ (.int .i64 ((rd_T25 t221 (ji23)).f0))).setCell ⟨gb225, 1, none⟩ (.int .i64 ((rd_T25 t221 (ji23)).f1))).setCell ⟨gb225, 2, none⟩ (.string ((rd_T25 t221 (ji23)).f2))).setCell ⟨gb225, 3, none⟩ (.string ((rd_T25 t221 (ji23)).f3))).setCell ⟨gb225, 4, none⟩ (.int .i64 ((rd_T25 t221 (ji23)).f4))).setCell ⟨gb225, 5, none⟩ (.bool ((rd_T25 t221 (ji23)).f5))) = w33 at n0_ n1_ n2_ ⊢
               have HO223 := n0_
               have BK225 := n1_
               have HB := n2_
               clear n0_ n1_ n2_
               replace HO223 := Aside0.mk (Kd.R_drew HO223.out)
               replace BK225 := Aside0.mk (blk_drew BK225.out)
               replace HB := Aside0.mk (below_drew1 HB.out)
               have p226 : 0 ≤ (x3_1 : Int) := od
               have q226 : x3_1 < (l0.length : Int) := od
               obtain ⟨ad226, A226_1, c226_1, e226, hx226_0, hx226_1, hl226_1, hi226_1⟩ := at_T29 HR0.out x3_1 p226 q226
               have hw226_1 := hx226_1
               have hw226_0 := hx226_0
               cases e226
               replace hx226_0 := cx HB.out hx226_0
               replace hx226_1 := cx HB.out hx226_1
               have HR226_1 := Aside0.mk hi226_1
               have HC226_1 := Aside0.mk hl226_1
               clear hi226_1 hl226_1
               replace p226 := eq_true p226
               replace q226 := eq_true q226
               refine start_ (n := 30) (S := fun w' => w'.cell? ⟨gb225, 0, none⟩ = some (.int .i64 ((rd_T25 t221 (ji23)).f0)) ∧ w'.cell? ⟨gb225, 1, none⟩ = some (.int .i64 ((rd_T25 t221 (ji23)).f1)) ∧ w'.cell? ⟨gb225, 2, none⟩ = some (.string ((rd_T25 t221 (ji23)).f2)) ∧ w'.cell? ⟨gb225, 3, none⟩ = some (.string ((rd_T25 t221 (ji23)).f3)) ∧ w'.cell? ⟨gb225, 4, none⟩ = some (.int .i64 ((rd_T25 t221 (ji23)).f4)) ∧ w'.cell? ⟨gb225, 5, none⟩ = some (.bool ((rd_T25 t221 (ji23)).f5)) ∧ w'.cell? (ad226.add ((x3_1).toNat * 2)) = some (.int .i64 ((rd_T29 l0 x3_1).f0)) ∧ w'.cell? ⟨(ad226.add ((x3_1).toNat * 2)).block, (ad226.add ((x3_1).toNat * 2)).off + 1, none⟩ = some (.slice A226_1 ((rd_T29 l0 x3_1).f1).length c226_1)) (ds := []) #[O,O,O,O,O,O,O,O,O,O,O,O,O,O,O,O,O,O,O,O,O,O,O,O,O,O,O,O,O,O] (by kernel_rfl) rfl rfl ⟨(blk_cell BK225.out 0).trans rfl, (blk_cell BK225.out 1).trans rfl, (blk_cell BK225.out 2).trans rfl, (blk_cell BK225.out 3).trans rfl, (blk_cell BK225.out 4).trans rfl, (blk_cell BK225.out 5).trans rfl, ((HB.out.cell (World.block_lt_of_cell? w _ hw226_0)).trans hw226_0), ((HB.out.cell (World.block_lt_of_cell? w _ hw226_1)).trans hw226_1)⟩ (fun hHeld => ?_); refine with_tabW fairwayref13_Row.tab11 fairwayref13_Row.bits11 (fun HT_ HW_ => ?_)
               generalize w33.drew = w34 at HO223 BK225 HB HR226_1 hx226_0 hx226_1 hHeld ⊢
               refine pz (i := 0) (N := some 52) #[I,O,O,O,O,O,O,O,O,O,O,O,O,O,O,O,O,O,O,O,O,O,O,O,O,O,O,O,O,O] ?_
               refine pz (i := 2) (N := some 54) #[I,O,I,O,O,O,O,O,O,O,O,O,O,O,O,O,O,O,O,O,O,O,O,O,O,O,O,O,O,O] ?_
               refine pz (i := 3) (N := some 55) #[I,O,I,I,O,O,O,O,O,O,O,O,O,O,O,O,O,O,O,O,O,O,O,O,O,O,O,O,O,O] ?_
               refine pz (i := 4) (N := some 56) #[I,O,I,I,I,O,O,O,O,O,O,O,O,O,O,O,O,O,O,O,O,O,O,O,O,O,O,O,O,O] ?_
               refine pz (i := 5) (N := some 57) #[I,O,I,I,I,I,O,O,O,O,O,O,O,O,O,O,O,O,O,O,O,O,O,O,O,O,O,O,O,O] ?_
               refine tz (i := 1) (N := some 53) #[I,I,I,I,I,I,O,O,O,O,O,O,O,O,O,O,O,O,O,O,O,O,O,O,O,O,O,O,O,O] ?_
               refine tz (i := 6) (N := some 58) #[I,I,I,I,I,I,I,O,O,O,O,O,O,O,O,O,O,O,O,O,O,O,O,O,O,O,O,O,O,O] ?_
               refine pz (i := 7) (N := some 59) #[I,I,I,I,I,I,I,I,O,O,O,O,O,O,O,O,O,O,O,O,O,O,O,O,O,O,O,O,O,O] ?_
               refine pz (i := 8) (N := some 60) #[I,I,I,I,I,I,I,I,I,O,O,O,O,O,O,O,O,O,O,O,O,O,O,O,O,O,O,O,O,O] ?_
               refine pu (i := 9) (N := some 61) #[I,I,I,I,I,I,I,I,I,I,O,O,O,O,O,O,O,O,O,O,O,O,O,O,O,O,O,O,O,O] ?_
               refine pu (i := 10) (N := some 62) #[I,I,I,I,I,I,I,I,I,I,I,O,O,O,O,O,O,O,O,O,O,O,O,O,O,O,O,O,O,O] ?_
               refine pu (i := 11) (N := some 63) #[I,I,I,I,I,I,I,I,I,I,I,I,O,O,O,O,O,O,O,O,O,O,O,O,O,O,O,O,O,O] ?_
               refine pu (i := 12) (N := some 64) #[I,I,I,I,I,I,I,I,I,I,I,I,I,O,O,O,O,O,O,O,O,O,O,O,O,O,O,O,O,O] ?_
               refine pu (i := 13) (N := some 65) #[I,I,I,I,I,I,I,I,I,I,I,I,I,I,O,O,O,O,O,O,O,O,O,O,O,O,O,O,O,O] ?_
               refine pu (i := 14) (N := some 66) #[I,I,I,I,I,I,I,I,I,I,I,I,I,I,I,O,O,O,O,O,O,O,O,O,O,O,O,O,O,O] ?_
               refine pu (i := 15) (N := some 67) #[I,I,I,I,I,I,I,I,I,I,I,I,I,I,I,I,O,O,O,O,O,O,O,O,O,O,O,O,O,O] ?_
               refine pu (i := 16) (N := some 68) #[I,I,I,I,I,I,I,I,I,I,I,I,I,I,I,I,I,O,O,O,O,O,O,O,O,O,O,O,O,O] ?_
               refine pu (i := 17) (N := some 69) #[I,I,I,I,I,I,I,I,I,I,I,I,I,I,I,I,I,I,O,O,O,O,O,O,O,O,O,O,O,O] ?_
               refine pu (i := 18) (N := some 70) #[I,I,I,I,I,I,I,I,I,I,I,I,I,I,I,I,I,I,I,O,O,O,O,O,O,O,O,O,O,O] ?_
               refine pu (i := 19) (N := some 71) #[I,I,I,I,I,I,I,I,I,I,I,I,I,I,I,I,I,I,I,I,O,O,O,O,O,O,O,O,O,O] ?_
               refine pu (i := 20) (N := some 72) #[I,I,I,I,I,I,I,I,I,I,I,I,I,I,I,I,I,I,I,I,I,O,O,O,O,O,O,O,O,O] ?_
               refine pu (i := 21) (N := some 73) #[I,I,I,I,I,I,I,I,I,I,I,I,I,I,I,I,I,I,I,I,I,I,O,O,O,O,O,O,O,O] ?_
               refine pu (i := 22) (N := some 74) #[I,I,I,I,I,I,I,I,I,I,I,I,I,I,I,I,I,I,I,I,I,I,I,O,O,O,O,O,O,O] ?_
               refine pu (i := 23) (N := some 75) #[I,I,I,I,I,I,I,I,I,I,I,I,I,I,I,I,I,I,I,I,I,I,I,I,O,O,O,O,O,O] ?_
               refine pu (i := 24) (N := some 76) #[I,I,I,I,I,I,I,I,I,I,I,I,I,I,I,I,I,I,I,I,I,I,I,I,I,O,O,O,O,O] ?_
               refine pu (i := 25) (N := some 77) #[I,I,I,I,I,I,I,I,I,I,I,I,I,I,I,I,I,I,I,I,I,I,I,I,I,I,O,O,O,O] ?_
               refine pu (i := 26) (N := some 78) #[I,I,I,I,I,I,I,I,I,I,I,I,I,I,I,I,I,I,I,I,I,I,I,I,I,I,I,O,O,O] ?_
               refine pu (i := 27) (N := some 79) #[I,I,I,I,I,I,I,I,I,I,I,I,I,I,I,I,I,I,I,I,I,I,I,I,I,I,I,I,O,O] ?_
               refine pu (i := 28) (N := some 80) #[I,I,I,I,I,I,I,I,I,I,I,I,I,I,I,I,I,I,I,I,I,I,I,I,I,I,I,I,I,O] ?_
               refine pz (i := 29) (N := some 81) #[I,I,I,I,I,I,I,I,I,I,I,I,I,I,I,I,I,I,I,I,I,I,I,I,I,I,I,I,I,I] ?_
               refine done_ (done_of HT_.out (by kernel_rfl)) ?_
               try go_wp2
               go_ret
               exact ⟨by first | rfl | (simp [errW_none, errW_some] <;> rfl) | (simp only [← hji23]; first | rfl | (simp [errW_none, errW_some] <;> rfl)) | (simp [*, errW_none, errW_some] <;> rfl), bo⟩
              ·rw [if_neg c27] at H
               have c27b0 : decide (((rd_T29 l0 x3_1).f0) ≤ ((rd_T25 t221 (ji23)).f0)) = false := decide_eq_false c27
               clear c27
               by_cases c35 : (((rd_T29 l0 x3_1).f1).length : Int) > 0
               ·rw [if_pos c35] at H
                have c35b0 : decide (0 < (((rd_T29 l0 x3_1).f1).length : Int)) = true := decide_eq_true c35
                have c35b1 : decide (0 < ((rd_T29 l0 x3_1).f1).length) = true := decide_eq_true (by omega)
                clear c35
                by_cases c36 : 0 < (((rd_T29 l0 x3_1).f1).length : Int)
                ·rw [if_pos c36] at H
                 have c36b0 : decide (0 < (((rd_T29 l0 x3_1).f1).length : Int)) = true := decide_eq_true c36
                 have c36b1 : decide (0 < ((rd_T29 l0 x3_1).f1).length) = true := decide_eq_true (by omega)
                 clear c36
                 by_cases c37 : ((rd_T25 t221 (ji23)).f1) > ((rd_T25 ((rd_T29 l0 x3_1).f1) 0).f1)
                 ·rw [if_pos c37] at H
                  have c37b0 : decide (((rd_T25 ((rd_T29 l0 x3_1).f1) 0).f1) < ((rd_T25 t221 (ji23)).f1)) = true := decide_eq_true c37
                  clear c37
                  obtain rfl := Option.some.inj H
                  have q38 : (x3_1 : Int) ≤ ((l0.length : Int) : Int) := od
                  obtain ⟨i038, hi038, _, hsz38, _⟩ := info_parts info29
                  have hroom38 : l0.length ≤ c0 := HC0.out
                  have hC38 : Kd.C k29 _ A0 l0.length l0 := HR0.out
                  have hcut38 := cut_to (P := Try.prog) 23 29 .i64 Try.underlying23 hi038 A0 l0.length c0 x3_1 (od) q38 hroom38
                  have hr38 := Kd.C_take (m := (x3_1 : Int).toNat) hC38 (by omega)
                  have hy38 : y217.length = (x3_1 : Int).toNat := (by rw [Ny217.out, List.length_take]; omega)
                  rw [← Ny217.out] at hr38
                  rw [← hy38] at hcut38
                  have HR220 := Aside0.mk hr38
                  have HC220 := Aside0.mk (show y217.length ≤ c0 from by omega)
                  clear hr38 hC38 hroom38 hi038 hsz38
                  have KY38 := Aside0.mk hy38
                  clear hy38
                  replace q38 := eq_true q38
                  try go_wp2_with (first | ((with_reducible refine gate_callee (f := 45) rfl ?_); refine goesL_ (some 42) rfl rfl Try.func45 (by kernel_rfl) rfl #[.slice A0 y217.length c0] rfl aa ?_; (with_reducible refine (fairwayref13_Recs.calls kj3 _ _ y217 t221 _ ?side1 ?side2 A21.out).mono ?_); (case side1 => repeat (first | exact (Kd.C_below HR220.out HB.out) | (with_reducible refine Kd.C_alloc ?_ _) | (with_reducible refine Kd.C_drewN ?_ _) | (with_reducible refine Kd.C_drew ?_))); (case side2 => exact HC220.out); rintro e w39 ⟨v222, rfl, ho0, hb⟩; refine ⟨_, rfl, ?_⟩; have HO223 := Aside0.mk (Kd.R_lower ho0 (below_size bo)); replace HB := Aside0.mk (below_step bo hb); (try clear hb); (try clear hb2); (try clear hk); (try clear hi); (try clear ho0); obtain ⟨Ao40, co40, eo40⟩ := Kd.R_slice HO223.out; subst eo40; have p224 : 0 ≤ ((ji23) : Int) := od; have q224 : (ji23) < (t221.length : Int) := od; obtain ⟨ad224, e224, hx224_0, hx224_1, hx224_2, hx224_3, hx224_4, hx224_5⟩ := at_T25 (Kd.R_reads' HO223.out).2.2 (ji23) p224 q224; cases e224; replace p224 := eq_true p224; replace q224 := eq_true q224) | ((with_reducible refine gate_dst (N := 5) rfl ?_); (try (refine gate_guard (by rfl) ?_; dsimp only)); refine box_event ?hg (N := 5) ?hd (cs := #[.int .i64 0, .int .i64 0, .string (⟨#[]⟩ : ByteArray), .string (⟨#[]⟩ : ByteArray), .int .i64 0, .bool false]) (t := 25) ?hr ?_; (case hd => rfl); (case hg => rfl); (case hr => first | (go_simp; done) | (go_simp; rfl)); intro gb225 hg w41 hbox hb; replace HO223 := Aside0.mk (Kd.R_below (Kd.R_elderB (rk HO223.out) gb225 (Nat.le_of_eq hg.symm)) hb); have BK225 := Aside0.mk (hbox); have GW225 := Aside0.mk ((by rw [hg]; exact (below_size bo) : w.heap.size ≤ gb225)); have GE225 := Aside0.mk ((by rw [hg]; exact (below_size bo) : w.heap.size ≤ gb225)); replace HB := Aside0.mk (below_step bo hb); clear hb hbox hg; obtain ⟨hcz42_0, hcz42_1, hcz42_2, hcz42_3, hcz42_4, hcz42_5⟩ := cl6 BK225.out; obtain ⟨hfz42_0, hfz42_1, hfz42_2, hfz42_3, hfz42_4, hfz42_5⟩ := fz6 BK225.out))
                  (try (rw [drewN_self w41]; generalize hq_ : World.drewN w41 _ = w41; have n0_ := Aside0.mk (Kd.R_at hq_ HO223.out); have n1_ := Aside0.mk (blk_at hq_ BK225.out); have n2_ := Aside0.mk (below_at hq_ HB.out); clear hq_ HO223 BK225 HB; have HO223 := n0_; have BK225 := n1_; have HB := n2_; clear n0_ n1_ n2_))
                  have n0_ : Aside0 (Kd.R k25 25 ((((((w41.setCell ⟨gb225, 0, none⟩ (.int .i64 ((rd_T25 t221 (ji23)).f0))).setCell ⟨gb225, 1, none⟩ (.int .i64 ((rd_T25 t221 (ji23)).f1))).setCell ⟨gb225, 2, none⟩ (.string ((rd_T25 t221 (ji23)).f2))).setCell ⟨gb225, 3, none⟩ (.string ((rd_T25 t221 (ji23)).f3))).setCell ⟨gb225, 4, none⟩ (.int .i64 ((rd_T25 t221 (ji23)).f4))).setCell ⟨gb225, 5, none⟩ (.bool ((rd_T25 t221 (ji23)).f5))) w.heap.size (fun k_ => k_ ≠ gb225) (.slice (some ad224) t221.length co40) t221) := ⟨by (with_reducible repeat (first | apply Kd.R_alloc | apply Kd.R_drewN | apply Kd.R_drew)); exact Kd.R_mono (Kd.R_far (p := ⟨gb225, 5, none⟩) (Kd.R_far (p := ⟨gb225, 4, none⟩) (Kd.R_far (p := ⟨gb225, 3, none⟩) (Kd.R_far (p := ⟨gb225, 2, none⟩) (Kd.R_far (p := ⟨gb225, 1, none⟩) (Kd.R_far (p := ⟨gb225, 0, none⟩) (Kd.R_mono HO223.out (fun k_ hk => (⟨hk, hk.2⟩ : _ ∧ k_ ≠ gb225))) (fun _ hk => hk.2) (.int .i64 ((rd_T25 t221 (ji23)).f0))) (fun _ hk => hk.2) (.int .i64 ((rd_T25 t221 (ji23)).f1))) (fun _ hk => hk.2) (.string ((rd_T25 t221 (ji23)).f2))) (fun _ hk => hk.2) (.string ((rd_T25 t221 (ji23)).f3))) (fun _ hk => hk.2) (.int .i64 ((rd_T25 t221 (ji23)).f4))) (fun _ hk => hk.2) (.bool ((rd_T25 t221 (ji23)).f5))) (fun _ hk => hk.1.2)⟩
                  have n1_ : Aside0 (((((((w41.setCell ⟨gb225, 0, none⟩ (.int .i64 ((rd_T25 t221 (ji23)).f0))).setCell ⟨gb225, 1, none⟩ (.int .i64 ((rd_T25 t221 (ji23)).f1))).setCell ⟨gb225, 2, none⟩ (.string ((rd_T25 t221 (ji23)).f2))).setCell ⟨gb225, 3, none⟩ (.string ((rd_T25 t221 (ji23)).f3))).setCell ⟨gb225, 4, none⟩ (.int .i64 ((rd_T25 t221 (ji23)).f4))).setCell ⟨gb225, 5, none⟩ (.bool ((rd_T25 t221 (ji23)).f5))).heap[gb225]? = some (.cells #[.int .i64 ((rd_T25 t221 (ji23)).f0), .int .i64 ((rd_T25 t221 (ji23)).f1), .string ((rd_T25 t221 (ji23)).f2), .string ((rd_T25 t221 (ji23)).f3), .int .i64 ((rd_T25 t221 (ji23)).f4), .bool ((rd_T25 t221 (ji23)).f5)] 25 (0, 0))) := ⟨by (with_reducible repeat (first | refine blk_drewN ?_ _ | refine blk_drew ?_ | refine blk_alloc ?_ _)); refine blk_put (cs := #[.int .i64 ((rd_T25 t221 (ji23)).f0), .int .i64 ((rd_T25 t221 (ji23)).f1), .string ((rd_T25 t221 (ji23)).f2), .string ((rd_T25 t221 (ji23)).f3), .int .i64 ((rd_T25 t221 (ji23)).f4), .bool false]) ?_ 5 _ rfl; (with_reducible repeat (first | refine blk_drewN ?_ _ | refine blk_drew ?_ | refine blk_alloc ?_ _)); refine blk_put (cs := #[.int .i64 ((rd_T25 t221 (ji23)).f0), .int .i64 ((rd_T25 t221 (ji23)).f1), .string ((rd_T25 t221 (ji23)).f2), .string ((rd_T25 t221 (ji23)).f3), .int .i64 0, .bool false]) ?_ 4 _ rfl; (with_reducible repeat (first | refine blk_drewN ?_ _ | refine blk_drew ?_ | refine blk_alloc ?_ _)); refine blk_put (cs := #[.int .i64 ((rd_T25 t221 (ji23)).f0), .int .i64 ((rd_T25 t221 (ji23)).f1), .string ((rd_T25 t221 (ji23)).f2), .string (⟨#[]⟩ : ByteArray), .int .i64 0, .bool false]) ?_ 3 _ rfl; (with_reducible repeat (first | refine blk_drewN ?_ _ | refine blk_drew ?_ | refine blk_alloc ?_ _)); refine blk_put (cs := #[.int .i64 ((rd_T25 t221 (ji23)).f0), .int .i64 ((rd_T25 t221 (ji23)).f1), .string (⟨#[]⟩ : ByteArray), .string (⟨#[]⟩ : ByteArray), .int .i64 0, .bool false]) ?_ 2 _ rfl; (with_reducible repeat (first | refine blk_drewN ?_ _ | refine blk_drew ?_ | refine blk_alloc ?_ _)); refine blk_put (cs := #[.int .i64 ((rd_T25 t221 (ji23)).f0), .int .i64 0, .string (⟨#[]⟩ : ByteArray), .string (⟨#[]⟩ : ByteArray), .int .i64 0, .bool false]) ?_ 1 _ rfl; (with_reducible repeat (first | refine blk_drewN ?_ _ | refine blk_drew ?_ | refine blk_alloc ?_ _)); refine blk_put (cs := #[.int .i64 0, .int .i64 0, .string (⟨#[]⟩ : ByteArray), .string (⟨#[]⟩ : ByteArray), .int .i64 0, .bool false]) ?_ 0 _ rfl; (with_reducible repeat (first | refine blk_drewN ?_ _ | refine blk_drew ?_ | refine blk_alloc ?_ _)); exact BK225.out⟩
                  have n2_ : Aside0 (Below w.heap.size w ((((((w41.setCell ⟨gb225, 0, none⟩ (.int .i64 ((rd_T25 t221 (ji23)).f0))).setCell ⟨gb225, 1, none⟩ (.int .i64 ((rd_T25 t221 (ji23)).f1))).setCell ⟨gb225, 2, none⟩ (.string ((rd_T25 t221 (ji23)).f2))).setCell ⟨gb225, 3, none⟩ (.string ((rd_T25 t221 (ji23)).f3))).setCell ⟨gb225, 4, none⟩ (.int .i64 ((rd_T25 t221 (ji23)).f4))).setCell ⟨gb225, 5, none⟩ (.bool ((rd_T25 t221 (ji23)).f5)))) := ⟨bo⟩
                  (try clear HO223)
                  (try clear BK225)
                  (try clear HB)
                  generalize ((((((w41.setCell ⟨gb225, 0, none⟩ (.int .i64 ((rd_T25 t221 (ji23)).f0))).setCell ⟨gb225, 1, none⟩ (.int .i64 ((rd_T25 t221 (ji23)).f1))).setCell ⟨gb225, 2, none⟩ (.string ((rd_T25 t221 (ji23)).f2))).setCell ⟨gb225, 3, none⟩ (.string ((rd_T25 t221 (ji23)).f3))).setCell ⟨gb225, 4, none⟩ (.int .i64 ((rd_T25 t221 (ji23)).f4))).setCell ⟨gb225, 5, none⟩ (.bool ((rd_T25 t221 (ji23)).f5))) = w43 at n0_ n1_ n2_ ⊢
                  have HO223 := n0_
                  have BK225 := n1_
                  have HB := n2_
                  clear n0_ n1_ n2_
                  replace HO223 := Aside0.mk (Kd.R_drew HO223.out)
                  replace BK225 := Aside0.mk (blk_drew BK225.out)
                  replace HB := Aside0.mk (below_drew1 HB.out)
                  have p226 : 0 ≤ (x3_1 : Int) := od
                  have q226 : x3_1 < (l0.length : Int) := od
                  obtain ⟨ad226, A226_1, c226_1, e226, hx226_0, hx226_1, hl226_1, hi226_1⟩ := at_T29 HR0.out x3_1 p226 q226
                  have hw226_1 := hx226_1
                  have hw226_0 := hx226_0
                  cases e226
                  replace hx226_0 := cx HB.out hx226_0
                  replace hx226_1 := cx HB.out hx226_1
                  have HR226_1 := Aside0.mk hi226_1
                  have HC226_1 := Aside0.mk hl226_1
                  clear hi226_1 hl226_1
                  replace p226 := eq_true p226
                  replace q226 := eq_true q226
                  have p227 : 0 ≤ (x3_1 : Int) := od
                  have q227 : x3_1 < (l0.length : Int) := od
                  obtain ⟨ad227, A227_1, c227_1, e227, hx227_0, hx227_1, hl227_1, hi227_1⟩ := at_T29 HR0.out x3_1 p227 q227
                  have hw227_1 := hx227_1
                  have hw227_0 := hx227_0
                  obtain rfl : ad226 = ad227 := (by injection e227)
                  replace hx227_0 := cx HB.out hx227_0
                  replace hx227_1 := cx HB.out hx227_1
                  have HR227_1 := Aside0.mk hi227_1
                  have HC227_1 := Aside0.mk hl227_1
                  clear hi227_1 hl227_1
                  replace p227 := eq_true p227
                  replace q227 := eq_true q227
                  have ea_ := Option.some.inj (hx226_1.symm.trans hx227_1)
                  injection ea_ with ea_ en_ ec_
                  subst ea_
                  subst ec_
                  clear en_
                  have p228 : 0 ≤ (x3_1 : Int) := od
                  have q228 : x3_1 < (l0.length : Int) := od
                  obtain ⟨ad228, A228_1, c228_1, e228, hx228_0, hx228_1, hl228_1, hi228_1⟩ := at_T29 HR0.out x3_1 p228 q228
                  have hw228_1 := hx228_1
                  have hw228_0 := hx228_0
                  obtain rfl : ad226 = ad228 := (by injection e228)
                  replace hx228_0 := cx HB.out hx228_0
                  replace hx228_1 := cx HB.out hx228_1
                  have HR228_1 := Aside0.mk hi228_1
                  have HC228_1 := Aside0.mk hl228_1
                  clear hi228_1 hl228_1
                  replace p228 := eq_true p228
                  replace q228 := eq_true q228
                  have ea_ := Option.some.inj (hx226_1.symm.trans hx228_1)
                  injection ea_ with ea_ en_ ec_
                  subst ea_
                  subst ec_
                  clear en_
                  have p229 : 0 ≤ (0 : Int) := (by omega)
                  have q229 : 0 < (((rd_T29 l0 x3_1).f1).length : Int) := od
                  obtain ⟨ad229, e229, hx229_0, hx229_1, hx229_2, hx229_3, hx229_4, hx229_5⟩ := at_T25 HR228_1.out 0 p229 q229
                  have hw229_5 := hx229_5
                  (try rw [show ((0 : Int)).toNat = 0 from rfl] at hw229_5)
                  (try rw [show 0 * 6 = 0 from rfl] at hw229_5)
                  (try rw [Addr.add_zero'] at hw229_5)
                  have hw229_4 := hx229_4
                  (try rw [show ((0 : Int)).toNat = 0 from rfl] at hw229_4)
                  (try rw [show 0 * 6 = 0 from rfl] at hw229_4)
                  (try rw [Addr.add_zero'] at hw229_4)
                  have hw229_3 := hx229_3
                  (try rw [show ((0 : Int)).toNat = 0 from rfl] at hw229_3)
                  (try rw [show 0 * 6 = 0 from rfl] at hw229_3)
                  (try rw [Addr.add_zero'] at hw229_3)
                  have hw229_2 := hx229_2
                  (try rw [show ((0 : Int)).toNat = 0 from rfl] at hw229_2)
                  (try rw [show 0 * 6 = 0 from rfl] at hw229_2)
                  (try rw [Addr.add_zero'] at hw229_2)
                  have hw229_1 := hx229_1
                  (try rw [show ((0 : Int)).toNat = 0 from rfl] at hw229_1)
                  (try rw [show 0 * 6 = 0 from rfl] at hw229_1)
                  (try rw [Addr.add_zero'] at hw229_1)
                  have hw229_0 := hx229_0
                  (try rw [show ((0 : Int)).toNat = 0 from rfl] at hw229_0)
                  (try rw [show 0 * 6 = 0 from rfl] at hw229_0)
                  (try rw [Addr.add_zero'] at hw229_0)
                  cases e229
                  have qi229 : (0 < ((rd_T29 l0 x3_1).f1).length) = True := eq_true (by omega)
                  (try rw [show ((0 : Int)).toNat = 0 from rfl] at hx229_0)
                  (try rw [show 0 * 6 = 0 from rfl] at hx229_0)
                  (try rw [Addr.add_zero'] at hx229_0)
                  (try rw [show ((0 : Int)).toNat = 0 from rfl] at hx229_1)
                  (try rw [show 0 * 6 = 0 from rfl] at hx229_1)
                  (try rw [Addr.add_zero'] at hx229_1)
                  (try rw [show ((0 : Int)).toNat = 0 from rfl] at hx229_2)
                  (try rw [show 0 * 6 = 0 from rfl] at hx229_2)
                  (try rw [Addr.add_zero'] at hx229_2)
                  (try rw [show ((0 : Int)).toNat = 0 from rfl] at hx229_3)
                  (try rw [show 0 * 6 = 0 from rfl] at hx229_3)
                  (try rw [Addr.add_zero'] at hx229_3)
                  (try rw [show ((0 : Int)).toNat = 0 from rfl] at hx229_4)
                  (try rw [show 0 * 6 = 0 from rfl] at hx229_4)
                  (try rw [Addr.add_zero'] at hx229_4)
                  (try rw [show ((0 : Int)).toNat = 0 from rfl] at hx229_5)
                  (try rw [show 0 * 6 = 0 from rfl] at hx229_5)
                  (try rw [Addr.add_zero'] at hx229_5)
                  replace hx229_0 := cx HB.out hx229_0
                  replace hx229_1 := cx HB.out hx229_1
                  replace hx229_2 := cx HB.out hx229_2
                  replace hx229_3 := cx HB.out hx229_3
                  replace hx229_4 := cx HB.out hx229_4
                  replace hx229_5 := cx HB.out hx229_5
                  replace p229 := eq_true p229
                  replace q229 := eq_true q229
                  refine start_ (n := 30) (S := fun w' => w'.cell? ⟨gb225, 0, none⟩ = some (.int .i64 ((rd_T25 t221 (ji23)).f0)) ∧ w'.cell? ⟨gb225, 1, none⟩ = some (.int .i64 ((rd_T25 t221 (ji23)).f1)) ∧ w'.cell? ⟨gb225, 2, none⟩ = some (.string ((rd_T25 t221 (ji23)).f2)) ∧ w'.cell? ⟨gb225, 3, none⟩ = some (.string ((rd_T25 t221 (ji23)).f3)) ∧ w'.cell? ⟨gb225, 4, none⟩ = some (.int .i64 ((rd_T25 t221 (ji23)).f4)) ∧ w'.cell? ⟨gb225, 5, none⟩ = some (.bool ((rd_T25 t221 (ji23)).f5)) ∧ w'.cell? (ad226.add ((x3_1).toNat * 2)) = some (.int .i64 ((rd_T29 l0 x3_1).f0)) ∧ w'.cell? ⟨(ad226.add ((x3_1).toNat * 2)).block, (ad226.add ((x3_1).toNat * 2)).off + 1, none⟩ = some (.slice (some ad229) ((rd_T29 l0 x3_1).f1).length c226_1) ∧ w'.cell? (ad226.add ((x3_1).toNat * 2)) = some (.int .i64 ((rd_T29 l0 x3_1).f0)) ∧ w'.cell? ⟨(ad226.add ((x3_1).toNat * 2)).block, (ad226.add ((x3_1).toNat * 2)).off + 1, none⟩ = some (.slice (some ad229) ((rd_T29 l0 x3_1).f1).length c226_1) ∧ w'.cell? (ad226.add ((x3_1).toNat * 2)) = some (.int .i64 ((rd_T29 l0 x3_1).f0)) ∧ w'.cell? ⟨(ad226.add ((x3_1).toNat * 2)).block, (ad226.add ((x3_1).toNat * 2)).off + 1, none⟩ = some (.slice (some ad229) ((rd_T29 l0 x3_1).f1).length c226_1) ∧ w'.cell? ad229 = some (.int .i64 ((rd_T25 ((rd_T29 l0 x3_1).f1) 0).f0)) ∧ w'.cell? ⟨ad229.block, ad229.off + 1, none⟩ = some (.int .i64 ((rd_T25 ((rd_T29 l0 x3_1).f1) 0).f1)) ∧ w'.cell? ⟨ad229.block, ad229.off + 2, none⟩ = some (.string ((rd_T25 ((rd_T29 l0 x3_1).f1) 0).f2)) ∧ w'.cell? ⟨ad229.block, ad229.off + 3, none⟩ = some (.string ((rd_T25 ((rd_T29 l0 x3_1).f1) 0).f3)) ∧ w'.cell? ⟨ad229.block, ad229.off + 4, none⟩ = some (.int .i64 ((rd_T25 ((rd_T29 l0 x3_1).f1) 0).f4)) ∧ w'.cell? ⟨ad229.block, ad229.off + 5, none⟩ = some (.bool ((rd_T25 ((rd_T29 l0 x3_1).f1) 0).f5))) (ds := []) #[O,O,O,O,O,O,O,O,O,O,O,O,O,O,O,O,O,O,O,O,O,O,O,O,O,O,O,O,O,O] (by kernel_rfl) rfl rfl ⟨(blk_cell BK225.out 0).trans rfl, (blk_cell BK225.out 1).trans rfl, (blk_cell BK225.out 2).trans rfl, (blk_cell BK225.out 3).trans rfl, (blk_cell BK225.out 4).trans rfl, (blk_cell BK225.out 5).trans rfl, ((HB.out.cell (World.block_lt_of_cell? w _ hw226_0)).trans hw226_0), ((HB.out.cell (World.block_lt_of_cell? w _ hw226_1)).trans hw226_1), ((HB.out.cell (World.block_lt_of_cell? w _ hw227_0)).trans hw227_0), ((HB.out.cell (World.block_lt_of_cell? w _ hw227_1)).trans hw227_1), ((HB.out.cell (World.block_lt_of_cell? w _ hw228_0)).trans hw228_0), ((HB.out.cell (World.block_lt_of_cell? w _ hw228_1)).trans hw228_1), ((HB.out.cell (World.block_lt_of_cell? w _ hw229_0)).trans hw229_0), ((HB.out.cell (World.block_lt_of_cell? w _ hw229_1)).trans hw229_1), ((HB.out.cell (World.block_lt_of_cell? w _ hw229_2)).trans hw229_2), ((HB.out.cell (World.block_lt_of_cell? w _ hw229_3)).trans hw229_3), ((HB.out.cell (World.block_lt_of_cell? w _ hw229_4)).trans hw229_4), ((HB.out.cell (World.block_lt_of_cell? w _ hw229_5)).trans hw229_5)⟩ (fun hHeld => ?_); refine with_tabW fairwayref13_Row.tab11 fairwayref13_Row.bits11 (fun HT_ HW_ => ?_)
                  generalize w43.drew = w44 at HO223 BK225 HB HR226_1 HR227_1 HR228_1 hx226_0 hx226_1 hx227_0 hx227_1 hx228_0 hx228_1 hx229_0 hx229_1 hx229_2 hx229_3 hx229_4 hx229_5 hHeld ⊢
                  refine pz (i := 0) (N := some 52) #[I,O,O,O,O,O,O,O,O,O,O,O,O,O,O,O,O,O,O,O,O,O,O,O,O,O,O,O,O,O] ?_
                  refine pz (i := 2) (N := some 54) #[I,O,I,O,O,O,O,O,O,O,O,O,O,O,O,O,O,O,O,O,O,O,O,O,O,O,O,O,O,O] ?_
                  refine pz (i := 3) (N := some 55) #[I,O,I,I,O,O,O,O,O,O,O,O,O,O,O,O,O,O,O,O,O,O,O,O,O,O,O,O,O,O] ?_
                  refine pz (i := 4) (N := some 56) #[I,O,I,I,I,O,O,O,O,O,O,O,O,O,O,O,O,O,O,O,O,O,O,O,O,O,O,O,O,O] ?_
                  refine pz (i := 5) (N := some 57) #[I,O,I,I,I,I,O,O,O,O,O,O,O,O,O,O,O,O,O,O,O,O,O,O,O,O,O,O,O,O] ?_
                  refine tz (i := 1) (N := some 53) #[I,I,I,I,I,I,O,O,O,O,O,O,O,O,O,O,O,O,O,O,O,O,O,O,O,O,O,O,O,O] ?_
                  refine tz (i := 6) (N := some 58) #[I,I,I,I,I,I,I,O,O,O,O,O,O,O,O,O,O,O,O,O,O,O,O,O,O,O,O,O,O,O] ?_
                  refine pz (i := 7) (N := some 59) #[I,I,I,I,I,I,I,I,O,O,O,O,O,O,O,O,O,O,O,O,O,O,O,O,O,O,O,O,O,O] ?_
                  refine pz (i := 8) (N := some 60) #[I,I,I,I,I,I,I,I,I,O,O,O,O,O,O,O,O,O,O,O,O,O,O,O,O,O,O,O,O,O] ?_
                  refine pz (i := 9) (N := some 61) #[I,I,I,I,I,I,I,I,I,I,O,O,O,O,O,O,O,O,O,O,O,O,O,O,O,O,O,O,O,O] ?_
                  refine pz (i := 10) (N := some 62) #[I,I,I,I,I,I,I,I,I,I,I,O,O,O,O,O,O,O,O,O,O,O,O,O,O,O,O,O,O,O] ?_
                  refine pz (i := 11) (N := some 63) #[I,I,I,I,I,I,I,I,I,I,I,I,O,O,O,O,O,O,O,O,O,O,O,O,O,O,O,O,O,O] ?_
                  refine pz (i := 12) (N := some 64) #[I,I,I,I,I,I,I,I,I,I,I,I,I,O,O,O,O,O,O,O,O,O,O,O,O,O,O,O,O,O] ?_
                  refine tz (i := 13) (N := some 65) #[I,I,I,I,I,I,I,I,I,I,I,I,I,I,O,O,O,O,O,O,O,O,O,O,O,O,O,O,O,O] ?_
                  refine pz (i := 14) (N := some 66) #[I,I,I,I,I,I,I,I,I,I,I,I,I,I,I,O,O,O,O,O,O,O,O,O,O,O,O,O,O,O] ?_
                  refine pz (i := 15) (N := some 67) #[I,I,I,I,I,I,I,I,I,I,I,I,I,I,I,I,O,O,O,O,O,O,O,O,O,O,O,O,O,O] ?_
                  refine pz (i := 16) (N := some 68) #[I,I,I,I,I,I,I,I,I,I,I,I,I,I,I,I,I,O,O,O,O,O,O,O,O,O,O,O,O,O] ?_
                  refine pz (i := 17) (N := some 69) #[I,I,I,I,I,I,I,I,I,I,I,I,I,I,I,I,I,I,O,O,O,O,O,O,O,O,O,O,O,O] ?_
                  refine pz (i := 19) (N := some 71) #[I,I,I,I,I,I,I,I,I,I,I,I,I,I,I,I,I,I,O,I,O,O,O,O,O,O,O,O,O,O] ?_
                  refine pz (i := 20) (N := some 72) #[I,I,I,I,I,I,I,I,I,I,I,I,I,I,I,I,I,I,O,I,I,O,O,O,O,O,O,O,O,O] ?_
                  refine pz (i := 21) (N := some 73) #[I,I,I,I,I,I,I,I,I,I,I,I,I,I,I,I,I,I,O,I,I,I,O,O,O,O,O,O,O,O] ?_
                  refine pz (i := 22) (N := some 74) #[I,I,I,I,I,I,I,I,I,I,I,I,I,I,I,I,I,I,O,I,I,I,I,O,O,O,O,O,O,O] ?_
                  refine tz (i := 18) (N := some 70) #[I,I,I,I,I,I,I,I,I,I,I,I,I,I,I,I,I,I,I,I,I,I,I,O,O,O,O,O,O,O] ?_
                  refine tz (i := 23) (N := some 75) #[I,I,I,I,I,I,I,I,I,I,I,I,I,I,I,I,I,I,I,I,I,I,I,I,O,O,O,O,O,O] ?_
                  refine pz (i := 24) (N := some 76) #[I,I,I,I,I,I,I,I,I,I,I,I,I,I,I,I,I,I,I,I,I,I,I,I,I,O,O,O,O,O] ?_
                  refine pz (i := 25) (N := some 77) #[I,I,I,I,I,I,I,I,I,I,I,I,I,I,I,I,I,I,I,I,I,I,I,I,I,I,O,O,O,O] ?_
                  refine tz (i := 26) (N := some 78) #[I,I,I,I,I,I,I,I,I,I,I,I,I,I,I,I,I,I,I,I,I,I,I,I,I,I,I,O,O,O] ?_
                  refine pz (i := 27) (N := some 79) #[I,I,I,I,I,I,I,I,I,I,I,I,I,I,I,I,I,I,I,I,I,I,I,I,I,I,I,I,O,O] ?_
                  refine pz (i := 28) (N := some 80) #[I,I,I,I,I,I,I,I,I,I,I,I,I,I,I,I,I,I,I,I,I,I,I,I,I,I,I,I,I,O] ?_
                  refine pz (i := 29) (N := some 81) #[I,I,I,I,I,I,I,I,I,I,I,I,I,I,I,I,I,I,I,I,I,I,I,I,I,I,I,I,I,I] ?_
                  refine done_ (done_of HT_.out (by kernel_rfl)) ?_
                  try go_wp2
                  go_ret
                  exact ⟨by first | rfl | (simp [errW_none, errW_some] <;> rfl) | (simp only [← hji23]; first | rfl | (simp [errW_none, errW_some] <;> rfl)) | (simp [*, errW_none, errW_some] <;> rfl), bo⟩
                 ·rw [if_neg c37] at H
                  have c37b0 : decide (((rd_T25 ((rd_T29 l0 x3_1).f1) 0).f1) < ((rd_T25 t221 (ji23)).f1)) = false := decide_eq_false c37
                  clear c37
                  have H' := Aside0.mk H
                  clear H
                  have q45 : (x3_1 : Int) ≤ ((l0.length : Int) : Int) := od
                  obtain ⟨i045, hi045, _, hsz45, _⟩ := info_parts info29
                  have hroom45 : l0.length ≤ c0 := HC0.out
                  have hC45 : Kd.C k29 _ A0 l0.length l0 := HR0.out
                  have hcut45 := cut_to (P := Try.prog) 23 29 .i64 Try.underlying23 hi045 A0 l0.length c0 x3_1 (od) q45 hroom45
                  have hr45 := Kd.C_take (m := (x3_1 : Int).toNat) hC45 (by omega)
                  have hy45 : y217.length = (x3_1 : Int).toNat := (by rw [Ny217.out, List.length_take]; omega)
                  rw [← Ny217.out] at hr45
                  rw [← hy45] at hcut45
                  have HR220 := Aside0.mk hr45
                  have HC220 := Aside0.mk (show y217.length ≤ c0 from by omega)
                  clear hr45 hC45 hroom45 hi045 hsz45
                  have KY45 := Aside0.mk hy45
                  clear hy45
                  replace q45 := eq_true q45
                  try go_wp2_with (first | ((with_reducible refine gate_callee (f := 45) rfl ?_); refine goesL_ (some 42) rfl rfl Try.func45 (by kernel_rfl) rfl #[.slice A0 y217.length c0] rfl aa ?_; (with_reducible refine (fairwayref13_Recs.calls kj3 _ _ y217 t221 _ ?side1 ?side2 A21.out).mono ?_); (case side1 => repeat (first | exact (Kd.C_below HR220.out HB.out) | (with_reducible refine Kd.C_alloc ?_ _) | (with_reducible refine Kd.C_drewN ?_ _) | (with_reducible refine Kd.C_drew ?_))); (case side2 => exact HC220.out); rintro e w46 ⟨v222, rfl, ho0, hb⟩; refine ⟨_, rfl, ?_⟩; have HO223 := Aside0.mk (Kd.R_lower ho0 (below_size bo)); replace HB := Aside0.mk (below_step bo hb); (try clear hb); (try clear hb2); (try clear hk); (try clear hi); (try clear ho0); obtain ⟨Ao47, co47, eo47⟩ := Kd.R_slice HO223.out; subst eo47; have p224 : 0 ≤ ((ji23) : Int) := od; have q224 : (ji23) < (t221.length : Int) := od; obtain ⟨ad224, e224, hx224_0, hx224_1, hx224_2, hx224_3, hx224_4, hx224_5⟩ := at_T25 (Kd.R_reads' HO223.out).2.2 (ji23) p224 q224; cases e224; replace p224 := eq_true p224; replace q224 := eq_true q224) | ((with_reducible refine gate_dst (N := 5) rfl ?_); (try (refine gate_guard (by rfl) ?_; dsimp only)); refine box_event ?hg (N := 5) ?hd (cs := #[.int .i64 0, .int .i64 0, .string (⟨#[]⟩ : ByteArray), .string (⟨#[]⟩ : ByteArray), .int .i64 0, .bool false]) (t := 25) ?hr ?_; (case hd => rfl); (case hg => rfl); (case hr => first | (go_simp; done) | (go_simp; rfl)); intro gb225 hg w48 hbox hb; replace HO223 := Aside0.mk (Kd.R_below (Kd.R_elderB (rk HO223.out) gb225 (Nat.le_of_eq hg.symm)) hb); have BK225 := Aside0.mk (hbox); have GW225 := Aside0.mk ((by rw [hg]; exact (below_size bo) : w.heap.size ≤ gb225)); have GE225 := Aside0.mk ((by rw [hg]; exact (below_size bo) : w.heap.size ≤ gb225)); replace HB := Aside0.mk (below_step bo hb); clear hb hbox hg; obtain ⟨hcz49_0, hcz49_1, hcz49_2, hcz49_3, hcz49_4, hcz49_5⟩ := cl6 BK225.out; obtain ⟨hfz49_0, hfz49_1, hfz49_2, hfz49_3, hfz49_4, hfz49_5⟩ := fz6 BK225.out))
                  (try (rw [drewN_self w48]; generalize hq_ : World.drewN w48 _ = w48; have n0_ := Aside0.mk (Kd.R_at hq_ HO223.out); have n1_ := Aside0.mk (blk_at hq_ BK225.out); have n2_ := Aside0.mk (below_at hq_ HB.out); clear hq_ HO223 BK225 HB; have HO223 := n0_; have BK225 := n1_; have HB := n2_; clear n0_ n1_ n2_))
                  have n0_ : Aside0 (Kd.R k25 25 ((((((w48.setCell ⟨gb225, 0, none⟩ (.int .i64 ((rd_T25 t221 (ji23)).f0))).setCell ⟨gb225, 1, none⟩ (.int .i64 ((rd_T25 t221 (ji23)).f1))).setCell ⟨gb225, 2, none⟩ (.string ((rd_T25 t221 (ji23)).f2))).setCell ⟨gb225, 3, none⟩ (.string ((rd_T25 t221 (ji23)).f3))).setCell ⟨gb225, 4, none⟩ (.int .i64 ((rd_T25 t221 (ji23)).f4))).setCell ⟨gb225, 5, none⟩ (.bool ((rd_T25 t221 (ji23)).f5))) w.heap.size (fun k_ => k_ ≠ gb225) (.slice (some ad224) t221.length co47) t221) := ⟨by (with_reducible repeat (first | apply Kd.R_alloc | apply Kd.R_drewN | apply Kd.R_drew)); exact Kd.R_mono (Kd.R_far (p := ⟨gb225, 5, none⟩) (Kd.R_far (p := ⟨gb225, 4, none⟩) (Kd.R_far (p := ⟨gb225, 3, none⟩) (Kd.R_far (p := ⟨gb225, 2, none⟩) (Kd.R_far (p := ⟨gb225, 1, none⟩) (Kd.R_far (p := ⟨gb225, 0, none⟩) (Kd.R_mono HO223.out (fun k_ hk => (⟨hk, hk.2⟩ : _ ∧ k_ ≠ gb225))) (fun _ hk => hk.2) (.int .i64 ((rd_T25 t221 (ji23)).f0))) (fun _ hk => hk.2) (.int .i64 ((rd_T25 t221 (ji23)).f1))) (fun _ hk => hk.2) (.string ((rd_T25 t221 (ji23)).f2))) (fun _ hk => hk.2) (.string ((rd_T25 t221 (ji23)).f3))) (fun _ hk => hk.2) (.int .i64 ((rd_T25 t221 (ji23)).f4))) (fun _ hk => hk.2) (.bool ((rd_T25 t221 (ji23)).f5))) (fun _ hk => hk.1.2)⟩
                  have n1_ : Aside0 (((((((w48.setCell ⟨gb225, 0, none⟩ (.int .i64 ((rd_T25 t221 (ji23)).f0))).setCell ⟨gb225, 1, none⟩ (.int .i64 ((rd_T25 t221 (ji23)).f1))).setCell ⟨gb225, 2, none⟩ (.string ((rd_T25 t221 (ji23)).f2))).setCell ⟨gb225, 3, none⟩ (.string ((rd_T25 t221 (ji23)).f3))).setCell ⟨gb225, 4, none⟩ (.int .i64 ((rd_T25 t221 (ji23)).f4))).setCell ⟨gb225, 5, none⟩ (.bool ((rd_T25 t221 (ji23)).f5))).heap[gb225]? = some (.cells #[.int .i64 ((rd_T25 t221 (ji23)).f0), .int .i64 ((rd_T25 t221 (ji23)).f1), .string ((rd_T25 t221 (ji23)).f2), .string ((rd_T25 t221 (ji23)).f3), .int .i64 ((rd_T25 t221 (ji23)).f4), .bool ((rd_T25 t221 (ji23)).f5)] 25 (0, 0))) := ⟨by (with_reducible repeat (first | refine blk_drewN ?_ _ | refine blk_drew ?_ | refine blk_alloc ?_ _)); refine blk_put (cs := #[.int .i64 ((rd_T25 t221 (ji23)).f0), .int .i64 ((rd_T25 t221 (ji23)).f1), .string ((rd_T25 t221 (ji23)).f2), .string ((rd_T25 t221 (ji23)).f3), .int .i64 ((rd_T25 t221 (ji23)).f4), .bool false]) ?_ 5 _ rfl; (with_reducible repeat (first | refine blk_drewN ?_ _ | refine blk_drew ?_ | refine blk_alloc ?_ _)); refine blk_put (cs := #[.int .i64 ((rd_T25 t221 (ji23)).f0), .int .i64 ((rd_T25 t221 (ji23)).f1), .string ((rd_T25 t221 (ji23)).f2), .string ((rd_T25 t221 (ji23)).f3), .int .i64 0, .bool false]) ?_ 4 _ rfl; (with_reducible repeat (first | refine blk_drewN ?_ _ | refine blk_drew ?_ | refine blk_alloc ?_ _)); refine blk_put (cs := #[.int .i64 ((rd_T25 t221 (ji23)).f0), .int .i64 ((rd_T25 t221 (ji23)).f1), .string ((rd_T25 t221 (ji23)).f2), .string (⟨#[]⟩ : ByteArray), .int .i64 0, .bool false]) ?_ 3 _ rfl; (with_reducible repeat (first | refine blk_drewN ?_ _ | refine blk_drew ?_ | refine blk_alloc ?_ _)); refine blk_put (cs := #[.int .i64 ((rd_T25 t221 (ji23)).f0), .int .i64 ((rd_T25 t221 (ji23)).f1), .string (⟨#[]⟩ : ByteArray), .string (⟨#[]⟩ : ByteArray), .int .i64 0, .bool false]) ?_ 2 _ rfl; (with_reducible repeat (first | refine blk_drewN ?_ _ | refine blk_drew ?_ | refine blk_alloc ?_ _)); refine blk_put (cs := #[.int .i64 ((rd_T25 t221 (ji23)).f0), .int .i64 0, .string (⟨#[]⟩ : ByteArray), .string (⟨#[]⟩ : ByteArray), .int .i64 0, .bool false]) ?_ 1 _ rfl; (with_reducible repeat (first | refine blk_drewN ?_ _ | refine blk_drew ?_ | refine blk_alloc ?_ _)); refine blk_put (cs := #[.int .i64 0, .int .i64 0, .string (⟨#[]⟩ : ByteArray), .string (⟨#[]⟩ : ByteArray), .int .i64 0, .bool false]) ?_ 0 _ rfl; (with_reducible repeat (first | refine blk_drewN ?_ _ | refine blk_drew ?_ | refine blk_alloc ?_ _)); exact BK225.out⟩
                  have n2_ : Aside0 (Below w.heap.size w ((((((w48.setCell ⟨gb225, 0, none⟩ (.int .i64 ((rd_T25 t221 (ji23)).f0))).setCell ⟨gb225, 1, none⟩ (.int .i64 ((rd_T25 t221 (ji23)).f1))).setCell ⟨gb225, 2, none⟩ (.string ((rd_T25 t221 (ji23)).f2))).setCell ⟨gb225, 3, none⟩ (.string ((rd_T25 t221 (ji23)).f3))).setCell ⟨gb225, 4, none⟩ (.int .i64 ((rd_T25 t221 (ji23)).f4))).setCell ⟨gb225, 5, none⟩ (.bool ((rd_T25 t221 (ji23)).f5)))) := ⟨bo⟩
                  (try clear HO223)
                  (try clear BK225)
                  (try clear HB)
                  generalize ((((((w48.setCell ⟨gb225, 0, none⟩ (.int .i64 ((rd_T25 t221 (ji23)).f0))).setCell ⟨gb225, 1, none⟩ (.int .i64 ((rd_T25 t221 (ji23)).f1))).setCell ⟨gb225, 2, none⟩ (.string ((rd_T25 t221 (ji23)).f2))).setCell ⟨gb225, 3, none⟩ (.string ((rd_T25 t221 (ji23)).f3))).setCell ⟨gb225, 4, none⟩ (.int .i64 ((rd_T25 t221 (ji23)).f4))).setCell ⟨gb225, 5, none⟩ (.bool ((rd_T25 t221 (ji23)).f5))) = w50 at n0_ n1_ n2_ ⊢
                  have HO223 := n0_
                  have BK225 := n1_
                  have HB := n2_
                  clear n0_ n1_ n2_
                  replace HO223 := Aside0.mk (Kd.R_drew HO223.out)
                  replace BK225 := Aside0.mk (blk_drew BK225.out)
                  replace HB := Aside0.mk (below_drew1 HB.out)
                  have p226 : 0 ≤ (x3_1 : Int) := od
                  have q226 : x3_1 < (l0.length : Int) := od
                  obtain ⟨ad226, A226_1, c226_1, e226, hx226_0, hx226_1, hl226_1, hi226_1⟩ := at_T29 HR0.out x3_1 p226 q226
                  have hw226_1 := hx226_1
                  have hw226_0 := hx226_0
                  cases e226
                  replace hx226_0 := cx HB.out hx226_0
                  replace hx226_1 := cx HB.out hx226_1
                  have HR226_1 := Aside0.mk hi226_1
                  have HC226_1 := Aside0.mk hl226_1
                  clear hi226_1 hl226_1
                  replace p226 := eq_true p226
                  replace q226 := eq_true q226
                  have p227 : 0 ≤ (x3_1 : Int) := od
                  have q227 : x3_1 < (l0.length : Int) := od
                  obtain ⟨ad227, A227_1, c227_1, e227, hx227_0, hx227_1, hl227_1, hi227_1⟩ := at_T29 HR0.out x3_1 p227 q227
                  have hw227_1 := hx227_1
                  have hw227_0 := hx227_0
                  obtain rfl : ad226 = ad227 := (by injection e227)
                  replace hx227_0 := cx HB.out hx227_0
                  replace hx227_1 := cx HB.out hx227_1
                  have HR227_1 := Aside0.mk hi227_1
                  have HC227_1 := Aside0.mk hl227_1
                  clear hi227_1 hl227_1
                  replace p227 := eq_true p227
                  replace q227 := eq_true q227
                  have ea_ := Option.some.inj (hx226_1.symm.trans hx227_1)
                  injection ea_ with ea_ en_ ec_
                  subst ea_
                  subst ec_
                  clear en_
                  have p228 : 0 ≤ (x3_1 : Int) := od
                  have q228 : x3_1 < (l0.length : Int) := od
                  obtain ⟨ad228, A228_1, c228_1, e228, hx228_0, hx228_1, hl228_1, hi228_1⟩ := at_T29 HR0.out x3_1 p228 q228
                  have hw228_1 := hx228_1
                  have hw228_0 := hx228_0
                  obtain rfl : ad226 = ad228 := (by injection e228)
                  replace hx228_0 := cx HB.out hx228_0
                  replace hx228_1 := cx HB.out hx228_1
                  have HR228_1 := Aside0.mk hi228_1
                  have HC228_1 := Aside0.mk hl228_1
                  clear hi228_1 hl228_1
                  replace p228 := eq_true p228
                  replace q228 := eq_true q228
                  have ea_ := Option.some.inj (hx226_1.symm.trans hx228_1)
                  injection ea_ with ea_ en_ ec_
                  subst ea_
                  subst ec_
                  clear en_
                  have p229 : 0 ≤ (0 : Int) := (by omega)
                  have q229 : 0 < (((rd_T29 l0 x3_1).f1).length : Int) := od
                  obtain ⟨ad229, e229, hx229_0, hx229_1, hx229_2, hx229_3, hx229_4, hx229_5⟩ := at_T25 HR228_1.out 0 p229 q229
                  have hw229_5 := hx229_5
                  (try rw [show ((0 : Int)).toNat = 0 from rfl] at hw229_5)
                  (try rw [show 0 * 6 = 0 from rfl] at hw229_5)
                  (try rw [Addr.add_zero'] at hw229_5)
                  have hw229_4 := hx229_4
                  (try rw [show ((0 : Int)).toNat = 0 from rfl] at hw229_4)
                  (try rw [show 0 * 6 = 0 from rfl] at hw229_4)
                  (try rw [Addr.add_zero'] at hw229_4)
                  have hw229_3 := hx229_3
                  (try rw [show ((0 : Int)).toNat = 0 from rfl] at hw229_3)
                  (try rw [show 0 * 6 = 0 from rfl] at hw229_3)
                  (try rw [Addr.add_zero'] at hw229_3)
                  have hw229_2 := hx229_2
                  (try rw [show ((0 : Int)).toNat = 0 from rfl] at hw229_2)
                  (try rw [show 0 * 6 = 0 from rfl] at hw229_2)
                  (try rw [Addr.add_zero'] at hw229_2)
                  have hw229_1 := hx229_1
                  (try rw [show ((0 : Int)).toNat = 0 from rfl] at hw229_1)
                  (try rw [show 0 * 6 = 0 from rfl] at hw229_1)
                  (try rw [Addr.add_zero'] at hw229_1)
                  have hw229_0 := hx229_0
                  (try rw [show ((0 : Int)).toNat = 0 from rfl] at hw229_0)
                  (try rw [show 0 * 6 = 0 from rfl] at hw229_0)
                  (try rw [Addr.add_zero'] at hw229_0)
                  cases e229
                  have qi229 : (0 < ((rd_T29 l0 x3_1).f1).length) = True := eq_true (by omega)
                  (try rw [show ((0 : Int)).toNat = 0 from rfl] at hx229_0)
                  (try rw [show 0 * 6 = 0 from rfl] at hx229_0)
                  (try rw [Addr.add_zero'] at hx229_0)
                  (try rw [show ((0 : Int)).toNat = 0 from rfl] at hx229_1)
                  (try rw [show 0 * 6 = 0 from rfl] at hx229_1)
                  (try rw [Addr.add_zero'] at hx229_1)
                  (try rw [show ((0 : Int)).toNat = 0 from rfl] at hx229_2)
                  (try rw [show 0 * 6 = 0 from rfl] at hx229_2)
                  (try rw [Addr.add_zero'] at hx229_2)
                  (try rw [show ((0 : Int)).toNat = 0 from rfl] at hx229_3)
                  (try rw [show 0 * 6 = 0 from rfl] at hx229_3)
                  (try rw [Addr.add_zero'] at hx229_3)
                  (try rw [show ((0 : Int)).toNat = 0 from rfl] at hx229_4)
                  (try rw [show 0 * 6 = 0 from rfl] at hx229_4)
                  (try rw [Addr.add_zero'] at hx229_4)
                  (try rw [show ((0 : Int)).toNat = 0 from rfl] at hx229_5)
                  (try rw [show 0 * 6 = 0 from rfl] at hx229_5)
                  (try rw [Addr.add_zero'] at hx229_5)
                  replace hx229_0 := cx HB.out hx229_0
                  replace hx229_1 := cx HB.out hx229_1
                  replace hx229_2 := cx HB.out hx229_2
                  replace hx229_3 := cx HB.out hx229_3
                  replace hx229_4 := cx HB.out hx229_4
                  replace hx229_5 := cx HB.out hx229_5
                  replace p229 := eq_true p229
                  replace q229 := eq_true q229
                  refine start_ (n := 30) (S := fun w' => w'.cell? ⟨gb225, 0, none⟩ = some (.int .i64 ((rd_T25 t221 (ji23)).f0)) ∧ w'.cell? ⟨gb225, 1, none⟩ = some (.int .i64 ((rd_T25 t221 (ji23)).f1)) ∧ w'.cell? ⟨gb225, 2, none⟩ = some (.string ((rd_T25 t221 (ji23)).f2)) ∧ w'.cell? ⟨gb225, 3, none⟩ = some (.string ((rd_T25 t221 (ji23)).f3)) ∧ w'.cell? ⟨gb225, 4, none⟩ = some (.int .i64 ((rd_T25 t221 (ji23)).f4)) ∧ w'.cell? ⟨gb225, 5, none⟩ = some (.bool ((rd_T25 t221 (ji23)).f5)) ∧ w'.cell? (ad226.add ((x3_1).toNat * 2)) = some (.int .i64 ((rd_T29 l0 x3_1).f0)) ∧ w'.cell? ⟨(ad226.add ((x3_1).toNat * 2)).block, (ad226.add ((x3_1).toNat * 2)).off + 1, none⟩ = some (.slice (some ad229) ((rd_T29 l0 x3_1).f1).length c226_1) ∧ w'.cell? (ad226.add ((x3_1).toNat * 2)) = some (.int .i64 ((rd_T29 l0 x3_1).f0)) ∧ w'.cell? ⟨(ad226.add ((x3_1).toNat * 2)).block, (ad226.add ((x3_1).toNat * 2)).off + 1, none⟩ = some (.slice (some ad229) ((rd_T29 l0 x3_1).f1).length c226_1) ∧ w'.cell? (ad226.add ((x3_1).toNat * 2)) = some (.int .i64 ((rd_T29 l0 x3_1).f0)) ∧ w'.cell? ⟨(ad226.add ((x3_1).toNat * 2)).block, (ad226.add ((x3_1).toNat * 2)).off + 1, none⟩ = some (.slice (some ad229) ((rd_T29 l0 x3_1).f1).length c226_1) ∧ w'.cell? ad229 = some (.int .i64 ((rd_T25 ((rd_T29 l0 x3_1).f1) 0).f0)) ∧ w'.cell? ⟨ad229.block, ad229.off + 1, none⟩ = some (.int .i64 ((rd_T25 ((rd_T29 l0 x3_1).f1) 0).f1)) ∧ w'.cell? ⟨ad229.block, ad229.off + 2, none⟩ = some (.string ((rd_T25 ((rd_T29 l0 x3_1).f1) 0).f2)) ∧ w'.cell? ⟨ad229.block, ad229.off + 3, none⟩ = some (.string ((rd_T25 ((rd_T29 l0 x3_1).f1) 0).f3)) ∧ w'.cell? ⟨ad229.block, ad229.off + 4, none⟩ = some (.int .i64 ((rd_T25 ((rd_T29 l0 x3_1).f1) 0).f4)) ∧ w'.cell? ⟨ad229.block, ad229.off + 5, none⟩ = some (.bool ((rd_T25 ((rd_T29 l0 x3_1).f1) 0).f5))) (ds := []) #[O,O,O,O,O,O,O,O,O,O,O,O,O,O,O,O,O,O,O,O,O,O,O,O,O,O,O,O,O,O] (by kernel_rfl) rfl rfl ⟨(blk_cell BK225.out 0).trans rfl, (blk_cell BK225.out 1).trans rfl, (blk_cell BK225.out 2).trans rfl, (blk_cell BK225.out 3).trans rfl, (blk_cell BK225.out 4).trans rfl, (blk_cell BK225.out 5).trans rfl, ((HB.out.cell (World.block_lt_of_cell? w _ hw226_0)).trans hw226_0), ((HB.out.cell (World.block_lt_of_cell? w _ hw226_1)).trans hw226_1), ((HB.out.cell (World.block_lt_of_cell? w _ hw227_0)).trans hw227_0), ((HB.out.cell (World.block_lt_of_cell? w _ hw227_1)).trans hw227_1), ((HB.out.cell (World.block_lt_of_cell? w _ hw228_0)).trans hw228_0), ((HB.out.cell (World.block_lt_of_cell? w _ hw228_1)).trans hw228_1), ((HB.out.cell (World.block_lt_of_cell? w _ hw229_0)).trans hw229_0), ((HB.out.cell (World.block_lt_of_cell? w _ hw229_1)).trans hw229_1), ((HB.out.cell (World.block_lt_of_cell? w _ hw229_2)).trans hw229_2), ((HB.out.cell (World.block_lt_of_cell? w _ hw229_3)).trans hw229_3), ((HB.out.cell (World.block_lt_of_cell? w _ hw229_4)).trans hw229_4), ((HB.out.cell (World.block_lt_of_cell? w _ hw229_5)).trans hw229_5)⟩ (fun hHeld => ?_); refine with_tabW fairwayref13_Row.tab11 fairwayref13_Row.bits11 (fun HT_ HW_ => ?_)
                  generalize w50.drew = w51 at HO223 BK225 HB HR226_1 HR227_1 HR228_1 hx226_0 hx226_1 hx227_0 hx227_1 hx228_0 hx228_1 hx229_0 hx229_1 hx229_2 hx229_3 hx229_4 hx229_5 hHeld ⊢
                  refine pz (i := 0) (N := some 52) #[I,O,O,O,O,O,O,O,O,O,O,O,O,O,O,O,O,O,O,O,O,O,O,O,O,O,O,O,O,O] ?_
                  refine pz (i := 2) (N := some 54) #[I,O,I,O,O,O,O,O,O,O,O,O,O,O,O,O,O,O,O,O,O,O,O,O,O,O,O,O,O,O] ?_
                  refine pz (i := 3) (N := some 55) #[I,O,I,I,O,O,O,O,O,O,O,O,O,O,O,O,O,O,O,O,O,O,O,O,O,O,O,O,O,O] ?_
                  refine pz (i := 4) (N := some 56) #[I,O,I,I,I,O,O,O,O,O,O,O,O,O,O,O,O,O,O,O,O,O,O,O,O,O,O,O,O,O] ?_
                  refine pz (i := 5) (N := some 57) #[I,O,I,I,I,I,O,O,O,O,O,O,O,O,O,O,O,O,O,O,O,O,O,O,O,O,O,O,O,O] ?_
                  refine tz (i := 1) (N := some 53) #[I,I,I,I,I,I,O,O,O,O,O,O,O,O,O,O,O,O,O,O,O,O,O,O,O,O,O,O,O,O] ?_
                  refine tz (i := 6) (N := some 58) #[I,I,I,I,I,I,I,O,O,O,O,O,O,O,O,O,O,O,O,O,O,O,O,O,O,O,O,O,O,O] ?_
                  refine pz (i := 7) (N := some 59) #[I,I,I,I,I,I,I,I,O,O,O,O,O,O,O,O,O,O,O,O,O,O,O,O,O,O,O,O,O,O] ?_
                  refine pz (i := 8) (N := some 60) #[I,I,I,I,I,I,I,I,I,O,O,O,O,O,O,O,O,O,O,O,O,O,O,O,O,O,O,O,O,O] ?_
                  refine pz (i := 9) (N := some 61) #[I,I,I,I,I,I,I,I,I,I,O,O,O,O,O,O,O,O,O,O,O,O,O,O,O,O,O,O,O,O] ?_
                  refine pz (i := 10) (N := some 62) #[I,I,I,I,I,I,I,I,I,I,I,O,O,O,O,O,O,O,O,O,O,O,O,O,O,O,O,O,O,O] ?_
                  refine pz (i := 11) (N := some 63) #[I,I,I,I,I,I,I,I,I,I,I,I,O,O,O,O,O,O,O,O,O,O,O,O,O,O,O,O,O,O] ?_
                  refine pz (i := 12) (N := some 64) #[I,I,I,I,I,I,I,I,I,I,I,I,I,O,O,O,O,O,O,O,O,O,O,O,O,O,O,O,O,O] ?_
                  refine tz (i := 13) (N := some 65) #[I,I,I,I,I,I,I,I,I,I,I,I,I,I,O,O,O,O,O,O,O,O,O,O,O,O,O,O,O,O] ?_
                  refine pz (i := 14) (N := some 66) #[I,I,I,I,I,I,I,I,I,I,I,I,I,I,I,O,O,O,O,O,O,O,O,O,O,O,O,O,O,O] ?_
                  refine pz (i := 15) (N := some 67) #[I,I,I,I,I,I,I,I,I,I,I,I,I,I,I,I,O,O,O,O,O,O,O,O,O,O,O,O,O,O] ?_
                  refine pz (i := 16) (N := some 68) #[I,I,I,I,I,I,I,I,I,I,I,I,I,I,I,I,I,O,O,O,O,O,O,O,O,O,O,O,O,O] ?_
                  refine pz (i := 17) (N := some 69) #[I,I,I,I,I,I,I,I,I,I,I,I,I,I,I,I,I,I,O,O,O,O,O,O,O,O,O,O,O,O] ?_
                  refine pz (i := 19) (N := some 71) #[I,I,I,I,I,I,I,I,I,I,I,I,I,I,I,I,I,I,O,I,O,O,O,O,O,O,O,O,O,O] ?_
                  refine pz (i := 20) (N := some 72) #[I,I,I,I,I,I,I,I,I,I,I,I,I,I,I,I,I,I,O,I,I,O,O,O,O,O,O,O,O,O] ?_
                  refine pz (i := 21) (N := some 73) #[I,I,I,I,I,I,I,I,I,I,I,I,I,I,I,I,I,I,O,I,I,I,O,O,O,O,O,O,O,O] ?_
                  refine pz (i := 22) (N := some 74) #[I,I,I,I,I,I,I,I,I,I,I,I,I,I,I,I,I,I,O,I,I,I,I,O,O,O,O,O,O,O] ?_
                  refine tz (i := 18) (N := some 70) #[I,I,I,I,I,I,I,I,I,I,I,I,I,I,I,I,I,I,I,I,I,I,I,O,O,O,O,O,O,O] ?_
                  refine tz (i := 23) (N := some 75) #[I,I,I,I,I,I,I,I,I,I,I,I,I,I,I,I,I,I,I,I,I,I,I,I,O,O,O,O,O,O] ?_
                  refine pz (i := 24) (N := some 76) #[I,I,I,I,I,I,I,I,I,I,I,I,I,I,I,I,I,I,I,I,I,I,I,I,I,O,O,O,O,O] ?_
                  refine pz (i := 25) (N := some 77) #[I,I,I,I,I,I,I,I,I,I,I,I,I,I,I,I,I,I,I,I,I,I,I,I,I,I,O,O,O,O] ?_
                  refine tz (i := 26) (N := some 78) #[I,I,I,I,I,I,I,I,I,I,I,I,I,I,I,I,I,I,I,I,I,I,I,I,I,I,I,O,O,O] ?_
                  refine pz (i := 27) (N := some 79) #[I,I,I,I,I,I,I,I,I,I,I,I,I,I,I,I,I,I,I,I,I,I,I,I,I,I,I,I,O,O] ?_
                  refine pz (i := 28) (N := some 80) #[I,I,I,I,I,I,I,I,I,I,I,I,I,I,I,I,I,I,I,I,I,I,I,I,I,I,I,I,I,O] ?_
                  refine pz (i := 29) (N := some 81) #[I,I,I,I,I,I,I,I,I,I,I,I,I,I,I,I,I,I,I,I,I,I,I,I,I,I,I,I,I,I] ?_
                  refine done_ (done_of HT_.out (by kernel_rfl)) ?_
                  try go_wp2
                  go_roundg kj3
                  case measure => have := HK1.out; have := HJ3.out; omega
                  case rel => exact ⟨(wrap64 (x3_1 + 1)), ap, H', ⟨by have := HK1.out; have := HJ3.out; omega⟩, ⟨bo⟩⟩
                ·rw [if_neg c36] at H
                 exact absurd H (by simp)
               ·rw [if_neg c35] at H
                have c35b0 : decide (0 < (((rd_T29 l0 x3_1).f1).length : Int)) = false := decide_eq_false c35
                have c35b1 : decide (0 < ((rd_T29 l0 x3_1).f1).length) = false := decide_eq_false (by omega)
                clear c35
                have H' := Aside0.mk H
                clear H
                have q52 : (x3_1 : Int) ≤ ((l0.length : Int) : Int) := od
                obtain ⟨i052, hi052, _, hsz52, _⟩ := info_parts info29
                have hroom52 : l0.length ≤ c0 := HC0.out
                have hC52 : Kd.C k29 _ A0 l0.length l0 := HR0.out
                have hcut52 := cut_to (P := Try.prog) 23 29 .i64 Try.underlying23 hi052 A0 l0.length c0 x3_1 (od) q52 hroom52
                have hr52 := Kd.C_take (m := (x3_1 : Int).toNat) hC52 (by omega)
                have hy52 : y217.length = (x3_1 : Int).toNat := (by rw [Ny217.out, List.length_take]; omega)
                rw [← Ny217.out] at hr52
                rw [← hy52] at hcut52
                have HR220 := Aside0.mk hr52
                have HC220 := Aside0.mk (show y217.length ≤ c0 from by omega)
                clear hr52 hC52 hroom52 hi052 hsz52
                have KY52 := Aside0.mk hy52
                clear hy52
                replace q52 := eq_true q52
                try go_wp2_with (first | ((with_reducible refine gate_callee (f := 45) rfl ?_); refine goesL_ (some 42) rfl rfl Try.func45 (by kernel_rfl) rfl #[.slice A0 y217.length c0] rfl aa ?_; (with_reducible refine (fairwayref13_Recs.calls kj3 _ _ y217 t221 _ ?side1 ?side2 A21.out).mono ?_); (case side1 => repeat (first | exact (Kd.C_below HR220.out HB.out) | (with_reducible refine Kd.C_alloc ?_ _) | (with_reducible refine Kd.C_drewN ?_ _) | (with_reducible refine Kd.C_drew ?_))); (case side2 => exact HC220.out); rintro e w53 ⟨v222, rfl, ho0, hb⟩; refine ⟨_, rfl, ?_⟩; have HO223 := Aside0.mk (Kd.R_lower ho0 (below_size bo)); replace HB := Aside0.mk (below_step bo hb); (try clear hb); (try clear hb2); (try clear hk); (try clear hi); (try clear ho0); obtain ⟨Ao54, co54, eo54⟩ := Kd.R_slice HO223.out; subst eo54; have p224 : 0 ≤ ((ji23) : Int) := od; have q224 : (ji23) < (t221.length : Int) := od; obtain ⟨ad224, e224, hx224_0, hx224_1, hx224_2, hx224_3, hx224_4, hx224_5⟩ := at_T25 (Kd.R_reads' HO223.out).2.2 (ji23) p224 q224; cases e224; replace p224 := eq_true p224; replace q224 := eq_true q224) | ((with_reducible refine gate_dst (N := 5) rfl ?_); (try (refine gate_guard (by rfl) ?_; dsimp only)); refine box_event ?hg (N := 5) ?hd (cs := #[.int .i64 0, .int .i64 0, .string (⟨#[]⟩ : ByteArray), .string (⟨#[]⟩ : ByteArray), .int .i64 0, .bool false]) (t := 25) ?hr ?_; (case hd => rfl); (case hg => rfl); (case hr => first | (go_simp; done) | (go_simp; rfl)); intro gb225 hg w55 hbox hb; replace HO223 := Aside0.mk (Kd.R_below (Kd.R_elderB (rk HO223.out) gb225 (Nat.le_of_eq hg.symm)) hb); have BK225 := Aside0.mk (hbox); have GW225 := Aside0.mk ((by rw [hg]; exact (below_size bo) : w.heap.size ≤ gb225)); have GE225 := Aside0.mk ((by rw [hg]; exact (below_size bo) : w.heap.size ≤ gb225)); replace HB := Aside0.mk (below_step bo hb); clear hb hbox hg; obtain ⟨hcz56_0, hcz56_1, hcz56_2, hcz56_3, hcz56_4, hcz56_5⟩ := cl6 BK225.out; obtain ⟨hfz56_0, hfz56_1, hfz56_2, hfz56_3, hfz56_4, hfz56_5⟩ := fz6 BK225.out))
                (try (rw [drewN_self w55]; generalize hq_ : World.drewN w55 _ = w55; have n0_ := Aside0.mk (Kd.R_at hq_ HO223.out); have n1_ := Aside0.mk (blk_at hq_ BK225.out); have n2_ := Aside0.mk (below_at hq_ HB.out); clear hq_ HO223 BK225 HB; have HO223 := n0_; have BK225 := n1_; have HB := n2_; clear n0_ n1_ n2_))
                have n0_ : Aside0 (Kd.R k25 25 ((((((w55.setCell ⟨gb225, 0, none⟩ (.int .i64 ((rd_T25 t221 (ji23)).f0))).setCell ⟨gb225, 1, none⟩ (.int .i64 ((rd_T25 t221 (ji23)).f1))).setCell ⟨gb225, 2, none⟩ (.string ((rd_T25 t221 (ji23)).f2))).setCell ⟨gb225, 3, none⟩ (.string ((rd_T25 t221 (ji23)).f3))).setCell ⟨gb225, 4, none⟩ (.int .i64 ((rd_T25 t221 (ji23)).f4))).setCell ⟨gb225, 5, none⟩ (.bool ((rd_T25 t221 (ji23)).f5))) w.heap.size (fun k_ => k_ ≠ gb225) (.slice (some ad224) t221.length co54) t221) := ⟨by (with_reducible repeat (first | apply Kd.R_alloc | apply Kd.R_drewN | apply Kd.R_drew)); exact Kd.R_mono (Kd.R_far (p := ⟨gb225, 5, none⟩) (Kd.R_far (p := ⟨gb225, 4, none⟩) (Kd.R_far (p := ⟨gb225, 3, none⟩) (Kd.R_far (p := ⟨gb225, 2, none⟩) (Kd.R_far (p := ⟨gb225, 1, none⟩) (Kd.R_far (p := ⟨gb225, 0, none⟩) (Kd.R_mono HO223.out (fun k_ hk => (⟨hk, hk.2⟩ : _ ∧ k_ ≠ gb225))) (fun _ hk => hk.2) (.int .i64 ((rd_T25 t221 (ji23)).f0))) (fun _ hk => hk.2) (.int .i64 ((rd_T25 t221 (ji23)).f1))) (fun _ hk => hk.2) (.string ((rd_T25 t221 (ji23)).f2))) (fun _ hk => hk.2) (.string ((rd_T25 t221 (ji23)).f3))) (fun _ hk => hk.2) (.int .i64 ((rd_T25 t221 (ji23)).f4))) (fun _ hk => hk.2) (.bool ((rd_T25 t221 (ji23)).f5))) (fun _ hk => hk.1.2)⟩
                have n1_ : Aside0 (((((((w55.setCell ⟨gb225, 0, none⟩ (.int .i64 ((rd_T25 t221 (ji23)).f0))).setCell ⟨gb225, 1, none⟩ (.int .i64 ((rd_T25 t221 (ji23)).f1))).setCell ⟨gb225, 2, none⟩ (.string ((rd_T25 t221 (ji23)).f2))).setCell ⟨gb225, 3, none⟩ (.string ((rd_T25 t221 (ji23)).f3))).setCell ⟨gb225, 4, none⟩ (.int .i64 ((rd_T25 t221 (ji23)).f4))).setCell ⟨gb225, 5, none⟩ (.bool ((rd_T25 t221 (ji23)).f5))).heap[gb225]? = some (.cells #[.int .i64 ((rd_T25 t221 (ji23)).f0), .int .i64 ((rd_T25 t221 (ji23)).f1), .string ((rd_T25 t221 (ji23)).f2), .string ((rd_T25 t221 (ji23)).f3), .int .i64 ((rd_T25 t221 (ji23)).f4), .bool ((rd_T25 t221 (ji23)).f5)] 25 (0, 0))) := ⟨by (with_reducible repeat (first | refine blk_drewN ?_ _ | refine blk_drew ?_ | refine blk_alloc ?_ _)); refine blk_put (cs := #[.int .i64 ((rd_T25 t221 (ji23)).f0), .int .i64 ((rd_T25 t221 (ji23)).f1), .string ((rd_T25 t221 (ji23)).f2), .string ((rd_T25 t221 (ji23)).f3), .int .i64 ((rd_T25 t221 (ji23)).f4), .bool false]) ?_ 5 _ rfl; (with_reducible repeat (first | refine blk_drewN ?_ _ | refine blk_drew ?_ | refine blk_alloc ?_ _)); refine blk_put (cs := #[.int .i64 ((rd_T25 t221 (ji23)).f0), .int .i64 ((rd_T25 t221 (ji23)).f1), .string ((rd_T25 t221 (ji23)).f2), .string ((rd_T25 t221 (ji23)).f3), .int .i64 0, .bool false]) ?_ 4 _ rfl; (with_reducible repeat (first | refine blk_drewN ?_ _ | refine blk_drew ?_ | refine blk_alloc ?_ _)); refine blk_put (cs := #[.int .i64 ((rd_T25 t221 (ji23)).f0), .int .i64 ((rd_T25 t221 (ji23)).f1), .string ((rd_T25 t221 (ji23)).f2), .string (⟨#[]⟩ : ByteArray), .int .i64 0, .bool false]) ?_ 3 _ rfl; (with_reducible repeat (first | refine blk_drewN ?_ _ | refine blk_drew ?_ | refine blk_alloc ?_ _)); refine blk_put (cs := #[.int .i64 ((rd_T25 t221 (ji23)).f0), .int .i64 ((rd_T25 t221 (ji23)).f1), .string (⟨#[]⟩ : ByteArray), .string (⟨#[]⟩ : ByteArray), .int .i64 0, .bool false]) ?_ 2 _ rfl; (with_reducible repeat (first | refine blk_drewN ?_ _ | refine blk_drew ?_ | refine blk_alloc ?_ _)); refine blk_put (cs := #[.int .i64 ((rd_T25 t221 (ji23)).f0), .int .i64 0, .string (⟨#[]⟩ : ByteArray), .string (⟨#[]⟩ : ByteArray), .int .i64 0, .bool false]) ?_ 1 _ rfl; (with_reducible repeat (first | refine blk_drewN ?_ _ | refine blk_drew ?_ | refine blk_alloc ?_ _)); refine blk_put (cs := #[.int .i64 0, .int .i64 0, .string (⟨#[]⟩ : ByteArray), .string (⟨#[]⟩ : ByteArray), .int .i64 0, .bool false]) ?_ 0 _ rfl; (with_reducible repeat (first | refine blk_drewN ?_ _ | refine blk_drew ?_ | refine blk_alloc ?_ _)); exact BK225.out⟩
                have n2_ : Aside0 (Below w.heap.size w ((((((w55.setCell ⟨gb225, 0, none⟩ (.int .i64 ((rd_T25 t221 (ji23)).f0))).setCell ⟨gb225, 1, none⟩ (.int .i64 ((rd_T25 t221 (ji23)).f1))).setCell ⟨gb225, 2, none⟩ (.string ((rd_T25 t221 (ji23)).f2))).setCell ⟨gb225, 3, none⟩ (.string ((rd_T25 t221 (ji23)).f3))).setCell ⟨gb225, 4, none⟩ (.int .i64 ((rd_T25 t221 (ji23)).f4))).setCell ⟨gb225, 5, none⟩ (.bool ((rd_T25 t221 (ji23)).f5)))) := ⟨bo⟩
                (try clear HO223)
                (try clear BK225)
                (try clear HB)
                generalize ((((((w55.setCell ⟨gb225, 0, none⟩ (.int .i64 ((rd_T25 t221 (ji23)).f0))).setCell ⟨gb225, 1, none⟩ (.int .i64 ((rd_T25 t221 (ji23)).f1))).setCell ⟨gb225, 2, none⟩ (.string ((rd_T25 t221 (ji23)).f2))).setCell ⟨gb225, 3, none⟩ (.string ((rd_T25 t221 (ji23)).f3))).setCell ⟨gb225, 4, none⟩ (.int .i64 ((rd_T25 t221 (ji23)).f4))).setCell ⟨gb225, 5, none⟩ (.bool ((rd_T25 t221 (ji23)).f5))) = w57 at n0_ n1_ n2_ ⊢
                have HO223 := n0_
                have BK225 := n1_
                have HB := n2_
                clear n0_ n1_ n2_
                replace HO223 := Aside0.mk (Kd.R_drew HO223.out)
                replace BK225 := Aside0.mk (blk_drew BK225.out)
                replace HB := Aside0.mk (below_drew1 HB.out)
                have p226 : 0 ≤ (x3_1 : Int) := od
                have q226 : x3_1 < (l0.length : Int) := od
                obtain ⟨ad226, A226_1, c226_1, e226, hx226_0, hx226_1, hl226_1, hi226_1⟩ := at_T29 HR0.out x3_1 p226 q226
                have hw226_1 := hx226_1
                have hw226_0 := hx226_0
                cases e226
                replace hx226_0 := cx HB.out hx226_0
                replace hx226_1 := cx HB.out hx226_1
                have HR226_1 := Aside0.mk hi226_1
                have HC226_1 := Aside0.mk hl226_1
                clear hi226_1 hl226_1
                replace p226 := eq_true p226
                replace q226 := eq_true q226
                have p227 : 0 ≤ (x3_1 : Int) := od
                have q227 : x3_1 < (l0.length : Int) := od
                obtain ⟨ad227, A227_1, c227_1, e227, hx227_0, hx227_1, hl227_1, hi227_1⟩ := at_T29 HR0.out x3_1 p227 q227
                have hw227_1 := hx227_1
                have hw227_0 := hx227_0
                obtain rfl : ad226 = ad227 := (by injection e227)
                replace hx227_0 := cx HB.out hx227_0
                replace hx227_1 := cx HB.out hx227_1
                have HR227_1 := Aside0.mk hi227_1
                have HC227_1 := Aside0.mk hl227_1
                clear hi227_1 hl227_1
                replace p227 := eq_true p227
                replace q227 := eq_true q227
                have ea_ := Option.some.inj (hx226_1.symm.trans hx227_1)
                injection ea_ with ea_ en_ ec_
                subst ea_
                subst ec_
                clear en_
                refine start_ (n := 30) (S := fun w' => w'.cell? ⟨gb225, 0, none⟩ = some (.int .i64 ((rd_T25 t221 (ji23)).f0)) ∧ w'.cell? ⟨gb225, 1, none⟩ = some (.int .i64 ((rd_T25 t221 (ji23)).f1)) ∧ w'.cell? ⟨gb225, 2, none⟩ = some (.string ((rd_T25 t221 (ji23)).f2)) ∧ w'.cell? ⟨gb225, 3, none⟩ = some (.string ((rd_T25 t221 (ji23)).f3)) ∧ w'.cell? ⟨gb225, 4, none⟩ = some (.int .i64 ((rd_T25 t221 (ji23)).f4)) ∧ w'.cell? ⟨gb225, 5, none⟩ = some (.bool ((rd_T25 t221 (ji23)).f5)) ∧ w'.cell? (ad226.add ((x3_1).toNat * 2)) = some (.int .i64 ((rd_T29 l0 x3_1).f0)) ∧ w'.cell? ⟨(ad226.add ((x3_1).toNat * 2)).block, (ad226.add ((x3_1).toNat * 2)).off + 1, none⟩ = some (.slice A226_1 ((rd_T29 l0 x3_1).f1).length c226_1) ∧ w'.cell? (ad226.add ((x3_1).toNat * 2)) = some (.int .i64 ((rd_T29 l0 x3_1).f0)) ∧ w'.cell? ⟨(ad226.add ((x3_1).toNat * 2)).block, (ad226.add ((x3_1).toNat * 2)).off + 1, none⟩ = some (.slice A226_1 ((rd_T29 l0 x3_1).f1).length c226_1)) (ds := []) #[O,O,O,O,O,O,O,O,O,O,O,O,O,O,O,O,O,O,O,O,O,O,O,O,O,O,O,O,O,O] (by kernel_rfl) rfl rfl ⟨(blk_cell BK225.out 0).trans rfl, (blk_cell BK225.out 1).trans rfl, (blk_cell BK225.out 2).trans rfl, (blk_cell BK225.out 3).trans rfl, (blk_cell BK225.out 4).trans rfl, (blk_cell BK225.out 5).trans rfl, ((HB.out.cell (World.block_lt_of_cell? w _ hw226_0)).trans hw226_0), ((HB.out.cell (World.block_lt_of_cell? w _ hw226_1)).trans hw226_1), ((HB.out.cell (World.block_lt_of_cell? w _ hw227_0)).trans hw227_0), ((HB.out.cell (World.block_lt_of_cell? w _ hw227_1)).trans hw227_1)⟩ (fun hHeld => ?_); refine with_tabW fairwayref13_Row.tab11 fairwayref13_Row.bits11 (fun HT_ HW_ => ?_)
                generalize w57.drew = w58 at HO223 BK225 HB HR226_1 HR227_1 hx226_0 hx226_1 hx227_0 hx227_1 hHeld ⊢
                refine pz (i := 0) (N := some 52) #[I,O,O,O,O,O,O,O,O,O,O,O,O,O,O,O,O,O,O,O,O,O,O,O,O,O,O,O,O,O] ?_
                refine pz (i := 2) (N := some 54) #[I,O,I,O,O,O,O,O,O,O,O,O,O,O,O,O,O,O,O,O,O,O,O,O,O,O,O,O,O,O] ?_
                refine pz (i := 3) (N := some 55) #[I,O,I,I,O,O,O,O,O,O,O,O,O,O,O,O,O,O,O,O,O,O,O,O,O,O,O,O,O,O] ?_
                refine pz (i := 4) (N := some 56) #[I,O,I,I,I,O,O,O,O,O,O,O,O,O,O,O,O,O,O,O,O,O,O,O,O,O,O,O,O,O] ?_
                refine pz (i := 5) (N := some 57) #[I,O,I,I,I,I,O,O,O,O,O,O,O,O,O,O,O,O,O,O,O,O,O,O,O,O,O,O,O,O] ?_
                refine tz (i := 1) (N := some 53) #[I,I,I,I,I,I,O,O,O,O,O,O,O,O,O,O,O,O,O,O,O,O,O,O,O,O,O,O,O,O] ?_
                refine tz (i := 6) (N := some 58) #[I,I,I,I,I,I,I,O,O,O,O,O,O,O,O,O,O,O,O,O,O,O,O,O,O,O,O,O,O,O] ?_
                refine pz (i := 7) (N := some 59) #[I,I,I,I,I,I,I,I,O,O,O,O,O,O,O,O,O,O,O,O,O,O,O,O,O,O,O,O,O,O] ?_
                refine pz (i := 8) (N := some 60) #[I,I,I,I,I,I,I,I,I,O,O,O,O,O,O,O,O,O,O,O,O,O,O,O,O,O,O,O,O,O] ?_
                refine pz (i := 9) (N := some 61) #[I,I,I,I,I,I,I,I,I,I,O,O,O,O,O,O,O,O,O,O,O,O,O,O,O,O,O,O,O,O] ?_
                refine pz (i := 10) (N := some 62) #[I,I,I,I,I,I,I,I,I,I,I,O,O,O,O,O,O,O,O,O,O,O,O,O,O,O,O,O,O,O] ?_
                refine pz (i := 11) (N := some 63) #[I,I,I,I,I,I,I,I,I,I,I,I,O,O,O,O,O,O,O,O,O,O,O,O,O,O,O,O,O,O] ?_
                refine pz (i := 12) (N := some 64) #[I,I,I,I,I,I,I,I,I,I,I,I,I,O,O,O,O,O,O,O,O,O,O,O,O,O,O,O,O,O] ?_
                refine tz (i := 13) (N := some 65) #[I,I,I,I,I,I,I,I,I,I,I,I,I,I,O,O,O,O,O,O,O,O,O,O,O,O,O,O,O,O] ?_
                refine pz (i := 14) (N := some 66) #[I,I,I,I,I,I,I,I,I,I,I,I,I,I,I,O,O,O,O,O,O,O,O,O,O,O,O,O,O,O] ?_
                refine pz (i := 15) (N := some 67) #[I,I,I,I,I,I,I,I,I,I,I,I,I,I,I,I,O,O,O,O,O,O,O,O,O,O,O,O,O,O] ?_
                refine pz (i := 16) (N := some 68) #[I,I,I,I,I,I,I,I,I,I,I,I,I,I,I,I,I,O,O,O,O,O,O,O,O,O,O,O,O,O] ?_
                refine pu (i := 17) (N := some 69) #[I,I,I,I,I,I,I,I,I,I,I,I,I,I,I,I,I,I,O,O,O,O,O,O,O,O,O,O,O,O] ?_
                refine pu (i := 18) (N := some 70) #[I,I,I,I,I,I,I,I,I,I,I,I,I,I,I,I,I,I,I,O,O,O,O,O,O,O,O,O,O,O] ?_
                refine pu (i := 19) (N := some 71) #[I,I,I,I,I,I,I,I,I,I,I,I,I,I,I,I,I,I,I,I,O,O,O,O,O,O,O,O,O,O] ?_
                refine pu (i := 20) (N := some 72) #[I,I,I,I,I,I,I,I,I,I,I,I,I,I,I,I,I,I,I,I,I,O,O,O,O,O,O,O,O,O] ?_
                refine pu (i := 21) (N := some 73) #[I,I,I,I,I,I,I,I,I,I,I,I,I,I,I,I,I,I,I,I,I,I,O,O,O,O,O,O,O,O] ?_
                refine pu (i := 22) (N := some 74) #[I,I,I,I,I,I,I,I,I,I,I,I,I,I,I,I,I,I,I,I,I,I,I,O,O,O,O,O,O,O] ?_
                refine pu (i := 23) (N := some 75) #[I,I,I,I,I,I,I,I,I,I,I,I,I,I,I,I,I,I,I,I,I,I,I,I,O,O,O,O,O,O] ?_
                refine pu (i := 24) (N := some 76) #[I,I,I,I,I,I,I,I,I,I,I,I,I,I,I,I,I,I,I,I,I,I,I,I,I,O,O,O,O,O] ?_
                refine pu (i := 25) (N := some 77) #[I,I,I,I,I,I,I,I,I,I,I,I,I,I,I,I,I,I,I,I,I,I,I,I,I,I,O,O,O,O] ?_
                refine pu (i := 26) (N := some 78) #[I,I,I,I,I,I,I,I,I,I,I,I,I,I,I,I,I,I,I,I,I,I,I,I,I,I,I,O,O,O] ?_
                refine pu (i := 27) (N := some 79) #[I,I,I,I,I,I,I,I,I,I,I,I,I,I,I,I,I,I,I,I,I,I,I,I,I,I,I,I,O,O] ?_
                refine pz (i := 28) (N := some 80) #[I,I,I,I,I,I,I,I,I,I,I,I,I,I,I,I,I,I,I,I,I,I,I,I,I,I,I,I,I,O] ?_
                refine pz (i := 29) (N := some 81) #[I,I,I,I,I,I,I,I,I,I,I,I,I,I,I,I,I,I,I,I,I,I,I,I,I,I,I,I,I,I] ?_
                refine done_ (done_of HT_.out (by kernel_rfl)) ?_
                try go_wp2
                go_roundg kj3
                case measure => have := HK1.out; have := HJ3.out; omega
                case rel => exact ⟨(wrap64 (x3_1 + 1)), ap, H', ⟨by have := HK1.out; have := HJ3.out; omega⟩, ⟨bo⟩⟩
             ·rw [if_neg c26] at H
              exact absurd H (by simp)
            ·rw [if_neg c25] at H
             exact absurd H (by simp)
           ·rw [if_neg c24] at H
            exact absurd H (by simp)
          ·rw [if_neg c22] at H
           have c22b0 : decide (0 < (t221.length : Int)) = false := decide_eq_false c22
           have c22b1 : decide (0 < t221.length) = false := decide_eq_false (by omega)
           clear c22
           have H' := Aside0.mk H
           clear H
           have q59 : (x3_1 : Int) ≤ ((l0.length : Int) : Int) := od
           obtain ⟨i059, hi059, _, hsz59, _⟩ := info_parts info29
           have hroom59 : l0.length ≤ c0 := HC0.out
           have hC59 : Kd.C k29 _ A0 l0.length l0 := HR0.out
           have hcut59 := cut_to (P := Try.prog) 23 29 .i64 Try.underlying23 hi059 A0 l0.length c0 x3_1 (od) q59 hroom59
           have hr59 := Kd.C_take (m := (x3_1 : Int).toNat) hC59 (by omega)
           have hy59 : y217.length = (x3_1 : Int).toNat := (by rw [Ny217.out, List.length_take]; omega)
           rw [← Ny217.out] at hr59
           rw [← hy59] at hcut59
           have HR220 := Aside0.mk hr59
           have HC220 := Aside0.mk (show y217.length ≤ c0 from by omega)
           clear hr59 hC59 hroom59 hi059 hsz59
           have KY59 := Aside0.mk hy59
           clear hy59
           replace q59 := eq_true q59
           go_wp2_with (first | ((with_reducible refine gate_callee (f := 45) rfl ?_); refine goesL_ (some 42) rfl rfl Try.func45 (by kernel_rfl) rfl #[.slice A0 y217.length c0] rfl aa ?_; (with_reducible refine (fairwayref13_Recs.calls kj3 _ _ y217 t221 _ ?side1 ?side2 A21.out).mono ?_); (case side1 => repeat (first | exact (Kd.C_below HR220.out HB.out) | (with_reducible refine Kd.C_alloc ?_ _) | (with_reducible refine Kd.C_drewN ?_ _) | (with_reducible refine Kd.C_drew ?_))); (case side2 => exact HC220.out); rintro e w60 ⟨v222, rfl, ho0, hb⟩; refine ⟨_, rfl, ?_⟩; have HO223 := Aside0.mk (Kd.R_lower ho0 (below_size bo)); replace HB := Aside0.mk (below_step bo hb); (try clear hb); (try clear hb2); (try clear hk); (try clear hi); (try clear ho0); obtain ⟨Ao61, co61, eo61⟩ := Kd.R_slice HO223.out; subst eo61))
           go_roundg kj3
           case measure => have := HK1.out; have := HJ3.out; omega
           case rel => exact ⟨(wrap64 (x3_1 + 1)), ap, H', ⟨by have := HK1.out; have := HJ3.out; omega⟩, ⟨bo⟩⟩
         ·rw [if_neg c20] at H
          exact absurd H (by simp)
        ·rw [if_neg c19] at H
         exact absurd H (by simp)
    ·rw [if_neg c3] at H
     have c3b0 : decide (x3_1 < (l0.length : Int)) = false := decide_eq_false c3
     clear c3
     replace H := Option.bind_eq_some_iff.mp H
     obtain ⟨t210, A620, H⟩ := H
     replace H : (if (t210.length : Int) ≤ 200 then (some (decide ((l0.length : Int) ≤ 201))) else (some false)) = some r := H
     have A62 := Aside0.mk A620
     clear A620
     by_cases c63 : (t210.length : Int) ≤ 200
     ·rw [if_pos c63] at H
      have c63b0 : decide ((t210.length : Int) ≤ 200) = true := decide_eq_true c63
      have c63b1 : decide (t210.length ≤ 200) = true := decide_eq_true (by omega)
      clear c63
      obtain rfl := Option.some.inj H
      go_wp2_with (first | ((with_reducible refine gate_callee (f := 45) rfl ?_); refine goesL_ (some 83) rfl rfl Try.func45 (by kernel_rfl) rfl #[.slice A0 l0.length c0] rfl aa ?_; (with_reducible refine (fairwayref13_Recs.calls k1 _ _ l0 t210 _ ?side1 ?side2 A62.out).mono ?_); (case side1 => repeat (first | exact (Kd.C_below HR0.out HB.out) | (with_reducible refine Kd.C_alloc ?_ _) | (with_reducible refine Kd.C_drewN ?_ _) | (with_reducible refine Kd.C_drew ?_))); (case side2 => exact HC0.out); rintro e w64 ⟨v211, rfl, ho0, hb⟩; refine ⟨_, rfl, ?_⟩; have HO212 := Aside0.mk (Kd.R_lower ho0 (below_size bo)); replace HB := Aside0.mk (below_step bo hb); (try clear hb); (try clear hb2); (try clear hk); (try clear hi); (try clear ho0); obtain ⟨Ao65, co65, eo65⟩ := Kd.R_slice HO212.out; subst eo65))
      go_ret
      exact ⟨er, bo⟩
     ·rw [if_neg c63] at H
      have c63b0 : decide ((t210.length : Int) ≤ 200) = false := decide_eq_false c63
      have c63b1 : decide (t210.length ≤ 200) = false := decide_eq_false (by omega)
      clear c63
      obtain rfl := Option.some.inj H
      go_wp2_with (first | ((with_reducible refine gate_callee (f := 45) rfl ?_); refine goesL_ (some 83) rfl rfl Try.func45 (by kernel_rfl) rfl #[.slice A0 l0.length c0] rfl aa ?_; (with_reducible refine (fairwayref13_Recs.calls k1 _ _ l0 t210 _ ?side1 ?side2 A62.out).mono ?_); (case side1 => repeat (first | exact (Kd.C_below HR0.out HB.out) | (with_reducible refine Kd.C_alloc ?_ _) | (with_reducible refine Kd.C_drewN ?_ _) | (with_reducible refine Kd.C_drew ?_))); (case side2 => exact HC0.out); rintro e w66 ⟨v211, rfl, ho0, hb⟩; refine ⟨_, rfl, ?_⟩; have HO212 := Aside0.mk (Kd.R_lower ho0 (below_size bo)); replace HB := Aside0.mk (below_step bo hb); (try clear hb); (try clear hb2); (try clear hk); (try clear hi); (try clear ho0); obtain ⟨Ao67, co67, eo67⟩ := Kd.R_slice HO212.out; subst eo67))
      go_ret
      exact ⟨er, bo⟩

end Go.Proofs.Ytigmekgknhoidaa.P

-- written by a program of the proving session, out of the translation; Lean checks it
namespace Go.Proofs.Ytigmekgknhoidaa.P
open Go.RowKit Go.Proofs.Ytigmekgknhoidaa.Sq Go.Proofs.YtigmekgknhoidaaW.PrintWords Go.Proofs.YtigmekgknhoidaaW.PrintLast Go.Proofs.YtigmekgknhoidaaW.PrintMore
attribute [local go_sem] max2_int min2_int max_two min_two max_three min_three max_four min_four   -- for this text's walks alone
set_option linter.unusedVariables false
set_option linter.unusedSimpArgs false

/-! ### fairwaylaw13_KeepAges: function 4 -/
mutual
def fairwaylaw13_KeepAges.l0 : Nat → List (S41) → Int → Option (Bool)
 | 0, _, _ => none
 | k + 1, x0, x3 => if x3 < 80 then ((fairwaylaw10_R.f 0 5 (⟨#[]⟩ : ByteArray) (⟨#[]⟩ : ByteArray)).bind fun bt231 => ((fairwaylaw10_R.f 1 40 (⟨#[]⟩ : ByteArray) (⟨#[]⟩ : ByteArray)).bind fun bt240 => ((fairwaylaw10_R.f 2 50 (⟨#[]⟩ : ByteArray) (⟨#[]⟩ : ByteArray)).bind fun bt246 => ((fairwaylaw10_R.f 3 50 (⟨#[]⟩ : ByteArray) (⟨#[]⟩ : ByteArray)).bind fun bt255 => ((some (([(⟨0, ([] : List (S25))⟩ : S29), (⟨0, (([(⟨bt231.1, bt231.2.1, bt231.2.2.1, bt231.2.2.2.1, bt231.2.2.2.2.1, bt231.2.2.2.2.2⟩ : S25)] : List (S25)))⟩ : S29), (⟨1, ([] : List (S25))⟩ : S29), (⟨1, (([(⟨bt240.1, bt240.2.1, bt240.2.2.1, bt240.2.2.2.1, bt240.2.2.2.2.1, bt240.2.2.2.2.2⟩ : S25), (⟨bt246.1, bt246.2.1, bt246.2.2.1, bt246.2.2.2.1, bt246.2.2.2.2.1, bt246.2.2.2.2.2⟩ : S25)] : List (S25)))⟩ : S29), (⟨3, (([(⟨bt255.1, bt255.2.1, bt255.2.2.1, bt255.2.2.2.1, bt255.2.2.2.2.1, bt255.2.2.2.2.2⟩ : S25)] : List (S25)))⟩ : S29)] : List (S29)) : List (S29))).bind fun y264 => ((keep_Old.f k y264 1 (-1) 10 false 0 x3).bind fun bt267 => (if x3 > 15 then (fairwaylaw13_KeepAges.j1 k x0 x3 y264 bt267.1 bt267.2 3) else (fairwaylaw13_KeepAges.j1 k x0 x3 y264 bt267.1 bt267.2 1)))))))) else (if (x0.length : Int) ≥ 0 then ((fairwaylaw13_wakes.f k).bind fun t230 => (some t230)) else (some false))
def fairwaylaw13_KeepAges.j1 : Nat → List (S41) → Int → List (S29) → Int → Int → Int → Option (Bool)
 | 0, _, _, _, _, _, _ => none
 | k + 1, x0, x3, x4, x5, x6, x7 => if x3 > 60 then (fairwaylaw13_KeepAges.j2 k x0 x3 x4 x5 x6 4) else (fairwaylaw13_KeepAges.j2 k x0 x3 x4 x5 x6 x7)
def fairwaylaw13_KeepAges.j2 : Nat → List (S41) → Int → List (S29) → Int → Int → Int → Option (Bool)
 | 0, _, _, _, _, _, _ => none
 | k + 1, x0, x3, x4, x5, x6, x7 => (fairwaylaw13_num.f x6).bind fun t269 => (if t269 = 0 then (if x5 = x7 then ((fairwayref13_Row.f k x4).bind fun t270 => (if t270 = true then (fairwaylaw13_KeepAges.l0 k x0 (wrap64 (x3 + 1))) else (some false))) else (some false)) else (some false))
end
def fairwaylaw13_KeepAges.f (k : Nat) (l0 : List (S41)) : Option (Bool) := fairwaylaw13_KeepAges.l0 k l0 0
theorem fairwaylaw13_KeepAges.mono_l : ∀ k, (∀ y0 y1, LeO (fairwaylaw13_KeepAges.l0 k y0 y1) (fairwaylaw13_KeepAges.l0 (k + 1) y0 y1)) ∧ (∀ y0 y1 y2 y3 y4 y5, LeO (fairwaylaw13_KeepAges.j1 k y0 y1 y2 y3 y4 y5) (fairwaylaw13_KeepAges.j1 (k + 1) y0 y1 y2 y3 y4 y5)) ∧ (∀ y0 y1 y2 y3 y4 y5, LeO (fairwaylaw13_KeepAges.j2 k y0 y1 y2 y3 y4 y5) (fairwaylaw13_KeepAges.j2 (k + 1) y0 y1 y2 y3 y4 y5))
 | 0 => ⟨fun _ _ r h => by simp [fairwaylaw13_KeepAges.l0] at h, fun _ _ _ _ _ _ r h => by simp [fairwaylaw13_KeepAges.j1] at h, fun _ _ _ _ _ _ r h => by simp [fairwaylaw13_KeepAges.j2] at h⟩
 | k + 1 => by
  obtain ⟨ih0, ih1, ih2⟩ := fairwaylaw13_KeepAges.mono_l k
  refine ⟨?_, ?_, ?_⟩
  ·intro y0 y1
   unfold fairwaylaw13_KeepAges.l0
   repeat' first
   | (with_reducible exact ih0 _ _)
   | (with_reducible exact ih1 _ _ _ _ _ _)
   | (with_reducible exact ih2 _ _ _ _ _ _)
   | (with_reducible exact fairwaylaw13_wakes.mono _)
   | (with_reducible exact fairwayref13_Row.mono _ _)
   | (with_reducible exact keep_Old.mono _ _ _ _ _ _ _ _)
   | (with_reducible exact LeO.refl _)
   | (with_reducible exact LeO.none _)
   | (with_reducible refine LeO.ite ?_ ?_)
   | (with_reducible refine LeO.bind ?_ (fun _ => ?_))
   | exact ih0 _ _
   | exact ih1 _ _ _ _ _ _
   | exact ih2 _ _ _ _ _ _
   | exact fairwaylaw13_wakes.mono _
   | exact fairwayref13_Row.mono _ _
   | exact keep_Old.mono _ _ _ _ _ _ _ _
   | exact LeO.none _
   | refine LeO.ite ?_ ?_
   | refine LeO.bind ?_ (fun _ => ?_)
  ·intro y0 y1 y2 y3 y4 y5
   unfold fairwaylaw13_KeepAges.j1
   repeat' first
   | (with_reducible exact ih0 _ _)
   | (with_reducible exact ih1 _ _ _ _ _ _)
   | (with_reducible exact ih2 _ _ _ _ _ _)
   | (with_reducible exact fairwaylaw13_wakes.mono _)
   | (with_reducible exact fairwayref13_Row.mono _ _)
   | (with_reducible exact keep_Old.mono _ _ _ _ _ _ _ _)
   | (with_reducible exact LeO.refl _)
   | (with_reducible exact LeO.none _)
   | (with_reducible refine LeO.ite ?_ ?_)
   | (with_reducible refine LeO.bind ?_ (fun _ => ?_))
   | exact ih0 _ _
   | exact ih1 _ _ _ _ _ _
   | exact ih2 _ _ _ _ _ _
   | exact fairwaylaw13_wakes.mono _
   | exact fairwayref13_Row.mono _ _
   | exact keep_Old.mono _ _ _ _ _ _ _ _
   | exact LeO.none _
   | refine LeO.ite ?_ ?_
   | refine LeO.bind ?_ (fun _ => ?_)
  ·intro y0 y1 y2 y3 y4 y5
   unfold fairwaylaw13_KeepAges.j2
   repeat' first
   | (with_reducible exact ih0 _ _)
   | (with_reducible exact ih1 _ _ _ _ _ _)
   | (with_reducible exact ih2 _ _ _ _ _ _)
   | (with_reducible exact fairwaylaw13_wakes.mono _)
   | (with_reducible exact fairwayref13_Row.mono _ _)
   | (with_reducible exact keep_Old.mono _ _ _ _ _ _ _ _)
   | (with_reducible exact LeO.refl _)
   | (with_reducible exact LeO.none _)
   | (with_reducible refine LeO.ite ?_ ?_)
   | (with_reducible refine LeO.bind ?_ (fun _ => ?_))
   | exact ih0 _ _
   | exact ih1 _ _ _ _ _ _
   | exact ih2 _ _ _ _ _ _
   | exact fairwaylaw13_wakes.mono _
   | exact fairwayref13_Row.mono _ _
   | exact keep_Old.mono _ _ _ _ _ _ _ _
   | exact LeO.none _
   | refine LeO.ite ?_ ?_
   | refine LeO.bind ?_ (fun _ => ?_)
theorem fairwaylaw13_KeepAges.mono : ∀ a0 k, LeO (fairwaylaw13_KeepAges.f k a0) (fairwaylaw13_KeepAges.f (k + 1) a0) := by
 intro a0 k
 obtain ⟨ih0, ih1, ih2⟩ := fairwaylaw13_KeepAges.mono_l k
 unfold fairwaylaw13_KeepAges.f
 repeat' first
  | (with_reducible exact ih0 _ _)
  | (with_reducible exact ih1 _ _ _ _ _ _)
  | (with_reducible exact ih2 _ _ _ _ _ _)
  | (with_reducible exact fairwaylaw13_wakes.mono _)
  | (with_reducible exact fairwayref13_Row.mono _ _)
  | (with_reducible exact keep_Old.mono _ _ _ _ _ _ _ _)
  | (with_reducible exact LeO.refl _)
  | (with_reducible exact LeO.none _)
  | (with_reducible refine LeO.ite ?_ ?_)
  | (with_reducible refine LeO.bind ?_ (fun _ => ?_))
  | exact ih0 _ _
  | exact ih1 _ _ _ _ _ _
  | exact ih2 _ _ _ _ _ _
  | exact fairwaylaw13_wakes.mono _
  | exact fairwayref13_Row.mono _ _
  | exact keep_Old.mono _ _ _ _ _ _ _ _
  | exact LeO.none _
  | refine LeO.ite ?_ ?_
  | refine LeO.bind ?_ (fun _ => ?_)
set_option maxHeartbeats 8000000 in
set_option maxRecDepth 100000 in
theorem fairwaylaw13_KeepAges.calls (k : Nat) (A0 : Option Addr) (c0 : Nat) (l0 : List (S41)) (r : Bool) (w : World) (hr0 : Kd.C k41 w A0 l0.length l0) (hc0 : l0.length ≤ c0) (h : fairwaylaw13_KeepAges.f k l0 = some r) :
 Calls Try.prog 4 #[.slice A0 l0.length c0] w fun e w' => e = .returned (.bool r) ∧ Below w.heap.size w w' := by
 have hu29 := Try.underlying29
 have hu35 := Try.underlying35
 have HR0 := Aside0.mk hr0
 have HC0 := Aside0.mk hc0
 clear hr0 hc0
 have HB := Aside0.mk (Below.refl w.heap.size w)
 have H : (fairwaylaw13_KeepAges.l0 k l0 0) = some r := h
 clear h
 have H' := Aside0.mk H
 clear H
 go_enter Try.func4, Try.ntmps4
 go_wp2
 go_loopg [3] k (fun kq v3 w' => ∃ (x3_1 : Int), v3 = .int .i64 x3_1 ∧ Aside0 (fairwaylaw13_KeepAges.l0 kq l0 x3_1 = some r) ∧ Aside0 (kq ≤ k) ∧ Aside0 (Below w.heap.size w w'))
 case atStart => exact ⟨(0), ap, H', ⟨Nat.le_refl _⟩, ⟨bo⟩⟩
 case round =>
  clear H'
  obtain ⟨x3_1, rfl, HA, HK1, HB⟩ := hrel
  cases gk with
  | zero => exact absurd HA.out (by simp [fairwaylaw13_KeepAges.l0])
  | succ k1 =>
   have H := HA.out
   clear HA
   simp only [fairwaylaw13_KeepAges.l0] at H
   by_cases c2 : x3_1 < 80
   ·rw [if_pos c2] at H
    have c2b0 : decide (x3_1 < 80) = true := decide_eq_true c2
    clear c2
    replace H := Option.bind_eq_some_iff.mp H
    obtain ⟨⟨t231, t232, t233, t234, t235, t236⟩, A30, H⟩ := H
    replace H : ((fairwaylaw10_R.f 1 40 (⟨#[]⟩ : ByteArray) (⟨#[]⟩ : ByteArray)).bind fun bt240 => ((fairwaylaw10_R.f 2 50 (⟨#[]⟩ : ByteArray) (⟨#[]⟩ : ByteArray)).bind fun bt246 => ((fairwaylaw10_R.f 3 50 (⟨#[]⟩ : ByteArray) (⟨#[]⟩ : ByteArray)).bind fun bt255 => ((some (([(⟨0, ([] : List (S25))⟩ : S29), (⟨0, (([(⟨t231, t232, t233, t234, t235, t236⟩ : S25)] : List (S25)))⟩ : S29), (⟨1, ([] : List (S25))⟩ : S29), (⟨1, (([(⟨bt240.1, bt240.2.1, bt240.2.2.1, bt240.2.2.2.1, bt240.2.2.2.2.1, bt240.2.2.2.2.2⟩ : S25), (⟨bt246.1, bt246.2.1, bt246.2.2.1, bt246.2.2.2.1, bt246.2.2.2.2.1, bt246.2.2.2.2.2⟩ : S25)] : List (S25)))⟩ : S29), (⟨3, (([(⟨bt255.1, bt255.2.1, bt255.2.2.1, bt255.2.2.2.1, bt255.2.2.2.2.1, bt255.2.2.2.2.2⟩ : S25)] : List (S25)))⟩ : S29)] : List (S29)) : List (S29))).bind fun y264 => ((keep_Old.f k1 y264 1 (-1) 10 false 0 x3_1).bind fun bt267 => (if x3_1 > 15 then (fairwaylaw13_KeepAges.j1 k1 l0 x3_1 y264 bt267.1 bt267.2 3) else (fairwaylaw13_KeepAges.j1 k1 l0 x3_1 y264 bt267.1 bt267.2 1))))))) = some r := H
    have A3 := Aside0.mk A30
    clear A30
    obtain ⟨y237, hy237⟩ : ∃ y_ : List (S25), y_ = (([(⟨t231, t232, t233, t234, t235, t236⟩ : S25)] : List (S25))) := ⟨_, rfl⟩
    replace H : ((fairwaylaw10_R.f 1 40 (⟨#[]⟩ : ByteArray) (⟨#[]⟩ : ByteArray)).bind fun bt240 => ((fairwaylaw10_R.f 2 50 (⟨#[]⟩ : ByteArray) (⟨#[]⟩ : ByteArray)).bind fun bt246 => ((fairwaylaw10_R.f 3 50 (⟨#[]⟩ : ByteArray) (⟨#[]⟩ : ByteArray)).bind fun bt255 => ((some (([(⟨0, ([] : List (S25))⟩ : S29), (⟨0, y237⟩ : S29), (⟨1, ([] : List (S25))⟩ : S29), (⟨1, (([(⟨bt240.1, bt240.2.1, bt240.2.2.1, bt240.2.2.2.1, bt240.2.2.2.2.1, bt240.2.2.2.2.2⟩ : S25), (⟨bt246.1, bt246.2.1, bt246.2.2.1, bt246.2.2.2.1, bt246.2.2.2.2.1, bt246.2.2.2.2.2⟩ : S25)] : List (S25)))⟩ : S29), (⟨3, (([(⟨bt255.1, bt255.2.1, bt255.2.2.1, bt255.2.2.2.1, bt255.2.2.2.2.1, bt255.2.2.2.2.2⟩ : S25)] : List (S25)))⟩ : S29)] : List (S29)) : List (S29))).bind fun y264 => ((keep_Old.f k1 y264 1 (-1) 10 false 0 x3_1).bind fun bt267 => (if x3_1 > 15 then (fairwaylaw13_KeepAges.j1 k1 l0 x3_1 y264 bt267.1 bt267.2 3) else (fairwaylaw13_KeepAges.j1 k1 l0 x3_1 y264 bt267.1 bt267.2 1))))))) = some r := by first | (rw [hy237]; with_reducible exact H) | (have H2_ := (Option.bind_some _ _).symm.trans H; rw [hy237]; with_reducible exact H2_) | (have H2_ := (Option.bind_some _ _).symm.trans H; with_reducible exact H2_) | with_reducible exact H | (rw [hy237]; exact H) | exact H
    have Ny237 := Aside0.mk hy237
    clear hy237
    replace H := Option.bind_eq_some_iff.mp H
    obtain ⟨⟨t240, t241, t242, t243, t244, t245⟩, A40, H⟩ := H
    replace H : ((fairwaylaw10_R.f 2 50 (⟨#[]⟩ : ByteArray) (⟨#[]⟩ : ByteArray)).bind fun bt246 => ((fairwaylaw10_R.f 3 50 (⟨#[]⟩ : ByteArray) (⟨#[]⟩ : ByteArray)).bind fun bt255 => ((some (([(⟨0, ([] : List (S25))⟩ : S29), (⟨0, y237⟩ : S29), (⟨1, ([] : List (S25))⟩ : S29), (⟨1, (([(⟨t240, t241, t242, t243, t244, t245⟩ : S25), (⟨bt246.1, bt246.2.1, bt246.2.2.1, bt246.2.2.2.1, bt246.2.2.2.2.1, bt246.2.2.2.2.2⟩ : S25)] : List (S25)))⟩ : S29), (⟨3, (([(⟨bt255.1, bt255.2.1, bt255.2.2.1, bt255.2.2.2.1, bt255.2.2.2.2.1, bt255.2.2.2.2.2⟩ : S25)] : List (S25)))⟩ : S29)] : List (S29)) : List (S29))).bind fun y264 => ((keep_Old.f k1 y264 1 (-1) 10 false 0 x3_1).bind fun bt267 => (if x3_1 > 15 then (fairwaylaw13_KeepAges.j1 k1 l0 x3_1 y264 bt267.1 bt267.2 3) else (fairwaylaw13_KeepAges.j1 k1 l0 x3_1 y264 bt267.1 bt267.2 1)))))) = some r := H
    have A4 := Aside0.mk A40
    clear A40
    replace H := Option.bind_eq_some_iff.mp H
    obtain ⟨⟨t246, t247, t248, t249, t250, t251⟩, A50, H⟩ := H
    replace H : ((fairwaylaw10_R.f 3 50 (⟨#[]⟩ : ByteArray) (⟨#[]⟩ : ByteArray)).bind fun bt255 => ((some (([(⟨0, ([] : List (S25))⟩ : S29), (⟨0, y237⟩ : S29), (⟨1, ([] : List (S25))⟩ : S29), (⟨1, (([(⟨t240, t241, t242, t243, t244, t245⟩ : S25), (⟨t246, t247, t248, t249, t250, t251⟩ : S25)] : List (S25)))⟩ : S29), (⟨3, (([(⟨bt255.1, bt255.2.1, bt255.2.2.1, bt255.2.2.2.1, bt255.2.2.2.2.1, bt255.2.2.2.2.2⟩ : S25)] : List (S25)))⟩ : S29)] : List (S29)) : List (S29))).bind fun y264 => ((keep_Old.f k1 y264 1 (-1) 10 false 0 x3_1).bind fun bt267 => (if x3_1 > 15 then (fairwaylaw13_KeepAges.j1 k1 l0 x3_1 y264 bt267.1 bt267.2 3) else (fairwaylaw13_KeepAges.j1 k1 l0 x3_1 y264 bt267.1 bt267.2 1))))) = some r := H
    have A5 := Aside0.mk A50
    clear A50
    obtain ⟨y252, hy252⟩ : ∃ y_ : List (S25), y_ = (([(⟨t240, t241, t242, t243, t244, t245⟩ : S25), (⟨t246, t247, t248, t249, t250, t251⟩ : S25)] : List (S25))) := ⟨_, rfl⟩
    replace H : ((fairwaylaw10_R.f 3 50 (⟨#[]⟩ : ByteArray) (⟨#[]⟩ : ByteArray)).bind fun bt255 => ((some (([(⟨0, ([] : List (S25))⟩ : S29), (⟨0, y237⟩ : S29), (⟨1, ([] : List (S25))⟩ : S29), (⟨1, y252⟩ : S29), (⟨3, (([(⟨bt255.1, bt255.2.1, bt255.2.2.1, bt255.2.2.2.1, bt255.2.2.2.2.1, bt255.2.2.2.2.2⟩ : S25)] : List (S25)))⟩ : S29)] : List (S29)) : List (S29))).bind fun y264 => ((keep_Old.f k1 y264 1 (-1) 10 false 0 x3_1).bind fun bt267 => (if x3_1 > 15 then (fairwaylaw13_KeepAges.j1 k1 l0 x3_1 y264 bt267.1 bt267.2 3) else (fairwaylaw13_KeepAges.j1 k1 l0 x3_1 y264 bt267.1 bt267.2 1))))) = some r := by first | (rw [hy252]; with_reducible exact H) | (have H2_ := (Option.bind_some _ _).symm.trans H; rw [hy252]; with_reducible exact H2_) | (have H2_ := (Option.bind_some _ _).symm.trans H; with_reducible exact H2_) | with_reducible exact H | (rw [hy252]; exact H) | exact H
    have Ny252 := Aside0.mk hy252
    clear hy252
    replace H := Option.bind_eq_some_iff.mp H
    obtain ⟨⟨t255, t256, t257, t258, t259, t260⟩, A60, H⟩ := H
    replace H : ((some (([(⟨0, ([] : List (S25))⟩ : S29), (⟨0, y237⟩ : S29), (⟨1, ([] : List (S25))⟩ : S29), (⟨1, y252⟩ : S29), (⟨3, (([(⟨t255, t256, t257, t258, t259, t260⟩ : S25)] : List (S25)))⟩ : S29)] : List (S29)) : List (S29))).bind fun y264 => ((keep_Old.f k1 y264 1 (-1) 10 false 0 x3_1).bind fun bt267 => (if x3_1 > 15 then (fairwaylaw13_KeepAges.j1 k1 l0 x3_1 y264 bt267.1 bt267.2 3) else (fairwaylaw13_KeepAges.j1 k1 l0 x3_1 y264 bt267.1 bt267.2 1)))) = some r := H
    have A6 := Aside0.mk A60
    clear A60
    obtain ⟨y261, hy261⟩ : ∃ y_ : List (S25), y_ = (([(⟨t255, t256, t257, t258, t259, t260⟩ : S25)] : List (S25))) := ⟨_, rfl⟩
    replace H : ((some (([(⟨0, ([] : List (S25))⟩ : S29), (⟨0, y237⟩ : S29), (⟨1, ([] : List (S25))⟩ : S29), (⟨1, y252⟩ : S29), (⟨3, y261⟩ : S29)] : List (S29)) : List (S29))).bind fun y264 => ((keep_Old.f k1 y264 1 (-1) 10 false 0 x3_1).bind fun bt267 => (if x3_1 > 15 then (fairwaylaw13_KeepAges.j1 k1 l0 x3_1 y264 bt267.1 bt267.2 3) else (fairwaylaw13_KeepAges.j1 k1 l0 x3_1 y264 bt267.1 bt267.2 1)))) = some r := by first | (rw [hy261]; with_reducible exact H) | (have H2_ := (Option.bind_some _ _).symm.trans H; rw [hy261]; with_reducible exact H2_) | (have H2_ := (Option.bind_some _ _).symm.trans H; with_reducible exact H2_) | with_reducible exact H | (rw [hy261]; exact H) | exact H
    have Ny261 := Aside0.mk hy261
    clear hy261
    obtain ⟨y264, hy264⟩ : ∃ y_ : List (S29), y_ = (([(⟨0, ([] : List (S25))⟩ : S29), (⟨0, y237⟩ : S29), (⟨1, ([] : List (S25))⟩ : S29), (⟨1, y252⟩ : S29), (⟨3, y261⟩ : S29)] : List (S29))) := ⟨_, rfl⟩
    replace H : ((keep_Old.f k1 y264 1 (-1) 10 false 0 x3_1).bind fun bt267 => (if x3_1 > 15 then (fairwaylaw13_KeepAges.j1 k1 l0 x3_1 y264 bt267.1 bt267.2 3) else (fairwaylaw13_KeepAges.j1 k1 l0 x3_1 y264 bt267.1 bt267.2 1))) = some r := by first | (rw [hy264]; with_reducible exact H) | (have H2_ := (Option.bind_some _ _).symm.trans H; rw [hy264]; with_reducible exact H2_) | (have H2_ := (Option.bind_some _ _).symm.trans H; with_reducible exact H2_) | with_reducible exact H | (rw [hy264]; exact H) | exact H
    have Ny264 := Aside0.mk hy264
    clear hy264
    replace H := Option.bind_eq_some_iff.mp H
    obtain ⟨⟨t267, t268⟩, A70, H⟩ := H
    replace H : (if x3_1 > 15 then (fairwaylaw13_KeepAges.j1 k1 l0 x3_1 y264 t267 t268 3) else (fairwaylaw13_KeepAges.j1 k1 l0 x3_1 y264 t267 t268 1)) = some r := H
    have A7 := Aside0.mk A70
    clear A70
    have HC8 := Aside0.mk H
    clear H
    go_upto_if 33 with (first | ((with_reducible refine gate_callee (f := 9) rfl ?_); refine goesL_ (some 13) rfl rfl Try.func9 (by kernel_rfl) rfl #[.int .i64 0, .int .i64 5, .string (⟨#[]⟩ : ByteArray), .string (⟨#[]⟩ : ByteArray)] rfl aa ?_; (with_reducible refine (fairwaylaw10_R.calls 0 5 (⟨#[]⟩ : ByteArray) (⟨#[]⟩ : ByteArray) t231 t232 t233 t234 t235 t236 _ A3.out).mono ?_); rintro e w9 ⟨rfl, hb⟩; refine ⟨_, rfl, ?_⟩; replace HB := Aside0.mk (below_step bo hb); (try clear hb); (try clear hb2); (try clear hk); (try clear hi)) | ((with_reducible refine gate_dst (N := 14) rfl ?_); refine Kd.R_lit k25 _ 25 ?hg (N := 14) ?hd (xs := ([(⟨t231, t232, t233, t234, t235, t236⟩ : S25)] : List (S25))) (inner := [.int .i64 t231, .int .i64 t232, .string t233, .string t234, .int .i64 t235, .bool t236]) (ok := fun _ => True) (okp := fun _ => True) ?hr ?hp (fun _ hk => hk) trivial (Below.refl _ _) (Nat.le_refl _) (by simp) ?_; (case hd => rfl); (case hg => rfl); (case hr => first | (go_simp; done) | (go_simp; rfl)); (case hp => exact (Reps.c6 (show Kd.M k25 _ _ _ (⟨t231, t232, t233, t234, t235, t236⟩ : S25) [.int .i64 t231, .int .i64 t232, .string t233, .string t234, .int .i64 t235, .bool t236] from (k25_mkM _ _ _ (⟨t231, t232, t233, t234, t235, t236⟩ : S25) )) (Reps.none _ _))); intro v238 w10 ho11 hb hg_ hnew_; clear hg_ hnew_; (first | rw [← Ny237.out] at ho11 | (simp only [Int.reduceToNat] at ho11; rw [← Ny237.out] at ho11)); have HO239 := Aside0.mk (Kd.R_lower ho11 (below_size bo)); replace HB := Aside0.mk (below_step bo hb); clear hb ho11; obtain ⟨Ao12, co12, eo12⟩ := Kd.R_slice HO239.out; subst eo12) | ((with_reducible refine gate_callee (f := 9) rfl ?_); refine goesL_ (some 17) rfl rfl Try.func9 (by kernel_rfl) rfl #[.int .i64 1, .int .i64 40, .string (⟨#[]⟩ : ByteArray), .string (⟨#[]⟩ : ByteArray)] rfl aa ?_; (with_reducible refine (fairwaylaw10_R.calls 1 40 (⟨#[]⟩ : ByteArray) (⟨#[]⟩ : ByteArray) t240 t241 t242 t243 t244 t245 _ A4.out).mono ?_); rintro e w13 ⟨rfl, hb⟩; refine ⟨_, rfl, ?_⟩; replace HO239 := Aside0.mk (Kd.R_below (rk HO239.out) hb); replace HB := Aside0.mk (below_step bo hb); (try clear hb); (try clear hb2); (try clear hk); (try clear hi)) | ((with_reducible refine gate_callee (f := 9) rfl ?_); refine goesL_ (some 18) rfl rfl Try.func9 (by kernel_rfl) rfl #[.int .i64 2, .int .i64 50, .string (⟨#[]⟩ : ByteArray), .string (⟨#[]⟩ : ByteArray)] rfl aa ?_; (with_reducible refine (fairwaylaw10_R.calls 2 50 (⟨#[]⟩ : ByteArray) (⟨#[]⟩ : ByteArray) t246 t247 t248 t249 t250 t251 _ A5.out).mono ?_); rintro e w14 ⟨rfl, hb⟩; refine ⟨_, rfl, ?_⟩; replace HO239 := Aside0.mk (Kd.R_below (rk HO239.out) hb); replace HB := Aside0.mk (below_step bo hb); (try clear hb); (try clear hb2); (try clear hk); (try clear hi)) | ((with_reducible refine gate_dst (N := 19) rfl ?_); refine Kd.R_lit k25 _ 25 ?hg (N := 19) ?hd (xs := ([(⟨t240, t241, t242, t243, t244, t245⟩ : S25), (⟨t246, t247, t248, t249, t250, t251⟩ : S25)] : List (S25))) (inner := [.int .i64 t240, .int .i64 t241, .string t242, .string t243, .int .i64 t244, .bool t245, .int .i64 t246, .int .i64 t247, .string t248, .string t249, .int .i64 t250, .bool t251]) (ok := fun _ => True) (okp := fun _ => True) ?hr ?hp (fun _ hk => hk) trivial (Below.refl _ _) (Nat.le_refl _) (by simp) ?_; (case hd => rfl); (case hg => rfl); (case hr => first | (go_simp; done) | (go_simp; rfl)); (case hp => exact (Reps.c6 (show Kd.M k25 _ _ _ (⟨t240, t241, t242, t243, t244, t245⟩ : S25) [.int .i64 t240, .int .i64 t241, .string t242, .string t243, .int .i64 t244, .bool t245] from (k25_mkM _ _ _ (⟨t240, t241, t242, t243, t244, t245⟩ : S25) )) (Reps.c6 (show Kd.M k25 _ _ _ (⟨t246, t247, t248, t249, t250, t251⟩ : S25) [.int .i64 t246, .int .i64 t247, .string t248, .string t249, .int .i64 t250, .bool t251] from (k25_mkM _ _ _ (⟨t246, t247, t248, t249, t250, t251⟩ : S25) )) (Reps.none _ _)))); intro v253 w15 ho16 hb hg_ hnew_; clear hg_ hnew_; (first | rw [← Ny252.out] at ho16 | (simp only [Int.reduceToNat] at ho16; rw [← Ny252.out] at ho16)); have HO254 := Aside0.mk (Kd.R_lower (Kd.R_new' ho16 (Kd.R_lt (rk HO239.out))) (below_size bo)); replace HO239 := Aside0.mk (Kd.R_elder' (rk HO239.out) (Kd.R_base ho16) hb); replace HB := Aside0.mk (below_step bo hb); clear hb ho16; obtain ⟨Ao17, co17, eo17⟩ := Kd.R_slice HO254.out; subst eo17) | ((with_reducible refine gate_callee (f := 9) rfl ?_); refine goesL_ (some 21) rfl rfl Try.func9 (by kernel_rfl) rfl #[.int .i64 3, .int .i64 50, .string (⟨#[]⟩ : ByteArray), .string (⟨#[]⟩ : ByteArray)] rfl aa ?_; (with_reducible refine (fairwaylaw10_R.calls 3 50 (⟨#[]⟩ : ByteArray) (⟨#[]⟩ : ByteArray) t255 t256 t257 t258 t259 t260 _ A6.out).mono ?_); rintro e w18 ⟨rfl, hb⟩; refine ⟨_, rfl, ?_⟩; replace HO239 := Aside0.mk (Kd.R_below (rk HO239.out) hb); replace HO254 := Aside0.mk (Kd.R_below (rk HO254.out) hb); replace HB := Aside0.mk (below_step bo hb); (try clear hb); (try clear hb2); (try clear hk); (try clear hi)) | ((with_reducible refine gate_dst (N := 22) rfl ?_); refine Kd.R_lit k25 _ 25 ?hg (N := 22) ?hd (xs := ([(⟨t255, t256, t257, t258, t259, t260⟩ : S25)] : List (S25))) (inner := [.int .i64 t255, .int .i64 t256, .string t257, .string t258, .int .i64 t259, .bool t260]) (ok := fun _ => True) (okp := fun _ => True) ?hr ?hp (fun _ hk => hk) trivial (Below.refl _ _) (Nat.le_refl _) (by simp) ?_; (case hd => rfl); (case hg => rfl); (case hr => first | (go_simp; done) | (go_simp; rfl)); (case hp => exact (Reps.c6 (show Kd.M k25 _ _ _ (⟨t255, t256, t257, t258, t259, t260⟩ : S25) [.int .i64 t255, .int .i64 t256, .string t257, .string t258, .int .i64 t259, .bool t260] from (k25_mkM _ _ _ (⟨t255, t256, t257, t258, t259, t260⟩ : S25) )) (Reps.none _ _))); intro v262 w19 ho20 hb hg_ hnew_; clear hg_ hnew_; (first | rw [← Ny261.out] at ho20 | (simp only [Int.reduceToNat] at ho20; rw [← Ny261.out] at ho20)); have HO263 := Aside0.mk (Kd.R_lower (Kd.R_new' (Kd.R_new' ho20 (Kd.R_lt (rk HO239.out))) (Kd.R_lt (rk HO254.out))) (below_size bo)); replace HO239 := Aside0.mk (Kd.R_elder' (rk HO239.out) (Kd.R_base ho20) hb); replace HO254 := Aside0.mk (Kd.R_elder' (rk HO254.out) (Kd.R_base ho20) hb); replace HB := Aside0.mk (below_step bo hb); clear hb ho20; obtain ⟨Ao21, co21, eo21⟩ := Kd.R_slice HO263.out; subst eo21) | ((with_reducible refine gate_dst (N := 24) rfl ?_); refine Kd.N_lit k29 _ 29 ?hg (N' := 24) ?hd (xs := ([(⟨0, ([] : List (S25))⟩ : S29), (⟨0, y237⟩ : S29), (⟨1, ([] : List (S25))⟩ : S29), (⟨1, y252⟩ : S29), (⟨3, y261⟩ : S29)] : List (S29))) (inner := [.int .i64 0, .slice none 0 0, .int .i64 0, .slice Ao12 y237.length co12, .int .i64 1, .slice none 0 0, .int .i64 1, .slice Ao17 y252.length co17, .int .i64 3, .slice Ao21 y261.length co21]) (ok := (fun _ => True)) (okp := (fun _ => True)) ?hr ?hp (fun _ hk => hk) ((show ∀ k_, w19.heap.size ≤ k_ → (fun _ => True) k_ from fun k_ hk => trivial) _ (Nat.le_refl _)) (Below.refl _ _) (Nat.le_refl _) (by simp) ?_; (case hd => rfl); (case hg => rfl); (case hr => first | (go_simp; done) | (go_simp; rfl)); (case hp => exact (Reps.c2 (show Kd.FK k29 _ _ (⟨0, ([] : List (S25))⟩ : S29) [.int .i64 0, .slice none 0 0] from (k29_mkF _ _ (⟨0, ([] : List (S25))⟩ : S29) (Nat.le_refl _) (Kd.F_nil _ _ _))) (Reps.c2 (show Kd.FK k29 _ _ (⟨0, y237⟩ : S29) [.int .i64 0, .slice Ao12 y237.length co12] from (k29_mkF _ _ (⟨0, y237⟩ : S29) (Kd.R_reads' (Kd.R_mono (ok' := (fun _ => True)) (HO239.out) (fun k_ hk => trivial))).2.1 (Kd.R_F (Kd.R_mono (ok' := (fun _ => True)) (HO239.out) (fun k_ hk => trivial))))) (Reps.c2 (show Kd.FK k29 _ _ (⟨1, ([] : List (S25))⟩ : S29) [.int .i64 1, .slice none 0 0] from (k29_mkF _ _ (⟨1, ([] : List (S25))⟩ : S29) (Nat.le_refl _) (Kd.F_nil _ _ _))) (Reps.c2 (show Kd.FK k29 _ _ (⟨1, y252⟩ : S29) [.int .i64 1, .slice Ao17 y252.length co17] from (k29_mkF _ _ (⟨1, y252⟩ : S29) (Kd.R_reads' (Kd.R_mono (ok' := (fun _ => True)) (HO254.out) (fun k_ hk => trivial))).2.1 (Kd.R_F (Kd.R_mono (ok' := (fun _ => True)) (HO254.out) (fun k_ hk => trivial))))) (Reps.c2 (show Kd.FK k29 _ _ (⟨3, y261⟩ : S29) [.int .i64 3, .slice Ao21 y261.length co21] from (k29_mkF _ _ (⟨3, y261⟩ : S29) (Kd.R_reads' (Kd.R_mono (ok' := (fun _ => True)) (HO263.out) (fun k_ hk => trivial))).2.1 (Kd.R_F (Kd.R_mono (ok' := (fun _ => True)) (HO263.out) (fun k_ hk => trivial))))) (Reps.none _ _))))))); intro v265 w22 ho23 hb hg_ hnew_; clear hg_ hnew_; (first | rw [← Ny264.out] at ho23 | (simp only [Int.reduceToNat] at ho23; rw [← Ny264.out] at ho23)); have n0_ := Aside0.mk (Kd.N_lower ho23 (below_size bo)); have n1_ := Aside0.mk (below_step bo hb); clear HB; clear HO239; clear HO254; clear HO263; have HO266 := n0_; have HB := n1_; clear n0_ n1_; clear hb ho23; obtain ⟨Ao24, co24, eo24⟩ := Kd.N_slice HO266.out; subst eo24) | ((with_reducible refine gate_callee (f := 11) rfl ?_); refine goesL_ (some 29) rfl rfl Try.func11 (by kernel_rfl) rfl #[.slice Ao24 y264.length co24, .agg #[.int .i64 1, .int .i64 (-1), .int .i64 10, .bool false, .int .i64 0], .int .i64 x3_1] rfl aa ?_; (with_reducible refine (keep_Old.calls k1 _ _ y264 1 (-1) 10 false 0 x3_1 t267 t268 _ ?side1 ?side2 A7.out).mono ?_); (case side1 => repeat (first | exact (Kd.N_reads' HO266.out).2.2 | (with_reducible refine Kd.C_alloc ?_ _) | (with_reducible refine Kd.C_drewN ?_ _) | (with_reducible refine Kd.C_drew ?_))); (case side2 => exact (Kd.N_reads' HO266.out).2.1); rintro e w25 ⟨rfl, hb⟩; refine ⟨_, rfl, ?_⟩; replace HO266 := Aside0.mk (Kd.N_below (by (with_reducible repeat (first | apply Kd.N_alloc | apply Kd.N_drewN | apply Kd.N_drew)); exact HO266.out) hb); replace HB := Aside0.mk (below_step bo hb); (try clear hb); (try clear hb2); (try clear hk); (try clear hi)))
    (try simp only [Act.put, List.setIfInBounds_toArray, List.set_cons_zero, List.set_cons_succ])
    go_cut [7] (fun v7 wc => ∃ (kq : Nat) (x7_7 : Int), v7 = .int .i64 x7_7 ∧ Aside0 (fairwaylaw13_KeepAges.j1 kq l0 x3_1 y264 t267 t268 x7_7 = some r) ∧ Aside0 (kq ≤ k1) ∧ Aside0 (Kd.N k29 29 wc w.heap.size (fun _ => True) (.slice Ao24 y264.length co24) y264) ∧ Aside0 (Below w.heap.size w wc))
    case first =>
     have H := HC8.out
     clear HC8
     by_cases c26 : x3_1 > 15
     ·rw [if_pos c26] at H
      have c26b0 : decide (15 < x3_1) = true := decide_eq_true c26
      clear c26
      (first | rw [c26b0] | (simp only [i64_w, i32_w]; rw [c26b0]) | skip)
      have H' := Aside0.mk H
      clear H
      go_wp2
      go_meet
      case rel => exact ⟨_, (3), ap, H', ⟨by have := HK1.out; first | omega | exact Nat.le_refl _⟩, ⟨by (with_reducible repeat (first | apply Kd.N_alloc | apply Kd.N_drewN | apply Kd.N_drew)); exact HO266.out⟩, ⟨bo⟩⟩
     ·rw [if_neg c26] at H
      have c26b0 : decide (15 < x3_1) = false := decide_eq_false c26
      clear c26
      (first | rw [c26b0] | (simp only [i64_w, i32_w]; rw [c26b0]) | skip)
      have H' := Aside0.mk H
      clear H
      go_wp2
      go_meet
      case rel => exact ⟨_, (1), ap, H', ⟨by have := HK1.out; first | omega | exact Nat.le_refl _⟩, ⟨by (with_reducible repeat (first | apply Kd.N_alloc | apply Kd.N_drewN | apply Kd.N_drew)); exact HO266.out⟩, ⟨bo⟩⟩
    case rest =>
     clear HC8
     try clear c1
     try clear c2
     try clear c2b0
     try clear p2
     try clear c4
     try clear c6
     try clear c9
     try clear c11
     try clear c26
     try clear c26b0
     obtain ⟨kq, x7_7, rfl, HA, HJ7, HO_4, HB⟩ := hcut
     cases kq with
     | zero => exact absurd HA.out (by simp [fairwaylaw13_KeepAges.j1])
     | succ kj7 =>
      have H := HA.out
      clear HA
      simp only [fairwaylaw13_KeepAges.j1] at H
      have HC27 := Aside0.mk H
      clear H
      go_upto_if 35 with (fail)
      go_cut [7] (fun v7 wc => ∃ (kq : Nat) (x7_26 : Int), v7 = .int .i64 x7_26 ∧ Aside0 (fairwaylaw13_KeepAges.j2 kq l0 x3_1 y264 t267 t268 x7_26 = some r) ∧ Aside0 (kq ≤ kj7) ∧ Aside0 (Kd.N k29 29 wc w.heap.size (fun _ => True) (.slice Ao24 y264.length co24) y264) ∧ Aside0 (Below w.heap.size w wc))
      case first =>
       have H := HC27.out
       clear HC27
       by_cases c28 : x3_1 > 60
       ·rw [if_pos c28] at H
        have c28b0 : decide (60 < x3_1) = true := decide_eq_true c28
        clear c28
        (first | rw [c28b0] | (simp only [i64_w, i32_w]; rw [c28b0]) | skip)
        have H' := Aside0.mk H
        clear H
        go_wp2
        go_meet
        case rel => exact ⟨_, (4), ap, H', ⟨by have := HK1.out; have := HJ7.out; first | omega | exact Nat.le_refl _⟩, ⟨by (with_reducible repeat (first | apply Kd.N_alloc | apply Kd.N_drewN | apply Kd.N_drew)); exact HO_4.out⟩, ⟨bo⟩⟩
       ·rw [if_neg c28] at H
        have c28b0 : decide (60 < x3_1) = false := decide_eq_false c28
        clear c28
        (first | rw [c28b0] | (simp only [i64_w, i32_w]; rw [c28b0]) | skip)
        have H' := Aside0.mk H
        clear H
        go_wp2
        go_meet
        case rel => exact ⟨_, (x7_7), ap, H', ⟨by have := HK1.out; have := HJ7.out; first | omega | exact Nat.le_refl _⟩, ⟨by (with_reducible repeat (first | apply Kd.N_alloc | apply Kd.N_drewN | apply Kd.N_drew)); exact HO_4.out⟩, ⟨bo⟩⟩
      case rest =>
       clear HC27
       try clear c1
       try clear c2
       try clear c2b0
       try clear p2
       try clear c4
       try clear c6
       try clear c9
       try clear c11
       try clear c26
       try clear c26b0
       try clear c28
       try clear c28b0
       try clear p2
       obtain ⟨kq, x7_26, rfl, HA, HJ26, HO_4, HB⟩ := hcut
       cases kq with
       | zero => exact absurd HA.out (by simp [fairwaylaw13_KeepAges.j2])
       | succ kj26 =>
        have H := HA.out
        clear HA
        simp only [fairwaylaw13_KeepAges.j2] at H
        replace H := Option.bind_eq_some_iff.mp H
        obtain ⟨t269, A290, H⟩ := H
        replace H : (if t269 = 0 then (if t267 = x7_26 then ((fairwayref13_Row.f kj26 y264).bind fun t270 => (if t270 = true then (fairwaylaw13_KeepAges.l0 kj26 l0 (wrap64 (x3_1 + 1))) else (some false))) else (some false)) else (some false)) = some r := H
        have A29 := Aside0.mk A290
        clear A290
        by_cases c30 : t269 = 0
        ·rw [if_pos c30] at H
         have c30b0 : (t269 == 0) = true := beq_iff_eq.mpr c30
         have c30b1 : (t269 != 0) = false := bne_eq_false_iff_eq.mpr c30
         clear c30
         by_cases c31 : t267 = x7_26
         ·rw [if_pos c31] at H
          have c31b0 : (t267 == x7_26) = true := beq_iff_eq.mpr c31
          have c31b1 : (t267 != x7_26) = false := bne_eq_false_iff_eq.mpr c31
          clear c31
          replace H := Option.bind_eq_some_iff.mp H
          obtain ⟨t270, A320, H⟩ := H
          replace H : (if t270 = true then (fairwaylaw13_KeepAges.l0 kj26 l0 (wrap64 (x3_1 + 1))) else (some false)) = some r := H
          have A32 := Aside0.mk A320
          clear A320
          by_cases c33 : t270 = true
          ·subst c33
           have H1 : (fairwaylaw13_KeepAges.l0 kj26 l0 (wrap64 (x3_1 + 1))) = some r := by rw [if_pos rfl] at H; exact H
           clear H
           have H := H1
           clear H1
           have H' := Aside0.mk H
           clear H
           go_wp2_with (first | ((with_reducible refine gate_callee (f := 12) rfl ?_); refine goesL_ (some 37) rfl rfl Try.func12 (by kernel_rfl) rfl #[.int .i64 t268] rfl aa ?_; (with_reducible refine (fairwaylaw13_num.calls t268 t269 _ A29.out).mono ?_); rintro e w' ⟨rfl, ⟨nd, rfl⟩⟩; refine ⟨_, rfl, ?_⟩) | (go_at_call 14; (with_reducible refine (fairwayref13_Row.calls kj26 _ _ y264 true _ ?side1 ?side2 A32.out).mono ?_); (case side1 => repeat (first | exact (Kd.N_reads' HO_4.out).2.2 | (with_reducible refine Kd.C_alloc ?_ _) | (with_reducible refine Kd.C_drewN ?_ _) | (with_reducible refine Kd.C_drew ?_))); (case side2 => exact (Kd.N_reads' HO_4.out).2.1); rintro e w34 ⟨rfl, hb⟩; replace HO_4 := Aside0.mk (Kd.N_below (by (with_reducible repeat (first | apply Kd.N_alloc | apply Kd.N_drewN | apply Kd.N_drew)); exact HO_4.out) hb); replace HB := Aside0.mk (below_step bo hb); (try clear hb); (try clear hb2); (try clear hk); (try clear hi)))
           go_roundg kj26
           case measure => have := HK1.out; have := HJ7.out; have := HJ26.out; omega
           case rel => exact ⟨(wrap64 (x3_1 + 1)), ap, H', ⟨by have := HK1.out; have := HJ7.out; have := HJ26.out; omega⟩, ⟨bo⟩⟩
          ·replace c33 := Bool.eq_false_iff.mpr c33
           subst c33
           have H1 : (some false) = some r := by rw [if_neg (show ¬ (false = true) by decide)] at H; exact H
           clear H
           have H := H1
           clear H1
           obtain rfl := Option.some.inj H
           go_wp2_with (first | ((with_reducible refine gate_callee (f := 12) rfl ?_); refine goesL_ (some 37) rfl rfl Try.func12 (by kernel_rfl) rfl #[.int .i64 t268] rfl aa ?_; (with_reducible refine (fairwaylaw13_num.calls t268 t269 _ A29.out).mono ?_); rintro e w' ⟨rfl, ⟨nd, rfl⟩⟩; refine ⟨_, rfl, ?_⟩) | (go_at_call 14; (with_reducible refine (fairwayref13_Row.calls kj26 _ _ y264 false _ ?side1 ?side2 A32.out).mono ?_); (case side1 => repeat (first | exact (Kd.N_reads' HO_4.out).2.2 | (with_reducible refine Kd.C_alloc ?_ _) | (with_reducible refine Kd.C_drewN ?_ _) | (with_reducible refine Kd.C_drew ?_))); (case side2 => exact (Kd.N_reads' HO_4.out).2.1); rintro e w35 ⟨rfl, hb⟩; replace HO_4 := Aside0.mk (Kd.N_below (by (with_reducible repeat (first | apply Kd.N_alloc | apply Kd.N_drewN | apply Kd.N_drew)); exact HO_4.out) hb); replace HB := Aside0.mk (below_step bo hb); (try clear hb); (try clear hb2); (try clear hk); (try clear hi)))
           go_ret
           exact ⟨er, bo⟩
         ·rw [if_neg c31] at H
          have c31b0 : (t267 == x7_26) = false := beq_eq_false_iff_ne.mpr c31
          have c31b1 : (t267 != x7_26) = true := bne_iff_ne.mpr c31
          obtain rfl := Option.some.inj H
          go_wp2_with (first | ((with_reducible refine gate_callee (f := 12) rfl ?_); refine goesL_ (some 37) rfl rfl Try.func12 (by kernel_rfl) rfl #[.int .i64 t268] rfl aa ?_; (with_reducible refine (fairwaylaw13_num.calls t268 t269 _ A29.out).mono ?_); rintro e w' ⟨rfl, ⟨nd, rfl⟩⟩; refine ⟨_, rfl, ?_⟩))
          go_ret
          exact ⟨er, bo⟩
        ·rw [if_neg c30] at H
         have c30b0 : (t269 == 0) = false := beq_eq_false_iff_ne.mpr c30
         have c30b1 : (t269 != 0) = true := bne_iff_ne.mpr c30
         obtain rfl := Option.some.inj H
         go_wp2_with (first | ((with_reducible refine gate_callee (f := 12) rfl ?_); refine goesL_ (some 37) rfl rfl Try.func12 (by kernel_rfl) rfl #[.int .i64 t268] rfl aa ?_; (with_reducible refine (fairwaylaw13_num.calls t268 t269 _ A29.out).mono ?_); rintro e w' ⟨rfl, ⟨nd, rfl⟩⟩; refine ⟨_, rfl, ?_⟩))
         go_ret
         exact ⟨er, bo⟩
   ·rw [if_neg c2] at H
    have c2b0 : decide (x3_1 < 80) = false := decide_eq_false c2
    clear c2
    by_cases c36 : (l0.length : Int) ≥ 0
    ·rw [if_pos c36] at H
     have c36b0 : decide (0 ≤ (l0.length : Int)) = true := decide_eq_true c36
     have c36b1 : decide (0 ≤ l0.length) = true := decide_eq_true (by omega)
     clear c36
     replace H := Option.bind_eq_some_iff.mp H
     obtain ⟨t230, A370, H⟩ := H
     replace H : (some t230) = some r := H
     have A37 := Aside0.mk A370
     clear A370
     obtain rfl := Option.some.inj H
     go_wp2_with (first | (go_at_call 13; (with_reducible refine (fairwaylaw13_wakes.calls k1  t230 _ A37.out).mono ?_); rintro e w38 ⟨rfl, hb⟩; replace HB := Aside0.mk (below_step bo hb); (try clear hb); (try clear hb2); (try clear hk); (try clear hi)))
     go_ret
     exact ⟨er, bo⟩
    ·exact absurd (show (l0.length : Int) ≥ 0 by omega) c36

end Go.Proofs.Ytigmekgknhoidaa.P

