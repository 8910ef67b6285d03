/- The law RecBack: printed functions, their contracts, the plain laws and the row, part 7. -/
import Derived.Test.YtmabdfdmccbfnaaKRecBack4
import Derived.Test.YtmabdfdmccbfnaaKRecBack6
import Derived.Test.YtmabdfdmccbfnaaKRecBack5
import Derived.Shelf.Strings.Builder1
-- written by a program of the proving session, out of the translation; Lean checks it
namespace Go.Proofs.Ytmabdfdmccbfnaa.P
open Go.RowKit Go.Proofs.Ytmabdfdmccbfnaa.Sq Go.Proofs.YtmabdfdmccbfnaaW.PrintWords Go.Proofs.YtmabdfdmccbfnaaW.PrintLast Go.Proofs.YtmabdfdmccbfnaaW.PrintMore
attribute [local go_sem] max2_int min2_int max_two min_two max_three min_three max_four min_four   -- for this text's walks alone
set_option linter.unusedVariables false
set_option linter.unusedSimpArgs false

/-! ### fairwayref10_Bytes: function 20 -/
def fairwayref10_Bytes.j0 : Nat → Int → Int → Int → ByteArray → ByteArray → Int → Bool → Option (ByteArray)
 | 0, _, _, _, _, _, _, _ => none
 | k + 1, x3, x218000, x218001, x218002, x218003, x218004, x218005 => (fairwayref1_Fixed.f k x218000 8).bind fun t218 => ((fairwayref1_Fixed.f k x218001 8).bind fun t219 => (if t218.size + t219.size ≤ 9223372036854775807 then ((some (([(x3) % 256] : List Int) : List Int)).bind fun y220 => (if (t218 ++ t219).size + (strOfNums y220).size ≤ 9223372036854775807 then ((fairwayref1_Fixed.f k (x218002.size : Int) 2).bind fun t223 => (if ((t218 ++ t219) ++ (strOfNums y220)).size + t223.size ≤ 9223372036854775807 then (if (((t218 ++ t219) ++ (strOfNums y220)) ++ t223).size + x218002.size ≤ 9223372036854775807 then (if ((((t218 ++ t219) ++ (strOfNums y220)) ++ t223) ++ x218002).size + x218003.size ≤ 9223372036854775807 then ((fairwayref1_Fixed.f k ((((((t218 ++ t219) ++ (strOfNums y220)) ++ t223) ++ x218002) ++ x218003).size : Int) 2).bind fun t224 => (if t224.size + (((((t218 ++ t219) ++ (strOfNums y220)) ++ t223) ++ x218002) ++ x218003).size ≤ 9223372036854775807 then ((fairwayref1_Sum.f k 0 (t224 ++ (((((t218 ++ t219) ++ (strOfNums y220)) ++ t223) ++ x218002) ++ x218003))).bind fun t225 => ((fairwayref1_Fixed.f k (wrap64 (t225)) 4).bind fun t226 => (if t224.size + t226.size ≤ 9223372036854775807 then (if (t224 ++ t226).size + (((((t218 ++ t219) ++ (strOfNums y220)) ++ t223) ++ x218002) ++ x218003).size ≤ 9223372036854775807 then (some ((t224 ++ t226) ++ (((((t218 ++ t219) ++ (strOfNums y220)) ++ t223) ++ x218002) ++ x218003))) else (none)) else (none)))) else (none))) else (none)) else (none)) else (none))) else (none))) else (none)))
def fairwayref10_Bytes.f (k : Nat) (a0_0 : Int) (a0_1 : Int) (a0_2 : ByteArray) (a0_3 : ByteArray) (a0_4 : Int) (a0_5 : Bool) : Option (ByteArray) := if a0_5 = true then (fairwayref10_Bytes.j0 k (wrap64 (a0_4 + 4)) a0_0 a0_1 a0_2 a0_3 a0_4 a0_5) else (fairwayref10_Bytes.j0 k a0_4 a0_0 a0_1 a0_2 a0_3 a0_4 a0_5)
theorem fairwayref10_Bytes.mono_l : ∀ k, (∀ y0 y1 y2 y3 y4 y5 y6, LeO (fairwayref10_Bytes.j0 k y0 y1 y2 y3 y4 y5 y6) (fairwayref10_Bytes.j0 (k + 1) y0 y1 y2 y3 y4 y5 y6))
 | 0 => fun _ _ _ _ _ _ _ r h => by simp [fairwayref10_Bytes.j0] at h
 | k + 1 => by
  have ih0 := fairwayref10_Bytes.mono_l k
  ·intro y0 y1 y2 y3 y4 y5 y6
   unfold fairwayref10_Bytes.j0
   repeat' first
   | (with_reducible exact ih0 _ _ _ _ _ _ _)
   | (with_reducible exact fairwayref1_Fixed.mono _ _ _)
   | (with_reducible exact fairwayref1_Sum.mono _ _ _)
   | (with_reducible exact LeO.refl _)
   | (with_reducible exact LeO.none _)
   | (with_reducible refine LeO.ite ?_ ?_)
   | (with_reducible refine LeO.bind ?_ (fun _ => ?_))
   | exact ih0 _ _ _ _ _ _ _
   | exact fairwayref1_Fixed.mono _ _ _
   | exact fairwayref1_Sum.mono _ _ _
   | exact LeO.none _
   | refine LeO.ite ?_ ?_
   | refine LeO.bind ?_ (fun _ => ?_)
theorem fairwayref10_Bytes.mono : ∀ a0 a1 a2 a3 a4 a5 k, LeO (fairwayref10_Bytes.f k a0 a1 a2 a3 a4 a5) (fairwayref10_Bytes.f (k + 1) a0 a1 a2 a3 a4 a5) := by
 intro a0 a1 a2 a3 a4 a5 k
 have ih0 := fairwayref10_Bytes.mono_l k
 unfold fairwayref10_Bytes.f
 repeat' first
  | (with_reducible exact ih0 _ _ _ _ _ _ _)
  | (with_reducible exact fairwayref1_Fixed.mono _ _ _)
  | (with_reducible exact fairwayref1_Sum.mono _ _ _)
  | (with_reducible exact LeO.refl _)
  | (with_reducible exact LeO.none _)
  | (with_reducible refine LeO.ite ?_ ?_)
  | (with_reducible refine LeO.bind ?_ (fun _ => ?_))
  | exact ih0 _ _ _ _ _ _ _
  | exact fairwayref1_Fixed.mono _ _ _
  | exact fairwayref1_Sum.mono _ _ _
  | exact LeO.none _
  | refine LeO.ite ?_ ?_
  | refine LeO.bind ?_ (fun _ => ?_)
def fairwayref10_Bytes.T4 : Bool × List (List Nat × List Nat) := (true, [([], []), ([0], [0]), ([1], [1]), ([], []), ([3], [3]), ([4, 2], [4]), ([2, 5], [2, 5]), ([], []), ([7], [7]), ([8], [8]), ([9], [9]), ([6, 10], [6, 10]), ([], []), ([12], [12]), ([13], [13]), ([14, 5], [14]), ([11, 15], [11, 15]), ([], []), ([17], [17]), ([16, 18], [16, 18]), ([], []), ([20], [20]), ([19, 21], [19, 21]), ([22, 15, 0, 1, 2, 3, 4, 5, 6, 7, 8, 9, 10, 11, 12, 13, 14, 15, 16, 17, 18, 19, 20, 21, 22], [22])])
def fairwayref10_Bytes.B4 : List Nat := [0, 1, 3, 0, 8, 31, 63, 0, 128, 384, 896, 2047, 0, 4096, 12288, 28735, 65535, 0, 131072, 524287, 0, 1048576, 4194303, 8388607]
theorem fairwayref10_Bytes.tab4 : rtab .any (opsOf Try.f20 4) = fairwayref10_Bytes.T4 := by kernel_rfl
theorem fairwayref10_Bytes.bits4 : waitsOk fairwayref10_Bytes.T4.2 fairwayref10_Bytes.B4 = true := by kernel_rfl
set_option maxHeartbeats 8000000 in
set_option maxRecDepth 100000 in
theorem fairwayref10_Bytes.calls (k : Nat) (a0_0 : Int) (a0_1 : Int) (a0_2 : ByteArray) (a0_3 : ByteArray) (a0_4 : Int) (a0_5 : Bool) (r : ByteArray) (w : World) (h : fairwayref10_Bytes.f k a0_0 a0_1 a0_2 a0_3 a0_4 a0_5 = some r) :
 Calls Try.prog 20 #[.agg #[.int .i64 a0_0, .int .i64 a0_1, .string a0_2, .string a0_3, .int .i64 a0_4, .bool a0_5]] w fun e w' => e = .returned (.string r) ∧ Below w.heap.size w w' := by
 have hu25 := Try.underlying25
 have HB := Aside0.mk (Below.refl w.heap.size w)
 have H : (if a0_5 = true then (fairwayref10_Bytes.j0 k (wrap64 (a0_4 + 4)) a0_0 a0_1 a0_2 a0_3 a0_4 a0_5) else (fairwayref10_Bytes.j0 k a0_4 a0_0 a0_1 a0_2 a0_3 a0_4 a0_5)) = some r := h
 clear h
 have HC2 := Aside0.mk H
 clear H
 go_enter Try.func20, Try.ntmps20
 go_upto_if 9 with (first | ((with_reducible refine gate_dst (N := 1) rfl ?_); refine box_event ?hg (N := 1) ?hd (cs := #[.int .i64 a0_0, .int .i64 a0_1, .string a0_2, .string a0_3, .int .i64 a0_4, .bool a0_5]) (t := 25) ?hr ?_; (case hd => rfl); (case hg => rfl); (case hr => first | (go_simp; done) | (go_simp; rfl)); intro gb217 hg w3 hbox hb; have BK217 := Aside0.mk (hbox); have GW217 := Aside0.mk ((by rw [hg]; exact (below_size bo) : w.heap.size ≤ gb217)); have GE217 := Aside0.mk ((by rw [hg]; exact (below_size bo) : w.heap.size ≤ gb217)); replace HB := Aside0.mk (below_step bo hb); clear hb hbox hg; obtain ⟨hcz4_0, hcz4_1, hcz4_2, hcz4_3, hcz4_4, hcz4_5⟩ := cl6 BK217.out; obtain ⟨hfz4_0, hfz4_1, hfz4_2, hfz4_3, hfz4_4, hfz4_5⟩ := fz6 BK217.out))
 (try simp only [Act.put, List.setIfInBounds_toArray, List.set_cons_zero, List.set_cons_succ])
 go_cut [3] (fun v3 wc => ∃ (kq : Nat) (x3_1 : Int), v3 = .int .i64 x3_1 ∧ Aside0 (fairwayref10_Bytes.j0 kq x3_1 a0_0 a0_1 a0_2 a0_3 a0_4 a0_5 = some r) ∧ Aside0 (kq ≤ k) ∧ Aside0 (wc.heap[gb217]? = some (.cells #[.int .i64 a0_0, .int .i64 a0_1, .string a0_2, .string a0_3, .int .i64 a0_4, .bool a0_5] 25 (0, 0))) ∧ Aside0 (Below w.heap.size w wc))
 case first =>
  have H := HC2.out
  clear HC2
  by_cases c5 : a0_5 = true
  ·subst c5
   have H1 : (fairwayref10_Bytes.j0 k (wrap64 (a0_4 + 4)) a0_0 a0_1 a0_2 a0_3 a0_4 true) = some r := by rw [if_pos rfl] at H; exact H
   clear H
   have H := H1
   clear H1
   have H' := Aside0.mk H
   clear H
   go_wp2
   go_meet
   case rel => exact ⟨_, (wrap64 (a0_4 + 4)), ap, H', ⟨by first | omega | exact Nat.le_refl _⟩, ⟨by (with_reducible repeat (first | refine blk_drewN ?_ _ | refine blk_drew ?_ | refine blk_alloc ?_ _)); exact BK217.out⟩, ⟨bo⟩⟩
  ·replace c5 := Bool.eq_false_iff.mpr c5
   subst c5
   have H1 : (fairwayref10_Bytes.j0 k a0_4 a0_0 a0_1 a0_2 a0_3 a0_4 false) = some r := by rw [if_neg (show ¬ (false = true) by decide)] at H; exact H
   clear H
   have H := H1
   clear H1
   have H' := Aside0.mk H
   clear H
   go_wp2
   go_meet
   case rel => exact ⟨_, (a0_4), ap, H', ⟨by first | omega | exact Nat.le_refl _⟩, ⟨by (with_reducible repeat (first | refine blk_drewN ?_ _ | refine blk_drew ?_ | refine blk_alloc ?_ _)); exact BK217.out⟩, ⟨bo⟩⟩
 case rest =>
  clear HC2
  try clear c2
  try clear p2
  try clear c5
  try clear hcz4_0
  try clear hcz4_1
  try clear hcz4_2
  try clear hcz4_3
  try clear hcz4_4
  try clear hcz4_5
  try clear hfz4_0
  try clear hfz4_1
  try clear hfz4_2
  try clear hfz4_3
  try clear hfz4_4
  try clear hfz4_5
  obtain ⟨kq, x3_1, rfl, HA, HJ1, BK217, HB⟩ := hcut
  cases kq with
  | zero => exact absurd HA.out (by simp [fairwayref10_Bytes.j0])
  | succ kj1 =>
   have H := HA.out
   clear HA
   simp only [fairwayref10_Bytes.j0] at H
   replace H := Option.bind_eq_some_iff.mp H
   obtain ⟨t218, A60, H⟩ := H
   replace H : ((fairwayref1_Fixed.f kj1 a0_1 8).bind fun t219 => (if t218.size + t219.size ≤ 9223372036854775807 then ((some (([(x3_1) % 256] : List Int) : List Int)).bind fun y220 => (if (t218 ++ t219).size + (strOfNums y220).size ≤ 9223372036854775807 then ((fairwayref1_Fixed.f kj1 (a0_2.size : Int) 2).bind fun t223 => (if ((t218 ++ t219) ++ (strOfNums y220)).size + t223.size ≤ 9223372036854775807 then (if (((t218 ++ t219) ++ (strOfNums y220)) ++ t223).size + a0_2.size ≤ 9223372036854775807 then (if ((((t218 ++ t219) ++ (strOfNums y220)) ++ t223) ++ a0_2).size + a0_3.size ≤ 9223372036854775807 then ((fairwayref1_Fixed.f kj1 ((((((t218 ++ t219) ++ (strOfNums y220)) ++ t223) ++ a0_2) ++ a0_3).size : Int) 2).bind fun t224 => (if t224.size + (((((t218 ++ t219) ++ (strOfNums y220)) ++ t223) ++ a0_2) ++ a0_3).size ≤ 9223372036854775807 then ((fairwayref1_Sum.f kj1 0 (t224 ++ (((((t218 ++ t219) ++ (strOfNums y220)) ++ t223) ++ a0_2) ++ a0_3))).bind fun t225 => ((fairwayref1_Fixed.f kj1 (wrap64 (t225)) 4).bind fun t226 => (if t224.size + t226.size ≤ 9223372036854775807 then (if (t224 ++ t226).size + (((((t218 ++ t219) ++ (strOfNums y220)) ++ t223) ++ a0_2) ++ a0_3).size ≤ 9223372036854775807 then (some ((t224 ++ t226) ++ (((((t218 ++ t219) ++ (strOfNums y220)) ++ t223) ++ a0_2) ++ a0_3))) else (none)) else (none)))) else (none))) else (none)) else (none)) else (none))) else (none))) else (none))) = some r := H
   have A6 := Aside0.mk A60
   clear A60
   replace H := Option.bind_eq_some_iff.mp H
   obtain ⟨t219, A70, H⟩ := H
   replace H : (if t218.size + t219.size ≤ 9223372036854775807 then ((some (([(x3_1) % 256] : List Int) : List Int)).bind fun y220 => (if (t218 ++ t219).size + (strOfNums y220).size ≤ 9223372036854775807 then ((fairwayref1_Fixed.f kj1 (a0_2.size : Int) 2).bind fun t223 => (if ((t218 ++ t219) ++ (strOfNums y220)).size + t223.size ≤ 9223372036854775807 then (if (((t218 ++ t219) ++ (strOfNums y220)) ++ t223).size + a0_2.size ≤ 9223372036854775807 then (if ((((t218 ++ t219) ++ (strOfNums y220)) ++ t223) ++ a0_2).size + a0_3.size ≤ 9223372036854775807 then ((fairwayref1_Fixed.f kj1 ((((((t218 ++ t219) ++ (strOfNums y220)) ++ t223) ++ a0_2) ++ a0_3).size : Int) 2).bind fun t224 => (if t224.size + (((((t218 ++ t219) ++ (strOfNums y220)) ++ t223) ++ a0_2) ++ a0_3).size ≤ 9223372036854775807 then ((fairwayref1_Sum.f kj1 0 (t224 ++ (((((t218 ++ t219) ++ (strOfNums y220)) ++ t223) ++ a0_2) ++ a0_3))).bind fun t225 => ((fairwayref1_Fixed.f kj1 (wrap64 (t225)) 4).bind fun t226 => (if t224.size + t226.size ≤ 9223372036854775807 then (if (t224 ++ t226).size + (((((t218 ++ t219) ++ (strOfNums y220)) ++ t223) ++ a0_2) ++ a0_3).size ≤ 9223372036854775807 then (some ((t224 ++ t226) ++ (((((t218 ++ t219) ++ (strOfNums y220)) ++ t223) ++ a0_2) ++ a0_3))) else (none)) else (none)))) else (none))) else (none)) else (none)) else (none))) else (none))) else (none)) = some r := H
   have A7 := Aside0.mk A70
   clear A70
   by_cases c8 : t218.size + t219.size ≤ 9223372036854775807
   ·rw [if_pos c8] at H
    have c8b0 := eq_true c8
    have c8b1 : decide (t218.size + t219.size ≤ 9223372036854775807) = true := decide_eq_true c8
    try have c8b2 : (9223372036854775807 < t218.size + t219.size) = False := eq_false (Nat.not_lt.2 c8)
    obtain ⟨y220, hy220⟩ : ∃ y_ : List Int, y_ = (([(x3_1) % 256] : List Int)) := ⟨_, rfl⟩
    replace H : (if (t218 ++ t219).size + (strOfNums y220).size ≤ 9223372036854775807 then ((fairwayref1_Fixed.f kj1 (a0_2.size : Int) 2).bind fun t223 => (if ((t218 ++ t219) ++ (strOfNums y220)).size + t223.size ≤ 9223372036854775807 then (if (((t218 ++ t219) ++ (strOfNums y220)) ++ t223).size + a0_2.size ≤ 9223372036854775807 then (if ((((t218 ++ t219) ++ (strOfNums y220)) ++ t223) ++ a0_2).size + a0_3.size ≤ 9223372036854775807 then ((fairwayref1_Fixed.f kj1 ((((((t218 ++ t219) ++ (strOfNums y220)) ++ t223) ++ a0_2) ++ a0_3).size : Int) 2).bind fun t224 => (if t224.size + (((((t218 ++ t219) ++ (strOfNums y220)) ++ t223) ++ a0_2) ++ a0_3).size ≤ 9223372036854775807 then ((fairwayref1_Sum.f kj1 0 (t224 ++ (((((t218 ++ t219) ++ (strOfNums y220)) ++ t223) ++ a0_2) ++ a0_3))).bind fun t225 => ((fairwayref1_Fixed.f kj1 (wrap64 (t225)) 4).bind fun t226 => (if t224.size + t226.size ≤ 9223372036854775807 then (if (t224 ++ t226).size + (((((t218 ++ t219) ++ (strOfNums y220)) ++ t223) ++ a0_2) ++ a0_3).size ≤ 9223372036854775807 then (some ((t224 ++ t226) ++ (((((t218 ++ t219) ++ (strOfNums y220)) ++ t223) ++ a0_2) ++ a0_3))) else (none)) else (none)))) else (none))) else (none)) else (none)) else (none))) else (none)) = some r := by first | (rw [hy220]; with_reducible exact H) | (have H2_ := (Option.bind_some _ _).symm.trans H; rw [hy220]; with_reducible exact H2_) | (have H2_ := (Option.bind_some _ _).symm.trans H; with_reducible exact H2_) | with_reducible exact H | (rw [hy220]; exact H) | exact H
    have Ny220 := Aside0.mk hy220
    clear hy220
    by_cases c9 : (t218 ++ t219).size + (strOfNums y220).size ≤ 9223372036854775807
    ·rw [if_pos c9] at H
     have c9b0 := eq_true c9
     have c9b1 : decide ((t218 ++ t219).size + (strOfNums y220).size ≤ 9223372036854775807) = true := decide_eq_true c9
     try have c9b2 : (9223372036854775807 < (t218 ++ t219).size + (strOfNums y220).size) = False := eq_false (Nat.not_lt.2 c9)
     (try (have c9n2 := c9b2; simp only [ByteArray.size_append] at c9n2))
     (try (have c9n1 := c9b1; simp only [ByteArray.size_append] at c9n1))
     replace H := Option.bind_eq_some_iff.mp H
     obtain ⟨t223, A100, H⟩ := H
     replace H : (if ((t218 ++ t219) ++ (strOfNums y220)).size + t223.size ≤ 9223372036854775807 then (if (((t218 ++ t219) ++ (strOfNums y220)) ++ t223).size + a0_2.size ≤ 9223372036854775807 then (if ((((t218 ++ t219) ++ (strOfNums y220)) ++ t223) ++ a0_2).size + a0_3.size ≤ 9223372036854775807 then ((fairwayref1_Fixed.f kj1 ((((((t218 ++ t219) ++ (strOfNums y220)) ++ t223) ++ a0_2) ++ a0_3).size : Int) 2).bind fun t224 => (if t224.size + (((((t218 ++ t219) ++ (strOfNums y220)) ++ t223) ++ a0_2) ++ a0_3).size ≤ 9223372036854775807 then ((fairwayref1_Sum.f kj1 0 (t224 ++ (((((t218 ++ t219) ++ (strOfNums y220)) ++ t223) ++ a0_2) ++ a0_3))).bind fun t225 => ((fairwayref1_Fixed.f kj1 (wrap64 (t225)) 4).bind fun t226 => (if t224.size + t226.size ≤ 9223372036854775807 then (if (t224 ++ t226).size + (((((t218 ++ t219) ++ (strOfNums y220)) ++ t223) ++ a0_2) ++ a0_3).size ≤ 9223372036854775807 then (some ((t224 ++ t226) ++ (((((t218 ++ t219) ++ (strOfNums y220)) ++ t223) ++ a0_2) ++ a0_3))) else (none)) else (none)))) else (none))) else (none)) else (none)) else (none)) = some r := H
     have A10 := Aside0.mk A100
     clear A100
     by_cases c11 : ((t218 ++ t219) ++ (strOfNums y220)).size + t223.size ≤ 9223372036854775807
     ·rw [if_pos c11] at H
      have c11b0 := eq_true c11
      have c11b1 : decide (((t218 ++ t219) ++ (strOfNums y220)).size + t223.size ≤ 9223372036854775807) = true := decide_eq_true c11
      try have c11b2 : (9223372036854775807 < ((t218 ++ t219) ++ (strOfNums y220)).size + t223.size) = False := eq_false (Nat.not_lt.2 c11)
      (try (have c11n2 := c11b2; simp only [ByteArray.size_append] at c11n2))
      (try (have c11n1 := c11b1; simp only [ByteArray.size_append] at c11n1))
      by_cases c12 : (((t218 ++ t219) ++ (strOfNums y220)) ++ t223).size + a0_2.size ≤ 9223372036854775807
      ·rw [if_pos c12] at H
       have c12b0 := eq_true c12
       have c12b1 : decide ((((t218 ++ t219) ++ (strOfNums y220)) ++ t223).size + a0_2.size ≤ 9223372036854775807) = true := decide_eq_true c12
       try have c12b2 : (9223372036854775807 < (((t218 ++ t219) ++ (strOfNums y220)) ++ t223).size + a0_2.size) = False := eq_false (Nat.not_lt.2 c12)
       (try (have c12n2 := c12b2; simp only [ByteArray.size_append] at c12n2))
       (try (have c12n1 := c12b1; simp only [ByteArray.size_append] at c12n1))
       by_cases c13 : ((((t218 ++ t219) ++ (strOfNums y220)) ++ t223) ++ a0_2).size + a0_3.size ≤ 9223372036854775807
       ·rw [if_pos c13] at H
        have c13b0 := eq_true c13
        have c13b1 : decide (((((t218 ++ t219) ++ (strOfNums y220)) ++ t223) ++ a0_2).size + a0_3.size ≤ 9223372036854775807) = true := decide_eq_true c13
        try have c13b2 : (9223372036854775807 < ((((t218 ++ t219) ++ (strOfNums y220)) ++ t223) ++ a0_2).size + a0_3.size) = False := eq_false (Nat.not_lt.2 c13)
        (try (have c13n2 := c13b2; simp only [ByteArray.size_append] at c13n2))
        (try (have c13n1 := c13b1; simp only [ByteArray.size_append] at c13n1))
        replace H := Option.bind_eq_some_iff.mp H
        obtain ⟨t224, A140, H⟩ := H
        replace H : (if t224.size + (((((t218 ++ t219) ++ (strOfNums y220)) ++ t223) ++ a0_2) ++ a0_3).size ≤ 9223372036854775807 then ((fairwayref1_Sum.f kj1 0 (t224 ++ (((((t218 ++ t219) ++ (strOfNums y220)) ++ t223) ++ a0_2) ++ a0_3))).bind fun t225 => ((fairwayref1_Fixed.f kj1 (wrap64 (t225)) 4).bind fun t226 => (if t224.size + t226.size ≤ 9223372036854775807 then (if (t224 ++ t226).size + (((((t218 ++ t219) ++ (strOfNums y220)) ++ t223) ++ a0_2) ++ a0_3).size ≤ 9223372036854775807 then (some ((t224 ++ t226) ++ (((((t218 ++ t219) ++ (strOfNums y220)) ++ t223) ++ a0_2) ++ a0_3))) else (none)) else (none)))) else (none)) = some r := H
        have A14 := Aside0.mk A140
        clear A140
        by_cases c15 : t224.size + (((((t218 ++ t219) ++ (strOfNums y220)) ++ t223) ++ a0_2) ++ a0_3).size ≤ 9223372036854775807
        ·rw [if_pos c15] at H
         have c15b0 := eq_true c15
         have c15b1 : decide (t224.size + (((((t218 ++ t219) ++ (strOfNums y220)) ++ t223) ++ a0_2) ++ a0_3).size ≤ 9223372036854775807) = true := decide_eq_true c15
         try have c15b2 : (9223372036854775807 < t224.size + (((((t218 ++ t219) ++ (strOfNums y220)) ++ t223) ++ a0_2) ++ a0_3).size) = False := eq_false (Nat.not_lt.2 c15)
         (try (have c15n2 := c15b2; simp only [ByteArray.size_append] at c15n2))
         (try (have c15n1 := c15b1; simp only [ByteArray.size_append] at c15n1))
         replace H := Option.bind_eq_some_iff.mp H
         obtain ⟨t225, A160, H⟩ := H
         replace H : ((fairwayref1_Fixed.f kj1 (wrap64 (t225)) 4).bind fun t226 => (if t224.size + t226.size ≤ 9223372036854775807 then (if (t224 ++ t226).size + (((((t218 ++ t219) ++ (strOfNums y220)) ++ t223) ++ a0_2) ++ a0_3).size ≤ 9223372036854775807 then (some ((t224 ++ t226) ++ (((((t218 ++ t219) ++ (strOfNums y220)) ++ t223) ++ a0_2) ++ a0_3))) else (none)) else (none))) = some r := H
         have A16 := Aside0.mk A160
         clear A160
         replace H := Option.bind_eq_some_iff.mp H
         obtain ⟨t226, A170, H⟩ := H
         replace H : (if t224.size + t226.size ≤ 9223372036854775807 then (if (t224 ++ t226).size + (((((t218 ++ t219) ++ (strOfNums y220)) ++ t223) ++ a0_2) ++ a0_3).size ≤ 9223372036854775807 then (some ((t224 ++ t226) ++ (((((t218 ++ t219) ++ (strOfNums y220)) ++ t223) ++ a0_2) ++ a0_3))) else (none)) else (none)) = some r := H
         have A17 := Aside0.mk A170
         clear A170
         by_cases c18 : t224.size + t226.size ≤ 9223372036854775807
         ·rw [if_pos c18] at H
          have c18b0 := eq_true c18
          have c18b1 : decide (t224.size + t226.size ≤ 9223372036854775807) = true := decide_eq_true c18
          try have c18b2 : (9223372036854775807 < t224.size + t226.size) = False := eq_false (Nat.not_lt.2 c18)
          by_cases c19 : (t224 ++ t226).size + (((((t218 ++ t219) ++ (strOfNums y220)) ++ t223) ++ a0_2) ++ a0_3).size ≤ 9223372036854775807
          ·rw [if_pos c19] at H
           have c19b0 := eq_true c19
           have c19b1 : decide ((t224 ++ t226).size + (((((t218 ++ t219) ++ (strOfNums y220)) ++ t223) ++ a0_2) ++ a0_3).size ≤ 9223372036854775807) = true := decide_eq_true c19
           try have c19b2 : (9223372036854775807 < (t224 ++ t226).size + (((((t218 ++ t219) ++ (strOfNums y220)) ++ t223) ++ a0_2) ++ a0_3).size) = False := eq_false (Nat.not_lt.2 c19)
           (try (have c19n2 := c19b2; simp only [ByteArray.size_append] at c19n2))
           (try (have c19n1 := c19b1; simp only [ByteArray.size_append] at c19n1))
           obtain rfl := Option.some.inj H
           try go_wp2
           replace BK217 := Aside0.mk (blk_drew BK217.out)
           replace HB := Aside0.mk (below_drew1 HB.out)
           refine start_ (n := 24) (S := fun w' => w'.cell? ⟨gb217, 0, none⟩ = some (.int .i64 a0_0) ∧ w'.cell? ⟨gb217, 1, none⟩ = some (.int .i64 a0_1) ∧ w'.cell? ⟨gb217, 2, none⟩ = some (.string a0_2) ∧ w'.cell? ⟨gb217, 3, none⟩ = some (.string a0_3) ∧ w'.cell? ⟨gb217, 4, none⟩ = some (.int .i64 a0_4) ∧ w'.cell? ⟨gb217, 5, none⟩ = some (.bool a0_5)) (ds := []) #[O,O,O,O,O,O,O,O,O,O,O,O,O,O,O,O,O,O,O,O,O,O,O,O] (by kernel_rfl) rfl rfl ⟨(blk_cell BK217.out 0).trans rfl, (blk_cell BK217.out 1).trans rfl, (blk_cell BK217.out 2).trans rfl, (blk_cell BK217.out 3).trans rfl, (blk_cell BK217.out 4).trans rfl, (blk_cell BK217.out 5).trans rfl⟩ (fun hHeld => ?_); refine with_tabW fairwayref10_Bytes.tab4 fairwayref10_Bytes.bits4 (fun HT_ HW_ => ?_)
           generalize wc.drew = w20 at BK217 HB hHeld ⊢
           refine pz (i := 0) (N := some 12) #[I,O,O,O,O,O,O,O,O,O,O,O,O,O,O,O,O,O,O,O,O,O,O,O] ?_
           refine pz (i := 3) (N := some 15) #[I,O,O,I,O,O,O,O,O,O,O,O,O,O,O,O,O,O,O,O,O,O,O,O] ?_
           refine pz (i := 7) (N := some 19) #[I,O,O,I,O,O,O,I,O,O,O,O,O,O,O,O,O,O,O,O,O,O,O,O] ?_
           refine pz (i := 8) (N := some 20) #[I,O,O,I,O,O,O,I,I,O,O,O,O,O,O,O,O,O,O,O,O,O,O,O] ?_
           refine pz (i := 12) (N := some 24) #[I,O,O,I,O,O,O,I,I,O,O,O,I,O,O,O,O,O,O,O,O,O,O,O] ?_
           refine pz (i := 17) (N := some 29) #[I,O,O,I,O,O,O,I,I,O,O,O,I,O,O,O,O,I,O,O,O,O,O,O] ?_
           refine pz (i := 20) (N := some 32) #[I,O,O,I,O,O,O,I,I,O,O,O,I,O,O,O,O,I,O,O,I,O,O,O] ?_
           refine tz (i := 1) (N := some 13) #[I,I,O,I,O,O,O,I,I,O,O,O,I,O,O,O,O,I,O,O,I,O,O,O] ?_
           refine tz (i := 4) (N := some 16) #[I,I,O,I,I,O,O,I,I,O,O,O,I,O,O,O,O,I,O,O,I,O,O,O] ?_
           refine tz (i := 13) (N := some 25) #[I,I,O,I,I,O,O,I,I,O,O,O,I,I,O,O,O,I,O,O,I,O,O,O] ?_
           refine pz (i := 14) (N := some 26) #[I,I,O,I,I,O,O,I,I,O,O,O,I,I,I,O,O,I,O,O,I,O,O,O] ?_
           refine tz (i := 18) (N := some 30) #[I,I,O,I,I,O,O,I,I,O,O,O,I,I,I,O,O,I,I,O,I,O,O,O] ?_
           refine tz (i := 21) (N := some 33) #[I,I,O,I,I,O,O,I,I,O,O,O,I,I,I,O,O,I,I,O,I,I,O,O] ?_
           refine join_ (σ := Value) 4 #[I,I,I,I,I,I,I,I,I,I,I,I,I,I,I,I,O,I,I,O,I,I,O,O] (fun s_ => [(14, .string t218), (17, .string t219), (21, s_), (22, .string (strOfNums y220)), (27, .string t223), (18, .string (t218 ++ t219)), (23, .string ((t218 ++ t219) ++ (strOfNums y220)))]) (fun s_ w' => (w'.cell? ⟨gb217, 0, none⟩ = some (.int .i64 a0_0) ∧ w'.cell? ⟨gb217, 1, none⟩ = some (.int .i64 a0_1) ∧ w'.cell? ⟨gb217, 2, none⟩ = some (.string a0_2) ∧ w'.cell? ⟨gb217, 3, none⟩ = some (.string a0_3) ∧ w'.cell? ⟨gb217, 4, none⟩ = some (.int .i64 a0_4) ∧ w'.cell? ⟨gb217, 5, none⟩ = some (.bool a0_5)) ∧ (Kd.R (Kd.int .u8) 5 w' w.heap.size (fun _ => True) s_ y220) ∧ (w'.heap[gb217]? = some (.cells #[.int .i64 a0_0, .int .i64 a0_1, .string a0_2, .string a0_3, .int .i64 a0_4, .bool a0_5] 25 (0, 0))) ∧ (Below w.heap.size w w')) ?_ ?_
           rotate_left
           ·intro hJ2_5_9_10_15
            refine join_ (σ := Value) 5 #[I,I,I,I,I,I,I,I,I,I,I,I,I,I,I,O,O,I,I,O,I,I,O,O] (fun s_ => [(14, .string t218), (17, .string t219), (21, s_), (22, .string (strOfNums y220)), (18, .string (t218 ++ t219)), (23, .string ((t218 ++ t219) ++ (strOfNums y220)))]) (fun s_ w' => (w'.cell? ⟨gb217, 0, none⟩ = some (.int .i64 a0_0) ∧ w'.cell? ⟨gb217, 1, none⟩ = some (.int .i64 a0_1) ∧ w'.cell? ⟨gb217, 2, none⟩ = some (.string a0_2) ∧ w'.cell? ⟨gb217, 3, none⟩ = some (.string a0_3) ∧ w'.cell? ⟨gb217, 4, none⟩ = some (.int .i64 a0_4) ∧ w'.cell? ⟨gb217, 5, none⟩ = some (.bool a0_5)) ∧ (Kd.R (Kd.int .u8) 5 w' w.heap.size (fun _ => True) s_ y220) ∧ (w'.heap[gb217]? = some (.cells #[.int .i64 a0_0, .int .i64 a0_1, .string a0_2, .string a0_3, .int .i64 a0_4, .bool a0_5] 25 (0, 0))) ∧ (Below w.heap.size w w')) ?_ ?_
            rotate_left
            ·intro hJ2_5_9_10
             refine join_ (σ := Value) 6 #[I,I,I,I,I,I,I,I,I,I,O,O,I,I,I,I,O,I,I,O,I,I,O,O] (fun s_ => [(14, .string t218), (17, .string t219), (21, s_), (27, .string t223), (18, .string (t218 ++ t219))]) (fun s_ w' => (w'.cell? ⟨gb217, 0, none⟩ = some (.int .i64 a0_0) ∧ w'.cell? ⟨gb217, 1, none⟩ = some (.int .i64 a0_1) ∧ w'.cell? ⟨gb217, 2, none⟩ = some (.string a0_2) ∧ w'.cell? ⟨gb217, 3, none⟩ = some (.string a0_3) ∧ w'.cell? ⟨gb217, 4, none⟩ = some (.int .i64 a0_4) ∧ w'.cell? ⟨gb217, 5, none⟩ = some (.bool a0_5)) ∧ (Kd.R (Kd.int .u8) 5 w' w.heap.size (fun _ => True) s_ y220) ∧ (w'.heap[gb217]? = some (.cells #[.int .i64 a0_0, .int .i64 a0_1, .string a0_2, .string a0_3, .int .i64 a0_4, .bool a0_5] 25 (0, 0))) ∧ (Below w.heap.size w w')) ?_ ?_
             rotate_left
             ·intro hJ2_5_9_15
              refine join_ (σ := Value) 7 #[I,I,I,I,I,I,I,I,I,I,O,O,I,I,I,O,O,I,I,O,I,I,O,O] (fun s_ => [(14, .string t218), (17, .string t219), (21, s_), (18, .string (t218 ++ t219))]) (fun s_ w' => (w'.cell? ⟨gb217, 0, none⟩ = some (.int .i64 a0_0) ∧ w'.cell? ⟨gb217, 1, none⟩ = some (.int .i64 a0_1) ∧ w'.cell? ⟨gb217, 2, none⟩ = some (.string a0_2) ∧ w'.cell? ⟨gb217, 3, none⟩ = some (.string a0_3) ∧ w'.cell? ⟨gb217, 4, none⟩ = some (.int .i64 a0_4) ∧ w'.cell? ⟨gb217, 5, none⟩ = some (.bool a0_5)) ∧ (Kd.R (Kd.int .u8) 5 w' w.heap.size (fun _ => True) s_ y220) ∧ (w'.heap[gb217]? = some (.cells #[.int .i64 a0_0, .int .i64 a0_1, .string a0_2, .string a0_3, .int .i64 a0_4, .bool a0_5] 25 (0, 0))) ∧ (Below w.heap.size w w')) ?_ ?_
              rotate_left
              ·intro hJ2_5_9
               refine join_ (σ := Unit) 7 #[I,I,I,I,I,I,I,I,I,O,O,O,I,I,I,I,O,I,I,O,I,I,O,O] (fun s_ => [(14, .string t218), (17, .string t219), (27, .string t223), (18, .string (t218 ++ t219))]) (fun s_ w' => (w'.cell? ⟨gb217, 0, none⟩ = some (.int .i64 a0_0) ∧ w'.cell? ⟨gb217, 1, none⟩ = some (.int .i64 a0_1) ∧ w'.cell? ⟨gb217, 2, none⟩ = some (.string a0_2) ∧ w'.cell? ⟨gb217, 3, none⟩ = some (.string a0_3) ∧ w'.cell? ⟨gb217, 4, none⟩ = some (.int .i64 a0_4) ∧ w'.cell? ⟨gb217, 5, none⟩ = some (.bool a0_5)) ∧ (w'.heap[gb217]? = some (.cells #[.int .i64 a0_0, .int .i64 a0_1, .string a0_2, .string a0_3, .int .i64 a0_4, .bool a0_5] 25 (0, 0))) ∧ (Below w.heap.size w w')) ?_ ?_
               rotate_left
               ·intro hJ2_5_15
                refine join_ (σ := Value) 8 #[I,I,I,I,I,O,O,I,I,I,I,O,I,I,I,O,O,I,I,O,I,I,O,O] (fun s_ => [(14, .string t218), (21, s_), (22, .string (strOfNums y220))]) (fun s_ w' => (w'.cell? ⟨gb217, 0, none⟩ = some (.int .i64 a0_0) ∧ w'.cell? ⟨gb217, 1, none⟩ = some (.int .i64 a0_1) ∧ w'.cell? ⟨gb217, 2, none⟩ = some (.string a0_2) ∧ w'.cell? ⟨gb217, 3, none⟩ = some (.string a0_3) ∧ w'.cell? ⟨gb217, 4, none⟩ = some (.int .i64 a0_4) ∧ w'.cell? ⟨gb217, 5, none⟩ = some (.bool a0_5)) ∧ (Kd.R (Kd.int .u8) 5 w' w.heap.size (fun _ => True) s_ y220) ∧ (w'.heap[gb217]? = some (.cells #[.int .i64 a0_0, .int .i64 a0_1, .string a0_2, .string a0_3, .int .i64 a0_4, .bool a0_5] 25 (0, 0))) ∧ (Below w.heap.size w w')) ?_ ?_
                rotate_left
                ·intro hJ2_9_10
                 refine join_ (σ := Unit) 8 #[I,I,I,I,I,I,I,I,I,O,O,O,I,I,I,O,O,I,I,O,I,I,O,O] (fun s_ => [(14, .string t218), (17, .string t219), (18, .string (t218 ++ t219))]) (fun s_ w' => (w'.cell? ⟨gb217, 0, none⟩ = some (.int .i64 a0_0) ∧ w'.cell? ⟨gb217, 1, none⟩ = some (.int .i64 a0_1) ∧ w'.cell? ⟨gb217, 2, none⟩ = some (.string a0_2) ∧ w'.cell? ⟨gb217, 3, none⟩ = some (.string a0_3) ∧ w'.cell? ⟨gb217, 4, none⟩ = some (.int .i64 a0_4) ∧ w'.cell? ⟨gb217, 5, none⟩ = some (.bool a0_5)) ∧ (w'.heap[gb217]? = some (.cells #[.int .i64 a0_0, .int .i64 a0_1, .string a0_2, .string a0_3, .int .i64 a0_4, .bool a0_5] 25 (0, 0))) ∧ (Below w.heap.size w w')) ?_ ?_
                 rotate_left
                 ·intro hJ2_5
                  refine join_ (σ := Value) 9 #[I,I,I,I,I,O,O,I,I,I,O,O,I,I,I,O,O,I,I,O,I,I,O,O] (fun s_ => [(14, .string t218), (21, s_)]) (fun s_ w' => (w'.cell? ⟨gb217, 0, none⟩ = some (.int .i64 a0_0) ∧ w'.cell? ⟨gb217, 1, none⟩ = some (.int .i64 a0_1) ∧ w'.cell? ⟨gb217, 2, none⟩ = some (.string a0_2) ∧ w'.cell? ⟨gb217, 3, none⟩ = some (.string a0_3) ∧ w'.cell? ⟨gb217, 4, none⟩ = some (.int .i64 a0_4) ∧ w'.cell? ⟨gb217, 5, none⟩ = some (.bool a0_5)) ∧ (Kd.R (Kd.int .u8) 5 w' w.heap.size (fun _ => True) s_ y220) ∧ (w'.heap[gb217]? = some (.cells #[.int .i64 a0_0, .int .i64 a0_1, .string a0_2, .string a0_3, .int .i64 a0_4, .bool a0_5] 25 (0, 0))) ∧ (Below w.heap.size w w')) ?_ ?_
                  rotate_left
                  ·intro hJ2_9
                   refine join_ (σ := Value) 9 #[I,I,O,I,I,O,O,I,I,I,I,O,I,I,I,O,O,I,I,O,I,I,O,O] (fun s_ => [(21, s_), (22, .string (strOfNums y220))]) (fun s_ w' => (w'.cell? ⟨gb217, 0, none⟩ = some (.int .i64 a0_0) ∧ w'.cell? ⟨gb217, 1, none⟩ = some (.int .i64 a0_1) ∧ w'.cell? ⟨gb217, 2, none⟩ = some (.string a0_2) ∧ w'.cell? ⟨gb217, 3, none⟩ = some (.string a0_3) ∧ w'.cell? ⟨gb217, 4, none⟩ = some (.int .i64 a0_4) ∧ w'.cell? ⟨gb217, 5, none⟩ = some (.bool a0_5)) ∧ (Kd.R (Kd.int .u8) 5 w' w.heap.size (fun _ => True) s_ y220) ∧ (w'.heap[gb217]? = some (.cells #[.int .i64 a0_0, .int .i64 a0_1, .string a0_2, .string a0_3, .int .i64 a0_4, .bool a0_5] 25 (0, 0))) ∧ (Below w.heap.size w w')) ?_ ?_
                   rotate_left
                   ·intro hJ9_10
                    refine join_ (σ := Unit) 10 #[I,I,I,I,I,O,O,I,I,O,O,O,I,I,I,O,O,I,I,O,I,I,O,O] (fun s_ => [(14, .string t218)]) (fun s_ w' => (w'.cell? ⟨gb217, 0, none⟩ = some (.int .i64 a0_0) ∧ w'.cell? ⟨gb217, 1, none⟩ = some (.int .i64 a0_1) ∧ w'.cell? ⟨gb217, 2, none⟩ = some (.string a0_2) ∧ w'.cell? ⟨gb217, 3, none⟩ = some (.string a0_3) ∧ w'.cell? ⟨gb217, 4, none⟩ = some (.int .i64 a0_4) ∧ w'.cell? ⟨gb217, 5, none⟩ = some (.bool a0_5)) ∧ (w'.heap[gb217]? = some (.cells #[.int .i64 a0_0, .int .i64 a0_1, .string a0_2, .string a0_3, .int .i64 a0_4, .bool a0_5] 25 (0, 0))) ∧ (Below w.heap.size w w')) ?_ ?_
                    rotate_left
                    ·intro hJ2
                     refine join_ (σ := Value) 10 #[I,I,O,I,I,O,O,I,I,I,O,O,I,I,I,O,O,I,I,O,I,I,O,O] (fun s_ => [(21, s_)]) (fun s_ w' => (w'.cell? ⟨gb217, 0, none⟩ = some (.int .i64 a0_0) ∧ w'.cell? ⟨gb217, 1, none⟩ = some (.int .i64 a0_1) ∧ w'.cell? ⟨gb217, 2, none⟩ = some (.string a0_2) ∧ w'.cell? ⟨gb217, 3, none⟩ = some (.string a0_3) ∧ w'.cell? ⟨gb217, 4, none⟩ = some (.int .i64 a0_4) ∧ w'.cell? ⟨gb217, 5, none⟩ = some (.bool a0_5)) ∧ (Kd.R (Kd.int .u8) 5 w' w.heap.size (fun _ => True) s_ y220) ∧ (w'.heap[gb217]? = some (.cells #[.int .i64 a0_0, .int .i64 a0_1, .string a0_2, .string a0_3, .int .i64 a0_4, .bool a0_5] 25 (0, 0))) ∧ (Below w.heap.size w w')) ?_ ?_
                     rotate_left
                     ·intro hJ9
                      refine two_ (i := 2) (j := 9) (Ni := some 14) (Nj := some 21) #[I,I,I,I,I,O,O,I,I,O,O,O,I,I,I,O,O,I,I,O,I,I,O,O] #[I,I,O,I,I,O,O,I,I,I,O,O,I,I,I,O,O,I,I,O,I,I,O,O] rfl rfl rfl rfl (two_of HT_.out (by kernel_rfl)) (by decide) (by decide) (fun K hK => ?_) (fun K hK => ?_)
                      ·skip
                       refine goes_ Try.func69 (by kernel_rfl) rfl #[.int .i64 a0_0, .int .i64 8] (by rfl) rfl rfl aa ?_
                       with_reducible refine (fairwayref1_Fixed.calls kj1 a0_0 8 t218 _ A6.out).mono ?_
                       rintro e w21 ⟨rfl, hb⟩
                       refine ⟨_, rfl, ?_⟩
                       replace BK217 := Aside0.mk (blk_below (g := gb217) (o := .cells #[.int .i64 a0_0, .int .i64 a0_1, .string a0_2, .string a0_3, .int .i64 a0_4, .bool a0_5] 25 (0, 0)) (bk BK217.out) hb)
                       replace HB := Aside0.mk (below_step bo hb)
                       (try clear hb)
                       (try clear hb2)
                       (try clear hk)
                       (try clear hi)
                       refine hK.out _ _ ⟨(blk_cell BK217.out 0).trans rfl, (blk_cell BK217.out 1).trans rfl, (blk_cell BK217.out 2).trans rfl, (blk_cell BK217.out 3).trans rfl, (blk_cell BK217.out 4).trans rfl, (blk_cell BK217.out 5).trans rfl⟩ (fun hHeld => ?_)
                       clear hK K
                       refine norm_ (a' := ?_) ?_ ?_
                       rotate_left
                       ·show Act.put _ (some 14) _ = _
                        simp only [Act.put, List.setIfInBounds_toArray, List.set_cons_zero, List.set_cons_succ, i64_w, i32_w]
                        rfl
                       exact norm_ (by first | (simp only [putAll, Act.put, List.setIfInBounds_toArray, List.set_cons_zero, List.set_cons_succ]; done) | (simp only [putAll, Act.put, List.setIfInBounds_toArray, List.set_cons_zero, List.set_cons_succ]; rfl)) (hJ2 () _ ⟨hHeld, (bk BK217.out), bo⟩)
                      ·skip
                       refine Kd.R_lit_step (Kd.int .u8) _ 5 ?hg (N := 21) ?hd (xs := ([(x3_1) % 256] : List Int)) (inner := [.int .u8 ((x3_1) % 256)]) (ok := fun _ => True) (okp := fun _ => True) ?hr ?hp (fun _ hk => hk) trivial (Below.refl _ _) (Nat.le_refl _) (by simp) ?_; (case hd => rfl); (case hg => rfl); (case hr => first | (go_simp; done) | (go_simp; rfl)); (case hp => exact (Reps.one (show Kd.M (Kd.int .u8) _ _ _ ((x3_1) % 256) [.int .u8 ((x3_1) % 256)] from rfl) (Reps.none _ _)))
                       intro v221 w21 ho22 hb hg_ hnew_
                       clear hg_ hnew_
                       (first | rw [← Ny220.out] at ho22 | (simp only [Int.reduceToNat] at ho22; rw [← Ny220.out] at ho22))
                       have HO222 := Aside0.mk (Kd.R_lower ho22 (below_size bo))
                       replace BK217 := Aside0.mk (blk_below (g := gb217) (o := .cells #[.int .i64 a0_0, .int .i64 a0_1, .string a0_2, .string a0_3, .int .i64 a0_4, .bool a0_5] 25 (0, 0)) (bk BK217.out) hb)
                       replace HB := Aside0.mk (below_step bo hb)
                       clear hb ho22
                       refine hK.out _ _ ⟨(blk_cell BK217.out 0).trans rfl, (blk_cell BK217.out 1).trans rfl, (blk_cell BK217.out 2).trans rfl, (blk_cell BK217.out 3).trans rfl, (blk_cell BK217.out 4).trans rfl, (blk_cell BK217.out 5).trans rfl⟩ (fun hHeld => ?_)
                       clear hK K
                       refine norm_ (a' := ?_) ?_ ?_
                       rotate_left
                       ·show Act.put _ (some 21) _ = _
                        simp only [Act.put, List.setIfInBounds_toArray, List.set_cons_zero, List.set_cons_succ, i64_w, i32_w]
                        rfl
                       exact norm_ (by first | (simp only [putAll, Act.put, List.setIfInBounds_toArray, List.set_cons_zero, List.set_cons_succ]; done) | (simp only [putAll, Act.put, List.setIfInBounds_toArray, List.set_cons_zero, List.set_cons_succ]; rfl)) (hJ9 (v221) _ ⟨hHeld, (rk HO222.out), (bk BK217.out), bo⟩)
                     ·skip
                      rintro v221 w23 ⟨hS_, h0_, h1_, h2_⟩
                      have n0_ : Aside0 (Kd.R (Kd.int .u8) 5 w23 w.heap.size (fun _ => True) v221 y220) := ⟨h0_⟩
                      have n1_ : Aside0 (w23.heap[gb217]? = some (.cells #[.int .i64 a0_0, .int .i64 a0_1, .string a0_2, .string a0_3, .int .i64 a0_4, .bool a0_5] 25 (0, 0))) := ⟨h1_⟩
                      have n2_ : Aside0 (Below w.heap.size w w23) := ⟨h2_⟩
                      clear BK217
                      clear HB
                      clear h0_ h1_ h2_
                      have HO222 := n0_
                      have BK217 := n1_
                      have HB := n2_
                      clear n0_ n1_ n2_
                      have hHeld : w23.cell? ⟨gb217, 0, none⟩ = some (.int .i64 a0_0) ∧ w23.cell? ⟨gb217, 1, none⟩ = some (.int .i64 a0_1) ∧ w23.cell? ⟨gb217, 2, none⟩ = some (.string a0_2) ∧ w23.cell? ⟨gb217, 3, none⟩ = some (.string a0_3) ∧ w23.cell? ⟨gb217, 4, none⟩ = some (.int .i64 a0_4) ∧ w23.cell? ⟨gb217, 5, none⟩ = some (.bool a0_5) := hS_
                      refine norm_ (a' := ?_) ?_ ?_
                      rotate_left
                      ·simp only [putAll, Act.put, List.setIfInBounds_toArray, List.set_cons_zero, List.set_cons_succ]
                       rfl
                      refine two_ (i := 2) (j := 10) (Ni := some 14) (Nj := some 22) #[I,I,I,I,I,O,O,I,I,I,O,O,I,I,I,O,O,I,I,O,I,I,O,O] #[I,I,O,I,I,O,O,I,I,I,I,O,I,I,I,O,O,I,I,O,I,I,O,O] rfl rfl rfl rfl (two_of HT_.out (by kernel_rfl)) (by decide) (by decide) (fun K hK => ?_) (fun K hK => ?_)
                      ·skip
                       refine goes_ Try.func69 (by kernel_rfl) rfl #[.int .i64 a0_0, .int .i64 8] (by rfl) rfl rfl aa ?_
                       with_reducible refine (fairwayref1_Fixed.calls kj1 a0_0 8 t218 _ A6.out).mono ?_
                       rintro e w24 ⟨rfl, hb⟩
                       refine ⟨_, rfl, ?_⟩
                       replace HO222 := Aside0.mk (Kd.R_below (rk HO222.out) hb)
                       replace BK217 := Aside0.mk (blk_below (g := gb217) (o := .cells #[.int .i64 a0_0, .int .i64 a0_1, .string a0_2, .string a0_3, .int .i64 a0_4, .bool a0_5] 25 (0, 0)) (bk BK217.out) hb)
                       replace HB := Aside0.mk (below_step bo hb)
                       (try clear hb)
                       (try clear hb2)
                       (try clear hk)
                       (try clear hi)
                       refine hK.out _ _ ⟨(blk_cell BK217.out 0).trans rfl, (blk_cell BK217.out 1).trans rfl, (blk_cell BK217.out 2).trans rfl, (blk_cell BK217.out 3).trans rfl, (blk_cell BK217.out 4).trans rfl, (blk_cell BK217.out 5).trans rfl⟩ (fun hHeld => ?_)
                       clear hK K
                       refine norm_ (a' := ?_) ?_ ?_
                       rotate_left
                       ·show Act.put _ (some 14) _ = _
                        simp only [Act.put, List.setIfInBounds_toArray, List.set_cons_zero, List.set_cons_succ, i64_w, i32_w]
                        rfl
                       exact norm_ (by first | (simp only [putAll, Act.put, List.setIfInBounds_toArray, List.set_cons_zero, List.set_cons_succ]; done) | (simp only [putAll, Act.put, List.setIfInBounds_toArray, List.set_cons_zero, List.set_cons_succ]; rfl)) (hJ2_9 (v221) _ ⟨hHeld, (rk HO222.out), (bk BK217.out), bo⟩)
                      ·skip
                       have hcv24 := own_string (P := Try.prog) Try.underlying23 Try.underlying5 Try.underlying9 (Kd.own_of_R HO222.out)
                       refine value_ (w1 := ?_) (v := ?_) (by rfl) rfl ?_ ?_
                       rotate_left 2
                       ·go_simp
                        constructor
                        ·rfl
                        ·rfl
                       clear hcv24
                       refine hK.out _ _ ⟨(blk_cell BK217.out 0).trans rfl, (blk_cell BK217.out 1).trans rfl, (blk_cell BK217.out 2).trans rfl, (blk_cell BK217.out 3).trans rfl, (blk_cell BK217.out 4).trans rfl, (blk_cell BK217.out 5).trans rfl⟩ (fun hHeld => ?_)
                       clear hK K
                       refine norm_ (a' := ?_) ?_ ?_
                       rotate_left
                       ·show Act.put _ (some 22) _ = _
                        simp only [Act.put, List.setIfInBounds_toArray, List.set_cons_zero, List.set_cons_succ, i64_w, i32_w]
                        rfl
                       exact norm_ (by first | (simp only [putAll, Act.put, List.setIfInBounds_toArray, List.set_cons_zero, List.set_cons_succ]; done) | (simp only [putAll, Act.put, List.setIfInBounds_toArray, List.set_cons_zero, List.set_cons_succ]; rfl)) (hJ9_10 (v221) _ ⟨hHeld, (rk HO222.out), (bk BK217.out), bo⟩)
                    ·skip
                     rintro _ w22 ⟨hS_, h0_, h1_⟩
                     have n0_ : Aside0 (w22.heap[gb217]? = some (.cells #[.int .i64 a0_0, .int .i64 a0_1, .string a0_2, .string a0_3, .int .i64 a0_4, .bool a0_5] 25 (0, 0))) := ⟨h0_⟩
                     have n1_ : Aside0 (Below w.heap.size w w22) := ⟨h1_⟩
                     clear BK217
                     clear HB
                     clear h0_ h1_
                     have BK217 := n0_
                     have HB := n1_
                     clear n0_ n1_
                     have hHeld : w22.cell? ⟨gb217, 0, none⟩ = some (.int .i64 a0_0) ∧ w22.cell? ⟨gb217, 1, none⟩ = some (.int .i64 a0_1) ∧ w22.cell? ⟨gb217, 2, none⟩ = some (.string a0_2) ∧ w22.cell? ⟨gb217, 3, none⟩ = some (.string a0_3) ∧ w22.cell? ⟨gb217, 4, none⟩ = some (.int .i64 a0_4) ∧ w22.cell? ⟨gb217, 5, none⟩ = some (.bool a0_5) := hS_
                     refine norm_ (a' := ?_) ?_ ?_
                     rotate_left
                     ·simp only [putAll, Act.put, List.setIfInBounds_toArray, List.set_cons_zero, List.set_cons_succ]
                      rfl
                     refine two_ (i := 5) (j := 9) (Ni := some 17) (Nj := some 21) #[I,I,I,I,I,I,O,I,I,O,O,O,I,I,I,O,O,I,I,O,I,I,O,O] #[I,I,I,I,I,O,O,I,I,I,O,O,I,I,I,O,O,I,I,O,I,I,O,O] rfl rfl rfl rfl (two_of HT_.out (by kernel_rfl)) (by decide) (by decide) (fun K hK => ?_) (fun K hK => ?_)
                     ·skip
                      refine goes_ Try.func69 (by kernel_rfl) rfl #[.int .i64 a0_1, .int .i64 8] (by rfl) rfl rfl aa ?_
                      with_reducible refine (fairwayref1_Fixed.calls kj1 a0_1 8 t219 _ A7.out).mono ?_
                      rintro e w23 ⟨rfl, hb⟩
                      refine ⟨_, rfl, ?_⟩
                      replace BK217 := Aside0.mk (blk_below (g := gb217) (o := .cells #[.int .i64 a0_0, .int .i64 a0_1, .string a0_2, .string a0_3, .int .i64 a0_4, .bool a0_5] 25 (0, 0)) (bk BK217.out) hb)
                      replace HB := Aside0.mk (below_step bo hb)
                      (try clear hb)
                      (try clear hb2)
                      (try clear hk)
                      (try clear hi)
                      refine hK.out _ _ ⟨(blk_cell BK217.out 0).trans rfl, (blk_cell BK217.out 1).trans rfl, (blk_cell BK217.out 2).trans rfl, (blk_cell BK217.out 3).trans rfl, (blk_cell BK217.out 4).trans rfl, (blk_cell BK217.out 5).trans rfl⟩ (fun hHeld => ?_)
                      clear hK K
                      refine norm_ (a' := ?_) ?_ ?_
                      rotate_left
                      ·show Act.put _ (some 17) _ = _
                       simp only [Act.put, List.setIfInBounds_toArray, List.set_cons_zero, List.set_cons_succ, i64_w, i32_w]
                       rfl
                      refine pz (i := 6) (N := some 18) #[I,I,I,I,I,I,I,I,I,O,O,O,I,I,I,O,O,I,I,O,I,I,O,O] ?_
                      exact norm_ (by first | (simp only [putAll, Act.put, List.setIfInBounds_toArray, List.set_cons_zero, List.set_cons_succ]; done) | (simp only [putAll, Act.put, List.setIfInBounds_toArray, List.set_cons_zero, List.set_cons_succ]; rfl)) (hJ2_5 () _ ⟨hHeld, (bk BK217.out), bo⟩)
                     ·skip
                      refine Kd.R_lit_step (Kd.int .u8) _ 5 ?hg (N := 21) ?hd (xs := ([(x3_1) % 256] : List Int)) (inner := [.int .u8 ((x3_1) % 256)]) (ok := fun _ => True) (okp := fun _ => True) ?hr ?hp (fun _ hk => hk) trivial (Below.refl _ _) (Nat.le_refl _) (by simp) ?_; (case hd => rfl); (case hg => rfl); (case hr => first | (go_simp; done) | (go_simp; rfl)); (case hp => exact (Reps.one (show Kd.M (Kd.int .u8) _ _ _ ((x3_1) % 256) [.int .u8 ((x3_1) % 256)] from rfl) (Reps.none _ _)))
                      intro v221 w23 ho24 hb hg_ hnew_
                      clear hg_ hnew_
                      (first | rw [← Ny220.out] at ho24 | (simp only [Int.reduceToNat] at ho24; rw [← Ny220.out] at ho24))
                      have HO222 := Aside0.mk (Kd.R_lower ho24 (below_size bo))
                      replace BK217 := Aside0.mk (blk_below (g := gb217) (o := .cells #[.int .i64 a0_0, .int .i64 a0_1, .string a0_2, .string a0_3, .int .i64 a0_4, .bool a0_5] 25 (0, 0)) (bk BK217.out) hb)
                      replace HB := Aside0.mk (below_step bo hb)
                      clear hb ho24
                      refine hK.out _ _ ⟨(blk_cell BK217.out 0).trans rfl, (blk_cell BK217.out 1).trans rfl, (blk_cell BK217.out 2).trans rfl, (blk_cell BK217.out 3).trans rfl, (blk_cell BK217.out 4).trans rfl, (blk_cell BK217.out 5).trans rfl⟩ (fun hHeld => ?_)
                      clear hK K
                      refine norm_ (a' := ?_) ?_ ?_
                      rotate_left
                      ·show Act.put _ (some 21) _ = _
                       simp only [Act.put, List.setIfInBounds_toArray, List.set_cons_zero, List.set_cons_succ, i64_w, i32_w]
                       rfl
                      exact norm_ (by first | (simp only [putAll, Act.put, List.setIfInBounds_toArray, List.set_cons_zero, List.set_cons_succ]; done) | (simp only [putAll, Act.put, List.setIfInBounds_toArray, List.set_cons_zero, List.set_cons_succ]; rfl)) (hJ2_9 (v221) _ ⟨hHeld, (rk HO222.out), (bk BK217.out), bo⟩)
                   ·skip
                    rintro v221 w24 ⟨hS_, h0_, h1_, h2_⟩
                    have n0_ : Aside0 (Kd.R (Kd.int .u8) 5 w24 w.heap.size (fun _ => True) v221 y220) := ⟨h0_⟩
                    have n1_ : Aside0 (w24.heap[gb217]? = some (.cells #[.int .i64 a0_0, .int .i64 a0_1, .string a0_2, .string a0_3, .int .i64 a0_4, .bool a0_5] 25 (0, 0))) := ⟨h1_⟩
                    have n2_ : Aside0 (Below w.heap.size w w24) := ⟨h2_⟩
                    clear BK217
                    clear HB
                    clear h0_ h1_ h2_
                    have HO222 := n0_
                    have BK217 := n1_
                    have HB := n2_
                    clear n0_ n1_ n2_
                    have hHeld : w24.cell? ⟨gb217, 0, none⟩ = some (.int .i64 a0_0) ∧ w24.cell? ⟨gb217, 1, none⟩ = some (.int .i64 a0_1) ∧ w24.cell? ⟨gb217, 2, none⟩ = some (.string a0_2) ∧ w24.cell? ⟨gb217, 3, none⟩ = some (.string a0_3) ∧ w24.cell? ⟨gb217, 4, none⟩ = some (.int .i64 a0_4) ∧ w24.cell? ⟨gb217, 5, none⟩ = some (.bool a0_5) := hS_
                    refine norm_ (a' := ?_) ?_ ?_
                    rotate_left
                    ·simp only [putAll, Act.put, List.setIfInBounds_toArray, List.set_cons_zero, List.set_cons_succ]
                     rfl
                    refine one_ (i := 2) (N := some 14) #[I,I,I,I,I,O,O,I,I,I,I,O,I,I,I,O,O,I,I,O,I,I,O,O] rfl rfl (one_of HT_.out (by kernel_rfl)) (by decide) (fun K hK => ?_)
                    refine goes_ Try.func69 (by kernel_rfl) rfl #[.int .i64 a0_0, .int .i64 8] (by rfl) rfl rfl aa ?_
                    with_reducible refine (fairwayref1_Fixed.calls kj1 a0_0 8 t218 _ A6.out).mono ?_
                    rintro e w25 ⟨rfl, hb⟩
                    refine ⟨_, rfl, ?_⟩
                    replace HO222 := Aside0.mk (Kd.R_below (rk HO222.out) hb)
                    replace BK217 := Aside0.mk (blk_below (g := gb217) (o := .cells #[.int .i64 a0_0, .int .i64 a0_1, .string a0_2, .string a0_3, .int .i64 a0_4, .bool a0_5] 25 (0, 0)) (bk BK217.out) hb)
                    replace HB := Aside0.mk (below_step bo hb)
                    (try clear hb)
                    (try clear hb2)
                    (try clear hk)
                    (try clear hi)
                    refine hK.out _ _ ⟨(blk_cell BK217.out 0).trans rfl, (blk_cell BK217.out 1).trans rfl, (blk_cell BK217.out 2).trans rfl, (blk_cell BK217.out 3).trans rfl, (blk_cell BK217.out 4).trans rfl, (blk_cell BK217.out 5).trans rfl⟩ (fun hHeld => ?_)
                    clear hK K
                    refine norm_ (a' := ?_) ?_ ?_
                    rotate_left
                    ·show Act.put _ (some 14) _ = _
                     simp only [Act.put, List.setIfInBounds_toArray, List.set_cons_zero, List.set_cons_succ, i64_w, i32_w]
                     rfl
                    exact norm_ (by first | (simp only [putAll, Act.put, List.setIfInBounds_toArray, List.set_cons_zero, List.set_cons_succ]; done) | (simp only [putAll, Act.put, List.setIfInBounds_toArray, List.set_cons_zero, List.set_cons_succ]; rfl)) (hJ2_9_10 (v221) _ ⟨hHeld, (rk HO222.out), (bk BK217.out), bo⟩)
                  ·skip
                   rintro v221 w24 ⟨hS_, h0_, h1_, h2_⟩
                   have n0_ : Aside0 (Kd.R (Kd.int .u8) 5 w24 w.heap.size (fun _ => True) v221 y220) := ⟨h0_⟩
                   have n1_ : Aside0 (w24.heap[gb217]? = some (.cells #[.int .i64 a0_0, .int .i64 a0_1, .string a0_2, .string a0_3, .int .i64 a0_4, .bool a0_5] 25 (0, 0))) := ⟨h1_⟩
                   have n2_ : Aside0 (Below w.heap.size w w24) := ⟨h2_⟩
                   clear BK217
                   clear HB
                   clear h0_ h1_ h2_
                   have HO222 := n0_
                   have BK217 := n1_
                   have HB := n2_
                   clear n0_ n1_ n2_
                   have hHeld : w24.cell? ⟨gb217, 0, none⟩ = some (.int .i64 a0_0) ∧ w24.cell? ⟨gb217, 1, none⟩ = some (.int .i64 a0_1) ∧ w24.cell? ⟨gb217, 2, none⟩ = some (.string a0_2) ∧ w24.cell? ⟨gb217, 3, none⟩ = some (.string a0_3) ∧ w24.cell? ⟨gb217, 4, none⟩ = some (.int .i64 a0_4) ∧ w24.cell? ⟨gb217, 5, none⟩ = some (.bool a0_5) := hS_
                   refine norm_ (a' := ?_) ?_ ?_
                   rotate_left
                   ·simp only [putAll, Act.put, List.setIfInBounds_toArray, List.set_cons_zero, List.set_cons_succ]
                    rfl
                   refine two_ (i := 5) (j := 10) (Ni := some 17) (Nj := some 22) #[I,I,I,I,I,I,O,I,I,I,O,O,I,I,I,O,O,I,I,O,I,I,O,O] #[I,I,I,I,I,O,O,I,I,I,I,O,I,I,I,O,O,I,I,O,I,I,O,O] rfl rfl rfl rfl (two_of HT_.out (by kernel_rfl)) (by decide) (by decide) (fun K hK => ?_) (fun K hK => ?_)
                   ·skip
                    refine goes_ Try.func69 (by kernel_rfl) rfl #[.int .i64 a0_1, .int .i64 8] (by rfl) rfl rfl aa ?_
                    with_reducible refine (fairwayref1_Fixed.calls kj1 a0_1 8 t219 _ A7.out).mono ?_
                    rintro e w25 ⟨rfl, hb⟩
                    refine ⟨_, rfl, ?_⟩
                    replace HO222 := Aside0.mk (Kd.R_below (rk HO222.out) hb)
                    replace BK217 := Aside0.mk (blk_below (g := gb217) (o := .cells #[.int .i64 a0_0, .int .i64 a0_1, .string a0_2, .string a0_3, .int .i64 a0_4, .bool a0_5] 25 (0, 0)) (bk BK217.out) hb)
                    replace HB := Aside0.mk (below_step bo hb)
                    (try clear hb)
                    (try clear hb2)
                    (try clear hk)
                    (try clear hi)
                    refine hK.out _ _ ⟨(blk_cell BK217.out 0).trans rfl, (blk_cell BK217.out 1).trans rfl, (blk_cell BK217.out 2).trans rfl, (blk_cell BK217.out 3).trans rfl, (blk_cell BK217.out 4).trans rfl, (blk_cell BK217.out 5).trans rfl⟩ (fun hHeld => ?_)
                    clear hK K
                    refine norm_ (a' := ?_) ?_ ?_
                    rotate_left
                    ·show Act.put _ (some 17) _ = _
                     simp only [Act.put, List.setIfInBounds_toArray, List.set_cons_zero, List.set_cons_succ, i64_w, i32_w]
                     rfl
                    refine pz (i := 6) (N := some 18) #[I,I,I,I,I,I,I,I,I,I,O,O,I,I,I,O,O,I,I,O,I,I,O,O] ?_
                    exact norm_ (by first | (simp only [putAll, Act.put, List.setIfInBounds_toArray, List.set_cons_zero, List.set_cons_succ]; done) | (simp only [putAll, Act.put, List.setIfInBounds_toArray, List.set_cons_zero, List.set_cons_succ]; rfl)) (hJ2_5_9 (v221) _ ⟨hHeld, (rk HO222.out), (bk BK217.out), bo⟩)
                   ·skip
                    have hcv25 := own_string (P := Try.prog) Try.underlying23 Try.underlying5 Try.underlying9 (Kd.own_of_R HO222.out)
                    refine value_ (w1 := ?_) (v := ?_) (by rfl) rfl ?_ ?_
                    rotate_left 2
                    ·go_simp
                     constructor
                     ·rfl
                     ·rfl
                    clear hcv25
                    refine hK.out _ _ ⟨(blk_cell BK217.out 0).trans rfl, (blk_cell BK217.out 1).trans rfl, (blk_cell BK217.out 2).trans rfl, (blk_cell BK217.out 3).trans rfl, (blk_cell BK217.out 4).trans rfl, (blk_cell BK217.out 5).trans rfl⟩ (fun hHeld => ?_)
                    clear hK K
                    refine norm_ (a' := ?_) ?_ ?_
                    rotate_left
                    ·show Act.put _ (some 22) _ = _
                     simp only [Act.put, List.setIfInBounds_toArray, List.set_cons_zero, List.set_cons_succ, i64_w, i32_w]
                     rfl
                    exact norm_ (by first | (simp only [putAll, Act.put, List.setIfInBounds_toArray, List.set_cons_zero, List.set_cons_succ]; done) | (simp only [putAll, Act.put, List.setIfInBounds_toArray, List.set_cons_zero, List.set_cons_succ]; rfl)) (hJ2_9_10 (v221) _ ⟨hHeld, (rk HO222.out), (bk BK217.out), bo⟩)
                 ·skip
                  rintro _ w23 ⟨hS_, h0_, h1_⟩
                  have n0_ : Aside0 (w23.heap[gb217]? = some (.cells #[.int .i64 a0_0, .int .i64 a0_1, .string a0_2, .string a0_3, .int .i64 a0_4, .bool a0_5] 25 (0, 0))) := ⟨h0_⟩
                  have n1_ : Aside0 (Below w.heap.size w w23) := ⟨h1_⟩
                  clear BK217
                  clear HB
                  clear h0_ h1_
                  have BK217 := n0_
                  have HB := n1_
                  clear n0_ n1_
                  have hHeld : w23.cell? ⟨gb217, 0, none⟩ = some (.int .i64 a0_0) ∧ w23.cell? ⟨gb217, 1, none⟩ = some (.int .i64 a0_1) ∧ w23.cell? ⟨gb217, 2, none⟩ = some (.string a0_2) ∧ w23.cell? ⟨gb217, 3, none⟩ = some (.string a0_3) ∧ w23.cell? ⟨gb217, 4, none⟩ = some (.int .i64 a0_4) ∧ w23.cell? ⟨gb217, 5, none⟩ = some (.bool a0_5) := hS_
                  refine norm_ (a' := ?_) ?_ ?_
                  rotate_left
                  ·simp only [putAll, Act.put, List.setIfInBounds_toArray, List.set_cons_zero, List.set_cons_succ]
                   rfl
                  refine two_ (i := 9) (j := 15) (Ni := some 21) (Nj := some 27) #[I,I,I,I,I,I,I,I,I,I,O,O,I,I,I,O,O,I,I,O,I,I,O,O] #[I,I,I,I,I,I,I,I,I,O,O,O,I,I,I,I,O,I,I,O,I,I,O,O] rfl rfl rfl rfl (two_of HT_.out (by kernel_rfl)) (by decide) (by decide) (fun K hK => ?_) (fun K hK => ?_)
                  ·skip
                   refine Kd.R_lit_step (Kd.int .u8) _ 5 ?hg (N := 21) ?hd (xs := ([(x3_1) % 256] : List Int)) (inner := [.int .u8 ((x3_1) % 256)]) (ok := fun _ => True) (okp := fun _ => True) ?hr ?hp (fun _ hk => hk) trivial (Below.refl _ _) (Nat.le_refl _) (by simp) ?_; (case hd => rfl); (case hg => rfl); (case hr => first | (go_simp; done) | (go_simp; rfl)); (case hp => exact (Reps.one (show Kd.M (Kd.int .u8) _ _ _ ((x3_1) % 256) [.int .u8 ((x3_1) % 256)] from rfl) (Reps.none _ _)))
                   intro v221 w24 ho25 hb hg_ hnew_
                   clear hg_ hnew_
                   (first | rw [← Ny220.out] at ho25 | (simp only [Int.reduceToNat] at ho25; rw [← Ny220.out] at ho25))
                   have HO222 := Aside0.mk (Kd.R_lower ho25 (below_size bo))
                   replace BK217 := Aside0.mk (blk_below (g := gb217) (o := .cells #[.int .i64 a0_0, .int .i64 a0_1, .string a0_2, .string a0_3, .int .i64 a0_4, .bool a0_5] 25 (0, 0)) (bk BK217.out) hb)
                   replace HB := Aside0.mk (below_step bo hb)
                   clear hb ho25
                   refine hK.out _ _ ⟨(blk_cell BK217.out 0).trans rfl, (blk_cell BK217.out 1).trans rfl, (blk_cell BK217.out 2).trans rfl, (blk_cell BK217.out 3).trans rfl, (blk_cell BK217.out 4).trans rfl, (blk_cell BK217.out 5).trans rfl⟩ (fun hHeld => ?_)
                   clear hK K
                   refine norm_ (a' := ?_) ?_ ?_
                   rotate_left
                   ·show Act.put _ (some 21) _ = _
                    simp only [Act.put, List.setIfInBounds_toArray, List.set_cons_zero, List.set_cons_succ, i64_w, i32_w]
                    rfl
                   exact norm_ (by first | (simp only [putAll, Act.put, List.setIfInBounds_toArray, List.set_cons_zero, List.set_cons_succ]; done) | (simp only [putAll, Act.put, List.setIfInBounds_toArray, List.set_cons_zero, List.set_cons_succ]; rfl)) (hJ2_5_9 (v221) _ ⟨hHeld, (rk HO222.out), (bk BK217.out), bo⟩)
                  ·skip
                   refine goes_ Try.func69 (by kernel_rfl) rfl #[.int .i64 (a0_2.size : Int), .int .i64 2] (by rfl) rfl rfl aa ?_
                   with_reducible refine (fairwayref1_Fixed.calls kj1 (a0_2.size : Int) 2 t223 _ A10.out).mono ?_
                   rintro e w24 ⟨rfl, hb⟩
                   refine ⟨_, rfl, ?_⟩
                   replace BK217 := Aside0.mk (blk_below (g := gb217) (o := .cells #[.int .i64 a0_0, .int .i64 a0_1, .string a0_2, .string a0_3, .int .i64 a0_4, .bool a0_5] 25 (0, 0)) (bk BK217.out) hb)
                   replace HB := Aside0.mk (below_step bo hb)
                   (try clear hb)
                   (try clear hb2)
                   (try clear hk)
                   (try clear hi)
                   refine hK.out _ _ ⟨(blk_cell BK217.out 0).trans rfl, (blk_cell BK217.out 1).trans rfl, (blk_cell BK217.out 2).trans rfl, (blk_cell BK217.out 3).trans rfl, (blk_cell BK217.out 4).trans rfl, (blk_cell BK217.out 5).trans rfl⟩ (fun hHeld => ?_)
                   clear hK K
                   refine norm_ (a' := ?_) ?_ ?_
                   rotate_left
                   ·show Act.put _ (some 27) _ = _
                    simp only [Act.put, List.setIfInBounds_toArray, List.set_cons_zero, List.set_cons_succ, i64_w, i32_w]
                    rfl
                   exact norm_ (by first | (simp only [putAll, Act.put, List.setIfInBounds_toArray, List.set_cons_zero, List.set_cons_succ]; done) | (simp only [putAll, Act.put, List.setIfInBounds_toArray, List.set_cons_zero, List.set_cons_succ]; rfl)) (hJ2_5_15 () _ ⟨hHeld, (bk BK217.out), bo⟩)
                ·skip
                 rintro v221 w25 ⟨hS_, h0_, h1_, h2_⟩
                 have n0_ : Aside0 (Kd.R (Kd.int .u8) 5 w25 w.heap.size (fun _ => True) v221 y220) := ⟨h0_⟩
                 have n1_ : Aside0 (w25.heap[gb217]? = some (.cells #[.int .i64 a0_0, .int .i64 a0_1, .string a0_2, .string a0_3, .int .i64 a0_4, .bool a0_5] 25 (0, 0))) := ⟨h1_⟩
                 have n2_ : Aside0 (Below w.heap.size w w25) := ⟨h2_⟩
                 clear BK217
                 clear HB
                 clear h0_ h1_ h2_
                 have HO222 := n0_
                 have BK217 := n1_
                 have HB := n2_
                 clear n0_ n1_ n2_
                 have hHeld : w25.cell? ⟨gb217, 0, none⟩ = some (.int .i64 a0_0) ∧ w25.cell? ⟨gb217, 1, none⟩ = some (.int .i64 a0_1) ∧ w25.cell? ⟨gb217, 2, none⟩ = some (.string a0_2) ∧ w25.cell? ⟨gb217, 3, none⟩ = some (.string a0_3) ∧ w25.cell? ⟨gb217, 4, none⟩ = some (.int .i64 a0_4) ∧ w25.cell? ⟨gb217, 5, none⟩ = some (.bool a0_5) := hS_
                 refine norm_ (a' := ?_) ?_ ?_
                 rotate_left
                 ·simp only [putAll, Act.put, List.setIfInBounds_toArray, List.set_cons_zero, List.set_cons_succ]
                  rfl
                 refine one_ (i := 5) (N := some 17) #[I,I,I,I,I,I,O,I,I,I,I,O,I,I,I,O,O,I,I,O,I,I,O,O] rfl rfl (one_of HT_.out (by kernel_rfl)) (by decide) (fun K hK => ?_)
                 refine goes_ Try.func69 (by kernel_rfl) rfl #[.int .i64 a0_1, .int .i64 8] (by rfl) rfl rfl aa ?_
                 with_reducible refine (fairwayref1_Fixed.calls kj1 a0_1 8 t219 _ A7.out).mono ?_
                 rintro e w26 ⟨rfl, hb⟩
                 refine ⟨_, rfl, ?_⟩
                 replace HO222 := Aside0.mk (Kd.R_below (rk HO222.out) hb)
                 replace BK217 := Aside0.mk (blk_below (g := gb217) (o := .cells #[.int .i64 a0_0, .int .i64 a0_1, .string a0_2, .string a0_3, .int .i64 a0_4, .bool a0_5] 25 (0, 0)) (bk BK217.out) hb)
                 replace HB := Aside0.mk (below_step bo hb)
                 (try clear hb)
                 (try clear hb2)
                 (try clear hk)
                 (try clear hi)
                 refine hK.out _ _ ⟨(blk_cell BK217.out 0).trans rfl, (blk_cell BK217.out 1).trans rfl, (blk_cell BK217.out 2).trans rfl, (blk_cell BK217.out 3).trans rfl, (blk_cell BK217.out 4).trans rfl, (blk_cell BK217.out 5).trans rfl⟩ (fun hHeld => ?_)
                 clear hK K
                 refine norm_ (a' := ?_) ?_ ?_
                 rotate_left
                 ·show Act.put _ (some 17) _ = _
                  simp only [Act.put, List.setIfInBounds_toArray, List.set_cons_zero, List.set_cons_succ, i64_w, i32_w]
                  rfl
                 refine pz (i := 6) (N := some 18) #[I,I,I,I,I,I,I,I,I,I,I,O,I,I,I,O,O,I,I,O,I,I,O,O] ?_
                 refine pz (i := 11) (N := some 23) #[I,I,I,I,I,I,I,I,I,I,I,I,I,I,I,O,O,I,I,O,I,I,O,O] ?_
                 exact norm_ (by first | (simp only [putAll, Act.put, List.setIfInBounds_toArray, List.set_cons_zero, List.set_cons_succ]; done) | (simp only [putAll, Act.put, List.setIfInBounds_toArray, List.set_cons_zero, List.set_cons_succ]; rfl)) (hJ2_5_9_10 (v221) _ ⟨hHeld, (rk HO222.out), (bk BK217.out), bo⟩)
               ·skip
                rintro _ w24 ⟨hS_, h0_, h1_⟩
                have n0_ : Aside0 (w24.heap[gb217]? = some (.cells #[.int .i64 a0_0, .int .i64 a0_1, .string a0_2, .string a0_3, .int .i64 a0_4, .bool a0_5] 25 (0, 0))) := ⟨h0_⟩
                have n1_ : Aside0 (Below w.heap.size w w24) := ⟨h1_⟩
                clear BK217
                clear HB
                clear h0_ h1_
                have BK217 := n0_
                have HB := n1_
                clear n0_ n1_
                have hHeld : w24.cell? ⟨gb217, 0, none⟩ = some (.int .i64 a0_0) ∧ w24.cell? ⟨gb217, 1, none⟩ = some (.int .i64 a0_1) ∧ w24.cell? ⟨gb217, 2, none⟩ = some (.string a0_2) ∧ w24.cell? ⟨gb217, 3, none⟩ = some (.string a0_3) ∧ w24.cell? ⟨gb217, 4, none⟩ = some (.int .i64 a0_4) ∧ w24.cell? ⟨gb217, 5, none⟩ = some (.bool a0_5) := hS_
                refine norm_ (a' := ?_) ?_ ?_
                rotate_left
                ·simp only [putAll, Act.put, List.setIfInBounds_toArray, List.set_cons_zero, List.set_cons_succ]
                 rfl
                refine one_ (i := 9) (N := some 21) #[I,I,I,I,I,I,I,I,I,I,O,O,I,I,I,I,O,I,I,O,I,I,O,O] rfl rfl (one_of HT_.out (by kernel_rfl)) (by decide) (fun K hK => ?_)
                refine Kd.R_lit_step (Kd.int .u8) _ 5 ?hg (N := 21) ?hd (xs := ([(x3_1) % 256] : List Int)) (inner := [.int .u8 ((x3_1) % 256)]) (ok := fun _ => True) (okp := fun _ => True) ?hr ?hp (fun _ hk => hk) trivial (Below.refl _ _) (Nat.le_refl _) (by simp) ?_; (case hd => rfl); (case hg => rfl); (case hr => first | (go_simp; done) | (go_simp; rfl)); (case hp => exact (Reps.one (show Kd.M (Kd.int .u8) _ _ _ ((x3_1) % 256) [.int .u8 ((x3_1) % 256)] from rfl) (Reps.none _ _)))
                intro v221 w25 ho26 hb hg_ hnew_
                clear hg_ hnew_
                (first | rw [← Ny220.out] at ho26 | (simp only [Int.reduceToNat] at ho26; rw [← Ny220.out] at ho26))
                have HO222 := Aside0.mk (Kd.R_lower ho26 (below_size bo))
                replace BK217 := Aside0.mk (blk_below (g := gb217) (o := .cells #[.int .i64 a0_0, .int .i64 a0_1, .string a0_2, .string a0_3, .int .i64 a0_4, .bool a0_5] 25 (0, 0)) (bk BK217.out) hb)
                replace HB := Aside0.mk (below_step bo hb)
                clear hb ho26
                refine hK.out _ _ ⟨(blk_cell BK217.out 0).trans rfl, (blk_cell BK217.out 1).trans rfl, (blk_cell BK217.out 2).trans rfl, (blk_cell BK217.out 3).trans rfl, (blk_cell BK217.out 4).trans rfl, (blk_cell BK217.out 5).trans rfl⟩ (fun hHeld => ?_)
                clear hK K
                refine norm_ (a' := ?_) ?_ ?_
                rotate_left
                ·show Act.put _ (some 21) _ = _
                 simp only [Act.put, List.setIfInBounds_toArray, List.set_cons_zero, List.set_cons_succ, i64_w, i32_w]
                 rfl
                exact norm_ (by first | (simp only [putAll, Act.put, List.setIfInBounds_toArray, List.set_cons_zero, List.set_cons_succ]; done) | (simp only [putAll, Act.put, List.setIfInBounds_toArray, List.set_cons_zero, List.set_cons_succ]; rfl)) (hJ2_5_9_15 (v221) _ ⟨hHeld, (rk HO222.out), (bk BK217.out), bo⟩)
              ·skip
               rintro v221 w25 ⟨hS_, h0_, h1_, h2_⟩
               have n0_ : Aside0 (Kd.R (Kd.int .u8) 5 w25 w.heap.size (fun _ => True) v221 y220) := ⟨h0_⟩
               have n1_ : Aside0 (w25.heap[gb217]? = some (.cells #[.int .i64 a0_0, .int .i64 a0_1, .string a0_2, .string a0_3, .int .i64 a0_4, .bool a0_5] 25 (0, 0))) := ⟨h1_⟩
               have n2_ : Aside0 (Below w.heap.size w w25) := ⟨h2_⟩
               clear BK217
               clear HB
               clear h0_ h1_ h2_
               have HO222 := n0_
               have BK217 := n1_
               have HB := n2_
               clear n0_ n1_ n2_
               have hHeld : w25.cell? ⟨gb217, 0, none⟩ = some (.int .i64 a0_0) ∧ w25.cell? ⟨gb217, 1, none⟩ = some (.int .i64 a0_1) ∧ w25.cell? ⟨gb217, 2, none⟩ = some (.string a0_2) ∧ w25.cell? ⟨gb217, 3, none⟩ = some (.string a0_3) ∧ w25.cell? ⟨gb217, 4, none⟩ = some (.int .i64 a0_4) ∧ w25.cell? ⟨gb217, 5, none⟩ = some (.bool a0_5) := hS_
               refine norm_ (a' := ?_) ?_ ?_
               rotate_left
               ·simp only [putAll, Act.put, List.setIfInBounds_toArray, List.set_cons_zero, List.set_cons_succ]
                rfl
               refine two_ (i := 10) (j := 15) (Ni := some 22) (Nj := some 27) #[I,I,I,I,I,I,I,I,I,I,I,O,I,I,I,O,O,I,I,O,I,I,O,O] #[I,I,I,I,I,I,I,I,I,I,O,O,I,I,I,I,O,I,I,O,I,I,O,O] rfl rfl rfl rfl (two_of HT_.out (by kernel_rfl)) (by decide) (by decide) (fun K hK => ?_) (fun K hK => ?_)
               ·skip
                have hcv26 := own_string (P := Try.prog) Try.underlying23 Try.underlying5 Try.underlying9 (Kd.own_of_R HO222.out)
                refine value_ (w1 := ?_) (v := ?_) (by rfl) rfl ?_ ?_
                rotate_left 2
                ·go_simp
                 constructor
                 ·rfl
                 ·rfl
                clear hcv26
                refine hK.out _ _ ⟨(blk_cell BK217.out 0).trans rfl, (blk_cell BK217.out 1).trans rfl, (blk_cell BK217.out 2).trans rfl, (blk_cell BK217.out 3).trans rfl, (blk_cell BK217.out 4).trans rfl, (blk_cell BK217.out 5).trans rfl⟩ (fun hHeld => ?_)
                clear hK K
                refine norm_ (a' := ?_) ?_ ?_
                rotate_left
                ·show Act.put _ (some 22) _ = _
                 simp only [Act.put, List.setIfInBounds_toArray, List.set_cons_zero, List.set_cons_succ, i64_w, i32_w]
                 rfl
                refine pz (i := 11) (N := some 23) #[I,I,I,I,I,I,I,I,I,I,I,I,I,I,I,O,O,I,I,O,I,I,O,O] ?_
                exact norm_ (by first | (simp only [putAll, Act.put, List.setIfInBounds_toArray, List.set_cons_zero, List.set_cons_succ]; done) | (simp only [putAll, Act.put, List.setIfInBounds_toArray, List.set_cons_zero, List.set_cons_succ]; rfl)) (hJ2_5_9_10 (v221) _ ⟨hHeld, (rk HO222.out), (bk BK217.out), bo⟩)
               ·skip
                refine goes_ Try.func69 (by kernel_rfl) rfl #[.int .i64 (a0_2.size : Int), .int .i64 2] (by rfl) rfl rfl aa ?_
                with_reducible refine (fairwayref1_Fixed.calls kj1 (a0_2.size : Int) 2 t223 _ A10.out).mono ?_
                rintro e w26 ⟨rfl, hb⟩
                refine ⟨_, rfl, ?_⟩
                replace HO222 := Aside0.mk (Kd.R_below (rk HO222.out) hb)
                replace BK217 := Aside0.mk (blk_below (g := gb217) (o := .cells #[.int .i64 a0_0, .int .i64 a0_1, .string a0_2, .string a0_3, .int .i64 a0_4, .bool a0_5] 25 (0, 0)) (bk BK217.out) hb)
                replace HB := Aside0.mk (below_step bo hb)
                (try clear hb)
                (try clear hb2)
                (try clear hk)
                (try clear hi)
                refine hK.out _ _ ⟨(blk_cell BK217.out 0).trans rfl, (blk_cell BK217.out 1).trans rfl, (blk_cell BK217.out 2).trans rfl, (blk_cell BK217.out 3).trans rfl, (blk_cell BK217.out 4).trans rfl, (blk_cell BK217.out 5).trans rfl⟩ (fun hHeld => ?_)
                clear hK K
                refine norm_ (a' := ?_) ?_ ?_
                rotate_left
                ·show Act.put _ (some 27) _ = _
                 simp only [Act.put, List.setIfInBounds_toArray, List.set_cons_zero, List.set_cons_succ, i64_w, i32_w]
                 rfl
                exact norm_ (by first | (simp only [putAll, Act.put, List.setIfInBounds_toArray, List.set_cons_zero, List.set_cons_succ]; done) | (simp only [putAll, Act.put, List.setIfInBounds_toArray, List.set_cons_zero, List.set_cons_succ]; rfl)) (hJ2_5_9_15 (v221) _ ⟨hHeld, (rk HO222.out), (bk BK217.out), bo⟩)
             ·skip
              rintro v221 w26 ⟨hS_, h0_, h1_, h2_⟩
              have n0_ : Aside0 (Kd.R (Kd.int .u8) 5 w26 w.heap.size (fun _ => True) v221 y220) := ⟨h0_⟩
              have n1_ : Aside0 (w26.heap[gb217]? = some (.cells #[.int .i64 a0_0, .int .i64 a0_1, .string a0_2, .string a0_3, .int .i64 a0_4, .bool a0_5] 25 (0, 0))) := ⟨h1_⟩
              have n2_ : Aside0 (Below w.heap.size w w26) := ⟨h2_⟩
              clear BK217
              clear HB
              clear h0_ h1_ h2_
              have HO222 := n0_
              have BK217 := n1_
              have HB := n2_
              clear n0_ n1_ n2_
              have hHeld : w26.cell? ⟨gb217, 0, none⟩ = some (.int .i64 a0_0) ∧ w26.cell? ⟨gb217, 1, none⟩ = some (.int .i64 a0_1) ∧ w26.cell? ⟨gb217, 2, none⟩ = some (.string a0_2) ∧ w26.cell? ⟨gb217, 3, none⟩ = some (.string a0_3) ∧ w26.cell? ⟨gb217, 4, none⟩ = some (.int .i64 a0_4) ∧ w26.cell? ⟨gb217, 5, none⟩ = some (.bool a0_5) := hS_
              refine norm_ (a' := ?_) ?_ ?_
              rotate_left
              ·simp only [putAll, Act.put, List.setIfInBounds_toArray, List.set_cons_zero, List.set_cons_succ]
               rfl
              refine one_ (i := 10) (N := some 22) #[I,I,I,I,I,I,I,I,I,I,I,O,I,I,I,I,O,I,I,O,I,I,O,O] rfl rfl (one_of HT_.out (by kernel_rfl)) (by decide) (fun K hK => ?_)
              have hcv27 := own_string (P := Try.prog) Try.underlying23 Try.underlying5 Try.underlying9 (Kd.own_of_R HO222.out)
              refine value_ (w1 := ?_) (v := ?_) (by rfl) rfl ?_ ?_
              rotate_left 2
              ·go_simp
               constructor
               ·rfl
               ·rfl
              clear hcv27
              refine hK.out _ _ ⟨(blk_cell BK217.out 0).trans rfl, (blk_cell BK217.out 1).trans rfl, (blk_cell BK217.out 2).trans rfl, (blk_cell BK217.out 3).trans rfl, (blk_cell BK217.out 4).trans rfl, (blk_cell BK217.out 5).trans rfl⟩ (fun hHeld => ?_)
              clear hK K
              refine norm_ (a' := ?_) ?_ ?_
              rotate_left
              ·show Act.put _ (some 22) _ = _
               simp only [Act.put, List.setIfInBounds_toArray, List.set_cons_zero, List.set_cons_succ, i64_w, i32_w]
               rfl
              refine pz (i := 11) (N := some 23) #[I,I,I,I,I,I,I,I,I,I,I,I,I,I,I,I,O,I,I,O,I,I,O,O] ?_
              exact norm_ (by first | (simp only [putAll, Act.put, List.setIfInBounds_toArray, List.set_cons_zero, List.set_cons_succ]; done) | (simp only [putAll, Act.put, List.setIfInBounds_toArray, List.set_cons_zero, List.set_cons_succ]; rfl)) (hJ2_5_9_10_15 (v221) _ ⟨hHeld, (rk HO222.out), (bk BK217.out), bo⟩)
            ·skip
             rintro v221 w26 ⟨hS_, h0_, h1_, h2_⟩
             have n0_ : Aside0 (Kd.R (Kd.int .u8) 5 w26 w.heap.size (fun _ => True) v221 y220) := ⟨h0_⟩
             have n1_ : Aside0 (w26.heap[gb217]? = some (.cells #[.int .i64 a0_0, .int .i64 a0_1, .string a0_2, .string a0_3, .int .i64 a0_4, .bool a0_5] 25 (0, 0))) := ⟨h1_⟩
             have n2_ : Aside0 (Below w.heap.size w w26) := ⟨h2_⟩
             clear BK217
             clear HB
             clear h0_ h1_ h2_
             have HO222 := n0_
             have BK217 := n1_
             have HB := n2_
             clear n0_ n1_ n2_
             have hHeld : w26.cell? ⟨gb217, 0, none⟩ = some (.int .i64 a0_0) ∧ w26.cell? ⟨gb217, 1, none⟩ = some (.int .i64 a0_1) ∧ w26.cell? ⟨gb217, 2, none⟩ = some (.string a0_2) ∧ w26.cell? ⟨gb217, 3, none⟩ = some (.string a0_3) ∧ w26.cell? ⟨gb217, 4, none⟩ = some (.int .i64 a0_4) ∧ w26.cell? ⟨gb217, 5, none⟩ = some (.bool a0_5) := hS_
             refine norm_ (a' := ?_) ?_ ?_
             rotate_left
             ·simp only [putAll, Act.put, List.setIfInBounds_toArray, List.set_cons_zero, List.set_cons_succ]
              rfl
             refine one_ (i := 15) (N := some 27) #[I,I,I,I,I,I,I,I,I,I,I,I,I,I,I,I,O,I,I,O,I,I,O,O] rfl rfl (one_of HT_.out (by kernel_rfl)) (by decide) (fun K hK => ?_)
             refine goes_ Try.func69 (by kernel_rfl) rfl #[.int .i64 (a0_2.size : Int), .int .i64 2] (by rfl) rfl rfl aa ?_
             with_reducible refine (fairwayref1_Fixed.calls kj1 (a0_2.size : Int) 2 t223 _ A10.out).mono ?_
             rintro e w27 ⟨rfl, hb⟩
             refine ⟨_, rfl, ?_⟩
             replace HO222 := Aside0.mk (Kd.R_below (rk HO222.out) hb)
             replace BK217 := Aside0.mk (blk_below (g := gb217) (o := .cells #[.int .i64 a0_0, .int .i64 a0_1, .string a0_2, .string a0_3, .int .i64 a0_4, .bool a0_5] 25 (0, 0)) (bk BK217.out) hb)
             replace HB := Aside0.mk (below_step bo hb)
             (try clear hb)
             (try clear hb2)
             (try clear hk)
             (try clear hi)
             refine hK.out _ _ ⟨(blk_cell BK217.out 0).trans rfl, (blk_cell BK217.out 1).trans rfl, (blk_cell BK217.out 2).trans rfl, (blk_cell BK217.out 3).trans rfl, (blk_cell BK217.out 4).trans rfl, (blk_cell BK217.out 5).trans rfl⟩ (fun hHeld => ?_)
             clear hK K
             refine norm_ (a' := ?_) ?_ ?_
             rotate_left
             ·show Act.put _ (some 27) _ = _
              simp only [Act.put, List.setIfInBounds_toArray, List.set_cons_zero, List.set_cons_succ, i64_w, i32_w]
              rfl
             exact norm_ (by first | (simp only [putAll, Act.put, List.setIfInBounds_toArray, List.set_cons_zero, List.set_cons_succ]; done) | (simp only [putAll, Act.put, List.setIfInBounds_toArray, List.set_cons_zero, List.set_cons_succ]; rfl)) (hJ2_5_9_10_15 (v221) _ ⟨hHeld, (rk HO222.out), (bk BK217.out), bo⟩)
           rintro v221 w27 ⟨hS_, h0_, h1_, h2_⟩
           have n0_ : Aside0 (Kd.R (Kd.int .u8) 5 w27 w.heap.size (fun _ => True) v221 y220) := ⟨h0_⟩
           have n1_ : Aside0 (w27.heap[gb217]? = some (.cells #[.int .i64 a0_0, .int .i64 a0_1, .string a0_2, .string a0_3, .int .i64 a0_4, .bool a0_5] 25 (0, 0))) := ⟨h1_⟩
           have n2_ : Aside0 (Below w.heap.size w w27) := ⟨h2_⟩
           clear BK217
           clear HB
           clear h0_ h1_ h2_
           have HO222 := n0_
           have BK217 := n1_
           have HB := n2_
           clear n0_ n1_ n2_
           have hHeld : w27.cell? ⟨gb217, 0, none⟩ = some (.int .i64 a0_0) ∧ w27.cell? ⟨gb217, 1, none⟩ = some (.int .i64 a0_1) ∧ w27.cell? ⟨gb217, 2, none⟩ = some (.string a0_2) ∧ w27.cell? ⟨gb217, 3, none⟩ = some (.string a0_3) ∧ w27.cell? ⟨gb217, 4, none⟩ = some (.int .i64 a0_4) ∧ w27.cell? ⟨gb217, 5, none⟩ = some (.bool a0_5) := hS_
           refine norm_ (a' := ?_) ?_ ?_
           rotate_left
           ·simp only [putAll, Act.put, List.setIfInBounds_toArray, List.set_cons_zero, List.set_cons_succ]
            rfl
           refine pz (i := 16) (N := some 28) #[I,I,I,I,I,I,I,I,I,I,I,I,I,I,I,I,I,I,I,O,I,I,O,O] ?_
           refine pz (i := 19) (N := some 31) #[I,I,I,I,I,I,I,I,I,I,I,I,I,I,I,I,I,I,I,I,I,I,O,O] ?_
           refine pz (i := 22) (N := some 34) #[I,I,I,I,I,I,I,I,I,I,I,I,I,I,I,I,I,I,I,I,I,I,I,O] ?_
           refine pz (i := 23) (N := some 4) #[I,I,I,I,I,I,I,I,I,I,I,I,I,I,I,I,I,I,I,I,I,I,I,I] ?_
           refine done_ (done_of HT_.out (by kernel_rfl)) ?_
           try go_wp2_with (first | ((with_reducible refine gate_callee (f := 69) rfl ?_); refine goesL_ (some 37) rfl rfl Try.func69 (by kernel_rfl) rfl #[.int .i64 ((((((t218 ++ t219) ++ (strOfNums y220)) ++ t223) ++ a0_2) ++ a0_3).size : Int), .int .i64 2] rfl aa ?_; (with_reducible refine (fairwayref1_Fixed.calls kj1 ((((((t218 ++ t219) ++ (strOfNums y220)) ++ t223) ++ a0_2) ++ a0_3).size : Int) 2 t224 _ A14.out).mono ?_); rintro e w28 ⟨rfl, hb⟩; refine ⟨_, rfl, ?_⟩; replace HO222 := Aside0.mk (Kd.R_below (rk HO222.out) hb); replace BK217 := Aside0.mk (blk_below (g := gb217) (o := .cells #[.int .i64 a0_0, .int .i64 a0_1, .string a0_2, .string a0_3, .int .i64 a0_4, .bool a0_5] 25 (0, 0)) (bk BK217.out) hb); replace HB := Aside0.mk (below_step bo hb); (try clear hb); (try clear hb2); (try clear hk); (try clear hi)) | ((with_reducible refine gate_callee (f := 70) rfl ?_); refine goesL_ (some 42) rfl rfl Try.func70 (by kernel_rfl) rfl #[.int .u32 0, .string (t224 ++ (((((t218 ++ t219) ++ (strOfNums y220)) ++ t223) ++ a0_2) ++ a0_3))] rfl aa ?_; (with_reducible refine (fairwayref1_Sum.calls kj1 0 (t224 ++ (((((t218 ++ t219) ++ (strOfNums y220)) ++ t223) ++ a0_2) ++ a0_3)) t225 _ A16.out).mono ?_); rintro e w' ⟨rfl, ⟨nd, rfl⟩⟩; refine ⟨_, rfl, ?_⟩) | ((with_reducible refine gate_callee (f := 69) rfl ?_); refine goesL_ (some 44) rfl rfl Try.func69 (by kernel_rfl) rfl #[.int .i64 (wrap64 (t225)), .int .i64 4] rfl aa ?_; (with_reducible refine (fairwayref1_Fixed.calls kj1 (wrap64 (t225)) 4 t226 _ A17.out).mono ?_); rintro e w29 ⟨rfl, hb⟩; refine ⟨_, rfl, ?_⟩; replace HO222 := Aside0.mk (Kd.R_below (rk HO222.out) hb); replace BK217 := Aside0.mk (blk_below (g := gb217) (o := .cells #[.int .i64 a0_0, .int .i64 a0_1, .string a0_2, .string a0_3, .int .i64 a0_4, .bool a0_5] 25 (0, 0)) (bk BK217.out) hb); replace HB := Aside0.mk (below_step bo hb); (try clear hb); (try clear hb2); (try clear hk); (try clear hi)))
           go_ret
           exact ⟨er, bo⟩
          ·rw [if_neg c19] at H
           exact absurd H (by simp)
         ·rw [if_neg c18] at H
          exact absurd H (by simp)
        ·rw [if_neg c15] at H
         exact absurd H (by simp)
       ·rw [if_neg c13] at H
        exact absurd H (by simp)
      ·rw [if_neg c12] at H
       exact absurd H (by simp)
     ·rw [if_neg c11] at H
      exact absurd H (by simp)
    ·rw [if_neg c9] at H
     exact absurd H (by simp)
   ·rw [if_neg c8] at H
    exact absurd H (by simp)

end Go.Proofs.Ytmabdfdmccbfnaa.P

/- The check sum of bytes as a run over 32 bits: what sum.Sum and the page's Sum compute, and what the run is worth. -/
namespace Go.Proofs.Ytmabdfdmccbfnaa.USum
open Go Go.RowKit Go.Proofs.YtmabdfdmccbfnaaW.PrintWords Go.Proofs.YtmabdfdmccbfnaaW.PrintLast
set_option linter.unusedVariables false
theorem ofI (a : BitVec 32) : BitVec.ofInt (IntKind.bits .u32) (a.toNat : Int) = a := by
  show BitVec.ofInt 32 _ = a
  rw [BitVec.ofInt_natCast, BitVec.ofNat_toNat, BitVec.setWidth_eq]
theorem wrapI (a : BitVec 32) : IntKind.wrap .u32 (a.toNat : Int) = a.toNat := by
  have := a.isLt
  simp [IntKind.wrap, IntKind.bits, IntKind.signed]
  omega
theorem bits_xor (a b : BitVec 32) : Go.bits .xor .u32 (a.toNat : Int) (b.toNat : Int) = ((a ^^^ b).toNat : Int) := by
  unfold Go.bits
  simp only [ofI]
  exact wrapI _
theorem bits_and (a b : BitVec 32) : Go.bits .and .u32 (a.toNat : Int) (b.toNat : Int) = ((a &&& b).toNat : Int) := by
  unfold Go.bits
  simp only [ofI]
  exact wrapI _
theorem half (a : BitVec 32) : (a.toNat : Int) / (2 : Int) = ((a >>> 1).toNat : Int) := by
  rw [BitVec.toNat_ushiftRight, Nat.shiftRight_eq_div_pow]; rfl
theorem low (a : BitVec 32) : a &&& 1#32 = 0#32 ∨ a &&& 1#32 = 1#32 := by
  have : (a &&& 1#32).toNat = a.toNat % 2 := by simp [BitVec.toNat_and, Nat.and_one_is_mod]
  rcases Nat.mod_two_eq_zero_or_one a.toNat with h | h
  · left; apply BitVec.eq_of_toNat_eq; rw [this, h]; rfl
  · right; apply BitVec.eq_of_toNat_eq; rw [this, h]; rfl
def cstep (s : BitVec 32) : BitVec 32 := if s &&& 1#32 = 1#32 then (s >>> 1) ^^^ 2197175160#32 else s >>> 1
theorem pstep (s : BitVec 32) : Go.bits .xor .u32 ((s.toNat : Int) / 2) (Go.bits .and .u32 2197175160 ((-(Go.bits .and .u32 (s.toNat : Int) 1)) % 4294967296)) = ((cstep s).toNat : Int) := by
  have e1 : (1 : Int) = ((1#32 : BitVec 32).toNat : Int) := rfl
  have e2 : (2197175160 : Int) = ((2197175160#32 : BitVec 32).toNat : Int) := rfl
  have hb : Go.bits .and .u32 (s.toNat : Int) 1 = ((s &&& 1#32).toNat : Int) := bits_and s 1#32
  rw [hb, half]
  unfold cstep
  rcases low s with h | h
  · rw [h, if_neg (by decide)]
    have : Go.bits .and .u32 2197175160 ((-(((0#32 : BitVec 32).toNat : Nat) : Int)) % 4294967296) = ((0#32 : BitVec 32).toNat : Int) := bits_and 2197175160#32 0#32
    rw [this, bits_xor]
    simp
  · rw [h, if_pos rfl]
    have : Go.bits .and .u32 2197175160 ((-(((1#32 : BitVec 32).toNat : Nat) : Int)) % 4294967296) = ((2197175160#32 : BitVec 32).toNat : Int) := bits_and 2197175160#32 4294967295#32
    rw [this, bits_xor]
theorem rstep1 (s : BitVec 32) (h : Go.bits .and .u32 (s.toNat : Int) 1 = 1) : Go.bits .xor .u32 ((s.toNat : Int) / 2) 2197175160 = ((cstep s).toNat : Int) := by
  have hb : Go.bits .and .u32 (s.toNat : Int) 1 = ((s &&& 1#32).toNat : Int) := bits_and s 1#32
  rw [hb] at h
  rw [half, show (2197175160 : Int) = ((2197175160#32 : BitVec 32).toNat : Int) from rfl, bits_xor]
  unfold cstep
  rcases low s with h' | h'
  · rw [h'] at h; exact absurd h (by decide)
  · rw [if_pos h']
theorem rstep0 (s : BitVec 32) (h : ¬ Go.bits .and .u32 (s.toNat : Int) 1 = 1) : (s.toNat : Int) / 2 = ((cstep s).toNat : Int) := by
  have hb : Go.bits .and .u32 (s.toNat : Int) 1 = ((s &&& 1#32).toNat : Int) := bits_and s 1#32
  rw [hb] at h
  rw [half]
  unfold cstep
  rcases low s with h' | h'
  · rw [if_neg (by rw [h']; decide)]
  · rw [h'] at h; exact absurd rfl h

theorem wrap_one {x : Int} (h0 : 0 ≤ x) (h1 : x < 9223372036854775807) : wrap64 (x + 1) = x + 1 := by
  unfold wrap64; omega
def bstep (s : BitVec 32) (b : UInt8) : BitVec 32 := cstep (cstep (cstep (cstep (cstep (cstep (cstep (cstep (s ^^^ BitVec.ofNat 32 b.toNat))))))))
def run (s : BitVec 32) (l : List UInt8) : BitVec 32 := l.foldl bstep s
theorem bt_get (s : ByteArray) (i : Nat) (h : i < s.size) : bt s i = ((s.data.toList[i]'(by simpa using h)).toNat : Int) := by
  have := bt_at s i (by simpa using h)
  rw [← this]; simp; rfl
theorem bt_u32 (b : UInt8) : (b.toNat : Int) % 4294967296 = ((BitVec.ofNat 32 b.toNat).toNat : Int) := by
  have := b.toNat_lt
  rw [BitVec.toNat_ofNat]; omega
theorem not_eq (s : BitVec 32) : Go.bits .xor .u32 4294967295 (s.toNat : Int) = ((~~~s).toNat : Int) := by
  rw [show (4294967295 : Int) = ((4294967295#32 : BitVec 32).toNat : Int) from rfl, bits_xor]
  have : (4294967295#32 : BitVec 32) = BitVec.allOnes 32 := by decide
  rw [this, BitVec.allOnes_xor]
section
open Go.Proofs.Ytmabdfdmccbfnaa.P
/-- The eight rounds over a byte. -/
theorem l1_ev (x1 : ByteArray) (n i : Int) (r : Int) (s : BitVec 32)
    (h : Ev (fun k => sum_Sum.l0 k ((cstep (cstep (cstep (cstep (cstep (cstep (cstep (cstep s)))))))).toNat) x1 n (wrap64 (i + 1))) r) :
    Ev (fun k => sum_Sum.l1 k (s.toNat) x1 n i 0) r := by
  have one : ∀ (j : Int) (s : BitVec 32), 0 ≤ j → j < 8 → Ev (fun k => sum_Sum.l1 k ((cstep s).toNat) x1 n i (j + 1)) r → Ev (fun k => sum_Sum.l1 k (s.toNat) x1 n i j) r := by
    intro j s h0 h1 hh
    refine Ev.step (f := fun k => sum_Sum.l1 k ((cstep s).toNat) x1 n i (j + 1)) (fun k => ?_) hh
    simp only [sum_Sum.l1]
    rw [if_pos (by omega), pstep, wrap_one h0 (by omega)]
  refine one 0 _ (by omega) (by omega) (one 1 _ (by omega) (by omega) (one 2 _ (by omega) (by omega) (one 3 _ (by omega) (by omega) (one 4 _ (by omega) (by omega) (one 5 _ (by omega) (by omega) (one 6 _ (by omega) (by omega) (one 7 _ (by omega) (by omega) ?_)))))))
  refine Ev.step (fun k => ?_) h
  simp only [sum_Sum.l1]
  rw [if_neg (by omega)]
theorem l0_ev (x1 : ByteArray) (hx : x1.size ≤ 140737488351232) : ∀ (d i : Nat) (s : BitVec 32), x1.size = i + d →
    Ev (fun k => sum_Sum.l0 k (s.toNat) x1 (x1.size : Int) i) ((~~~ (run s (x1.data.toList.drop i))).toNat : Int)
  | 0, i, s, h => by
    refine Ev.step (f := fun _ => some _) (fun k => ?_) (Ev.now _)
    simp only [sum_Sum.l0]
    rw [if_neg (by omega), not_eq, List.drop_eq_nil_of_le (by simp; omega)]
    rfl
  | d + 1, i, s, h => by
    have hi : i < x1.size := by omega
    have ih := l0_ev x1 hx d (i + 1) (bstep s (x1.data.toList[i]'(by simpa using hi))) (by omega)
    refine Ev.step (f := fun k => sum_Sum.l1 k ((s ^^^ BitVec.ofNat 32 (x1.data.toList[i]'(by simpa using hi)).toNat).toNat) x1 (x1.size : Int) i 0) (fun k => ?_) (l1_ev x1 _ _ _ _ ?_)
    · simp only [sum_Sum.l0]
      rw [if_pos (by omega), if_pos (by omega), if_pos (by omega), bt_get x1 i hi, bt_u32, bits_xor]
    · rw [wrap_one (by omega) (by omega), List.drop_eq_getElem_cons (by simpa using hi)]
      exact ih
theorem sum_ev (s : BitVec 32) (x1 : ByteArray) (hx : x1.size ≤ 140737488351232) : Ev (fun k => sum_Sum.f k (s.toNat) x1) ((~~~ (run (~~~ s) x1.data.toList)).toNat : Int) := by
  unfold sum_Sum.f
  rw [not_eq]
  exact l0_ev x1 hx x1.size 0 (~~~s) (by omega)
/-- The eight rounds over a byte. -/
theorem rl1_ev (x1 : ByteArray) (i : Int) (r : Int) (s : BitVec 32)
    (h : Ev (fun k => fairwayref1_Sum.l0 k ((cstep (cstep (cstep (cstep (cstep (cstep (cstep (cstep s)))))))).toNat) x1 (wrap64 (i + 1))) r) :
    Ev (fun k => fairwayref1_Sum.l1 k (s.toNat) x1 i 0) r := by
  have one : ∀ (j : Int) (s : BitVec 32), 0 ≤ j → j < 8 → Ev (fun k => fairwayref1_Sum.l1 k ((cstep s).toNat) x1 i (j + 1)) r → Ev (fun k => fairwayref1_Sum.l1 k (s.toNat) x1 i j) r := by
    intro j s h0 h1 hh
    refine Ev.step (f := fun k => fairwayref1_Sum.l1 k ((cstep s).toNat) x1 i (j + 1)) (fun k => ?_) hh
    simp only [fairwayref1_Sum.l1]
    by_cases hb : Go.bits .and .u32 (s.toNat : Int) 1 = 1
    · rw [if_pos (by omega), if_pos hb, rstep1 s hb, wrap_one h0 (by omega)]
    · rw [if_pos (by omega), if_neg hb, rstep0 s hb, wrap_one h0 (by omega)]
  refine one 0 _ (by omega) (by omega) (one 1 _ (by omega) (by omega) (one 2 _ (by omega) (by omega) (one 3 _ (by omega) (by omega) (one 4 _ (by omega) (by omega) (one 5 _ (by omega) (by omega) (one 6 _ (by omega) (by omega) (one 7 _ (by omega) (by omega) ?_)))))))
  refine Ev.step (fun k => ?_) h
  simp only [fairwayref1_Sum.l1]
  rw [if_neg (by omega)]
theorem rl0_ev (x1 : ByteArray) (hx : x1.size ≤ 140737488351232) : ∀ (d i : Nat) (s : BitVec 32), x1.size = i + d →
    Ev (fun k => fairwayref1_Sum.l0 k (s.toNat) x1 i) ((~~~ (run s (x1.data.toList.drop i))).toNat : Int)
  | 0, i, s, h => by
    refine Ev.step (f := fun _ => some _) (fun k => ?_) (Ev.now _)
    simp only [fairwayref1_Sum.l0]
    rw [if_neg (by omega), not_eq, List.drop_eq_nil_of_le (by simp; omega)]
    rfl
  | d + 1, i, s, h => by
    have hi : i < x1.size := by omega
    have ih := rl0_ev x1 hx d (i + 1) (bstep s (x1.data.toList[i]'(by simpa using hi))) (by omega)
    refine Ev.step (f := fun k => fairwayref1_Sum.l1 k ((s ^^^ BitVec.ofNat 32 (x1.data.toList[i]'(by simpa using hi)).toNat).toNat) x1 i 0) (fun k => ?_) (rl1_ev x1 _ _ _ ?_)
    · simp only [fairwayref1_Sum.l0]
      rw [if_pos (by omega), if_pos (by omega), bt_get x1 i hi, bt_u32, bits_xor]
    · rw [wrap_one (by omega) (by omega), List.drop_eq_getElem_cons (by simpa using hi)]
      exact ih
theorem sumref_ev (s : BitVec 32) (x1 : ByteArray) (hx : x1.size ≤ 140737488351232) : Ev (fun k => fairwayref1_Sum.f k (s.toNat) x1) ((~~~ (run (~~~ s) x1.data.toList)).toNat : Int) := by
  unfold fairwayref1_Sum.f
  rw [not_eq]
  exact rl0_ev x1 hx x1.size 0 (~~~s) (by omega)
/-- A number of the kind u32 is a word's. -/
theorem of_wf {n : Int} (h : (Lit.int .u32 n).wf = true) : ∃ s : BitVec 32, n = (s.toNat : Int) := by
  simp [Lit.wf, IntKind.min, IntKind.max, IntKind.signed, IntKind.bits] at h
  refine ⟨BitVec.ofNat 32 n.toNat, ?_⟩
  rw [BitVec.toNat_ofNat]
  omega
end
end Go.Proofs.Ytmabdfdmccbfnaa.USum

/- Records as bytes: what the program puts together is what the page says. -/
namespace Go.Proofs.Ytmabdfdmccbfnaa.UBytes
open Go Go.RowKit Go.Proofs.Ytmabdfdmccbfnaa.P Go.Proofs.Ytmabdfdmccbfnaa.URec Go.Proofs.Ytmabdfdmccbfnaa.USum Go.Proofs.YtmabdfdmccbfnaaW.PrintWords Go.Proofs.YtmabdfdmccbfnaaW.PrintLast Go.Proofs.YtmabdfdmccbfnaaW.PrintMore
set_option linter.unusedVariables false
set_option linter.unusedSimpArgs false

/-- A number's bytes, the highest first. -/
def digits (x : Int) : Nat → List Int
  | 0 => []
  | n + 1 => (x / 2 ^ (8 * n)) % 256 :: digits x n
theorem digits_length (x : Int) : ∀ n, (digits x n).length = n
  | 0 => rfl
  | n + 1 => by simp [digits, digits_length x n]
def fixed (x : Int) (n : Nat) : ByteArray := strOfNums (digits x n)
theorem fixed_size (x : Int) (n : Nat) : (fixed x n).size = n := by rw [fixed, strOfNums_size, digits_length]
theorem shr_in (x : Int) (n : Nat) (h : n ≤ 64) : shr .i64 x (n : Int) = x / 2 ^ n := by
  unfold shr
  have : min (n : Int).toNat (IntKind.bits .i64) = n := by
    have : IntKind.bits .i64 = 64 := rfl
    omega
  rw [this]
theorem wrap8 (n : Nat) (h : n ≤ 8) : wrap64 (8 * (n : Int)) = ((8 * n : Nat) : Int) := by rw [wrap_in (by omega) (by omega)]; omega

theorem fixed_loop (x : Int) : ∀ (n : Nat) (acc : List Int), n ≤ 8 → acc.length + n ≤ 100 → Ev (fun k => fairwayref1_Fixed.l0 k x acc ((n : Int) - 1)) (strOfNums (acc ++ digits x n))
  | 0, acc, _, _ => by
    refine Ev.step (f := fun _ => some _) (fun k => ?_) (Ev.now _)
    simp only [fairwayref1_Fixed.l0]
    rw [if_neg (by omega)]
    simp [digits]
  | n + 1, acc, hn, hl => by
    have ih := fixed_loop x n (acc ++ [(x / 2 ^ (8 * n)) % 256]) (by omega) (by simp; omega)
    refine Ev.step (f := fun k => fairwayref1_Fixed.l0 k x (acc ++ [(x / 2 ^ (8 * n)) % 256]) ((n : Int) - 1)) (fun k => ?_) ?_
    · simp only [fairwayref1_Fixed.l0]
      have e : ((n + 1 : Nat) : Int) - 1 = (n : Int) := by omega
      rw [e, if_pos (by omega), wrap8 n (by omega), if_pos (by omega), if_pos (by omega), shr_in x (8 * n) (by omega), wrap_in (by omega) (by omega)]
    · simpa [digits] using ih
theorem fixed_ev (x : Int) (n : Nat) (h : n ≤ 8) : Ev (fun k => fairwayref1_Fixed.f k x n) (fixed x n) := by
  unfold fairwayref1_Fixed.f
  rw [wrap_in (by omega) (by omega)]
  simpa [fixed] using fixed_loop x n [] h (by simp; omega)

theorem set_row (m : Nat) (D : List Int) (v : Int) : ((List.replicate (m + 1) (0 : Int)) ++ D).set m v = List.replicate m 0 ++ (v :: D) := by
  rw [List.replicate_succ', List.append_assoc, List.set_append_right _ _ (by simp)]
  simp
theorem high_loop (x : Int) (wd : Nat) (hw : wd ≤ 8) : ∀ (d i : Nat), wd = i + d → Ev (fun k => vbi_high.l0 k x wd (List.replicate d 0 ++ digits x i) wd i) (fixed x wd, 0)
  | 0, i, h => by
    obtain rfl : wd = i := by omega
    refine Ev.step (f := fun _ => some _) (fun k => ?_) (Ev.now _)
    simp only [vbi_high.l0]
    rw [if_neg (by omega)]
    simp [fixed]
  | d + 1, i, h => by
    have ih := high_loop x wd hw d (i + 1) (by omega)
    refine Ev.step (f := fun k => vbi_high.l0 k x wd (List.replicate d 0 ++ digits x (i + 1)) wd ((i + 1 : Nat) : Int)) (fun k => ?_) ih
    simp only [vbi_high.l0]
    have e : wrap64 (wrap64 ((wd : Int) - 1) - (i : Int)) = ((d : Nat) : Int) := by rw [wrap_in (x := (wd : Int) - 1) (by omega) (by omega), wrap_in (by omega) (by omega)]; omega
    rw [if_pos (by omega), wrap8 i (by omega), if_pos (by omega), e, if_pos (by omega), if_pos (by simp [digits_length]; omega), shr_in x (8 * i) (by omega), wrap_in (by omega) (by omega), Int.toNat_natCast, set_row]
    rfl
theorem high_ev (x : Int) (wd : Nat) (hw : wd ≤ 8) (h0 : 0 ≤ x) (h1 : x / 2 ^ (8 * wd) = 0) : Ev (fun k => vbi_high.f k x wd) (fixed x wd, 0) := by
  have hl := high_loop x wd hw wd 0 (by omega)
  refine Ev.step (f := fun k => vbi_high.l0 k x wd (List.replicate wd 0) (wd : Int) 0) (fun k => ?_) (by simpa [digits] using hl)
  simp only [vbi_high.f, vbi_high.j0]
  rw [if_neg (by omega), wrap8 wd hw, if_pos (by omega), shr_in x (8 * wd) (by omega), h1, if_neg (by decide), if_pos (by omega), if_pos (by omega)]
  simp
theorem two_ev (x : Int) (h0 : 0 ≤ x) (h1 : x < 65536) : Ev (fun k => vbi_Two.f k x) (fixed x 2, 0) :=
  Ev.bind (g := fun k => vbi_high.f k x 2) (f := fun _ b => some (b.1, b.2)) (high_ev x 2 (by omega) h0 (by show x / 65536 = 0; omega)) (Ev.now _)
theorem four_ev (x : Int) (h0 : 0 ≤ x) (h1 : x < 4294967296) : Ev (fun k => vbi_Four.f k x) (fixed x 4, 0) :=
  Ev.bind (g := fun k => vbi_high.f k x 4) (f := fun _ b => some (b.1, b.2)) (high_ev x 4 (by omega) h0 (by show x / 4294967296 = 0; omega)) (Ev.now _)

theorem strOfNums_append (a b : List Int) : strOfNums (a ++ b) = strOfNums a ++ strOfNums b := by
  apply ByteArray.ext
  simp [strOfNums, ByteArray.data_append]
theorem low32 (x : Int) (h0 : 0 ≤ x) (h1 : x < 9223372036854775808) : Go.bits .and .i64 x 4294967295 = x % 4294967296 :=
  bits_mask .i64 63 (by decide) (fun n h0 h1 => by rw [IntKind.wrap_i64]; omega) 32 (by decide) x h0 h1
theorem digits8 (x : Int) (h0 : 0 ≤ x) : digits x 8 = digits (x / 4294967296) 4 ++ digits (x % 4294967296) 4 := by
  simp only [digits, List.cons_append, List.nil_append, List.cons.injEq, and_true]
  refine ⟨?_, ?_, ?_, ?_, ?_, ?_, ?_, ?_⟩ <;> omega
theorem eight_ev (x : Int) (h0 : 0 ≤ x) (h1 : x < 9223372036854775808) : Ev (fun k => rec_eight.f k x) (fixed x 8) := by
  refine Ev.bind (f := fun k b => (vbi_Four.f k (Go.bits .and .i64 x 4294967295)).bind fun c => (if b.1.size + c.1.size ≤ 9223372036854775807 then (some (b.1 ++ c.1)) else none)) (four_ev (x / 4294967296) (by omega) (by omega)) ?_
  rw [low32 x h0 h1]
  refine Ev.bind (f := fun k c => (if (fixed (x / 4294967296) 4).size + c.1.size ≤ 9223372036854775807 then (some ((fixed (x / 4294967296) 4) ++ c.1)) else none)) (four_ev (x % 4294967296) (by omega) (by omega)) ?_
  refine Ev.congr (f := fun _ => some _) (fun k => ?_) (Ev.now _)
  rw [if_pos (by simp [fixed_size])]
  rw [fixed, fixed, fixed, ← strOfNums_append, ← digits8 x h0]

/-- A record's first byte behind its numbers. -/
def flagOf (r : R) : Int := if r.f5 = true then r.f4 + 4 else r.f4
def bodyOf (r : R) : ByteArray := ((((fixed r.f0 8 ++ fixed r.f1 8) ++ strOfNums [flagOf r]) ++ fixed (r.f2.size : Int) 2) ++ r.f2) ++ r.f3
def headOf (r : R) : ByteArray := fixed ((bodyOf r).size : Int) 2
def sumOf (h b : ByteArray) : Int := ((~~~ (run (~~~ (0#32)) (h ++ b).data.toList)).toNat : Int)
/-- A record's bytes, by the page. -/
def recBytes (r : R) : ByteArray := (headOf r ++ fixed (sumOf (headOf r) (bodyOf r)) 4) ++ bodyOf r
theorem bodyOf_size (r : R) : (bodyOf r).size = 19 + r.f2.size + r.f3.size := by
  simp only [bodyOf, ByteArray.size_append, fixed_size, strOfNums_size, List.length_singleton]
theorem recBytes_size (r : R) : (recBytes r).size = recLen r := by
  simp only [recBytes, headOf, ByteArray.size_append, fixed_size, bodyOf_size, recLen]; omega
theorem sumOf_in (h b : ByteArray) : 0 ≤ sumOf h b ∧ sumOf h b < 4294967296 := by
  unfold sumOf
  have := (~~~ (run (~~~ (0#32)) (h ++ b).data.toList)).isLt
  omega

theorem ref_tail (r : R) (hr : recOk r) : Ev (fun k => fairwayref10_Bytes.j0 k (flagOf r) r.f0 r.f1 r.f2 r.f3 r.f4 r.f5) (recBytes r) := by
  obtain ⟨h0, h1, h2, h3, h4, h5, h6, h7, h8⟩ := hr
  have hb := bodyOf_size r
  have hf : 0 ≤ flagOf r ∧ flagOf r ≤ 6 := by unfold flagOf; split <;> omega
  have hs := sumOf_in (headOf r) (bodyOf r)
  have hh : (headOf r).size = 2 := fixed_size _ _
  refine Ev.step (fun k => by rw [fairwayref10_Bytes.j0]) ?_
  refine Ev.bind (fixed_ev r.f0 8 (by omega)) ?_
  refine Ev.bind (fixed_ev r.f1 8 (by omega)) ?_
  refine Ev.congr (fun k => if_pos (by simp [fixed_size])) ?_
  refine Ev.bind (Ev.now _) ?_
  rw [show flagOf r % 256 = flagOf r by omega]
  refine Ev.congr (fun k => if_pos (by simp [fixed_size, strOfNums_size])) ?_
  refine Ev.bind (fixed_ev (r.f2.size : Int) 2 (by omega)) ?_
  refine Ev.congr (fun k => if_pos (by simp [fixed_size, strOfNums_size])) ?_
  refine Ev.congr (fun k => if_pos (by simp [fixed_size, strOfNums_size]; omega)) ?_
  refine Ev.congr (fun k => if_pos (by simp [fixed_size, strOfNums_size]; omega)) ?_
  show Ev (fun k => (fairwayref1_Fixed.f k ((bodyOf r).size : Int) (2 : Nat)).bind fun t224 => (if t224.size + (bodyOf r).size ≤ 9223372036854775807 then ((fairwayref1_Sum.f k 0 (t224 ++ bodyOf r)).bind fun t225 => ((fairwayref1_Fixed.f k (wrap64 (t225)) (4 : Nat)).bind fun t226 => (if t224.size + t226.size ≤ 9223372036854775807 then (if (t224 ++ t226).size + (bodyOf r).size ≤ 9223372036854775807 then (some ((t224 ++ t226) ++ bodyOf r)) else (none)) else (none)))) else (none))) (recBytes r)
  refine Ev.bind (fixed_ev ((bodyOf r).size : Int) 2 (by omega)) ?_
  refine Ev.congr (fun k => if_pos (by rw [fixed_size]; omega)) ?_
  refine Ev.bind (sumref_ev 0#32 (headOf r ++ bodyOf r) (by rw [ByteArray.size_append]; omega)) ?_
  have hw : wrap64 ((~~~ (run (~~~ (0#32)) (headOf r ++ bodyOf r).data.toList)).toNat : Int) = sumOf (headOf r) (bodyOf r) := by
    rw [wrap_in (by have := hs; unfold sumOf at this; omega) (by have := hs; unfold sumOf at this; omega)]; rfl
  rw [hw]
  refine Ev.bind (fixed_ev (sumOf (headOf r) (bodyOf r)) 4 (by omega)) ?_
  refine Ev.congr (fun k => if_pos (by rw [fixed_size, fixed_size]; omega)) ?_
  refine Ev.congr (fun k => if_pos (by rw [ByteArray.size_append, fixed_size, fixed_size]; omega)) ?_
  exact Ev.now _
theorem refbytes_ev (r : R) (hr : recOk r) : Ev (fun k => fairwayref10_Bytes.f k r.f0 r.f1 r.f2 r.f3 r.f4 r.f5) (recBytes r) := by
  have ht := ref_tail r hr
  obtain ⟨h0, h1, h2, h3, h4, h5, h6, h7, h8⟩ := hr
  refine Ev.congr (fun k => ?_) ht
  unfold fairwayref10_Bytes.f flagOf
  split
  · rw [wrap_in (by omega) (by omega)]
  · rfl

theorem run_append (s : BitVec 32) (a b : List UInt8) : run s (a ++ b) = run (run s a) b := by simp [run]
theorem flag_u8 (r : R) (hr : recOk r) : (if r.f5 = true then Go.bits .or .u8 (r.f4 % 256) 4 else r.f4 % 256) = flagOf r := by
  obtain ⟨h0, h1, h2, h3, h4, h5, h6, h7, h8⟩ := hr
  have : r.f4 = 0 ∨ r.f4 = 1 ∨ r.f4 = 2 := by omega
  unfold flagOf
  rcases this with h | h | h <;> rw [h] <;> split <;> first | rfl | decide
theorem prog_tail (r : R) (hr : recOk r) : Ev (fun k => rec_Bytes.j0 k (flagOf r) r.f0 r.f1 r.f2 r.f3 r.f4 r.f5) (recBytes r, 0) := by
  obtain ⟨h0, h1, h2, h3, h4, h5, h6, h7, h8⟩ := hr
  have hb := bodyOf_size r
  have hs := sumOf_in (headOf r) (bodyOf r)
  have hh : (headOf r).size = 2 := fixed_size _ _
  refine Ev.step (fun k => by rw [rec_Bytes.j0]) ?_
  refine Ev.bind (two_ev (r.f2.size : Int) (by omega) (by omega)) ?_
  refine Ev.bind (eight_ev r.f0 (by omega) (by omega)) ?_
  refine Ev.bind (eight_ev r.f1 (by omega) (by omega)) ?_
  refine Ev.congr (fun k => if_pos (by simp [fixed_size])) ?_
  refine Ev.bind (Ev.now _) ?_
  refine Ev.congr (fun k => if_pos (by simp [fixed_size, strOfNums_size])) ?_
  refine Ev.congr (fun k => if_pos (by simp [fixed_size, strOfNums_size])) ?_
  refine Ev.congr (fun k => if_pos (by simp [fixed_size, strOfNums_size]; omega)) ?_
  refine Ev.congr (fun k => if_pos (by simp [fixed_size, strOfNums_size]; omega)) ?_
  show Ev (fun k => (vbi_Two.f k ((bodyOf r).size : Int)).bind fun b => ((sum_Sum.f k 0 b.1).bind fun t => ((sum_Sum.f k t (bodyOf r)).bind fun t2 => ((vbi_Four.f k (wrap64 t2)).bind fun c => (if b.1.size + c.1.size ≤ 9223372036854775807 then (if (b.1 ++ c.1).size + (bodyOf r).size ≤ 9223372036854775807 then (some ((b.1 ++ c.1) ++ bodyOf r, (0 : Int))) else none) else none))))) (recBytes r, 0)
  refine Ev.bind (two_ev ((bodyOf r).size : Int) (by omega) (by omega)) ?_
  refine Ev.bind (sum_ev 0#32 (headOf r) (by omega)) ?_
  refine Ev.bind (sum_ev (~~~ (run (~~~ (0#32)) (headOf r).data.toList)) (bodyOf r) (by omega)) ?_
  have hw : wrap64 ((~~~ (run (~~~ ~~~ (run (~~~ (0#32)) (headOf r).data.toList)) (bodyOf r).data.toList)).toNat : Int) = sumOf (headOf r) (bodyOf r) := by
    rw [BitVec.not_not, ← run_append]
    have e : (headOf r).data.toList ++ (bodyOf r).data.toList = (headOf r ++ bodyOf r).data.toList := by simp [ByteArray.data_append]
    rw [e]
    rw [wrap_in (by have := hs; unfold sumOf at this; omega) (by have := hs; unfold sumOf at this; omega)]; rfl
  rw [hw]
  refine Ev.bind (four_ev (sumOf (headOf r) (bodyOf r)) hs.1 hs.2) ?_
  refine Ev.congr (fun k => if_pos (by rw [fixed_size, fixed_size]; omega)) ?_
  refine Ev.congr (fun k => if_pos (by rw [ByteArray.size_append, fixed_size, fixed_size]; omega)) ?_
  exact Ev.now _
theorem bytes_yes (r : R) (hr : recOk r) : Ev (fun k => rec_Bytes.f k r.f0 r.f1 r.f2 r.f3 r.f4 r.f5) (recBytes r, 0) := by
  refine Ev.bind (check_yes r hr) (Ev.congr (fun k => if_pos rfl) ?_)
  have ht := prog_tail r hr
  rw [← flag_u8 r hr] at ht
  refine Ev.congr (fun k => ?_) ht
  split <;> rfl
theorem bytes_no (r : R) (hr : ¬ recOk r) : Ev (fun k => rec_Bytes.f k r.f0 r.f1 r.f2 r.f3 r.f4 r.f5) (⟨#[]⟩, 1) :=
  Ev.bind (check_no r hr) (Ev.congr (fun k => if_neg (by decide)) (Ev.now _))
end Go.Proofs.Ytmabdfdmccbfnaa.UBytes

/- Numbers read back out of bytes. -/
namespace Go.Proofs.Ytmabdfdmccbfnaa.UTake
open Go Go.RowKit Go.Proofs.Ytmabdfdmccbfnaa.P Go.Proofs.Ytmabdfdmccbfnaa.URec Go.Proofs.Ytmabdfdmccbfnaa.UBytes Go.Proofs.YtmabdfdmccbfnaaW.PrintWords Go.Proofs.YtmabdfdmccbfnaaW.PrintLast
set_option linter.unusedVariables false
set_option linter.unusedSimpArgs false

/-- The number of the first so many bytes. -/
def V (s : ByteArray) : Nat → Nat
  | 0 => 0
  | n + 1 => V s n * 256 + (bt s n).toNat
theorem bt_lt (s : ByteArray) (i : Int) : (bt s i).toNat < 256 ∧ ((bt s i).toNat : Int) = bt s i := by
  have := bt_range s i; omega
theorem V_lt (s : ByteArray) : ∀ n, V s n < 256 ^ n
  | 0 => by simp [V]
  | n + 1 => by
    have h := V_lt s n
    have hb := (bt_lt s n).1
    simp only [V, Nat.pow_succ]
    have : V s n + 1 ≤ 256 ^ n := h
    have h2 := Nat.mul_le_mul_right 256 this
    omega
theorem wrap_of_nat (n : Nat) (h : n < 18446744073709551616) : IntKind.i64.wrap (n : Int) = wrap64 (n : Int) := by rw [IntKind.wrap_i64]; unfold wrap64; rfl
theorem or_byte (x b : Nat) (hx : x < 2 ^ 56) (hb : b < 256) : Go.bits .or .i64 (wrap64 ((x : Int) * 256)) (wrap64 (b : Int)) = wrap64 ((x * 256 + b : Nat) : Int) := by
  have e1 : BitVec.ofInt (IntKind.bits .i64) (wrap64 ((x : Int) * 256)) = BitVec.ofNat 64 (x * 256) := by
    show BitVec.ofInt 64 _ = _
    apply BitVec.eq_of_toNat_eq
    rw [BitVec.toNat_ofInt, BitVec.toNat_ofNat]
    unfold wrap64
    omega
  have e2 : BitVec.ofInt (IntKind.bits .i64) (wrap64 (b : Int)) = BitVec.ofNat 64 b := by
    show BitVec.ofInt 64 _ = _
    apply BitVec.eq_of_toNat_eq
    rw [BitVec.toNat_ofInt, BitVec.toNat_ofNat]
    unfold wrap64
    omega
  unfold Go.bits
  simp only [e1, e2]
  have e3 : (BitVec.ofNat 64 (x * 256) ||| BitVec.ofNat 64 b).toNat = x * 256 + b := by
    rw [BitVec.toNat_or, BitVec.toNat_ofNat, BitVec.toNat_ofNat, Nat.mod_eq_of_lt (by omega), Nat.mod_eq_of_lt (by omega)]
    have := Nat.shiftLeft_add_eq_or_of_lt (i := 8) (b := b) (by omega) x
    rw [Nat.shiftLeft_eq] at this
    exact this.symm
  show IntKind.i64.wrap ((BitVec.ofNat 64 (x * 256) ||| BitVec.ofNat 64 b).toNat : Int) = _
  rw [e3]
  exact wrap_of_nat _ (by omega)
theorem pow_small : ∀ n, n ≤ 7 → (256 : Nat) ^ n ≤ 2 ^ 56 := by
  intro n h
  calc (256 : Nat) ^ n ≤ 256 ^ 7 := Nat.pow_le_pow_right (by omega) h
    _ = 2 ^ 56 := by decide

theorem taken_loop (s : ByteArray) (n : Nat) (hn : n ≤ 8) (hs : n ≤ s.size) : ∀ (d i : Nat), n = i + d →
    Ev (fun k => vbi_taken.l0 k s (wrap64 (V s i : Nat)) n i) (wrap64 (V s n : Nat), 0) ∧ Ev (fun k => fairwayref1_TakeFixed.l0 k s n (wrap64 (V s i : Nat)) i) (wrap64 (V s n : Nat), true)
  | 0, i, h => by
    obtain rfl : n = i := by omega
    refine ⟨Ev.step (f := fun _ => some _) (fun k => ?_) (Ev.now _), Ev.step (f := fun _ => some _) (fun k => ?_) (Ev.now _)⟩
    · simp only [vbi_taken.l0]; rw [if_neg (by omega)]
    · simp only [fairwayref1_TakeFixed.l0]; rw [if_neg (by omega)]
  | d + 1, i, h => by
    obtain ⟨h1, h2⟩ := taken_loop s n hn hs d (i + 1) (by omega)
    have hv := V_lt s i
    have hp := pow_small i (by omega)
    have e : Go.bits .or .i64 (wrap64 (wrap64 ((V s i : Nat) : Int) * 256)) (wrap64 (bt s i)) = wrap64 ((V s (i + 1) : Nat) : Int) := by
      rw [wrap_in (x := ((V s i : Nat) : Int)) (by omega) (by omega), ← (bt_lt s i).2]
      exact or_byte _ _ (by omega) (bt_lt s i).1
    refine ⟨Ev.step (fun k => ?_) h1, Ev.step (fun k => ?_) h2⟩
    · simp only [vbi_taken.l0]; rw [if_pos (by omega), if_pos (by omega), if_pos (by omega), e, wrap_in (x := (i : Int) + 1) (by omega) (by omega)]; rfl
    · simp only [fairwayref1_TakeFixed.l0]; rw [if_pos (by omega), if_pos (by omega), if_pos (by omega), e, wrap_in (x := (i : Int) + 1) (by omega) (by omega)]; rfl
theorem wrap_zero : wrap64 ((0 : Nat) : Int) = 0 := wrap_in (by decide) (by decide)
theorem taken_ev (s : ByteArray) (n : Nat) (hn : n ≤ 8) (hs : n ≤ s.size) : Ev (fun k => vbi_taken.f k s n) (wrap64 (V s n : Nat), 0) := by
  have h := (taken_loop s n hn hs n 0 (by omega)).1
  unfold vbi_taken.f
  refine Ev.congr (fun k => if_neg (by omega)) ?_
  rw [show V s 0 = 0 from rfl, wrap_zero] at h
  exact h
theorem taken_cut (s : ByteArray) (n : Nat) (hs : s.size < n) : Ev (fun k => vbi_taken.f k s n) (0, 7) := by
  unfold vbi_taken.f
  exact Ev.congr (fun k => if_pos (by omega)) (Ev.now _)
theorem takefixed_ev (s : ByteArray) (n : Nat) (hn : n ≤ 8) (hs : n ≤ s.size) : Ev (fun k => fairwayref1_TakeFixed.f k s n) (wrap64 (V s n : Nat), true) := by
  have h := (taken_loop s n hn hs n 0 (by omega)).2
  unfold fairwayref1_TakeFixed.f
  refine Ev.congr (fun k => if_neg (by omega)) ?_
  rw [show V s 0 = 0 from rfl, wrap_zero] at h
  exact h
theorem takefixed_cut (s : ByteArray) (n : Nat) (hs : s.size < n) : Ev (fun k => fairwayref1_TakeFixed.f k s n) (0, false) := by
  unfold fairwayref1_TakeFixed.f
  exact Ev.congr (fun k => if_pos (by omega)) (Ev.now _)
theorem two_in (s : ByteArray) : wrap64 (V s 2 : Nat) = (V s 2 : Nat) ∧ V s 2 < 65536 := by
  have := V_lt s 2
  exact ⟨wrap_in (by omega) (by omega), by omega⟩
theorem four_in (s : ByteArray) : wrap64 (V s 4 : Nat) = (V s 4 : Nat) ∧ V s 4 < 4294967296 := by
  have := V_lt s 4
  exact ⟨wrap_in (by omega) (by omega), by omega⟩
theorem taketwo_ev (s : ByteArray) (hs : 2 ≤ s.size) : Ev (fun k => vbi_TakeTwo.f k s) ((V s 2 : Nat), 0) := by
  have h := taken_ev s 2 (by omega) hs
  rw [(two_in s).1] at h
  exact Ev.bind (g := fun k => vbi_taken.f k s 2) (f := fun _ b => some (b.1, b.2)) h (Ev.now _)
theorem taketwo_cut (s : ByteArray) (hs : s.size < 2) : Ev (fun k => vbi_TakeTwo.f k s) (0, 7) :=
  Ev.bind (g := fun k => vbi_taken.f k s 2) (f := fun _ b => some (b.1, b.2)) (taken_cut s 2 hs) (Ev.now _)
theorem takefour_ev (s : ByteArray) (hs : 4 ≤ s.size) : Ev (fun k => vbi_TakeFour.f k s) ((V s 4 : Nat), 0) := by
  have h := taken_ev s 4 (by omega) hs
  rw [(four_in s).1] at h
  exact Ev.bind (g := fun k => vbi_taken.f k s 4) (f := fun _ b => some (b.1, b.2)) h (Ev.now _)
end Go.Proofs.Ytmabdfdmccbfnaa.UTake

/- What any bytes begin with: the program's reading of a record and the page's are the same. -/
namespace Go.Proofs.Ytmabdfdmccbfnaa.UTk
open Go Go.RowKit Go.Proofs.Ytmabdfdmccbfnaa.P Go.Proofs.Ytmabdfdmccbfnaa.Sq Go.Proofs.Ytmabdfdmccbfnaa.URec Go.Proofs.Ytmabdfdmccbfnaa.UBytes Go.Proofs.Ytmabdfdmccbfnaa.USum Go.Proofs.Ytmabdfdmccbfnaa.UTake Go.Proofs.YtmabdfdmccbfnaaW.PrintWords Go.Proofs.YtmabdfdmccbfnaaW.PrintLast
set_option linter.unusedVariables false
set_option linter.unusedSimpArgs false

theorem bt_ext (s : ByteArray) (a b i : Nat) (hb : b ≤ s.size) (h : a + i < b) : bt (s.extract a b) i = bt s ((a + i : Nat) : Int) := by
  have hx : i < (s.extract a b).size := by rw [ByteArray.size_extract]; omega
  rw [bt_get _ i hx, bt_get s (a + i) (by omega)]
  congr 2
  simp only [ByteArray.data_extract, Array.toList_extract, List.extract_eq_take_drop]
  rw [List.getElem_take, List.getElem_drop]
theorem V_add (s : ByteArray) (a : Nat) : ∀ n, a + n ≤ s.size → V s (a + n) = V s a * 256 ^ n + V (s.extract a s.size) n
  | 0, _ => by simp [V]
  | n + 1, h => by
    have ih := V_add s a n (by omega)
    have hb := bt_ext s a s.size n (Nat.le_refl _) (by omega)
    show V s (a + n) * 256 + (bt s ((a + n : Nat) : Int)).toNat = V s a * 256 ^ (n + 1) + (V (s.extract a s.size) n * 256 + (bt (s.extract a s.size) (n : Nat)).toNat)
    rw [ih, hb, Nat.pow_succ, Nat.add_mul, Nat.mul_assoc, Nat.add_assoc]
theorem V_one (s : ByteArray) : V s 1 = (bt s 0).toNat := by
  show 0 * 256 + (bt s ((0 : Nat) : Int)).toNat = (bt s 0).toNat
  rw [Nat.zero_mul, Nat.zero_add]; rfl
attribute [local irreducible] bt V ByteArray.extract Go.bits
theorem V_high (s : ByteArray) (h : 8 ≤ s.size) : (bt s 0 ≤ 127 → V s 8 < 9223372036854775808) ∧ (127 < bt s 0 → 9223372036854775808 ≤ V s 8) ∧ V s 8 < 18446744073709551616 := by
  have e := V_add s 1 7 (by omega)
  have e1 : V s 1 = (bt s 0).toNat := by
    rw [V_one]
  have l := V_lt (s.extract 1 s.size) 7
  have l2 := V_lt s 8
  have b0 := bt_lt s 0
  rw [e1] at e
  have hp : (256 : Nat) ^ 7 = 72057594037927936 := by rfl
  have hp8 : (256 : Nat) ^ 8 = 18446744073709551616 := by rfl
  rw [hp] at e l
  rw [hp8] at l2
  simp only [show 1 + 7 = 8 from rfl] at e
  refine ⟨fun g => ?_, fun g => ?_, l2⟩ <;> omega
theorem number_ev (s : ByteArray) (h : 8 ≤ s.size) (h0 : bt s 0 ≤ 127) : Ev (fun k => rec_number.f k s) (wrap64 (V s 8 : Nat)) := by
  have hV := (V_high s h).1 h0
  have e := V_add s 4 4 (by omega)
  have hp : (256 : Nat) ^ 4 = 4294967296 := by rfl
  simp only [show 4 + 4 = 8 from rfl, hp] at e
  have l1 := V_lt s 4
  have l2 := V_lt (s.extract 4 s.size) 4
  rw [hp] at l1 l2
  have hsz : (s.extract 4 s.size).size = s.size - 4 := by rw [ByteArray.size_extract]; omega
  refine Ev.bind (takefour_ev s (by omega)) (Ev.congr (fun k => if_pos (by omega)) (Ev.bind (takefour_ev _ (by omega)) (Ev.congr (f := fun _ => some (wrap64 (V s 8 : Nat))) (fun k => ?_) (Ev.now _))))
  rw [wrap_in (x := ((V s 4 : Nat) : Int) * 4294967296) (by omega) (by omega), wrap_in (x := ((V s 8 : Nat) : Int)) (by omega) (by omega)]
  congr 1
  rw [bits_join .i64 63 (by decide) (fun n h0 h1 => by rw [IntKind.wrap_i64]; omega) 32 (((V s 4 : Nat) : Int) * 4294967296) ((V (s.extract 4 s.size) 4 : Nat) : Int) (by omega) (by omega) (by omega) (by omega) (by omega) (by omega)]
  omega

/-! ### a body -/
def keyLen (b : ByteArray) : Nat := V (b.extract 17 b.size) 2
def rcOf (b : ByteArray) : R := ⟨wrap64 (V b 8 : Nat), wrap64 (V (b.extract 8 b.size) 8 : Nat), b.extract 19 (19 + keyLen b), b.extract (19 + keyLen b) b.size, bt b 16 % 4, decide (bt b 16 ≥ 4)⟩
theorem rd0 (b : ByteArray) : (rcOf b).f0 = wrap64 (V b 8 : Nat) := by simp only [rcOf]
theorem rd1 (b : ByteArray) : (rcOf b).f1 = wrap64 (V (b.extract 8 b.size) 8 : Nat) := by simp only [rcOf]
theorem rd2 (b : ByteArray) : (rcOf b).f2 = b.extract 19 (19 + keyLen b) := by simp only [rcOf]
theorem rd3 (b : ByteArray) : (rcOf b).f3 = b.extract (19 + keyLen b) b.size := by simp only [rcOf]
theorem rd4 (b : ByteArray) : (rcOf b).f4 = bt b 16 % 4 := by simp only [rcOf]
theorem rd5 (b : ByteArray) : (rcOf b).f5 = decide (bt b 16 ≥ 4) := by simp only [rcOf]
theorem keyLen_lt (b : ByteArray) : keyLen b < 65536 := (two_in _).2
theorem keyLen_ev (b : ByteArray) (h : 2 ≤ (b.extract 17 b.size).size) : Ev (fun k => vbi_TakeTwo.f k (b.extract 17 b.size)) (((keyLen b : Nat) : Int), 0) := taketwo_ev _ h
attribute [local irreducible] keyLen rcOf
def good (b : ByteArray) : Prop := 19 ≤ b.size ∧ bt b 16 ≤ 7 ∧ keyLen b ≤ b.size - 19 ∧ recOk (rcOf b)
theorem and34 : ∀ n : Nat, n < 8 → Go.bits .and .u8 (n : Int) 3 = (n : Int) % 4 ∧ decide (Go.bits .and .u8 (n : Int) 4 > 0) = decide ((n : Int) ≥ 4) := by decide +kernel
theorem bits16 (b : ByteArray) (h : bt b 16 ≤ 7) : wrap64 (Go.bits .and .u8 (bt b 16) 3) = bt b 16 % 4 ∧ decide (Go.bits .and .u8 (bt b 16) 4 > 0) = decide (bt b 16 ≥ 4) := by
  have hb := bt_lt b 16
  obtain ⟨h1, h2⟩ := and34 (bt b 16).toNat (by omega)
  rw [hb.2] at h1 h2
  rw [h1, wrap_in (by omega) (by omega)]
  exact ⟨rfl, h2⟩
theorem ext8 (b : ByteArray) (h : 19 ≤ b.size) : (b.extract 8 b.size).size = b.size - 8 ∧ bt (b.extract 8 b.size) 0 = bt b 8 :=
  ⟨by rw [ByteArray.size_extract]; omega, bt_ext b 8 b.size 0 (Nat.le_refl _) (by omega)⟩
theorem zeros_ev (b : ByteArray) (n : Int) : Ev (fun k => rec_read.j0 k b n true 0 0 ⟨#[]⟩ ⟨#[]⟩ 0 false) (0, 0, ⟨#[]⟩, ⟨#[]⟩, 0, false, false) := by
  refine Ev.step (f := fun _ => some _) (fun k => ?_) (Ev.now _)
  simp only [rec_read.j0]; rw [if_pos trivial]
/-- What is done behind the key's length. -/
def rest (k : Nat) (b : ByteArray) (n : Int) : Option (Int × Int × ByteArray × ByteArray × Int × Bool × Bool) :=
  if (bt b 16) > 7 then (rec_read.j0 k b n true 0 0 (⟨#[]⟩ : ByteArray) (⟨#[]⟩ : ByteArray) 0 false) else (if n > (wrap64 ((b.size : Int) - 19)) then (rec_read.j0 k b n true 0 0 (⟨#[]⟩ : ByteArray) (⟨#[]⟩ : ByteArray) 0 false) else (if 0 < (b.size : Int) then (if (bt b 0) > 127 then (rec_read.j0 k b n true 0 0 (⟨#[]⟩ : ByteArray) (⟨#[]⟩ : ByteArray) 0 false) else (if 8 < (b.size : Int) then (rec_read.j0 k b n (decide ((bt b 8) > 127)) 0 0 (⟨#[]⟩ : ByteArray) (⟨#[]⟩ : ByteArray) 0 false) else (none))) else (none)))
theorem open_ev (b : ByteArray) (h : 19 ≤ b.size) {r} (hr : Ev (fun k => rest k b ((keyLen b : Nat) : Int)) r) : Ev (fun k => rec_read.f k b) r := by
  have hx17 : (b.extract 17 b.size).size = b.size - 17 := by rw [ByteArray.size_extract]; omega
  have t1 : Ev (fun k => vbi_TakeTwo.f k (b.extract 17 b.size)) (((keyLen b : Nat) : Int), 0) := keyLen_ev b (by omega)
  have e1 : ¬ (b.size : Int) < 19 := by omega
  have e2 : 17 ≤ (b.size : Int) := by omega
  have e3 : 16 < (b.size : Int) := by omega
  unfold rec_read.f
  refine Ev.congr (fun k => by rw [if_neg e1, if_pos e2]) (Ev.bind t1 (Ev.congr (fun k => if_pos e3) ?_))
  unfold rest at hr
  exact hr
theorem arith (n kl : Nat) (h : 19 ≤ n) (hs : n ≤ 140737488351232) (d2 : kl ≤ n - 19) (hk : kl < 65536) : wrap64 ((n : Int) - 19) = ((n - 19 : Nat) : Int) ∧ wrap64 (19 + (kl : Int)) = ((19 + kl : Nat) : Int) ∧ ¬ (kl : Int) > ((n - 19 : Nat) : Int) ∧ 0 < (n : Int) ∧ 8 < (n : Int) ∧ 8 ≤ (n : Int) ∧
    19 ≤ ((19 + kl : Nat) : Int) ∧ ((19 + kl : Nat) : Int) ≤ (n : Int) ∧ 0 ≤ ((19 + kl : Nat) : Int) ∧ 16 < (n : Int) ∧ 8 ≤ n ∧ 8 ≤ n - 8 := by
  refine ⟨?_, ?_, by omega, by omega, by omega, by omega, by omega, by omega, by omega, by omega, by omega, by omega⟩
  · rw [wrap_in (by omega) (by omega)]; omega
  · rw [wrap_in (by omega) (by omega)]; omega
theorem rest_main (b : ByteArray) (h : 19 ≤ b.size) (hs : b.size ≤ 140737488351232) (d1 : bt b 16 ≤ 7) (d2 : keyLen b ≤ b.size - 19) (d3 : bt b 0 ≤ 127) (d4 : bt b 8 ≤ 127) {t : Int}
    (ht : Ev (fun k => rec_Check.f k (rcOf b).f0 (rcOf b).f1 (rcOf b).f2 (rcOf b).f3 (rcOf b).f4 (rcOf b).f5) t) :
    Ev (fun k => rest k b ((keyLen b : Nat) : Int)) ((rcOf b).f0, (rcOf b).f1, (rcOf b).f2, (rcOf b).f3, (rcOf b).f4, (rcOf b).f5, (t == 0)) := by
  obtain ⟨hx8, hx80⟩ := ext8 b h
  obtain ⟨w1, w2, e2, e3, e5, e7, e8, e9, e10, e11, q1, q2⟩ := arith b.size (keyLen b) h hs d2 (keyLen_lt b)
  have n1 := number_ev b q1 d3
  have n2 := number_ev (b.extract 8 b.size) (by rw [hx8]; exact q2) (by rw [hx80]; exact d4)
  obtain ⟨b1, b2⟩ := bits16 b d1
  rw [rd0, rd1, rd2, rd3, rd4, rd5] at ht
  rw [rd0, rd1, rd2, rd3, rd4, rd5]
  have e1 : ¬ bt b 16 > 7 := Int.not_lt.2 d1
  have e4 : ¬ bt b 0 > 127 := Int.not_lt.2 d3
  have e6 : decide (bt b 8 > 127) = false := decide_eq_false (Int.not_lt.2 d4)
  refine Ev.congr (f := fun k => rec_read.j0 k b ((keyLen b : Nat) : Int) false 0 0 (⟨#[]⟩ : ByteArray) (⟨#[]⟩ : ByteArray) 0 false) (fun k => ?_) ?_
  · unfold rest
    rw [w1, if_neg e1, if_neg e2, if_pos e3, if_neg e4, if_pos e5, e6]
  refine Ev.step (fun k => by rw [rec_read.j0, if_neg (by decide)]) ?_
  refine Ev.bind n1 (Ev.congr (fun k => if_pos e7) (Ev.bind n2 ?_))
  refine Ev.congr (fun k => by rw [w2, if_pos e8, if_pos e9, if_pos e10, if_pos e11, Int.toNat_natCast, b1, b2]) ?_
  exact Ev.bind ht (Ev.now _)
theorem high_neg (s : ByteArray) (h : 8 ≤ s.size) (hb : 127 < bt s 0) : wrap64 (V s 8 : Nat) < 0 := by
  obtain ⟨a1, a2, a3⟩ := V_high s h
  have a4 := a2 hb
  generalize V s 8 = v at *
  unfold wrap64; omega
theorem read_yes (b : ByteArray) (hs : b.size ≤ 140737488351232) (h : good b) : Ev (fun k => rec_read.f k b) ((rcOf b).f0, (rcOf b).f1, (rcOf b).f2, (rcOf b).f3, (rcOf b).f4, (rcOf b).f5, true) := by
  obtain ⟨h1, h2, h3, h4⟩ := h
  obtain ⟨hx8, hx80⟩ := ext8 b h1
  refine open_ev b h1 (rest_main b h1 hs h2 h3 ?_ ?_ (check_yes _ h4))
  · by_cases d : bt b 0 ≤ 127
    · exact d
    · have := high_neg b (by omega) (by omega)
      have h0 := h4.1
      rw [rd0] at h0
      omega
  · by_cases d : bt b 8 ≤ 127
    · exact d
    · have := high_neg (b.extract 8 b.size) (by omega) (by rw [hx80]; omega)
      have h0 := h4.2.2.1
      rw [rd1] at h0
      omega
theorem read_no (b : ByteArray) (hs : b.size ≤ 140737488351232) (h : ¬ good b) : ∃ x : R, Ev (fun k => rec_read.f k b) (x.f0, x.f1, x.f2, x.f3, x.f4, x.f5, false) := by
  by_cases c1 : b.size < 19
  · refine ⟨⟨0, 0, ⟨#[]⟩, ⟨#[]⟩, 0, false⟩, ?_⟩
    unfold rec_read.f
    exact Ev.congr (fun k => if_pos (by omega)) (Ev.now _)
  have h1 : 19 ≤ b.size := by omega
  have e3 : 0 < (b.size : Int) := by omega
  have e5 : 8 < (b.size : Int) := by omega
  by_cases d1 : bt b 16 > 7
  · exact ⟨⟨0, 0, ⟨#[]⟩, ⟨#[]⟩, 0, false⟩, open_ev b h1 (Ev.congr (fun k => if_pos d1) (zeros_ev _ _))⟩
  by_cases d2 : ((keyLen b : Nat) : Int) > wrap64 ((b.size : Int) - 19)
  · exact ⟨⟨0, 0, ⟨#[]⟩, ⟨#[]⟩, 0, false⟩, open_ev b h1 (Ev.congr (fun k => by unfold rest; rw [if_neg d1, if_pos d2]) (zeros_ev _ _))⟩
  by_cases d3 : bt b 0 > 127
  · exact ⟨⟨0, 0, ⟨#[]⟩, ⟨#[]⟩, 0, false⟩, open_ev b h1 (Ev.congr (fun k => by unfold rest; rw [if_neg d1, if_neg d2, if_pos e3, if_pos d3]) (zeros_ev _ _))⟩
  by_cases d4 : bt b 8 > 127
  · exact ⟨⟨0, 0, ⟨#[]⟩, ⟨#[]⟩, 0, false⟩, open_ev b h1 (Ev.congr (fun k => by unfold rest; rw [if_neg d1, if_neg d2, if_pos e3, if_neg d3, if_pos e5, decide_eq_true d4]) (zeros_ev _ _))⟩
  have hkl : keyLen b ≤ b.size - 19 := by rw [wrap_in (by omega) (by omega)] at d2; omega
  have hr : ¬ recOk (rcOf b) := fun g => h ⟨h1, by omega, hkl, g⟩
  exact ⟨rcOf b, open_ev b h1 (rest_main b h1 hs (by omega) hkl (by omega) (by omega) (check_no _ hr))⟩

/-! ### the record at the front -/
def bodyAt (s : ByteArray) : ByteArray := s.extract 6 (6 + V s 2)
def sumAt (s : ByteArray) : Nat := V (s.extract 2 s.size) 4
theorem sumAt_lt (s : ByteArray) : sumAt s < 4294967296 := (four_in _).2
theorem sumAt_ev (s : ByteArray) (h : 4 ≤ (s.extract 2 s.size).size) : Ev (fun k => vbi_TakeFour.f k (s.extract 2 s.size)) (((sumAt s : Nat) : Int), 0) := takefour_ev _ h
theorem sumAt_ev2 (s : ByteArray) (h : 4 ≤ (s.extract 2 s.size).size) : Ev (fun k => fairwayref1_TakeFixed.f k (s.extract 2 s.size) 4) (((sumAt s : Nat) : Int), true) := by
  have := takefixed_ev (s.extract 2 s.size) 4 (by decide) h
  rw [(four_in _).1] at this
  exact this
theorem len_ev2 (s : ByteArray) (h : 2 ≤ s.size) : Ev (fun k => fairwayref1_TakeFixed.f k s 2) (((V s 2 : Nat) : Int), true) := by
  have := takefixed_ev s 2 (by decide) h
  rw [(two_in _).1] at this
  exact this
theorem bodyAt_eq (s : ByteArray) : s.extract 6 (((6 + V s 2 : Nat) : Int)).toNat = bodyAt s := by rw [Int.toNat_natCast]; rfl
theorem bodyAt_size (s : ByteArray) (h : 6 ≤ s.size) (hv : V s 2 ≤ s.size - 6) : (bodyAt s).size = V s 2 := by
  unfold bodyAt
  rw [ByteArray.size_extract]
  generalize V s 2 = v at *
  generalize s.size = n at *
  omega
theorem V2_lt (s : ByteArray) : V s 2 < 65536 := (two_in s).2
theorem ext_size (s : ByteArray) (a : Nat) (h : a ≤ s.size) : (s.extract a s.size).size = s.size - a := by rw [ByteArray.size_extract]; generalize s.size = n at *; omega
theorem ext_size0 (s : ByteArray) (h : 2 ≤ s.size) : (s.extract 0 2).size = 2 := by rw [ByteArray.size_extract]; generalize s.size = n at *; omega
attribute [local irreducible] bodyAt sumAt sumOf
def takeOk (s : ByteArray) : Prop := good (bodyAt s) ∧ sumOf (s.extract 0 2) (bodyAt s) = (sumAt s : Int)
theorem arith6 (n v : Nat) (h : 6 ≤ n) (hs : n ≤ 140737488351232) (hv : v ≤ n - 6) (hk : v < 65536) : wrap64 ((n : Int) - 6) = ((n - 6 : Nat) : Int) ∧ ¬ (n : Int) < 6 ∧ ¬ ((n - 6 : Nat) : Int) < (v : Int) ∧ 2 ≤ (n : Int) ∧ wrap64 (6 + (v : Int)) = ((6 + v : Nat) : Int) ∧
    6 ≤ ((6 + v : Nat) : Int) ∧ ((6 + v : Nat) : Int) ≤ (n : Int) ∧ 2 ≤ n ∧ 4 ≤ n - 2 ∧ v ≤ 140737488351232 ∧ 2 + v ≤ 9223372036854775807 ∧ 2 + v ≤ 140737488351232 := by
  refine ⟨?_, by omega, by omega, by omega, ?_, by omega, by omega, by omega, by omega, by omega, by omega, by omega⟩
  · rw [wrap_in (by omega) (by omega)]; omega
  · rw [wrap_in (by omega) (by omega)]; omega
theorem arith6' (n v : Nat) (h : 6 ≤ n) (hs : n ≤ 140737488351232) (hv : n - 6 < v) : ¬ (n : Int) < 6 ∧ wrap64 ((n : Int) - 6) < (v : Int) ∧ 2 ≤ n := by
  refine ⟨by omega, ?_, by omega⟩
  rw [wrap_in (by omega) (by omega)]; omega
theorem tj0_true (s : ByteArray) (n : Int) : Ev (fun k => rec_Take.j0 k s n true 0 0 ⟨#[]⟩ ⟨#[]⟩ 0 false) (0, 0, ⟨#[]⟩, ⟨#[]⟩, 0, false, 0, 7) := by
  refine Ev.step (f := fun _ => some _) (fun k => ?_) (Ev.now _)
  rw [rec_Take.j0, if_pos rfl]
theorem take_cut (s : ByteArray) (hs : s.size ≤ 140737488351232) (h : s.size < 6 ∨ s.size - 6 < V s 2) :
    Ev (fun k => rec_Take.f k s) (0, 0, ⟨#[]⟩, ⟨#[]⟩, 0, false, 0, 7) ∧ Ev (fun k => fairwayref10_Take.f k s) (0, 0, ⟨#[]⟩, ⟨#[]⟩, 0, false, 0, 7) := by
  by_cases h6 : s.size < 6
  · have e1 : (s.size : Int) < 6 := by generalize s.size = n at *; omega
    refine ⟨?_, ?_⟩
    · by_cases h2 : s.size < 2
      · exact Ev.bind (taketwo_cut s h2) (Ev.congr (fun k => if_pos e1) (tj0_true _ _))
      · exact Ev.bind (taketwo_ev s (Nat.le_of_not_lt h2)) (Ev.congr (fun k => if_pos e1) (tj0_true _ _))
    · unfold fairwayref10_Take.f
      exact Ev.congr (fun k => if_pos e1) (Ev.now _)
  · have hv := h.resolve_left h6
    obtain ⟨e1, e2, e3⟩ := arith6' s.size (V s 2) (Nat.le_of_not_lt h6) hs hv
    refine ⟨?_, ?_⟩
    · exact Ev.bind (taketwo_ev s e3) (Ev.congr (fun k => by rw [if_neg e1, decide_eq_true e2]) (tj0_true _ _))
    · unfold fairwayref10_Take.f
      exact Ev.congr (fun k => if_neg e1) (Ev.bind (len_ev2 s e3) (Ev.congr (fun k => if_pos e2) (Ev.now _)))

theorem sum_both (h b : ByteArray) (hh : h.size ≤ 140737488351232) (hb : b.size ≤ 140737488351232) : ∃ t : Int, Ev (fun k => sum_Sum.f k 0 h) t ∧ Ev (fun k => sum_Sum.f k t b) (sumOf h b) := by
  refine ⟨_, sum_ev 0#32 h hh, ?_⟩
  have := sum_ev (~~~ (run (~~~ (0#32)) h.data.toList)) b hb
  rw [BitVec.not_not, ← run_append] at this
  have e : h.data.toList ++ b.data.toList = (h ++ b).data.toList := by simp [ByteArray.data_append]
  rw [e] at this
  unfold sumOf
  exact this
theorem sum_ref (h b : ByteArray) (hh : h.size + b.size ≤ 140737488351232) : Ev (fun k => fairwayref1_Sum.f k 0 (h ++ b)) (sumOf h b) := by
  have := sumref_ev 0#32 (h ++ b) (by rw [ByteArray.size_append]; exact hh)
  unfold sumOf
  exact this
theorem take_prog (s : ByteArray) (hs : s.size ≤ 140737488351232) (h6 : 6 ≤ s.size) (hv : V s 2 ≤ s.size - 6) :
    (takeOk s → Ev (fun k => rec_Take.f k s) ((rcOf (bodyAt s)).f0, (rcOf (bodyAt s)).f1, (rcOf (bodyAt s)).f2, (rcOf (bodyAt s)).f3, (rcOf (bodyAt s)).f4, (rcOf (bodyAt s)).f5, ((6 + V s 2 : Nat) : Int), 0)) ∧
    (¬ takeOk s → Ev (fun k => rec_Take.f k s) (0, 0, ⟨#[]⟩, ⟨#[]⟩, 0, false, 0, 8)) := by
  obtain ⟨w1, e1, e2, e3, w2, e4, e5, e6, e7, e8, e9, e10⟩ := arith6 s.size (V s 2) h6 hs hv (V2_lt s)
  have hbs := bodyAt_size s h6 hv
  have hb : (bodyAt s).size ≤ 140737488351232 := by rw [hbs]; exact e8
  have hx2 := ext_size s 2 e6
  have hh := ext_size0 s e6
  obtain ⟨t, t1, t2⟩ := sum_both (s.extract 0 2) (bodyAt s) (by rw [hh]; decide) hb
  have hin := sumOf_in (s.extract 0 2) (bodyAt s)
  have ws : wrap64 (sumOf (s.extract 0 2) (bodyAt s)) = sumOf (s.extract 0 2) (bodyAt s) := by
    generalize sumOf (s.extract 0 2) (bodyAt s) = z at hin
    exact wrap_in (by omega) (by omega)
  have start : ∀ {r}, Ev (fun k => (rec_read.f k (bodyAt s)).bind fun bt148 => (if bt148.2.2.2.2.2.2 = true then (if 0 ≤ 2 then ((sum_Sum.f k 0 (s.extract 0 2)).bind fun t155 => ((sum_Sum.f k t155 (bodyAt s)).bind fun t156 => (if (wrap64 (t156)) = (sumAt s : Int) then (some (bt148.1, bt148.2.1, bt148.2.2.1, bt148.2.2.2.1, bt148.2.2.2.2.1, bt148.2.2.2.2.2.1, ((6 + V s 2 : Nat) : Int), 0)) else (some (0, 0, (⟨#[]⟩ : ByteArray), (⟨#[]⟩ : ByteArray), 0, false, 0, 8))))) else (none)) else (some (0, 0, (⟨#[]⟩ : ByteArray), (⟨#[]⟩ : ByteArray), 0, false, 0, 8)))) r → Ev (fun k => rec_Take.f k s) r := by
    intro r hr
    refine Ev.bind (taketwo_ev s e6) (Ev.congr (fun k => by rw [if_neg e1, w1, decide_eq_false e2]) ?_)
    refine Ev.step (fun k => by rw [rec_Take.j0, if_neg (by decide), if_pos e3]) ?_
    refine Ev.bind (sumAt_ev s (by rw [hx2]; exact e7)) ?_
    refine Ev.congr (fun k => by rw [w2, if_pos e4, if_pos e5, bodyAt_eq]) ?_
    exact hr
  have c0 : (0 : Int) ≤ 2 := by decide
  refine ⟨fun hk => start ?_, fun hk => ?_⟩
  · refine Ev.bind (read_yes _ hb hk.1) (Ev.congr (fun k => by rw [if_pos rfl, if_pos (by decide)]) (Ev.bind t1 (Ev.bind t2 (Ev.congr (fun k => if_pos ?_) (Ev.now _)))))
    rw [ws]; exact hk.2
  · by_cases hg : good (bodyAt s)
    · refine start (Ev.bind (read_yes _ hb hg) (Ev.congr (fun k => by rw [if_pos rfl, if_pos (by decide)]) (Ev.bind t1 (Ev.bind t2 (Ev.congr (fun k => if_neg ?_) (Ev.now _))))))
      rw [ws]; exact fun g => hk ⟨hg, g⟩
    · obtain ⟨x, hx⟩ := read_no _ hb hg
      exact start (Ev.bind hx (Ev.congr (fun k => if_neg Bool.false_ne_true) (Ev.now _)))

theorem rj0_true (n : Int) (b : ByteArray) : Ev (fun k => fairwayref10_Take.j0 k n b true 0 0 ⟨#[]⟩ ⟨#[]⟩ 0 false) (0, 0, ⟨#[]⟩, ⟨#[]⟩, 0, false, 0, 8) := by
  refine Ev.step (f := fun _ => some _) (fun k => ?_) (Ev.now _)
  rw [fairwayref10_Take.j0, if_pos rfl]
theorem rj1_true (n : Int) (b : ByteArray) (f y : Int) (p q : Int) : Ev (fun k => fairwayref10_Take.j1 k n b f y true 0 0 ⟨#[]⟩ ⟨#[]⟩ 0 false p q ⟨#[]⟩ ⟨#[]⟩ 0 false) (0, 0, ⟨#[]⟩, ⟨#[]⟩, 0, false, 0, 8) := by
  refine Ev.step (f := fun _ => some _) (fun k => ?_) (Ev.now _)
  rw [fairwayref10_Take.j1, if_pos rfl]
theorem fix8_ev (b : ByteArray) (h : 8 ≤ b.size) : Ev (fun k => fairwayref1_TakeFixed.f k b 8) (wrap64 (V b 8 : Nat), true) := takefixed_ev b 8 (by decide) h
theorem key_ev2 (b : ByteArray) (h : 2 ≤ (b.extract 17 b.size).size) : Ev (fun k => fairwayref1_TakeFixed.f k (b.extract 17 b.size) 2) (((keyLen b : Nat) : Int), true) := by
  unfold keyLen
  exact len_ev2 _ h
theorem bt16 (b : ByteArray) : wrap64 (bt b 16) = bt b 16 ∧ Int.tmod (bt b 16) 4 = bt b 16 % 4 := by
  obtain ⟨h1, h2⟩ := bt_range b 16
  generalize bt b 16 = z at *
  exact ⟨wrap_in (by omega) (by omega), Int.tmod_eq_emod_of_nonneg (by omega)⟩
theorem take_tail (b : ByteArray) (hs : b.size ≤ 140737488351232) (h : 19 ≤ b.size) :
    (good b → Ev (fun k => fairwayref10_Take.j0 k (b.size : Int) b false 0 0 ⟨#[]⟩ ⟨#[]⟩ 0 false) ((rcOf b).f0, (rcOf b).f1, (rcOf b).f2, (rcOf b).f3, (rcOf b).f4, (rcOf b).f5, wrap64 (6 + (b.size : Int)), 0)) ∧
    (¬ good b → Ev (fun k => fairwayref10_Take.j0 k (b.size : Int) b false 0 0 ⟨#[]⟩ ⟨#[]⟩ 0 false) (0, 0, ⟨#[]⟩, ⟨#[]⟩, 0, false, 0, 8)) := by
  obtain ⟨hx8, hx80⟩ := ext8 b h
  have hx17 := ext_size b 17 (Nat.le_trans (by decide) h)
  obtain ⟨g1, g2, g3, g4, g5, g6⟩ : 8 ≤ b.size ∧ 8 ≤ (b.size : Int) ∧ 16 < (b.size : Int) ∧ 17 ≤ (b.size : Int) ∧ 8 ≤ b.size - 8 ∧ 2 ≤ b.size - 17 := by
    generalize b.size = n at *; exact ⟨by omega, by omega, by omega, by omega, by omega, by omega⟩
  obtain ⟨bw, bm⟩ := bt16 b
  have start : ∀ {r}, Ev (fun k => (if bt b 16 > 7 then (fairwayref10_Take.j1 k (b.size : Int) b (bt b 16) (keyLen b : Int) true 0 0 ⟨#[]⟩ ⟨#[]⟩ 0 false (wrap64 (V b 8 : Nat)) (wrap64 (V (b.extract 8 b.size) 8 : Nat)) (⟨#[]⟩ : ByteArray) (⟨#[]⟩ : ByteArray) 0 false) else (fairwayref10_Take.j1 k (b.size : Int) b (bt b 16) (keyLen b : Int) (decide ((keyLen b : Int) > (wrap64 ((b.size : Int) - 19)))) 0 0 ⟨#[]⟩ ⟨#[]⟩ 0 false (wrap64 (V b 8 : Nat)) (wrap64 (V (b.extract 8 b.size) 8 : Nat)) (⟨#[]⟩ : ByteArray) (⟨#[]⟩ : ByteArray) 0 false))) r →
      Ev (fun k => fairwayref10_Take.j0 k (b.size : Int) b false 0 0 ⟨#[]⟩ ⟨#[]⟩ 0 false) r := by
    intro r hr
    refine Ev.step (fun k => by rw [fairwayref10_Take.j0, if_neg (by decide)]) ?_
    unfold xt
    refine Ev.bind (fix8_ev b g1) (Ev.congr (fun k => if_pos g2) (Ev.bind (fix8_ev _ (by rw [hx8]; exact g5)) (Ev.congr (fun k => by rw [if_pos g3, if_pos g4]) (Ev.bind (key_ev2 b (by rw [hx17]; exact g6)) ?_))))
    refine Ev.congr (fun k => by rw [bw]) ?_
    exact hr
  by_cases d1 : bt b 16 > 7
  · exact ⟨fun g => absurd g.2.1 (Int.not_le.2 d1), fun _ => start (Ev.congr (fun k => if_pos d1) (rj1_true _ _ _ _ _ _))⟩
  by_cases d2 : keyLen b ≤ b.size - 19
  · obtain ⟨w1, w2, e2, e3, e5, e7, e8, e9, e10, e11, q1, q2⟩ := arith b.size (keyLen b) h hs d2 (keyLen_lt b)
    have mid : ∀ {r}, Ev (fun k => (fairwayref10_Rec.f (rcOf b).f0 (rcOf b).f1 (rcOf b).f2 (rcOf b).f3 (rcOf b).f4 (rcOf b).f5).bind fun t264 => (if t264 = true then (some ((rcOf b).f0, (rcOf b).f1, (rcOf b).f2, (rcOf b).f3, (rcOf b).f4, (rcOf b).f5, wrap64 (6 + (b.size : Int)), 0)) else (some (0, 0, (⟨#[]⟩ : ByteArray), (⟨#[]⟩ : ByteArray), 0, false, 0, 8)))) r → Ev (fun k => fairwayref10_Take.j0 k (b.size : Int) b false 0 0 ⟨#[]⟩ ⟨#[]⟩ 0 false) r := by
      intro r hr
      refine start (Ev.congr (fun k => by rw [if_neg d1, w1, decide_eq_false e2]) ?_)
      refine Ev.step (fun k => by rw [fairwayref10_Take.j1, if_neg (by decide)]) ?_
      unfold xt
      rw [rd0, rd1, rd2, rd3, rd4, rd5] at hr
      refine Ev.congr (fun k => by rw [w2, if_pos e8, if_pos e9, if_pos e10, Int.toNat_natCast, bm]) ?_
      exact hr
    refine ⟨fun g => mid ?_, fun g => mid ?_⟩
    · rw [rec_yes _ g.2.2.2]; exact Ev.now _
    · rw [rec_no _ (fun hr => g ⟨h, Int.not_lt.1 d1, d2, hr⟩)]; exact Ev.now _
  · have e2 : (keyLen b : Int) > wrap64 ((b.size : Int) - 19) := by
      generalize keyLen b = kl at *
      generalize b.size = n at *
      rw [wrap_in (by omega) (by omega)]; omega
    exact ⟨fun g => absurd g.2.2.1 d2, fun _ => start (Ev.congr (fun k => by rw [if_neg d1, decide_eq_true e2]) (rj1_true _ _ _ _ _ _))⟩
theorem lt19 (v : Nat) : (v < 19 → (v : Int) < 19) ∧ (¬ v < 19 → ¬ (v : Int) < 19) := ⟨by omega, by omega⟩
theorem gt19 (n kl : Nat) (h : 19 ≤ n) (hs : n ≤ 140737488351232) (d2 : ¬ kl ≤ n - 19) : (kl : Int) > wrap64 ((n : Int) - 19) := by
  rw [wrap_in (by omega) (by omega)]; omega
theorem take_ref (s : ByteArray) (hs : s.size ≤ 140737488351232) (h6 : 6 ≤ s.size) (hv : V s 2 ≤ s.size - 6) :
    (takeOk s → Ev (fun k => fairwayref10_Take.f k s) ((rcOf (bodyAt s)).f0, (rcOf (bodyAt s)).f1, (rcOf (bodyAt s)).f2, (rcOf (bodyAt s)).f3, (rcOf (bodyAt s)).f4, (rcOf (bodyAt s)).f5, ((6 + V s 2 : Nat) : Int), 0)) ∧
    (¬ takeOk s → Ev (fun k => fairwayref10_Take.f k s) (0, 0, ⟨#[]⟩, ⟨#[]⟩, 0, false, 0, 8)) := by
  obtain ⟨w1, e1, e2, e3, w2, e4, e5, e6, e7, e8, e9, e10⟩ := arith6 s.size (V s 2) h6 hs hv (V2_lt s)
  have hbs := bodyAt_size s h6 hv
  have hb : (bodyAt s).size ≤ 140737488351232 := by rw [hbs]; exact e8
  have hx2 := ext_size s 2 e6
  have hh := ext_size0 s e6
  have t1 := sum_ref (s.extract 0 2) (bodyAt s) (by rw [hh, hbs]; exact e10)
  have hm : ((sumAt s : Nat) : Int) % 4294967296 = (sumAt s : Int) := by
    have := sumAt_lt s
    generalize sumAt s = z at *
    omega
  have start : ∀ {r}, Ev (fun k => (if (sumAt s : Int) = sumOf (s.extract 0 2) (bodyAt s) then (fairwayref10_Take.j0 k (V s 2 : Int) (bodyAt s) (decide ((V s 2 : Int) < 19)) 0 0 (⟨#[]⟩ : ByteArray) (⟨#[]⟩ : ByteArray) 0 false) else (fairwayref10_Take.j0 k (V s 2 : Int) (bodyAt s) true 0 0 (⟨#[]⟩ : ByteArray) (⟨#[]⟩ : ByteArray) 0 false))) r → Ev (fun k => fairwayref10_Take.f k s) r := by
    intro r hr
    unfold fairwayref10_Take.f
    unfold xt
    refine Ev.congr (fun k => if_neg e1) (Ev.bind (len_ev2 s e6) (Ev.congr (fun k => by rw [w1, if_neg e2, if_pos e3]) ?_))
    refine Ev.bind (sumAt_ev2 s (by rw [hx2]; exact e7)) ?_
    refine Ev.congr (fun k => by rw [w2, if_pos e4, if_pos e5, if_pos (by decide), bodyAt_eq, if_pos (by rw [hh, hbs]; exact e9)]) (Ev.bind t1 ?_)
    refine Ev.congr (fun k => by rw [hm]) ?_
    exact hr
  by_cases hc : (sumAt s : Int) = sumOf (s.extract 0 2) (bodyAt s)
  · by_cases h19 : V s 2 < 19
    · have h19' := (lt19 (V s 2)).1 h19
      refine ⟨fun hk => ?_, fun _ => start (Ev.congr (fun k => by rw [if_pos hc, decide_eq_true h19']) (rj0_true _ _))⟩
      have := hk.1.1
      rw [hbs] at this
      exact absurd h19 (Nat.not_lt.2 this)
    · have h19' := (lt19 (V s 2)).2 h19
      obtain ⟨y1, y2⟩ := take_tail (bodyAt s) hb (by rw [hbs]; exact Nat.le_of_not_lt h19)
      rw [hbs, w2] at y1
      rw [hbs] at y2
      exact ⟨fun hk => start (Ev.congr (fun k => by rw [if_pos hc, decide_eq_false h19']) (y1 hk.1)), fun hk => start (Ev.congr (fun k => by rw [if_pos hc, decide_eq_false h19']) (y2 fun g => hk ⟨g, hc.symm⟩))⟩
  · exact ⟨fun hk => absurd hk.2.symm hc, fun _ => start (Ev.congr (fun k => if_neg hc) (rj0_true _ _))⟩
end Go.Proofs.Ytmabdfdmccbfnaa.UTk

/- Records behind each other in bytes: the program's reading and the page's are the same; records held against each other; records written over. -/
namespace Go.Proofs.Ytmabdfdmccbfnaa.UScan
open Go Go.RowKit Go.Proofs.Ytmabdfdmccbfnaa.P Go.Proofs.Ytmabdfdmccbfnaa.URec Go.Proofs.Ytmabdfdmccbfnaa.UTake Go.Proofs.Ytmabdfdmccbfnaa.UTk Go.Proofs.YtmabdfdmccbfnaaW.PrintWords Go.Proofs.YtmabdfdmccbfnaaW.PrintLast
set_option linter.unusedVariables false
set_option linter.unusedSimpArgs false
attribute [local irreducible] bt V ByteArray.extract keyLen rcOf bodyAt sumAt takeOk

theorem take_any (s : ByteArray) (hs : s.size ≤ 140737488351232) :
    (∃ (r : R) (n : Nat), 6 ≤ n ∧ n ≤ s.size ∧ Ev (fun k => rec_Take.f k s) (r.f0, r.f1, r.f2, r.f3, r.f4, r.f5, (n : Int), 0) ∧ Ev (fun k => fairwayref10_Take.f k s) (r.f0, r.f1, r.f2, r.f3, r.f4, r.f5, (n : Int), 0)) ∨
    (∃ e : Int, e ≠ 0 ∧ Ev (fun k => rec_Take.f k s) (0, 0, ⟨#[]⟩, ⟨#[]⟩, 0, false, 0, e) ∧ Ev (fun k => fairwayref10_Take.f k s) (0, 0, ⟨#[]⟩, ⟨#[]⟩, 0, false, 0, e)) := by
  by_cases h : s.size < 6 ∨ s.size - 6 < V s 2
  · obtain ⟨a, b⟩ := take_cut s hs h
    exact .inr ⟨7, by decide, a, b⟩
  · have h6 : 6 ≤ s.size := Nat.le_of_not_lt fun g => h (.inl g)
    have hv : V s 2 ≤ s.size - 6 := Nat.le_of_not_lt fun g => h (.inr g)
    obtain ⟨a1, a2⟩ := take_prog s hs h6 hv
    obtain ⟨b1, b2⟩ := take_ref s hs h6 hv
    by_cases g : takeOk s
    · refine .inl ⟨rcOf (bodyAt s), 6 + V s 2, Nat.le_add_right _ _, ?_, a1 g, b1 g⟩
      generalize V s 2 = v at *
      generalize s.size = n at *
      omega
    · exact .inr ⟨8, by decide, a2 g, b2 g⟩

theorem ar_add (n a m : Nat) (hn : n ≤ 140737488351232) (ha : a ≤ n) (hm : m ≤ n - a) : wrap64 ((a : Int) + (m : Int)) = ((a + m : Nat) : Int) := by
  rw [wrap_in (by omega) (by omega)]; omega
theorem scan_both (s : ByteArray) (hs : s.size ≤ 140737488351232) : ∀ (d a : Nat) (acc : List R), s.size - a ≤ d → a ≤ s.size → acc.length * 6 ≤ a → s.size < 13194139533312 →
    ∃ (l : List R) (te : Int) (all : Bool), l.length * 6 ≤ s.size ∧ Ev (fun k => rec_Scan.l0 k s acc a) (l, te, all) ∧ Ev (fun k => fairwayref10_Scan.l0 k s acc a) (l, te, all)
  | d, a, acc, hd, ha, hl, hb => by
    by_cases hlt : a < s.size
    · have e1 : (a : Int) < (s.size : Int) := Int.ofNat_lt.2 hlt
      have e2 : (0 : Int) ≤ (a : Int) := Int.natCast_nonneg a
      have e3 : (a : Int) ≤ (s.size : Int) := Int.ofNat_le.2 ha
      have hx := ext_size s a ha
      rcases take_any (s.extract a s.size) (by rw [hx]; exact Nat.le_trans (Nat.sub_le _ _) hs) with ⟨r, n, hn6, hn, t1, t2⟩ | ⟨e, he, t1, t2⟩
      · rw [hx] at hn
        have hw := ar_add s.size a n hs ha hn
        have hll : acc.length < 2199023255552 := by generalize s.size = z at *; omega
        match d with
        | 0 => exact absurd hd (by generalize s.size = z at *; omega)
        | d + 1 =>
          obtain ⟨l, te, all, h1, h2, h3⟩ := scan_both s hs d (a + n) (acc ++ [r]) (by generalize s.size = z at *; omega) (by generalize s.size = z at *; omega) (by rw [List.length_append, List.length_singleton]; generalize acc.length = z at *; omega) hb
          refine ⟨l, te, all, h1, Ev.step (fun k => by rw [rec_Scan.l0, if_pos e1, if_pos e2, if_pos e3, Int.toNat_natCast]) (Ev.bind t1 (Ev.congr (fun k => by rw [if_pos rfl, if_pos hll, hw]) h2)), Ev.step (fun k => by rw [fairwayref10_Scan.l0, if_pos e1, if_pos e2, if_pos e3, Int.toNat_natCast]) (Ev.bind t2 (Ev.congr (fun k => by rw [if_pos rfl, if_pos hll, hw]) h3))⟩
      · exact ⟨acc, a, false, Nat.le_trans hl ha, Ev.step (fun k => by rw [rec_Scan.l0, if_pos e1, if_pos e2, if_pos e3, Int.toNat_natCast]) (Ev.bind t1 (Ev.congr (fun k => if_neg he) (Ev.now _))), Ev.step (fun k => by rw [fairwayref10_Scan.l0, if_pos e1, if_pos e2, if_pos e3, Int.toNat_natCast]) (Ev.bind t2 (Ev.congr (fun k => if_neg he) (Ev.now _)))⟩
    · have e1 : ¬ (a : Int) < (s.size : Int) := fun g => hlt (Int.ofNat_lt.1 g)
      exact ⟨acc, a, true, Nat.le_trans hl ha, Ev.step (fun k => by rw [rec_Scan.l0, if_neg e1]) (Ev.now _), Ev.step (fun k => by rw [fairwayref10_Scan.l0, if_neg e1]) (Ev.now _)⟩
theorem scan_any (s : ByteArray) (hs : s.size < 13194139533312) :
    ∃ (l : List R) (te : Int) (all : Bool), l.length * 6 ≤ s.size ∧ Ev (fun k => rec_Scan.f k s) (l, te, all) ∧ Ev (fun k => fairwayref10_Scan.f k s) (l, te, all) :=
  scan_both s (Nat.le_of_lt (Nat.lt_trans hs (by decide))) s.size 0 [] (Nat.sub_le _ _) (Nat.zero_le _) (Nat.zero_le _) hs

/-! ### held against each other -/
theorem r_same (a : R) : (!(a.f0 == a.f0) || (!(a.f1 == a.f1) || (!(a.f2.toList == a.f2.toList) || (!(a.f3.toList == a.f3.toList) || (!(a.f4 == a.f4) || (!(a.f5 == a.f5))))))) = false := by simp
theorem ar_next (n i : Nat) (hn : n ≤ 9223372036854775806) (hi : i < n) : wrap64 ((i : Int) + 1) = ((i + 1 : Nat) : Int) := by
  rw [wrap_in (by omega) (by omega)]; omega
theorem eqrecs_loop (l : List R) (hm : l.length ≤ 9223372036854775806) : ∀ (d i : Nat), l.length = i + d → Ev (fun k => fairwayref0_EqRecs.l0 k l l i) true
  | 0, i, h => by
    refine Ev.step (fun k => by rw [fairwayref0_EqRecs.l0, if_neg (by omega)]) (Ev.now _)
  | d + 1, i, h => by
    have ih := eqrecs_loop l hm d (i + 1) (by omega)
    have hw := ar_next l.length i hm (by omega)
    exact Ev.step (fun k => by rw [fairwayref0_EqRecs.l0, if_pos (by omega), if_pos (by omega), if_pos (by omega), r_same, if_neg Bool.false_ne_true, hw]) ih
theorem eqrecs_same (l : List R) (hm : l.length ≤ 9223372036854775806) : Ev (fun k => fairwayref0_EqRecs.f k l l) true := by
  unfold fairwayref0_EqRecs.f
  exact Ev.congr (fun k => if_pos rfl) (eqrecs_loop l hm l.length 0 (by omega))
theorem over_loop : ∀ (d i : Nat) (l : List R), l.length < 2199023255552 → l.length = i + d → Ev (fun k => fairwaylaw0_Recs.l0 k l i) ()
  | 0, i, l, hm, h => Ev.step (fun k => by rw [fairwaylaw0_Recs.l0, if_neg (by omega), if_pos hm]) (Ev.now _)
  | d + 1, i, l, hm, h => by
    have ih := over_loop d (i + 1) (l.set ((i : Int)).toNat (⟨(-9), 0, (⟨#[]⟩ : ByteArray), (⟨#[]⟩ : ByteArray), 0, false⟩ : R)) (by rw [List.length_set]; exact hm) (by rw [List.length_set]; omega)
    have hw := ar_next l.length i (by omega) (by omega)
    exact Ev.step (fun k => by rw [fairwaylaw0_Recs.l0, if_pos (by omega), if_pos (by omega), hw]) ih
theorem over_ev (l : List R) (hm : l.length < 2199023255552) : Ev (fun k => fairwaylaw0_Recs.f k l) () := over_loop l.length 0 l hm (by omega)
end Go.Proofs.Ytmabdfdmccbfnaa.UScan

/- A record's bytes are read back as the record. -/
namespace Go.Proofs.Ytmabdfdmccbfnaa.UBack
open Go Go.RowKit Go.Proofs.Ytmabdfdmccbfnaa.P Go.Proofs.Ytmabdfdmccbfnaa.URec Go.Proofs.Ytmabdfdmccbfnaa.UBytes Go.Proofs.Ytmabdfdmccbfnaa.USum Go.Proofs.Ytmabdfdmccbfnaa.UTake Go.Proofs.YtmabdfdmccbfnaaW.PrintWords Go.Proofs.YtmabdfdmccbfnaaW.PrintLast
set_option linter.unusedVariables false
set_option linter.unusedSimpArgs false

theorem bt_left (a b : ByteArray) (i : Nat) (h : i < a.size) : bt (a ++ b) i = bt a i := by
  rw [bt_get (a ++ b) i (by rw [ByteArray.size_append]; omega), bt_get a i h]
  congr 2
  have : (a ++ b).data.toList = a.data.toList ++ b.data.toList := by simp [ByteArray.data_append]
  simp only [this]
  exact List.getElem_append_left _
theorem V_left (a b : ByteArray) : ∀ n, n ≤ a.size → V (a ++ b) n = V a n
  | 0, _ => rfl
  | n + 1, h => by
    simp only [V]
    rw [V_left a b n (by omega), bt_left a b n (by omega)]
theorem digits_get (x : Int) : ∀ (n i : Nat) (h : i < n), (digits x n)[i]'(by rw [digits_length]; exact h) = (x / 2 ^ (8 * (n - 1 - i))) % 256
  | n + 1, 0, _ => by simp [digits]
  | n + 1, i + 1, h => by
    have := digits_get x n i (by omega)
    simp only [digits, List.getElem_cons_succ]
    rw [this]
    congr 4
    omega
theorem bt_fixed (x n i : Nat) (h : i < n) : bt (fixed (x : Int) n) i = ((x / 256 ^ (n - 1 - i) % 256 : Nat) : Int) := by
  rw [bt_get _ i (by rw [fixed_size]; exact h)]
  have e : (fixed (x : Int) n).data.toList = (digits (x : Int) n).map fun d => UInt8.ofNat d.toNat := rfl
  simp only [e, List.getElem_map]
  rw [digits_get (x : Int) n i h]
  have e2 : ((x : Int) / 2 ^ (8 * (n - 1 - i))) % 256 = ((x / 256 ^ (n - 1 - i) % 256 : Nat) : Int) := by
    rw [show (2 : Int) ^ (8 * (n - 1 - i)) = ((256 ^ (n - 1 - i) : Nat) : Int) by rw [Int.pow_mul, Int.natCast_pow]; rfl]
    rw [Int.natCast_emod, Int.natCast_ediv]; rfl
  rw [e2, Int.toNat_natCast, UInt8.toNat_ofNat']
  congr 1
  exact Nat.mod_eq_of_lt (Nat.mod_lt _ (by omega))
theorem V_fixed_at (x n : Nat) (hx : x < 256 ^ n) : ∀ i, i ≤ n → V (fixed (x : Int) n) i = x / 256 ^ (n - i)
  | 0, _ => by simp [V, Nat.div_eq_of_lt hx]
  | i + 1, h => by
    simp only [V]
    rw [V_fixed_at x n hx i (by omega), bt_fixed x n i (by omega), Int.toNat_natCast]
    have e : n - i = (n - 1 - i) + 1 := by omega
    have e2 : n - (i + 1) = n - 1 - i := by omega
    rw [e, e2, Nat.pow_succ, ← Nat.div_div_eq_div_mul]
    omega
theorem V_fixed (x n : Nat) (hx : x < 256 ^ n) : V (fixed (x : Int) n) n = x := by
  rw [V_fixed_at x n hx n (Nat.le_refl _)]; simp

/-! ### the body -/
theorem fixed_nat (x : Int) (h : 0 ≤ x) : fixed x = fixed ((x.toNat : Nat) : Int) := by rw [Int.toNat_of_nonneg h]
theorem num8 (x : Int) (h0 : 0 ≤ x) (h1 : x < 9223372036854775808) (s : ByteArray) : Ev (fun k => rec_number.f k (fixed x 8 ++ s)) x := by
  have hs : (fixed x 8 ++ s).size = 8 + s.size := by rw [ByteArray.size_append, fixed_size]
  have e8 : fixed x 8 = fixed (x / 4294967296) 4 ++ fixed (x % 4294967296) 4 := by rw [fixed, fixed, fixed, ← strOfNums_append, ← digits8 x h0]
  have hv1 : V (fixed x 8 ++ s) 4 = (x / 4294967296).toNat := by
    rw [e8, ByteArray.append_assoc, V_left _ _ 4 (by rw [fixed_size]; omega), fixed_nat _ (by omega)]
    exact V_fixed _ 4 (by omega)
  have hx2 : (fixed x 8 ++ s).extract 4 (fixed x 8 ++ s).size = fixed (x % 4294967296) 4 ++ s := by
    rw [e8, ByteArray.append_assoc]
    refine ByteArray.extract_append_eq_right (by rw [fixed_size]) (by rw [ByteArray.size_append])
  have hv2 : V (fixed (x % 4294967296) 4 ++ s) 4 = (x % 4294967296).toNat := by
    rw [V_left _ _ 4 (by rw [fixed_size]; omega), fixed_nat _ (by omega)]
    exact V_fixed _ 4 (by omega)
  have t1 := takefour_ev (fixed x 8 ++ s) (by omega)
  have t2 := takefour_ev (fixed (x % 4294967296) 4 ++ s) (by rw [ByteArray.size_append, fixed_size]; omega)
  rw [hv1] at t1
  rw [hv2] at t2
  refine Ev.bind t1 (Ev.congr (fun k => by rw [if_pos (by omega), hx2]) (Ev.bind t2 (Ev.congr (f := fun _ => some x) (fun k => ?_) (Ev.now _))))
  have e3 : (((x / 4294967296).toNat : Nat) : Int) = x / 4294967296 := Int.toNat_of_nonneg (by omega)
  have e4 : (((x % 4294967296).toNat : Nat) : Int) = x % 4294967296 := Int.toNat_of_nonneg (by omega)
  simp only [e3, e4]
  rw [wrap_in (by omega) (by omega)]
  congr 1
  rw [bits_join .i64 63 (by decide) (fun n h0 h1 => by rw [IntKind.wrap_i64]; omega) 32 (x / 4294967296 * 4294967296) (x % 4294967296) (by omega) (by omega) (by omega) (by omega) (by omega) (by omega)]
  omega

theorem flag_byte (r : R) (hr : recOk r) (a b : ByteArray) (ha : a.size = 16) : bt (a ++ (strOfNums [flagOf r] ++ b)) 16 = flagOf r := by
  obtain ⟨h0, h1, h2, h3, h4, h5, h6, h7, h8⟩ := hr
  have hf : 0 ≤ flagOf r ∧ flagOf r ≤ 6 := by unfold flagOf; split <;> omega
  have hsz : (a ++ (strOfNums [flagOf r] ++ b)).size = 17 + b.size := by simp only [ByteArray.size_append, strOfNums_size, List.length_singleton]; omega
  have := bt_get (a ++ (strOfNums [flagOf r] ++ b)) 16 (by omega)
  rw [show ((16 : Nat) : Int) = 16 from rfl] at this
  rw [this]
  have e : (a ++ (strOfNums [flagOf r] ++ b)).data.toList = a.data.toList ++ (UInt8.ofNat (flagOf r).toNat :: b.data.toList) := by simp [ByteArray.data_append, strOfNums]
  simp only [e]
  have hl : a.data.toList.length = 16 := by rw [Array.length_toList]; exact ha
  rw [List.getElem_append_right (by rw [hl]; exact Nat.le_refl _)]
  simp only [hl, Nat.sub_self, List.getElem_cons_zero, UInt8.toNat_ofNat']
  omega
theorem and3 (r : R) (hr : recOk r) : Go.bits .and .u8 (flagOf r) 3 = r.f4 ∧ decide (Go.bits .and .u8 (flagOf r) 4 > 0) = r.f5 := by
  obtain ⟨h0, h1, h2, h3, h4, h5, h6, h7, h8⟩ := hr
  have : r.f4 = 0 ∨ r.f4 = 1 ∨ r.f4 = 2 := by omega
  unfold flagOf
  rcases this with h | h | h <;> rw [h] <;> cases r.f5 <;> decide
theorem read_back (r : R) (hr : recOk r) : Ev (fun k => rec_read.f k (bodyOf r)) (r.f0, r.f1, r.f2, r.f3, r.f4, r.f5, true) := by
  have hr' := hr
  obtain ⟨h0, h1, h2, h3, h4, h5, h6, h7, h8⟩ := hr
  have hb := bodyOf_size r
  have hw19 : wrap64 (19 + (r.f2.size : Int)) = ((19 + r.f2.size : Nat) : Int) := by rw [wrap_in (by omega) (by omega)]; omega
  have c1 : ¬ ((bodyOf r).size : Int) < 19 := by omega
  have c2 : 17 ≤ ((bodyOf r).size : Int) := by omega
  have c3 : 16 < ((bodyOf r).size : Int) := by omega
  have c4 : 0 < ((bodyOf r).size : Int) := by omega
  have c5 : 8 < ((bodyOf r).size : Int) := by omega
  have c6 : 8 ≤ ((bodyOf r).size : Int) := by omega
  have c7 : ¬ (r.f2.size : Int) > wrap64 (((bodyOf r).size : Int) - 19) := by rw [wrap_in (by omega) (by omega)]; omega
  have c8 : 19 ≤ ((19 + r.f2.size : Nat) : Int) := by omega
  have c9 : ((19 + r.f2.size : Nat) : Int) ≤ ((bodyOf r).size : Int) := by omega
  have c10 : 0 ≤ ((19 + r.f2.size : Nat) : Int) := by omega
  have c11 : wrap64 r.f4 = r.f4 := wrap_in (by omega) (by omega)
  have hf : 0 ≤ flagOf r ∧ flagOf r ≤ 6 := by unfold flagOf; split <;> omega
  have c12 : ¬ flagOf r > 7 := by omega
  have hkey : bodyOf r = (fixed r.f0 8 ++ fixed r.f1 8) ++ (strOfNums [flagOf r] ++ (fixed (r.f2.size : Int) 2 ++ (r.f2 ++ r.f3))) := by simp only [bodyOf, ByteArray.append_assoc]
  have h16 : bt (bodyOf r) 16 = flagOf r := by rw [hkey]; exact flag_byte r hr' _ _ (by rw [ByteArray.size_append, fixed_size, fixed_size])
  have h17 : (bodyOf r).extract 17 (bodyOf r).size = fixed (r.f2.size : Int) 2 ++ (r.f2 ++ r.f3) := by
    have e : bodyOf r = ((fixed r.f0 8 ++ fixed r.f1 8) ++ strOfNums [flagOf r]) ++ (fixed (r.f2.size : Int) 2 ++ (r.f2 ++ r.f3)) := by simp only [bodyOf, ByteArray.append_assoc]
    rw [e]
    refine ByteArray.extract_append_eq_right (by simp only [ByteArray.size_append, fixed_size, strOfNums_size, List.length_singleton]) (by rw [ByteArray.size_append])
  have hv : V (fixed (r.f2.size : Int) 2 ++ (r.f2 ++ r.f3)) 2 = r.f2.size := by
    rw [V_left _ _ 2 (by rw [fixed_size]; omega)]
    exact V_fixed _ 2 (by omega)
  have t1 := taketwo_ev (fixed (r.f2.size : Int) 2 ++ (r.f2 ++ r.f3)) (by rw [ByteArray.size_append, fixed_size]; omega)
  rw [hv] at t1
  have hd0 : bt (bodyOf r) 0 ≤ 127 := by
    have e : bodyOf r = fixed r.f0 8 ++ (fixed r.f1 8 ++ (strOfNums [flagOf r] ++ (fixed (r.f2.size : Int) 2 ++ (r.f2 ++ r.f3)))) := by simp only [bodyOf, ByteArray.append_assoc]
    have e2 := bt_left (fixed r.f0 8) (fixed r.f1 8 ++ (strOfNums [flagOf r] ++ (fixed (r.f2.size : Int) 2 ++ (r.f2 ++ r.f3)))) 0 (by rw [fixed_size]; omega)
    have e3 := bt_fixed r.f0.toNat 8 0 (by omega)
    rw [← fixed_nat _ h0] at e3
    rw [e]
    have e4 : bt (fixed r.f0 8 ++ (fixed r.f1 8 ++ (strOfNums [flagOf r] ++ (fixed (r.f2.size : Int) 2 ++ (r.f2 ++ r.f3))))) 0 = bt (fixed r.f0 8) 0 := e2
    have e5 : bt (fixed r.f0 8) 0 = ((r.f0.toNat / 256 ^ (8 - 1 - 0) % 256 : Nat) : Int) := e3
    rw [e4, e5]
    omega
  have hd8 : bt (bodyOf r) 8 ≤ 127 := by
    have e : bodyOf r = (fixed r.f0 8 ++ fixed r.f1 8) ++ (strOfNums [flagOf r] ++ (fixed (r.f2.size : Int) 2 ++ (r.f2 ++ r.f3))) := hkey
    have hsz : (fixed r.f0 8 ++ fixed r.f1 8).size = 16 := by rw [ByteArray.size_append, fixed_size, fixed_size]
    have e2 := bt_left (fixed r.f0 8 ++ fixed r.f1 8) (strOfNums [flagOf r] ++ (fixed (r.f2.size : Int) 2 ++ (r.f2 ++ r.f3))) 8 (by omega)
    have e3 := bt_get (fixed r.f0 8 ++ fixed r.f1 8) 8 (by omega)
    have e4 := bt_get (fixed r.f1 8) 0 (by rw [fixed_size]; omega)
    have e5 := bt_fixed r.f1.toNat 8 0 (by omega)
    rw [← fixed_nat _ h2] at e5
    have e6 : (fixed r.f0 8 ++ fixed r.f1 8).data.toList = (fixed r.f0 8).data.toList ++ (fixed r.f1 8).data.toList := by simp [ByteArray.data_append]
    have hl : (fixed r.f0 8).data.toList.length = 8 := by rw [Array.length_toList]; exact fixed_size _ _
    simp only [e6] at e3
    rw [List.getElem_append_right (by omega)] at e3
    simp only [hl, Nat.sub_self] at e3
    rw [← e4, e5] at e3
    rw [e]
    have e7 : bt ((fixed r.f0 8 ++ fixed r.f1 8) ++ (strOfNums [flagOf r] ++ (fixed (r.f2.size : Int) 2 ++ (r.f2 ++ r.f3)))) 8 = bt (fixed r.f0 8 ++ fixed r.f1 8) 8 := e2
    have e8 : bt (fixed r.f0 8 ++ fixed r.f1 8) 8 = ((r.f1.toNat / 256 ^ (8 - 1 - 0) % 256 : Nat) : Int) := e3
    rw [e7, e8]
    omega
  have x8 : (bodyOf r).extract 8 (bodyOf r).size = fixed r.f1 8 ++ (strOfNums [flagOf r] ++ (fixed (r.f2.size : Int) 2 ++ (r.f2 ++ r.f3))) := by
    have e : bodyOf r = fixed r.f0 8 ++ (fixed r.f1 8 ++ (strOfNums [flagOf r] ++ (fixed (r.f2.size : Int) 2 ++ (r.f2 ++ r.f3)))) := by simp only [bodyOf, ByteArray.append_assoc]
    rw [e]
    exact ByteArray.extract_append_eq_right (by rw [fixed_size]) (by rw [ByteArray.size_append])
  have xk : (bodyOf r).extract 19 (19 + r.f2.size) = r.f2 := by
    have e : bodyOf r = (((fixed r.f0 8 ++ fixed r.f1 8) ++ strOfNums [flagOf r]) ++ fixed (r.f2.size : Int) 2) ++ (r.f2 ++ r.f3) := by simp only [bodyOf, ByteArray.append_assoc]
    have hs : ((((fixed r.f0 8 ++ fixed r.f1 8) ++ strOfNums [flagOf r]) ++ fixed (r.f2.size : Int) 2)).size = 19 := by simp only [ByteArray.size_append, fixed_size, strOfNums_size, List.length_singleton]
    have e2 := @ByteArray.extract_append_size_add ((((fixed r.f0 8 ++ fixed r.f1 8) ++ strOfNums [flagOf r]) ++ fixed (r.f2.size : Int) 2)) (r.f2 ++ r.f3) 0 r.f2.size
    rw [hs] at e2
    rw [e]
    exact e2.trans (ByteArray.extract_append_eq_left rfl)
  have xb : (bodyOf r).extract (19 + r.f2.size) (bodyOf r).size = r.f3 := by
    have e : bodyOf r = ((((fixed r.f0 8 ++ fixed r.f1 8) ++ strOfNums [flagOf r]) ++ fixed (r.f2.size : Int) 2) ++ r.f2) ++ r.f3 := rfl
    refine ByteArray.extract_append_eq_right ?_ ?_
    · simp only [ByteArray.size_append, fixed_size, strOfNums_size, List.length_singleton]
    · rw [e, ByteArray.size_append]
  obtain ⟨a3, a4⟩ := and3 r hr'
  have hq : wrap64 (Go.bits .and .u8 (flagOf r) 3) = r.f4 := by rw [a3, c11]
  have n1 : Ev (fun k => rec_number.f k (bodyOf r)) r.f0 := by
    have e : bodyOf r = fixed r.f0 8 ++ (fixed r.f1 8 ++ (strOfNums [flagOf r] ++ (fixed (r.f2.size : Int) 2 ++ (r.f2 ++ r.f3)))) := by simp only [bodyOf, ByteArray.append_assoc]
    rw [e]; exact num8 r.f0 h0 (by omega) _
  have n2 := num8 r.f1 h2 (by omega) (strOfNums [flagOf r] ++ (fixed (r.f2.size : Int) 2 ++ (r.f2 ++ r.f3)))
  have c13 : decide (bt (bodyOf r) 8 > 127) = false := decide_eq_false (Int.not_lt.2 hd8)
  unfold rec_read.f
  refine Ev.congr (fun k => by rw [if_neg c1, if_pos c2, h17]) ?_
  refine Ev.bind t1 ?_
  refine Ev.congr (fun k => by rw [if_pos c3, h16, if_neg c12, if_neg c7, if_pos c4, if_neg (Int.not_lt.2 hd0), if_pos c5, c13]) ?_
  refine Ev.step (fun k => by rw [rec_read.j0, if_neg (by decide)]) ?_
  refine Ev.bind n1 (Ev.congr (fun k => by rw [if_pos c6, x8]) (Ev.bind n2 ?_))
  refine Ev.congr (fun k => by rw [hw19, if_pos c8, if_pos c9, if_pos c10, if_pos c3, Int.toNat_natCast, xk, xb, h16, hq, a4]) ?_
  exact Ev.bind (check_yes r hr') (Ev.now _)
theorem take_back (r : R) (hr : recOk r) (s : ByteArray) (hs : s.size ≤ 1000000) : Ev (fun k => rec_Take.f k (recBytes r ++ s)) (r.f0, r.f1, r.f2, r.f3, r.f4, r.f5, (recLen r : Int), 0) := by
  have hr' := hr
  obtain ⟨h0, h1, h2, h3, h4, h5, h6, h7, h8⟩ := hr
  have hb := bodyOf_size r
  have hh : (headOf r).size = 2 := fixed_size _ _
  have hsum := sumOf_in (headOf r) (bodyOf r)
  have hl : recLen r = 6 + (bodyOf r).size := by rw [hb]; unfold recLen; omega
  have hsz : (recBytes r ++ s).size = 6 + (bodyOf r).size + s.size := by rw [ByteArray.size_append, recBytes_size, hl]
  have c1 : ¬ ((recBytes r ++ s).size : Int) < 6 := by omega
  have c2 : decide (wrap64 (((recBytes r ++ s).size : Int) - 6) < ((bodyOf r).size : Int)) = false := decide_eq_false (by rw [wrap_in (by omega) (by omega)]; omega)
  have c3 : 2 ≤ ((recBytes r ++ s).size : Int) := by omega
  have c4 : 6 ≤ ((6 + (bodyOf r).size : Nat) : Int) := by omega
  have c5 : ((6 + (bodyOf r).size : Nat) : Int) ≤ ((recBytes r ++ s).size : Int) := by omega
  have c6 : (headOf r).size ≤ 140737488351232 := by omega
  have c7 : (bodyOf r).size ≤ 140737488351232 := by omega
  have e1 : recBytes r ++ s = headOf r ++ (fixed (sumOf (headOf r) (bodyOf r)) 4 ++ (bodyOf r ++ s)) := by simp only [recBytes, ByteArray.append_assoc]
  have v1 : V (recBytes r ++ s) 2 = (bodyOf r).size := by
    rw [e1, V_left _ _ 2 (by omega)]
    exact V_fixed _ 2 (by omega)
  have t1 := taketwo_ev (recBytes r ++ s) (by omega)
  rw [v1] at t1
  have x2 : (recBytes r ++ s).extract 2 (recBytes r ++ s).size = fixed (sumOf (headOf r) (bodyOf r)) 4 ++ (bodyOf r ++ s) := by
    rw [e1]
    exact ByteArray.extract_append_eq_right (by omega) (by rw [ByteArray.size_append])
  have v2 : V (fixed (sumOf (headOf r) (bodyOf r)) 4 ++ (bodyOf r ++ s)) 4 = (sumOf (headOf r) (bodyOf r)).toNat := by
    rw [V_left _ _ 4 (by rw [fixed_size]; omega), fixed_nat _ hsum.1]
    exact V_fixed _ 4 (by omega)
  have t2 := takefour_ev (fixed (sumOf (headOf r) (bodyOf r)) 4 ++ (bodyOf r ++ s)) (by rw [ByteArray.size_append, fixed_size]; omega)
  rw [v2] at t2
  have hw6 : wrap64 (6 + ((bodyOf r).size : Int)) = ((6 + (bodyOf r).size : Nat) : Int) := by rw [wrap_in (by omega) (by omega)]; omega
  have x6 : (recBytes r ++ s).extract 6 (6 + (bodyOf r).size) = bodyOf r := by
    have e : recBytes r ++ s = (headOf r ++ fixed (sumOf (headOf r) (bodyOf r)) 4) ++ (bodyOf r ++ s) := by simp only [recBytes, ByteArray.append_assoc]
    have hs6 : (headOf r ++ fixed (sumOf (headOf r) (bodyOf r)) 4).size = 6 := by rw [ByteArray.size_append, fixed_size, hh]
    have e2 := @ByteArray.extract_append_size_add (headOf r ++ fixed (sumOf (headOf r) (bodyOf r)) 4) (bodyOf r ++ s) 0 (bodyOf r).size
    rw [hs6] at e2
    rw [e]
    exact e2.trans (ByteArray.extract_append_eq_left rfl)
  have x0 : (recBytes r ++ s).extract 0 2 = headOf r := by rw [e1]; exact ByteArray.extract_append_eq_left hh.symm
  have hw : wrap64 ((~~~ (run (~~~ ~~~ (run (~~~ (0#32)) (headOf r).data.toList)) (bodyOf r).data.toList)).toNat : Int) = sumOf (headOf r) (bodyOf r) := by
    rw [BitVec.not_not, ← run_append]
    have e : (headOf r).data.toList ++ (bodyOf r).data.toList = (headOf r ++ bodyOf r).data.toList := by simp [ByteArray.data_append]
    rw [e]
    rw [wrap_in (by have := hsum; unfold sumOf at this; omega) (by have := hsum; unfold sumOf at this; omega)]; rfl
  unfold rec_Take.f
  refine Ev.bind t1 ?_
  refine Ev.congr (fun k => by rw [if_neg c1, c2]) ?_
  refine Ev.step (fun k => by rw [rec_Take.j0, if_neg (by decide), if_pos c3, x2]) ?_
  refine Ev.bind t2 (Ev.congr (fun k => by rw [hw6, if_pos c4, if_pos c5, Int.toNat_natCast, x6, x0]) ?_)
  refine Ev.bind (read_back r hr') (Ev.congr (fun k => by rw [if_pos rfl, if_pos (by decide)]) ?_)
  refine Ev.bind (sum_ev 0#32 (headOf r) c6) ?_
  refine Ev.bind (sum_ev (~~~ (run (~~~ (0#32)) (headOf r).data.toList)) (bodyOf r) c7) ?_
  rw [hw]
  refine Ev.congr (f := fun _ => some _) (fun k => ?_) (Ev.now _)
  rw [if_pos (by rw [Int.toNat_of_nonneg hsum.1]), hl]
end Go.Proofs.Ytmabdfdmccbfnaa.UBack

-- written by a program of the proving session, out of the translation; Lean checks it
namespace Go.Proofs.Ytmabdfdmccbfnaa.P
open Go.RowKit Go.Proofs.Ytmabdfdmccbfnaa.Sq Go.Proofs.YtmabdfdmccbfnaaW.PrintWords Go.Proofs.YtmabdfdmccbfnaaW.PrintLast Go.Proofs.YtmabdfdmccbfnaaW.PrintMore
attribute [local go_sem] max2_int min2_int max_two min_two max_three min_three max_four min_four   -- for this text's walks alone
set_option linter.unusedVariables false
set_option linter.unusedSimpArgs false

/-! ### seg_behind: function 75 -/
def seg_behind.f (k : Nat) (a0 : Int) (l1 : List (S25)) (a2_0 : Int) (a2_1 : Int) (a2_2 : ByteArray) (a2_3 : ByteArray) (a2_4 : Int) (a2_5 : Bool) : Option (Bool) := (rec_Check.f k a2_0 a2_1 a2_2 a2_3 a2_4 a2_5).bind fun t393 => (if t393 = 0 then (if a2_0 < a0 then (some false) else (if (l1.length : Int) ≥ 200 then (some false) else (if (l1.length : Int) = 0 then (some true) else (if 0 ≤ (wrap64 ((l1.length : Int) - 1)) then (if (wrap64 ((l1.length : Int) - 1)) < (l1.length : Int) then (if ((rd_T25 l1 (wrap64 ((l1.length : Int) - 1))).f0) < a2_0 then (some (decide (((rd_T25 l1 (wrap64 ((l1.length : Int) - 1))).f1) ≤ a2_1))) else (some false)) else (none)) else (none))))) else (some false))
theorem seg_behind.mono : ∀ a0 a1 a2 a3 a4 a5 a6 a7 k, LeO (seg_behind.f k a0 a1 a2 a3 a4 a5 a6 a7) (seg_behind.f (k + 1) a0 a1 a2 a3 a4 a5 a6 a7) := by
 intro a0 a1 a2 a3 a4 a5 a6 a7 k
 unfold seg_behind.f
 repeat' first
  | (with_reducible exact rec_Check.mono _ _ _ _ _ _ _)
  | (with_reducible exact LeO.refl _)
  | (with_reducible exact LeO.none _)
  | (with_reducible refine LeO.ite ?_ ?_)
  | (with_reducible refine LeO.bind ?_ (fun _ => ?_))
  | exact rec_Check.mono _ _ _ _ _ _ _
  | exact LeO.none _
  | refine LeO.ite ?_ ?_
  | refine LeO.bind ?_ (fun _ => ?_)
set_option maxHeartbeats 8000000 in
set_option maxRecDepth 100000 in
theorem seg_behind.calls (k : Nat) (a0 : Int) (A1 : Option Addr) (c1 : Nat) (l1 : List (S25)) (a2_0 : Int) (a2_1 : Int) (a2_2 : ByteArray) (a2_3 : ByteArray) (a2_4 : Int) (a2_5 : Bool) (r : Bool) (w : World) (hr1 : Kd.C k25 w A1 l1.length l1) (hc1 : l1.length ≤ c1) (h : seg_behind.f k a0 l1 a2_0 a2_1 a2_2 a2_3 a2_4 a2_5 = some r) :
 Calls Try.prog 75 #[.int .i64 a0, .slice A1 l1.length c1, .agg #[.int .i64 a2_0, .int .i64 a2_1, .string a2_2, .string a2_3, .int .i64 a2_4, .bool a2_5]] w fun e w' => e = .returned (.bool r) ∧ Below w.heap.size w w' := by
 have hu25 := Try.underlying25
 have HR1 := Aside0.mk hr1
 have HC1 := Aside0.mk hc1
 clear hr1 hc1
 have HB := Aside0.mk (Below.refl w.heap.size w)
 have H : ((rec_Check.f k a2_0 a2_1 a2_2 a2_3 a2_4 a2_5).bind fun t393 => (if t393 = 0 then (if a2_0 < a0 then (some false) else (if (l1.length : Int) ≥ 200 then (some false) else (if (l1.length : Int) = 0 then (some true) else (if 0 ≤ (wrap64 ((l1.length : Int) - 1)) then (if (wrap64 ((l1.length : Int) - 1)) < (l1.length : Int) then (if ((rd_T25 l1 (wrap64 ((l1.length : Int) - 1))).f0) < a2_0 then (some (decide (((rd_T25 l1 (wrap64 ((l1.length : Int) - 1))).f1) ≤ a2_1))) else (some false)) else (none)) else (none))))) else (some false))) = some r := h
 clear h
 replace H := Option.bind_eq_some_iff.mp H
 obtain ⟨t393, A40, H⟩ := H
 replace H : (if t393 = 0 then (if a2_0 < a0 then (some false) else (if (l1.length : Int) ≥ 200 then (some false) else (if (l1.length : Int) = 0 then (some true) else (if 0 ≤ (wrap64 ((l1.length : Int) - 1)) then (if (wrap64 ((l1.length : Int) - 1)) < (l1.length : Int) then (if ((rd_T25 l1 (wrap64 ((l1.length : Int) - 1))).f0) < a2_0 then (some (decide (((rd_T25 l1 (wrap64 ((l1.length : Int) - 1))).f1) ≤ a2_1))) else (some false)) else (none)) else (none))))) else (some false)) = some r := H
 have A4 := Aside0.mk A40
 clear A40
 by_cases c5 : t393 = 0
 ·rw [if_pos c5] at H
  have c5b0 : (t393 == 0) = true := beq_iff_eq.mpr c5
  have c5b1 : (t393 != 0) = false := bne_eq_false_iff_eq.mpr c5
  clear c5
  by_cases c6 : a2_0 < a0
  ·rw [if_pos c6] at H
   have c6b0 : decide (a2_0 < a0) = true := decide_eq_true c6
   clear c6
   obtain rfl := Option.some.inj H
   go_enter Try.func75, Try.ntmps75
   go_wp2_with (first | ((with_reducible refine gate_dst (N := 5) rfl ?_); (try (refine gate_guard (by rfl) ?_; dsimp only)); refine box_event ?hg (N := 5) ?hd (cs := #[.int .i64 a2_0, .int .i64 a2_1, .string a2_2, .string a2_3, .int .i64 a2_4, .bool a2_5]) (t := 25) ?hr ?_; (case hd => rfl); (case hg => rfl); (case hr => first | (go_simp; done) | (go_simp; rfl)); intro gb392 hg w7 hbox hb; have BK392 := Aside0.mk (hbox); have GW392 := Aside0.mk ((by rw [hg]; exact (below_size bo) : w.heap.size ≤ gb392)); have GE392 := Aside0.mk ((by rw [hg]; exact (below_size bo) : w.heap.size ≤ gb392)); replace HB := Aside0.mk (below_step bo hb); clear hb hbox hg; obtain ⟨hcz8_0, hcz8_1, hcz8_2, hcz8_3, hcz8_4, hcz8_5⟩ := cl6 BK392.out; obtain ⟨hfz8_0, hfz8_1, hfz8_2, hfz8_3, hfz8_4, hfz8_5⟩ := fz6 BK392.out) | (go_at_call 22; (with_reducible refine (rec_Check.calls k a2_0 a2_1 a2_2 a2_3 a2_4 a2_5 t393 _ A4.out).mono ?_); rintro e w9 ⟨rfl, hb⟩; replace BK392 := Aside0.mk (blk_below (g := gb392) (o := .cells #[.int .i64 a2_0, .int .i64 a2_1, .string a2_2, .string a2_3, .int .i64 a2_4, .bool a2_5] 25 (0, 0)) (bk BK392.out) hb); replace HB := Aside0.mk (below_step bo hb); (try clear hb); (try clear hb2); (try clear hk); (try clear hi); obtain ⟨hcz10_0, hcz10_1, hcz10_2, hcz10_3, hcz10_4, hcz10_5⟩ := cl6 BK392.out; obtain ⟨hfz10_0, hfz10_1, hfz10_2, hfz10_3, hfz10_4, hfz10_5⟩ := fz6 BK392.out))
   repeat (go_quiet (first | ((with_reducible refine gate_dst (N := 5) rfl ?_); (try (refine gate_guard (by rfl) ?_; dsimp only)); refine box_event ?hg (N := 5) ?hd (cs := #[.int .i64 a2_0, .int .i64 a2_1, .string a2_2, .string a2_3, .int .i64 a2_4, .bool a2_5]) (t := 25) ?hr ?_; (case hd => rfl); (case hg => rfl); (case hr => first | (go_simp; done) | (go_simp; rfl)); intro gb392 hg w7 hbox hb; have BK392 := Aside0.mk (hbox); have GW392 := Aside0.mk ((by rw [hg]; exact (below_size bo) : w.heap.size ≤ gb392)); have GE392 := Aside0.mk ((by rw [hg]; exact (below_size bo) : w.heap.size ≤ gb392)); replace HB := Aside0.mk (below_step bo hb); clear hb hbox hg; obtain ⟨hcz8_0, hcz8_1, hcz8_2, hcz8_3, hcz8_4, hcz8_5⟩ := cl6 BK392.out; obtain ⟨hfz8_0, hfz8_1, hfz8_2, hfz8_3, hfz8_4, hfz8_5⟩ := fz6 BK392.out) | (go_at_call 22; (with_reducible refine (rec_Check.calls k a2_0 a2_1 a2_2 a2_3 a2_4 a2_5 t393 _ A4.out).mono ?_); rintro e w9 ⟨rfl, hb⟩; replace BK392 := Aside0.mk (blk_below (g := gb392) (o := .cells #[.int .i64 a2_0, .int .i64 a2_1, .string a2_2, .string a2_3, .int .i64 a2_4, .bool a2_5] 25 (0, 0)) (bk BK392.out) hb); replace HB := Aside0.mk (below_step bo hb); (try clear hb); (try clear hb2); (try clear hk); (try clear hi); obtain ⟨hcz10_0, hcz10_1, hcz10_2, hcz10_3, hcz10_4, hcz10_5⟩ := cl6 BK392.out; obtain ⟨hfz10_0, hfz10_1, hfz10_2, hfz10_3, hfz10_4, hfz10_5⟩ := fz6 BK392.out)); try go_wp2_with (first | ((with_reducible refine gate_dst (N := 5) rfl ?_); (try (refine gate_guard (by rfl) ?_; dsimp only)); refine box_event ?hg (N := 5) ?hd (cs := #[.int .i64 a2_0, .int .i64 a2_1, .string a2_2, .string a2_3, .int .i64 a2_4, .bool a2_5]) (t := 25) ?hr ?_; (case hd => rfl); (case hg => rfl); (case hr => first | (go_simp; done) | (go_simp; rfl)); intro gb392 hg w7 hbox hb; have BK392 := Aside0.mk (hbox); have GW392 := Aside0.mk ((by rw [hg]; exact (below_size bo) : w.heap.size ≤ gb392)); have GE392 := Aside0.mk ((by rw [hg]; exact (below_size bo) : w.heap.size ≤ gb392)); replace HB := Aside0.mk (below_step bo hb); clear hb hbox hg; obtain ⟨hcz8_0, hcz8_1, hcz8_2, hcz8_3, hcz8_4, hcz8_5⟩ := cl6 BK392.out; obtain ⟨hfz8_0, hfz8_1, hfz8_2, hfz8_3, hfz8_4, hfz8_5⟩ := fz6 BK392.out) | (go_at_call 22; (with_reducible refine (rec_Check.calls k a2_0 a2_1 a2_2 a2_3 a2_4 a2_5 t393 _ A4.out).mono ?_); rintro e w9 ⟨rfl, hb⟩; replace BK392 := Aside0.mk (blk_below (g := gb392) (o := .cells #[.int .i64 a2_0, .int .i64 a2_1, .string a2_2, .string a2_3, .int .i64 a2_4, .bool a2_5] 25 (0, 0)) (bk BK392.out) hb); replace HB := Aside0.mk (below_step bo hb); (try clear hb); (try clear hb2); (try clear hk); (try clear hi); obtain ⟨hcz10_0, hcz10_1, hcz10_2, hcz10_3, hcz10_4, hcz10_5⟩ := cl6 BK392.out; obtain ⟨hfz10_0, hfz10_1, hfz10_2, hfz10_3, hfz10_4, hfz10_5⟩ := fz6 BK392.out)))
   go_ret
   exact ⟨er, bo⟩
  ·rw [if_neg c6] at H
   have c6b0 : decide (a2_0 < a0) = false := decide_eq_false c6
   clear c6
   by_cases c11 : (l1.length : Int) ≥ 200
   ·rw [if_pos c11] at H
    have c11b0 : decide (200 ≤ (l1.length : Int)) = true := decide_eq_true c11
    have c11b1 : decide (200 ≤ l1.length) = true := decide_eq_true (by omega)
    clear c11
    obtain rfl := Option.some.inj H
    go_enter Try.func75, Try.ntmps75
    go_wp2_with (first | ((with_reducible refine gate_dst (N := 5) rfl ?_); (try (refine gate_guard (by rfl) ?_; dsimp only)); refine box_event ?hg (N := 5) ?hd (cs := #[.int .i64 a2_0, .int .i64 a2_1, .string a2_2, .string a2_3, .int .i64 a2_4, .bool a2_5]) (t := 25) ?hr ?_; (case hd => rfl); (case hg => rfl); (case hr => first | (go_simp; done) | (go_simp; rfl)); intro gb392 hg w12 hbox hb; have BK392 := Aside0.mk (hbox); have GW392 := Aside0.mk ((by rw [hg]; exact (below_size bo) : w.heap.size ≤ gb392)); have GE392 := Aside0.mk ((by rw [hg]; exact (below_size bo) : w.heap.size ≤ gb392)); replace HB := Aside0.mk (below_step bo hb); clear hb hbox hg; obtain ⟨hcz13_0, hcz13_1, hcz13_2, hcz13_3, hcz13_4, hcz13_5⟩ := cl6 BK392.out; obtain ⟨hfz13_0, hfz13_1, hfz13_2, hfz13_3, hfz13_4, hfz13_5⟩ := fz6 BK392.out) | (go_at_call 22; (with_reducible refine (rec_Check.calls k a2_0 a2_1 a2_2 a2_3 a2_4 a2_5 t393 _ A4.out).mono ?_); rintro e w14 ⟨rfl, hb⟩; replace BK392 := Aside0.mk (blk_below (g := gb392) (o := .cells #[.int .i64 a2_0, .int .i64 a2_1, .string a2_2, .string a2_3, .int .i64 a2_4, .bool a2_5] 25 (0, 0)) (bk BK392.out) hb); replace HB := Aside0.mk (below_step bo hb); (try clear hb); (try clear hb2); (try clear hk); (try clear hi); obtain ⟨hcz15_0, hcz15_1, hcz15_2, hcz15_3, hcz15_4, hcz15_5⟩ := cl6 BK392.out; obtain ⟨hfz15_0, hfz15_1, hfz15_2, hfz15_3, hfz15_4, hfz15_5⟩ := fz6 BK392.out))
    repeat (go_quiet (first | ((with_reducible refine gate_dst (N := 5) rfl ?_); (try (refine gate_guard (by rfl) ?_; dsimp only)); refine box_event ?hg (N := 5) ?hd (cs := #[.int .i64 a2_0, .int .i64 a2_1, .string a2_2, .string a2_3, .int .i64 a2_4, .bool a2_5]) (t := 25) ?hr ?_; (case hd => rfl); (case hg => rfl); (case hr => first | (go_simp; done) | (go_simp; rfl)); intro gb392 hg w12 hbox hb; have BK392 := Aside0.mk (hbox); have GW392 := Aside0.mk ((by rw [hg]; exact (below_size bo) : w.heap.size ≤ gb392)); have GE392 := Aside0.mk ((by rw [hg]; exact (below_size bo) : w.heap.size ≤ gb392)); replace HB := Aside0.mk (below_step bo hb); clear hb hbox hg; obtain ⟨hcz13_0, hcz13_1, hcz13_2, hcz13_3, hcz13_4, hcz13_5⟩ := cl6 BK392.out; obtain ⟨hfz13_0, hfz13_1, hfz13_2, hfz13_3, hfz13_4, hfz13_5⟩ := fz6 BK392.out) | (go_at_call 22; (with_reducible refine (rec_Check.calls k a2_0 a2_1 a2_2 a2_3 a2_4 a2_5 t393 _ A4.out).mono ?_); rintro e w14 ⟨rfl, hb⟩; replace BK392 := Aside0.mk (blk_below (g := gb392) (o := .cells #[.int .i64 a2_0, .int .i64 a2_1, .string a2_2, .string a2_3, .int .i64 a2_4, .bool a2_5] 25 (0, 0)) (bk BK392.out) hb); replace HB := Aside0.mk (below_step bo hb); (try clear hb); (try clear hb2); (try clear hk); (try clear hi); obtain ⟨hcz15_0, hcz15_1, hcz15_2, hcz15_3, hcz15_4, hcz15_5⟩ := cl6 BK392.out; obtain ⟨hfz15_0, hfz15_1, hfz15_2, hfz15_3, hfz15_4, hfz15_5⟩ := fz6 BK392.out)); try go_wp2_with (first | ((with_reducible refine gate_dst (N := 5) rfl ?_); (try (refine gate_guard (by rfl) ?_; dsimp only)); refine box_event ?hg (N := 5) ?hd (cs := #[.int .i64 a2_0, .int .i64 a2_1, .string a2_2, .string a2_3, .int .i64 a2_4, .bool a2_5]) (t := 25) ?hr ?_; (case hd => rfl); (case hg => rfl); (case hr => first | (go_simp; done) | (go_simp; rfl)); intro gb392 hg w12 hbox hb; have BK392 := Aside0.mk (hbox); have GW392 := Aside0.mk ((by rw [hg]; exact (below_size bo) : w.heap.size ≤ gb392)); have GE392 := Aside0.mk ((by rw [hg]; exact (below_size bo) : w.heap.size ≤ gb392)); replace HB := Aside0.mk (below_step bo hb); clear hb hbox hg; obtain ⟨hcz13_0, hcz13_1, hcz13_2, hcz13_3, hcz13_4, hcz13_5⟩ := cl6 BK392.out; obtain ⟨hfz13_0, hfz13_1, hfz13_2, hfz13_3, hfz13_4, hfz13_5⟩ := fz6 BK392.out) | (go_at_call 22; (with_reducible refine (rec_Check.calls k a2_0 a2_1 a2_2 a2_3 a2_4 a2_5 t393 _ A4.out).mono ?_); rintro e w14 ⟨rfl, hb⟩; replace BK392 := Aside0.mk (blk_below (g := gb392) (o := .cells #[.int .i64 a2_0, .int .i64 a2_1, .string a2_2, .string a2_3, .int .i64 a2_4, .bool a2_5] 25 (0, 0)) (bk BK392.out) hb); replace HB := Aside0.mk (below_step bo hb); (try clear hb); (try clear hb2); (try clear hk); (try clear hi); obtain ⟨hcz15_0, hcz15_1, hcz15_2, hcz15_3, hcz15_4, hcz15_5⟩ := cl6 BK392.out; obtain ⟨hfz15_0, hfz15_1, hfz15_2, hfz15_3, hfz15_4, hfz15_5⟩ := fz6 BK392.out)))
    go_ret
    exact ⟨er, bo⟩
   ·rw [if_neg c11] at H
    have c11b0 : decide (200 ≤ (l1.length : Int)) = false := decide_eq_false c11
    have c11b1 : decide (200 ≤ l1.length) = false := decide_eq_false (by omega)
    clear c11
    by_cases c16 : (l1.length : Int) = 0
    ·rw [if_pos c16] at H
     have c16b0 : ((l1.length : Int) == 0) = true := beq_iff_eq.mpr c16
     have c16b1 : ((l1.length : Int) != 0) = false := bne_eq_false_iff_eq.mpr c16
     clear c16
     obtain rfl := Option.some.inj H
     go_enter Try.func75, Try.ntmps75
     go_wp2_with (first | ((with_reducible refine gate_dst (N := 5) rfl ?_); (try (refine gate_guard (by rfl) ?_; dsimp only)); refine box_event ?hg (N := 5) ?hd (cs := #[.int .i64 a2_0, .int .i64 a2_1, .string a2_2, .string a2_3, .int .i64 a2_4, .bool a2_5]) (t := 25) ?hr ?_; (case hd => rfl); (case hg => rfl); (case hr => first | (go_simp; done) | (go_simp; rfl)); intro gb392 hg w17 hbox hb; have BK392 := Aside0.mk (hbox); have GW392 := Aside0.mk ((by rw [hg]; exact (below_size bo) : w.heap.size ≤ gb392)); have GE392 := Aside0.mk ((by rw [hg]; exact (below_size bo) : w.heap.size ≤ gb392)); replace HB := Aside0.mk (below_step bo hb); clear hb hbox hg; obtain ⟨hcz18_0, hcz18_1, hcz18_2, hcz18_3, hcz18_4, hcz18_5⟩ := cl6 BK392.out; obtain ⟨hfz18_0, hfz18_1, hfz18_2, hfz18_3, hfz18_4, hfz18_5⟩ := fz6 BK392.out) | (go_at_call 22; (with_reducible refine (rec_Check.calls k a2_0 a2_1 a2_2 a2_3 a2_4 a2_5 t393 _ A4.out).mono ?_); rintro e w19 ⟨rfl, hb⟩; replace BK392 := Aside0.mk (blk_below (g := gb392) (o := .cells #[.int .i64 a2_0, .int .i64 a2_1, .string a2_2, .string a2_3, .int .i64 a2_4, .bool a2_5] 25 (0, 0)) (bk BK392.out) hb); replace HB := Aside0.mk (below_step bo hb); (try clear hb); (try clear hb2); (try clear hk); (try clear hi); obtain ⟨hcz20_0, hcz20_1, hcz20_2, hcz20_3, hcz20_4, hcz20_5⟩ := cl6 BK392.out; obtain ⟨hfz20_0, hfz20_1, hfz20_2, hfz20_3, hfz20_4, hfz20_5⟩ := fz6 BK392.out))
     repeat (go_quiet (first | ((with_reducible refine gate_dst (N := 5) rfl ?_); (try (refine gate_guard (by rfl) ?_; dsimp only)); refine box_event ?hg (N := 5) ?hd (cs := #[.int .i64 a2_0, .int .i64 a2_1, .string a2_2, .string a2_3, .int .i64 a2_4, .bool a2_5]) (t := 25) ?hr ?_; (case hd => rfl); (case hg => rfl); (case hr => first | (go_simp; done) | (go_simp; rfl)); intro gb392 hg w17 hbox hb; have BK392 := Aside0.mk (hbox); have GW392 := Aside0.mk ((by rw [hg]; exact (below_size bo) : w.heap.size ≤ gb392)); have GE392 := Aside0.mk ((by rw [hg]; exact (below_size bo) : w.heap.size ≤ gb392)); replace HB := Aside0.mk (below_step bo hb); clear hb hbox hg; obtain ⟨hcz18_0, hcz18_1, hcz18_2, hcz18_3, hcz18_4, hcz18_5⟩ := cl6 BK392.out; obtain ⟨hfz18_0, hfz18_1, hfz18_2, hfz18_3, hfz18_4, hfz18_5⟩ := fz6 BK392.out) | (go_at_call 22; (with_reducible refine (rec_Check.calls k a2_0 a2_1 a2_2 a2_3 a2_4 a2_5 t393 _ A4.out).mono ?_); rintro e w19 ⟨rfl, hb⟩; replace BK392 := Aside0.mk (blk_below (g := gb392) (o := .cells #[.int .i64 a2_0, .int .i64 a2_1, .string a2_2, .string a2_3, .int .i64 a2_4, .bool a2_5] 25 (0, 0)) (bk BK392.out) hb); replace HB := Aside0.mk (below_step bo hb); (try clear hb); (try clear hb2); (try clear hk); (try clear hi); obtain ⟨hcz20_0, hcz20_1, hcz20_2, hcz20_3, hcz20_4, hcz20_5⟩ := cl6 BK392.out; obtain ⟨hfz20_0, hfz20_1, hfz20_2, hfz20_3, hfz20_4, hfz20_5⟩ := fz6 BK392.out)); try go_wp2_with (first | ((with_reducible refine gate_dst (N := 5) rfl ?_); (try (refine gate_guard (by rfl) ?_; dsimp only)); refine box_event ?hg (N := 5) ?hd (cs := #[.int .i64 a2_0, .int .i64 a2_1, .string a2_2, .string a2_3, .int .i64 a2_4, .bool a2_5]) (t := 25) ?hr ?_; (case hd => rfl); (case hg => rfl); (case hr => first | (go_simp; done) | (go_simp; rfl)); intro gb392 hg w17 hbox hb; have BK392 := Aside0.mk (hbox); have GW392 := Aside0.mk ((by rw [hg]; exact (below_size bo) : w.heap.size ≤ gb392)); have GE392 := Aside0.mk ((by rw [hg]; exact (below_size bo) : w.heap.size ≤ gb392)); replace HB := Aside0.mk (below_step bo hb); clear hb hbox hg; obtain ⟨hcz18_0, hcz18_1, hcz18_2, hcz18_3, hcz18_4, hcz18_5⟩ := cl6 BK392.out; obtain ⟨hfz18_0, hfz18_1, hfz18_2, hfz18_3, hfz18_4, hfz18_5⟩ := fz6 BK392.out) | (go_at_call 22; (with_reducible refine (rec_Check.calls k a2_0 a2_1 a2_2 a2_3 a2_4 a2_5 t393 _ A4.out).mono ?_); rintro e w19 ⟨rfl, hb⟩; replace BK392 := Aside0.mk (blk_below (g := gb392) (o := .cells #[.int .i64 a2_0, .int .i64 a2_1, .string a2_2, .string a2_3, .int .i64 a2_4, .bool a2_5] 25 (0, 0)) (bk BK392.out) hb); replace HB := Aside0.mk (below_step bo hb); (try clear hb); (try clear hb2); (try clear hk); (try clear hi); obtain ⟨hcz20_0, hcz20_1, hcz20_2, hcz20_3, hcz20_4, hcz20_5⟩ := cl6 BK392.out; obtain ⟨hfz20_0, hfz20_1, hfz20_2, hfz20_3, hfz20_4, hfz20_5⟩ := fz6 BK392.out)))
     go_ret
     exact ⟨er, bo⟩
    ·rw [if_neg c16] at H
     have c16b0 : ((l1.length : Int) == 0) = false := beq_eq_false_iff_ne.mpr c16
     have c16b1 : ((l1.length : Int) != 0) = true := bne_iff_ne.mpr c16
     have c16b2 : ¬ (l1 = []) := fun h_ => c16 (by rw [h_]; rfl)
     obtain ⟨ji21, hji21⟩ : ∃ j_ : Int, (wrap64 ((l1.length : Int) - 1)) = j_ := ⟨_, rfl⟩
     replace H : (if 0 ≤ (ji21) then (if (ji21) < (l1.length : Int) then (if ((rd_T25 l1 (ji21)).f0) < a2_0 then (some (decide (((rd_T25 l1 (ji21)).f1) ≤ a2_1))) else (some false)) else (none)) else (none)) = some r := by first | (rw [hji21] at H; exact H) | (simp only [hji21] at H ⊢; exact H)
     (try rw [hji21] at A4)
     have hji21w : (IntKind.i64.wrap ((l1.length : Int) - 1)) = ji21 := (i64_w _).trans hji21
     by_cases c22 : 0 ≤ (ji21)
     ·rw [if_pos c22] at H
      have c22b0 : decide (0 ≤ (ji21)) = true := decide_eq_true c22
      clear c22
      by_cases c23 : (ji21) < (l1.length : Int)
      ·rw [if_pos c23] at H
       have c23b0 : decide ((ji21) < (l1.length : Int)) = true := decide_eq_true c23
       clear c23
       by_cases c24 : ((rd_T25 l1 (ji21)).f0) < a2_0
       ·rw [if_pos c24] at H
        have c24b0 : decide (((rd_T25 l1 (ji21)).f0) < a2_0) = true := decide_eq_true c24
        clear c24
        obtain rfl := Option.some.inj H
        go_enter Try.func75, Try.ntmps75
        go_wp2_with (first | ((with_reducible refine gate_dst (N := 5) rfl ?_); (try (refine gate_guard (by rfl) ?_; dsimp only)); refine box_event ?hg (N := 5) ?hd (cs := #[.int .i64 a2_0, .int .i64 a2_1, .string a2_2, .string a2_3, .int .i64 a2_4, .bool a2_5]) (t := 25) ?hr ?_; (case hd => rfl); (case hg => rfl); (case hr => first | (go_simp; done) | (go_simp; rfl)); intro gb392 hg w25 hbox hb; have BK392 := Aside0.mk (hbox); have GW392 := Aside0.mk ((by rw [hg]; exact (below_size bo) : w.heap.size ≤ gb392)); have GE392 := Aside0.mk ((by rw [hg]; exact (below_size bo) : w.heap.size ≤ gb392)); replace HB := Aside0.mk (below_step bo hb); clear hb hbox hg; obtain ⟨hcz26_0, hcz26_1, hcz26_2, hcz26_3, hcz26_4, hcz26_5⟩ := cl6 BK392.out; obtain ⟨hfz26_0, hfz26_1, hfz26_2, hfz26_3, hfz26_4, hfz26_5⟩ := fz6 BK392.out) | (go_at_call 22; (with_reducible refine (rec_Check.calls k a2_0 a2_1 a2_2 a2_3 a2_4 a2_5 t393 _ A4.out).mono ?_); rintro e w27 ⟨rfl, hb⟩; replace BK392 := Aside0.mk (blk_below (g := gb392) (o := .cells #[.int .i64 a2_0, .int .i64 a2_1, .string a2_2, .string a2_3, .int .i64 a2_4, .bool a2_5] 25 (0, 0)) (bk BK392.out) hb); replace HB := Aside0.mk (below_step bo hb); (try clear hb); (try clear hb2); (try clear hk); (try clear hi); obtain ⟨hcz28_0, hcz28_1, hcz28_2, hcz28_3, hcz28_4, hcz28_5⟩ := cl6 BK392.out; obtain ⟨hfz28_0, hfz28_1, hfz28_2, hfz28_3, hfz28_4, hfz28_5⟩ := fz6 BK392.out; have p394 : 0 ≤ ((ji21) : Int) := od; have q394 : (ji21) < (l1.length : Int) := od; obtain ⟨ad394, e394, hx394_0, hx394_1, hx394_2, hx394_3, hx394_4, hx394_5⟩ := at_T25 HR1.out (ji21) p394 q394; cases e394; replace hx394_0 := cx HB.out hx394_0; replace hx394_1 := cx HB.out hx394_1; replace hx394_2 := cx HB.out hx394_2; replace hx394_3 := cx HB.out hx394_3; replace hx394_4 := cx HB.out hx394_4; replace hx394_5 := cx HB.out hx394_5; replace p394 := eq_true p394; replace q394 := eq_true q394; have p395 : 0 ≤ ((ji21) : Int) := od; have q395 : (ji21) < (l1.length : Int) := od; obtain ⟨ad395, e395, hx395_0, hx395_1, hx395_2, hx395_3, hx395_4, hx395_5⟩ := at_T25 HR1.out (ji21) p395 q395; obtain rfl : ad394 = ad395 := (by injection e395); replace hx395_0 := cx HB.out hx395_0; replace hx395_1 := cx HB.out hx395_1; replace hx395_2 := cx HB.out hx395_2; replace hx395_3 := cx HB.out hx395_3; replace hx395_4 := cx HB.out hx395_4; replace hx395_5 := cx HB.out hx395_5; replace p395 := eq_true p395; replace q395 := eq_true q395))
        repeat (go_quiet (first | ((with_reducible refine gate_dst (N := 5) rfl ?_); (try (refine gate_guard (by rfl) ?_; dsimp only)); refine box_event ?hg (N := 5) ?hd (cs := #[.int .i64 a2_0, .int .i64 a2_1, .string a2_2, .string a2_3, .int .i64 a2_4, .bool a2_5]) (t := 25) ?hr ?_; (case hd => rfl); (case hg => rfl); (case hr => first | (go_simp; done) | (go_simp; rfl)); intro gb392 hg w25 hbox hb; have BK392 := Aside0.mk (hbox); have GW392 := Aside0.mk ((by rw [hg]; exact (below_size bo) : w.heap.size ≤ gb392)); have GE392 := Aside0.mk ((by rw [hg]; exact (below_size bo) : w.heap.size ≤ gb392)); replace HB := Aside0.mk (below_step bo hb); clear hb hbox hg; obtain ⟨hcz26_0, hcz26_1, hcz26_2, hcz26_3, hcz26_4, hcz26_5⟩ := cl6 BK392.out; obtain ⟨hfz26_0, hfz26_1, hfz26_2, hfz26_3, hfz26_4, hfz26_5⟩ := fz6 BK392.out) | (go_at_call 22; (with_reducible refine (rec_Check.calls k a2_0 a2_1 a2_2 a2_3 a2_4 a2_5 t393 _ A4.out).mono ?_); rintro e w27 ⟨rfl, hb⟩; replace BK392 := Aside0.mk (blk_below (g := gb392) (o := .cells #[.int .i64 a2_0, .int .i64 a2_1, .string a2_2, .string a2_3, .int .i64 a2_4, .bool a2_5] 25 (0, 0)) (bk BK392.out) hb); replace HB := Aside0.mk (below_step bo hb); (try clear hb); (try clear hb2); (try clear hk); (try clear hi); obtain ⟨hcz28_0, hcz28_1, hcz28_2, hcz28_3, hcz28_4, hcz28_5⟩ := cl6 BK392.out; obtain ⟨hfz28_0, hfz28_1, hfz28_2, hfz28_3, hfz28_4, hfz28_5⟩ := fz6 BK392.out; have p394 : 0 ≤ ((ji21) : Int) := od; have q394 : (ji21) < (l1.length : Int) := od; obtain ⟨ad394, e394, hx394_0, hx394_1, hx394_2, hx394_3, hx394_4, hx394_5⟩ := at_T25 HR1.out (ji21) p394 q394; cases e394; replace hx394_0 := cx HB.out hx394_0; replace hx394_1 := cx HB.out hx394_1; replace hx394_2 := cx HB.out hx394_2; replace hx394_3 := cx HB.out hx394_3; replace hx394_4 := cx HB.out hx394_4; replace hx394_5 := cx HB.out hx394_5; replace p394 := eq_true p394; replace q394 := eq_true q394; have p395 : 0 ≤ ((ji21) : Int) := od; have q395 : (ji21) < (l1.length : Int) := od; obtain ⟨ad395, e395, hx395_0, hx395_1, hx395_2, hx395_3, hx395_4, hx395_5⟩ := at_T25 HR1.out (ji21) p395 q395; obtain rfl : ad394 = ad395 := (by injection e395); replace hx395_0 := cx HB.out hx395_0; replace hx395_1 := cx HB.out hx395_1; replace hx395_2 := cx HB.out hx395_2; replace hx395_3 := cx HB.out hx395_3; replace hx395_4 := cx HB.out hx395_4; replace hx395_5 := cx HB.out hx395_5; replace p395 := eq_true p395; replace q395 := eq_true q395)); try go_wp2_with (first | ((with_reducible refine gate_dst (N := 5) rfl ?_); (try (refine gate_guard (by rfl) ?_; dsimp only)); refine box_event ?hg (N := 5) ?hd (cs := #[.int .i64 a2_0, .int .i64 a2_1, .string a2_2, .string a2_3, .int .i64 a2_4, .bool a2_5]) (t := 25) ?hr ?_; (case hd => rfl); (case hg => rfl); (case hr => first | (go_simp; done) | (go_simp; rfl)); intro gb392 hg w25 hbox hb; have BK392 := Aside0.mk (hbox); have GW392 := Aside0.mk ((by rw [hg]; exact (below_size bo) : w.heap.size ≤ gb392)); have GE392 := Aside0.mk ((by rw [hg]; exact (below_size bo) : w.heap.size ≤ gb392)); replace HB := Aside0.mk (below_step bo hb); clear hb hbox hg; obtain ⟨hcz26_0, hcz26_1, hcz26_2, hcz26_3, hcz26_4, hcz26_5⟩ := cl6 BK392.out; obtain ⟨hfz26_0, hfz26_1, hfz26_2, hfz26_3, hfz26_4, hfz26_5⟩ := fz6 BK392.out) | (go_at_call 22; (with_reducible refine (rec_Check.calls k a2_0 a2_1 a2_2 a2_3 a2_4 a2_5 t393 _ A4.out).mono ?_); rintro e w27 ⟨rfl, hb⟩; replace BK392 := Aside0.mk (blk_below (g := gb392) (o := .cells #[.int .i64 a2_0, .int .i64 a2_1, .string a2_2, .string a2_3, .int .i64 a2_4, .bool a2_5] 25 (0, 0)) (bk BK392.out) hb); replace HB := Aside0.mk (below_step bo hb); (try clear hb); (try clear hb2); (try clear hk); (try clear hi); obtain ⟨hcz28_0, hcz28_1, hcz28_2, hcz28_3, hcz28_4, hcz28_5⟩ := cl6 BK392.out; obtain ⟨hfz28_0, hfz28_1, hfz28_2, hfz28_3, hfz28_4, hfz28_5⟩ := fz6 BK392.out; have p394 : 0 ≤ ((ji21) : Int) := od; have q394 : (ji21) < (l1.length : Int) := od; obtain ⟨ad394, e394, hx394_0, hx394_1, hx394_2, hx394_3, hx394_4, hx394_5⟩ := at_T25 HR1.out (ji21) p394 q394; cases e394; replace hx394_0 := cx HB.out hx394_0; replace hx394_1 := cx HB.out hx394_1; replace hx394_2 := cx HB.out hx394_2; replace hx394_3 := cx HB.out hx394_3; replace hx394_4 := cx HB.out hx394_4; replace hx394_5 := cx HB.out hx394_5; replace p394 := eq_true p394; replace q394 := eq_true q394; have p395 : 0 ≤ ((ji21) : Int) := od; have q395 : (ji21) < (l1.length : Int) := od; obtain ⟨ad395, e395, hx395_0, hx395_1, hx395_2, hx395_3, hx395_4, hx395_5⟩ := at_T25 HR1.out (ji21) p395 q395; obtain rfl : ad394 = ad395 := (by injection e395); replace hx395_0 := cx HB.out hx395_0; replace hx395_1 := cx HB.out hx395_1; replace hx395_2 := cx HB.out hx395_2; replace hx395_3 := cx HB.out hx395_3; replace hx395_4 := cx HB.out hx395_4; replace hx395_5 := cx HB.out hx395_5; replace p395 := eq_true p395; replace q395 := eq_true q395)))
        go_ret
        exact ⟨by first | rfl | (simp [errW_none, errW_some] <;> rfl) | (simp only [← hji21]; first | rfl | (simp [errW_none, errW_some] <;> rfl)) | (simp [*, errW_none, errW_some] <;> rfl), bo⟩
       ·rw [if_neg c24] at H
        have c24b0 : decide (((rd_T25 l1 (ji21)).f0) < a2_0) = false := decide_eq_false c24
        clear c24
        obtain rfl := Option.some.inj H
        go_enter Try.func75, Try.ntmps75
        go_wp2_with (first | ((with_reducible refine gate_dst (N := 5) rfl ?_); (try (refine gate_guard (by rfl) ?_; dsimp only)); refine box_event ?hg (N := 5) ?hd (cs := #[.int .i64 a2_0, .int .i64 a2_1, .string a2_2, .string a2_3, .int .i64 a2_4, .bool a2_5]) (t := 25) ?hr ?_; (case hd => rfl); (case hg => rfl); (case hr => first | (go_simp; done) | (go_simp; rfl)); intro gb392 hg w29 hbox hb; have BK392 := Aside0.mk (hbox); have GW392 := Aside0.mk ((by rw [hg]; exact (below_size bo) : w.heap.size ≤ gb392)); have GE392 := Aside0.mk ((by rw [hg]; exact (below_size bo) : w.heap.size ≤ gb392)); replace HB := Aside0.mk (below_step bo hb); clear hb hbox hg; obtain ⟨hcz30_0, hcz30_1, hcz30_2, hcz30_3, hcz30_4, hcz30_5⟩ := cl6 BK392.out; obtain ⟨hfz30_0, hfz30_1, hfz30_2, hfz30_3, hfz30_4, hfz30_5⟩ := fz6 BK392.out) | (go_at_call 22; (with_reducible refine (rec_Check.calls k a2_0 a2_1 a2_2 a2_3 a2_4 a2_5 t393 _ A4.out).mono ?_); rintro e w31 ⟨rfl, hb⟩; replace BK392 := Aside0.mk (blk_below (g := gb392) (o := .cells #[.int .i64 a2_0, .int .i64 a2_1, .string a2_2, .string a2_3, .int .i64 a2_4, .bool a2_5] 25 (0, 0)) (bk BK392.out) hb); replace HB := Aside0.mk (below_step bo hb); (try clear hb); (try clear hb2); (try clear hk); (try clear hi); obtain ⟨hcz32_0, hcz32_1, hcz32_2, hcz32_3, hcz32_4, hcz32_5⟩ := cl6 BK392.out; obtain ⟨hfz32_0, hfz32_1, hfz32_2, hfz32_3, hfz32_4, hfz32_5⟩ := fz6 BK392.out; have p394 : 0 ≤ ((ji21) : Int) := od; have q394 : (ji21) < (l1.length : Int) := od; obtain ⟨ad394, e394, hx394_0, hx394_1, hx394_2, hx394_3, hx394_4, hx394_5⟩ := at_T25 HR1.out (ji21) p394 q394; cases e394; replace hx394_0 := cx HB.out hx394_0; replace hx394_1 := cx HB.out hx394_1; replace hx394_2 := cx HB.out hx394_2; replace hx394_3 := cx HB.out hx394_3; replace hx394_4 := cx HB.out hx394_4; replace hx394_5 := cx HB.out hx394_5; replace p394 := eq_true p394; replace q394 := eq_true q394))
        repeat (go_quiet (first | ((with_reducible refine gate_dst (N := 5) rfl ?_); (try (refine gate_guard (by rfl) ?_; dsimp only)); refine box_event ?hg (N := 5) ?hd (cs := #[.int .i64 a2_0, .int .i64 a2_1, .string a2_2, .string a2_3, .int .i64 a2_4, .bool a2_5]) (t := 25) ?hr ?_; (case hd => rfl); (case hg => rfl); (case hr => first | (go_simp; done) | (go_simp; rfl)); intro gb392 hg w29 hbox hb; have BK392 := Aside0.mk (hbox); have GW392 := Aside0.mk ((by rw [hg]; exact (below_size bo) : w.heap.size ≤ gb392)); have GE392 := Aside0.mk ((by rw [hg]; exact (below_size bo) : w.heap.size ≤ gb392)); replace HB := Aside0.mk (below_step bo hb); clear hb hbox hg; obtain ⟨hcz30_0, hcz30_1, hcz30_2, hcz30_3, hcz30_4, hcz30_5⟩ := cl6 BK392.out; obtain ⟨hfz30_0, hfz30_1, hfz30_2, hfz30_3, hfz30_4, hfz30_5⟩ := fz6 BK392.out) | (go_at_call 22; (with_reducible refine (rec_Check.calls k a2_0 a2_1 a2_2 a2_3 a2_4 a2_5 t393 _ A4.out).mono ?_); rintro e w31 ⟨rfl, hb⟩; replace BK392 := Aside0.mk (blk_below (g := gb392) (o := .cells #[.int .i64 a2_0, .int .i64 a2_1, .string a2_2, .string a2_3, .int .i64 a2_4, .bool a2_5] 25 (0, 0)) (bk BK392.out) hb); replace HB := Aside0.mk (below_step bo hb); (try clear hb); (try clear hb2); (try clear hk); (try clear hi); obtain ⟨hcz32_0, hcz32_1, hcz32_2, hcz32_3, hcz32_4, hcz32_5⟩ := cl6 BK392.out; obtain ⟨hfz32_0, hfz32_1, hfz32_2, hfz32_3, hfz32_4, hfz32_5⟩ := fz6 BK392.out; have p394 : 0 ≤ ((ji21) : Int) := od; have q394 : (ji21) < (l1.length : Int) := od; obtain ⟨ad394, e394, hx394_0, hx394_1, hx394_2, hx394_3, hx394_4, hx394_5⟩ := at_T25 HR1.out (ji21) p394 q394; cases e394; replace hx394_0 := cx HB.out hx394_0; replace hx394_1 := cx HB.out hx394_1; replace hx394_2 := cx HB.out hx394_2; replace hx394_3 := cx HB.out hx394_3; replace hx394_4 := cx HB.out hx394_4; replace hx394_5 := cx HB.out hx394_5; replace p394 := eq_true p394; replace q394 := eq_true q394)); try go_wp2_with (first | ((with_reducible refine gate_dst (N := 5) rfl ?_); (try (refine gate_guard (by rfl) ?_; dsimp only)); refine box_event ?hg (N := 5) ?hd (cs := #[.int .i64 a2_0, .int .i64 a2_1, .string a2_2, .string a2_3, .int .i64 a2_4, .bool a2_5]) (t := 25) ?hr ?_; (case hd => rfl); (case hg => rfl); (case hr => first | (go_simp; done) | (go_simp; rfl)); intro gb392 hg w29 hbox hb; have BK392 := Aside0.mk (hbox); have GW392 := Aside0.mk ((by rw [hg]; exact (below_size bo) : w.heap.size ≤ gb392)); have GE392 := Aside0.mk ((by rw [hg]; exact (below_size bo) : w.heap.size ≤ gb392)); replace HB := Aside0.mk (below_step bo hb); clear hb hbox hg; obtain ⟨hcz30_0, hcz30_1, hcz30_2, hcz30_3, hcz30_4, hcz30_5⟩ := cl6 BK392.out; obtain ⟨hfz30_0, hfz30_1, hfz30_2, hfz30_3, hfz30_4, hfz30_5⟩ := fz6 BK392.out) | (go_at_call 22; (with_reducible refine (rec_Check.calls k a2_0 a2_1 a2_2 a2_3 a2_4 a2_5 t393 _ A4.out).mono ?_); rintro e w31 ⟨rfl, hb⟩; replace BK392 := Aside0.mk (blk_below (g := gb392) (o := .cells #[.int .i64 a2_0, .int .i64 a2_1, .string a2_2, .string a2_3, .int .i64 a2_4, .bool a2_5] 25 (0, 0)) (bk BK392.out) hb); replace HB := Aside0.mk (below_step bo hb); (try clear hb); (try clear hb2); (try clear hk); (try clear hi); obtain ⟨hcz32_0, hcz32_1, hcz32_2, hcz32_3, hcz32_4, hcz32_5⟩ := cl6 BK392.out; obtain ⟨hfz32_0, hfz32_1, hfz32_2, hfz32_3, hfz32_4, hfz32_5⟩ := fz6 BK392.out; have p394 : 0 ≤ ((ji21) : Int) := od; have q394 : (ji21) < (l1.length : Int) := od; obtain ⟨ad394, e394, hx394_0, hx394_1, hx394_2, hx394_3, hx394_4, hx394_5⟩ := at_T25 HR1.out (ji21) p394 q394; cases e394; replace hx394_0 := cx HB.out hx394_0; replace hx394_1 := cx HB.out hx394_1; replace hx394_2 := cx HB.out hx394_2; replace hx394_3 := cx HB.out hx394_3; replace hx394_4 := cx HB.out hx394_4; replace hx394_5 := cx HB.out hx394_5; replace p394 := eq_true p394; replace q394 := eq_true q394)))
        go_ret
        exact ⟨by first | rfl | (simp [errW_none, errW_some] <;> rfl) | (simp only [← hji21]; first | rfl | (simp [errW_none, errW_some] <;> rfl)) | (simp [*, errW_none, errW_some] <;> rfl), bo⟩
      ·rw [if_neg c23] at H
       exact absurd H (by simp)
     ·rw [if_neg c22] at H
      exact absurd H (by simp)
 ·rw [if_neg c5] at H
  have c5b0 : (t393 == 0) = false := beq_eq_false_iff_ne.mpr c5
  have c5b1 : (t393 != 0) = true := bne_iff_ne.mpr c5
  obtain rfl := Option.some.inj H
  go_enter Try.func75, Try.ntmps75
  go_wp2_with (first | ((with_reducible refine gate_dst (N := 5) rfl ?_); (try (refine gate_guard (by rfl) ?_; dsimp only)); refine box_event ?hg (N := 5) ?hd (cs := #[.int .i64 a2_0, .int .i64 a2_1, .string a2_2, .string a2_3, .int .i64 a2_4, .bool a2_5]) (t := 25) ?hr ?_; (case hd => rfl); (case hg => rfl); (case hr => first | (go_simp; done) | (go_simp; rfl)); intro gb392 hg w33 hbox hb; have BK392 := Aside0.mk (hbox); have GW392 := Aside0.mk ((by rw [hg]; exact (below_size bo) : w.heap.size ≤ gb392)); have GE392 := Aside0.mk ((by rw [hg]; exact (below_size bo) : w.heap.size ≤ gb392)); replace HB := Aside0.mk (below_step bo hb); clear hb hbox hg; obtain ⟨hcz34_0, hcz34_1, hcz34_2, hcz34_3, hcz34_4, hcz34_5⟩ := cl6 BK392.out; obtain ⟨hfz34_0, hfz34_1, hfz34_2, hfz34_3, hfz34_4, hfz34_5⟩ := fz6 BK392.out) | (go_at_call 22; (with_reducible refine (rec_Check.calls k a2_0 a2_1 a2_2 a2_3 a2_4 a2_5 t393 _ A4.out).mono ?_); rintro e w35 ⟨rfl, hb⟩; replace BK392 := Aside0.mk (blk_below (g := gb392) (o := .cells #[.int .i64 a2_0, .int .i64 a2_1, .string a2_2, .string a2_3, .int .i64 a2_4, .bool a2_5] 25 (0, 0)) (bk BK392.out) hb); replace HB := Aside0.mk (below_step bo hb); (try clear hb); (try clear hb2); (try clear hk); (try clear hi)))
  repeat (go_quiet (first | ((with_reducible refine gate_dst (N := 5) rfl ?_); (try (refine gate_guard (by rfl) ?_; dsimp only)); refine box_event ?hg (N := 5) ?hd (cs := #[.int .i64 a2_0, .int .i64 a2_1, .string a2_2, .string a2_3, .int .i64 a2_4, .bool a2_5]) (t := 25) ?hr ?_; (case hd => rfl); (case hg => rfl); (case hr => first | (go_simp; done) | (go_simp; rfl)); intro gb392 hg w33 hbox hb; have BK392 := Aside0.mk (hbox); have GW392 := Aside0.mk ((by rw [hg]; exact (below_size bo) : w.heap.size ≤ gb392)); have GE392 := Aside0.mk ((by rw [hg]; exact (below_size bo) : w.heap.size ≤ gb392)); replace HB := Aside0.mk (below_step bo hb); clear hb hbox hg; obtain ⟨hcz34_0, hcz34_1, hcz34_2, hcz34_3, hcz34_4, hcz34_5⟩ := cl6 BK392.out; obtain ⟨hfz34_0, hfz34_1, hfz34_2, hfz34_3, hfz34_4, hfz34_5⟩ := fz6 BK392.out) | (go_at_call 22; (with_reducible refine (rec_Check.calls k a2_0 a2_1 a2_2 a2_3 a2_4 a2_5 t393 _ A4.out).mono ?_); rintro e w35 ⟨rfl, hb⟩; replace BK392 := Aside0.mk (blk_below (g := gb392) (o := .cells #[.int .i64 a2_0, .int .i64 a2_1, .string a2_2, .string a2_3, .int .i64 a2_4, .bool a2_5] 25 (0, 0)) (bk BK392.out) hb); replace HB := Aside0.mk (below_step bo hb); (try clear hb); (try clear hb2); (try clear hk); (try clear hi))); try go_wp2_with (first | ((with_reducible refine gate_dst (N := 5) rfl ?_); (try (refine gate_guard (by rfl) ?_; dsimp only)); refine box_event ?hg (N := 5) ?hd (cs := #[.int .i64 a2_0, .int .i64 a2_1, .string a2_2, .string a2_3, .int .i64 a2_4, .bool a2_5]) (t := 25) ?hr ?_; (case hd => rfl); (case hg => rfl); (case hr => first | (go_simp; done) | (go_simp; rfl)); intro gb392 hg w33 hbox hb; have BK392 := Aside0.mk (hbox); have GW392 := Aside0.mk ((by rw [hg]; exact (below_size bo) : w.heap.size ≤ gb392)); have GE392 := Aside0.mk ((by rw [hg]; exact (below_size bo) : w.heap.size ≤ gb392)); replace HB := Aside0.mk (below_step bo hb); clear hb hbox hg; obtain ⟨hcz34_0, hcz34_1, hcz34_2, hcz34_3, hcz34_4, hcz34_5⟩ := cl6 BK392.out; obtain ⟨hfz34_0, hfz34_1, hfz34_2, hfz34_3, hfz34_4, hfz34_5⟩ := fz6 BK392.out) | (go_at_call 22; (with_reducible refine (rec_Check.calls k a2_0 a2_1 a2_2 a2_3 a2_4 a2_5 t393 _ A4.out).mono ?_); rintro e w35 ⟨rfl, hb⟩; replace BK392 := Aside0.mk (blk_below (g := gb392) (o := .cells #[.int .i64 a2_0, .int .i64 a2_1, .string a2_2, .string a2_3, .int .i64 a2_4, .bool a2_5] 25 (0, 0)) (bk BK392.out) hb); replace HB := Aside0.mk (below_step bo hb); (try clear hb); (try clear hb2); (try clear hk); (try clear hi))))
  go_ret
  exact ⟨er, bo⟩

end Go.Proofs.Ytmabdfdmccbfnaa.P

-- written by a program of the proving session, out of the translation; Lean checks it
namespace Go.Proofs.Ytmabdfdmccbfnaa.P
open Go.RowKit Go.Proofs.Ytmabdfdmccbfnaa.Sq Go.Proofs.YtmabdfdmccbfnaaW.PrintWords Go.Proofs.YtmabdfdmccbfnaaW.PrintLast Go.Proofs.YtmabdfdmccbfnaaW.PrintMore
attribute [local go_sem] max2_int min2_int max_two min_two max_three min_three max_four min_four   -- for this text's walks alone
set_option linter.unusedVariables false
set_option linter.unusedSimpArgs false

/-! ### seg_Check: function 46 -/
mutual
def seg_Check.j0 : Nat → Bool → Int → List (S25) → Option (Int)
 | 0, _, _, _ => none
 | k + 1, x12, x397000, x397001 => if x12 = true then (some 1) else (seg_Check.l0 k x397001 (x397001.length : Int) 0 x397000 x397001)
def seg_Check.l0 : Nat → List (S25) → Int → Int → Int → List (S25) → Option (Int)
 | 0, _, _, _, _, _ => none
 | k + 1, x14, x15, x16, x397000, x397001 => if x16 < x15 then (if 0 ≤ x16 then (if x16 < (x14.length : Int) then (if x16 ≤ (x397001.length : Int) then ((seg_behind.f k x397000 (x397001.take (x16 : Int).toNat) ((rd_T25 x14 x16).f0) ((rd_T25 x14 x16).f1) ((rd_T25 x14 x16).f2) ((rd_T25 x14 x16).f3) ((rd_T25 x14 x16).f4) ((rd_T25 x14 x16).f5)).bind fun t403 => (if t403 = true then (seg_Check.l0 k x14 x15 (wrap64 (x16 + 1)) x397000 x397001) else (some 1))) else (none)) else (none)) else (none)) else (some 0)
end
def seg_Check.f (k : Nat) (a0_0 : Int) (l0_1 : List (S25)) : Option (Int) := if a0_0 < 0 then (seg_Check.j0 k true a0_0 l0_1) else (seg_Check.j0 k (decide (a0_0 > 1099511627776)) a0_0 l0_1)
theorem seg_Check.mono_l : ∀ k, (∀ y0 y1 y2, LeO (seg_Check.j0 k y0 y1 y2) (seg_Check.j0 (k + 1) y0 y1 y2)) ∧ (∀ y0 y1 y2 y3 y4, LeO (seg_Check.l0 k y0 y1 y2 y3 y4) (seg_Check.l0 (k + 1) y0 y1 y2 y3 y4))
 | 0 => ⟨fun _ _ _ r h => by simp [seg_Check.j0] at h, fun _ _ _ _ _ r h => by simp [seg_Check.l0] at h⟩
 | k + 1 => by
  obtain ⟨ih0, ih1⟩ := seg_Check.mono_l k
  refine ⟨?_, ?_⟩
  ·intro y0 y1 y2
   unfold seg_Check.j0
   repeat' first
   | (with_reducible exact ih0 _ _ _)
   | (with_reducible exact ih1 _ _ _ _ _)
   | (with_reducible exact seg_behind.mono _ _ _ _ _ _ _ _ _)
   | (with_reducible exact LeO.refl _)
   | (with_reducible exact LeO.none _)
   | (with_reducible refine LeO.ite ?_ ?_)
   | (with_reducible refine LeO.bind ?_ (fun _ => ?_))
   | exact ih0 _ _ _
   | exact ih1 _ _ _ _ _
   | exact seg_behind.mono _ _ _ _ _ _ _ _ _
   | exact LeO.none _
   | refine LeO.ite ?_ ?_
   | refine LeO.bind ?_ (fun _ => ?_)
  ·intro y0 y1 y2 y3 y4
   unfold seg_Check.l0
   repeat' first
   | (with_reducible exact ih0 _ _ _)
   | (with_reducible exact ih1 _ _ _ _ _)
   | (with_reducible exact seg_behind.mono _ _ _ _ _ _ _ _ _)
   | (with_reducible exact LeO.refl _)
   | (with_reducible exact LeO.none _)
   | (with_reducible refine LeO.ite ?_ ?_)
   | (with_reducible refine LeO.bind ?_ (fun _ => ?_))
   | exact ih0 _ _ _
   | exact ih1 _ _ _ _ _
   | exact seg_behind.mono _ _ _ _ _ _ _ _ _
   | exact LeO.none _
   | refine LeO.ite ?_ ?_
   | refine LeO.bind ?_ (fun _ => ?_)
theorem seg_Check.mono : ∀ a0 a1 k, LeO (seg_Check.f k a0 a1) (seg_Check.f (k + 1) a0 a1) := by
 intro a0 a1 k
 obtain ⟨ih0, ih1⟩ := seg_Check.mono_l k
 unfold seg_Check.f
 repeat' first
  | (with_reducible exact ih0 _ _ _)
  | (with_reducible exact ih1 _ _ _ _ _)
  | (with_reducible exact seg_behind.mono _ _ _ _ _ _ _ _ _)
  | (with_reducible exact LeO.refl _)
  | (with_reducible exact LeO.none _)
  | (with_reducible refine LeO.ite ?_ ?_)
  | (with_reducible refine LeO.bind ?_ (fun _ => ?_))
  | exact ih0 _ _ _
  | exact ih1 _ _ _ _ _
  | exact seg_behind.mono _ _ _ _ _ _ _ _ _
  | exact LeO.none _
  | refine LeO.ite ?_ ?_
  | refine LeO.bind ?_ (fun _ => ?_)
def seg_Check.T6 : Bool × List (List Nat × List Nat) := (true, [([], []), ([0], [0]), ([], []), ([2], [2]), ([], []), ([3, 4], [3, 4]), ([], []), ([1, 5, 6], [1, 5, 6]), ([7], [7])])
def seg_Check.B6 : List Nat := [0, 1, 0, 4, 0, 28, 0, 127, 255]
theorem seg_Check.tab6 : rtab .any (opsOf Try.f46 6) = seg_Check.T6 := by kernel_rfl
theorem seg_Check.bits6 : waitsOk seg_Check.T6.2 seg_Check.B6 = true := by kernel_rfl
set_option maxHeartbeats 8000000 in
set_option maxRecDepth 100000 in
theorem seg_Check.calls (k : Nat) (a0_0 : Int) (A0_1 : Option Addr) (c0_1 : Nat) (l0_1 : List (S25)) (r : Int) (w : World) (hr0_1 : Kd.C k25 w A0_1 l0_1.length l0_1) (hc0_1 : l0_1.length ≤ c0_1) (h : seg_Check.f k a0_0 l0_1 = some r) :
 Calls Try.prog 46 #[.agg #[.int .i64 a0_0, .slice A0_1 l0_1.length c0_1]] w fun e w' => e = .returned (.int .i64 r) ∧ Below w.heap.size w w' := by
 have hu53 := Try.underlying53
 have hu25 := Try.underlying25
 have HR0_1 := Aside0.mk hr0_1
 have HC0_1 := Aside0.mk hc0_1
 clear hr0_1 hc0_1
 have HB := Aside0.mk (Below.refl w.heap.size w)
 have H : (if a0_0 < 0 then (seg_Check.j0 k true a0_0 l0_1) else (seg_Check.j0 k (decide (a0_0 > 1099511627776)) a0_0 l0_1)) = some r := h
 clear h
 have HC2 := Aside0.mk H
 clear H
 go_enter Try.func46, Try.ntmps46
 go_upto_region 1 with (first | ((with_reducible refine gate_dst (N := 1) rfl ?_); refine box_event ?hg (N := 1) ?hd (cs := #[.int .i64 a0_0, .slice A0_1 l0_1.length c0_1]) (t := 53) ?hr ?_; (case hd => rfl); (case hg => rfl); (case hr => first | (go_simp; done) | (go_simp; rfl)); intro gb396 hg w3 hbox hb; have BK396 := Aside0.mk (hbox); have GW396 := Aside0.mk ((by rw [hg]; exact (below_size bo) : w.heap.size ≤ gb396)); have GE396 := Aside0.mk ((by rw [hg]; exact (below_size bo) : w.heap.size ≤ gb396)); replace HB := Aside0.mk (below_step bo hb); clear hb hbox hg))
 (try simp only [Act.put, List.setIfInBounds_toArray, List.set_cons_zero, List.set_cons_succ])
 go_cut [12] (fun v12 wc => ∃ (kq : Nat) (x12_1 : Bool), v12 = .bool x12_1 ∧ Aside0 (seg_Check.j0 kq x12_1 a0_0 l0_1 = some r) ∧ Aside0 (kq ≤ k) ∧ Aside0 (wc.heap[gb396]? = some (.cells #[.int .i64 a0_0, (.slice A0_1 l0_1.length c0_1)] 53 (0, 0))) ∧ Aside0 (Below w.heap.size w wc))
 case first =>
  have H := HC2.out
  clear HC2
  by_cases c4 : a0_0 < 0
  ·rw [if_pos c4] at H
   have c4b0 : decide (a0_0 < 0) = true := decide_eq_true c4
   clear c4
   (first | rw [c4b0] | (simp only [i64_w, i32_w]; rw [c4b0]) | skip)
   have H' := Aside0.mk H
   clear H
   have hcz5_0 : w3.cell? ⟨gb396, 0, none⟩ = some (.int .i64 a0_0) := (blk_cell BK396.out 0).trans rfl
   have hcz5_1 : w3.cell? ⟨gb396, 1, none⟩ = some (.slice A0_1 l0_1.length c0_1) := (blk_cell BK396.out 1).trans rfl
   have hfz5_0 := blk_frozen BK396.out 0
   have hfz5_1 := blk_frozen BK396.out 1
   go_wp2
   go_meet
   case rel => exact ⟨_, (true), ap, H', ⟨by first | omega | exact Nat.le_refl _⟩, ⟨by (with_reducible repeat (first | refine blk_drewN ?_ _ | refine blk_drew ?_ | refine blk_alloc ?_ _)); exact BK396.out⟩, ⟨bo⟩⟩
  ·rw [if_neg c4] at H
   have c4b0 : decide (a0_0 < 0) = false := decide_eq_false c4
   clear c4
   (first | rw [c4b0] | (simp only [i64_w, i32_w]; rw [c4b0]) | skip)
   have H' := Aside0.mk H
   clear H
   have hcz6_0 : w3.cell? ⟨gb396, 0, none⟩ = some (.int .i64 a0_0) := (blk_cell BK396.out 0).trans rfl
   have hcz6_1 : w3.cell? ⟨gb396, 1, none⟩ = some (.slice A0_1 l0_1.length c0_1) := (blk_cell BK396.out 1).trans rfl
   have hfz6_0 := blk_frozen BK396.out 0
   have hfz6_1 := blk_frozen BK396.out 1
   go_wp2
   go_meet
   case rel => exact ⟨_, (decide (a0_0 > 1099511627776)), ap, H', ⟨by first | omega | exact Nat.le_refl _⟩, ⟨by (with_reducible repeat (first | refine blk_drewN ?_ _ | refine blk_drew ?_ | refine blk_alloc ?_ _)); exact BK396.out⟩, ⟨bo⟩⟩
 case rest =>
  clear HC2
  try clear p2
  try clear c4
  try clear c4b0
  try clear hcz5_0
  try clear hcz5_1
  try clear hcz6_0
  try clear hcz6_1
  try clear hfz5_0
  try clear hfz5_1
  try clear hfz6_0
  try clear hfz6_1
  obtain ⟨kq, x12_1, rfl, HA, HJ1, BK396, HB⟩ := hcut
  cases kq with
  | zero => exact absurd HA.out (by simp [seg_Check.j0])
  | succ kj1 =>
   have H := HA.out
   clear HA
   simp only [seg_Check.j0] at H
   by_cases c7 : x12_1 = true
   ·subst c7
    have H1 : (some 1) = some r := by rw [if_pos rfl] at H; exact H
    clear H
    have H := H1
    clear H1
    obtain rfl := Option.some.inj H
    go_wp2
    go_ret
    exact ⟨er, bo⟩
   ·replace c7 := Bool.eq_false_iff.mpr c7
    subst c7
    have H1 : (seg_Check.l0 kj1 l0_1 (l0_1.length : Int) 0 a0_0 l0_1) = some r := by rw [if_neg (show ¬ (false = true) by decide)] at H; exact H
    clear H
    have H := H1
    clear H1
    have H' := Aside0.mk H
    clear H
    have hcz8_0 : wc.cell? ⟨gb396, 0, none⟩ = some (.int .i64 a0_0) := (blk_cell BK396.out 0).trans rfl
    have hcz8_1 : wc.cell? ⟨gb396, 1, none⟩ = some (.slice A0_1 l0_1.length c0_1) := (blk_cell BK396.out 1).trans rfl
    have hfz8_0 := blk_frozen BK396.out 0
    have hfz8_1 := blk_frozen BK396.out 1
    go_wp2
    go_loopg [16] kj1 (fun kq v16 w' => ∃ (x16_2 : Int), v16 = .int .i64 x16_2 ∧ Aside0 (seg_Check.l0 kq l0_1 (l0_1.length : Int) x16_2 a0_0 l0_1 = some r) ∧ Aside0 (kq ≤ kj1) ∧ Aside0 (w'.heap[gb396]? = some (.cells #[.int .i64 a0_0, (.slice A0_1 l0_1.length c0_1)] 53 (0, 0))) ∧ Aside0 (Below w.heap.size w w'))
    case atStart => exact ⟨(0), ap, H', ⟨Nat.le_refl _⟩, ⟨by (with_reducible repeat (first | refine blk_drewN ?_ _ | refine blk_drew ?_ | refine blk_alloc ?_ _)); exact BK396.out⟩, ⟨bo⟩⟩
    case round =>
     clear H'
     try clear p2
     try clear c4
     try clear c4b0
     try clear c7
     try clear hcz5_0
     try clear hcz5_1
     try clear hcz6_0
     try clear hcz6_1
     try clear hcz8_0
     try clear hcz8_1
     try clear hfz5_0
     try clear hfz5_1
     try clear hfz6_0
     try clear hfz6_1
     try clear hfz8_0
     try clear hfz8_1
     try clear p2
     obtain ⟨x16_2, rfl, HA, HK2, BK396, HB⟩ := hrel
     cases gk with
     | zero => exact absurd HA.out (by simp [seg_Check.l0])
     | succ k2 =>
      have H := HA.out
      clear HA
      simp only [seg_Check.l0] at H
      by_cases c9 : x16_2 < (l0_1.length : Int)
      ·rw [if_pos c9] at H
       have c9b0 : decide (x16_2 < (l0_1.length : Int)) = true := decide_eq_true c9
       clear c9
       by_cases c10 : 0 ≤ x16_2
       ·rw [if_pos c10] at H
        have c10b0 : decide (0 ≤ x16_2) = true := decide_eq_true c10
        clear c10
        by_cases c11 : x16_2 < (l0_1.length : Int)
        ·rw [if_pos c11] at H
         have c11b0 : decide (x16_2 < (l0_1.length : Int)) = true := decide_eq_true c11
         clear c11
         have c12b0 := eq_true (od : 0 ≤ x16_2)
         by_cases c13 : x16_2 ≤ (l0_1.length : Int)
         ·rw [if_pos c13] at H
          have c13b0 := eq_true c13
          have c13b1 : decide (x16_2 ≤ (l0_1.length : Int)) = true := decide_eq_true c13
          clear c13
          obtain ⟨y399, hy399⟩ : ∃ y_ : List (S25), y_ = (l0_1.take (x16_2 : Int).toNat) := ⟨_, rfl⟩
          replace H : ((seg_behind.f k2 a0_0 y399 ((rd_T25 l0_1 x16_2).f0) ((rd_T25 l0_1 x16_2).f1) ((rd_T25 l0_1 x16_2).f2) ((rd_T25 l0_1 x16_2).f3) ((rd_T25 l0_1 x16_2).f4) ((rd_T25 l0_1 x16_2).f5)).bind fun t403 => (if t403 = true then (seg_Check.l0 k2 l0_1 (l0_1.length : Int) (wrap64 (x16_2 + 1)) a0_0 l0_1) else (some 1))) = some r := by first | (rw [hy399]; with_reducible exact H) | (have H2_ := (Option.bind_some _ _).symm.trans H; rw [hy399]; with_reducible exact H2_) | (have H2_ := (Option.bind_some _ _).symm.trans H; with_reducible exact H2_) | with_reducible exact H | (rw [hy399]; exact H) | exact H
          have Ny399 := Aside0.mk hy399
          clear hy399
          replace H := Option.bind_eq_some_iff.mp H
          obtain ⟨t403, A140, H⟩ := H
          replace H : (if t403 = true then (seg_Check.l0 k2 l0_1 (l0_1.length : Int) (wrap64 (x16_2 + 1)) a0_0 l0_1) else (some 1)) = some r := H
          have A14 := Aside0.mk A140
          clear A140
          by_cases c15 : t403 = true
          ·subst c15
           have H1 : (seg_Check.l0 k2 l0_1 (l0_1.length : Int) (wrap64 (x16_2 + 1)) a0_0 l0_1) = some r := by rw [if_pos rfl] at H; exact H
           clear H
           have H := H1
           clear H1
           have H' := Aside0.mk H
           clear H
           have p397 : 0 ≤ (x16_2 : Int) := od
           have q397 : x16_2 < (l0_1.length : Int) := od
           obtain ⟨ad397, e397, hx397_0, hx397_1, hx397_2, hx397_3, hx397_4, hx397_5⟩ := at_T25 HR0_1.out x16_2 p397 q397
           cases e397
           replace hx397_0 := cx HB.out hx397_0
           replace hx397_1 := cx HB.out hx397_1
           replace hx397_2 := cx HB.out hx397_2
           replace hx397_3 := cx HB.out hx397_3
           replace hx397_4 := cx HB.out hx397_4
           replace hx397_5 := cx HB.out hx397_5
           replace p397 := eq_true p397
           replace q397 := eq_true q397
           try go_wp2_with (first | ((with_reducible refine gate_dst (N := 4) rfl ?_); refine box_event ?hg (N := 4) ?hd (cs := #[.int .i64 0, .int .i64 0, .string (⟨#[]⟩ : ByteArray), .string (⟨#[]⟩ : ByteArray), .int .i64 0, .bool false]) (t := 25) ?hr ?_; (case hd => rfl); (case hg => rfl); (case hr => first | (go_simp; done) | (go_simp; rfl)); intro gb398 hg w16 hbox hb; have BK398 := Aside0.mk (hbox); have GW398 := Aside0.mk ((by rw [hg]; exact (below_size bo) : w.heap.size ≤ gb398)); have GE398 := Aside0.mk ((by rw [hg]; exact (below_size bo) : w.heap.size ≤ gb398)); replace HB := Aside0.mk (below_step bo hb); have NB396_398 := Aside0.mk ((by rw [hg]; exact Nat.ne_of_lt (blk_lt (g := gb396) (o := .cells #[.int .i64 a0_0, .slice (some ad397) l0_1.length c0_1] 53 (0, 0)) (bk BK396.out)) : gb396 ≠ gb398)); have NB398_396 := Aside0.mk ((by rw [hg]; exact Nat.ne_of_gt (blk_lt (g := gb396) (o := .cells #[.int .i64 a0_0, .slice (some ad397) l0_1.length c0_1] 53 (0, 0)) (bk BK396.out)) : gb398 ≠ gb396)); replace BK396 := Aside0.mk (blk_below (g := gb396) (o := .cells #[.int .i64 a0_0, .slice (some ad397) l0_1.length c0_1] 53 (0, 0)) (bk BK396.out) hb); clear hb hbox hg; have hnb17 := NB398_396.out; have hnc17 := NB396_398.out; obtain ⟨hcz18_0, hcz18_1, hcz18_2, hcz18_3, hcz18_4, hcz18_5⟩ := cl6 BK398.out; obtain ⟨hfz18_0, hfz18_1, hfz18_2, hfz18_3, hfz18_4, hfz18_5⟩ := fz6 BK398.out))
           (try (rw [drewN_self w16]; generalize hq_ : World.drewN w16 _ = w16; have n0_ := Aside0.mk (blk_at hq_ BK396.out); have n1_ := Aside0.mk (blk_at hq_ BK398.out); have n2_ := Aside0.mk (below_at hq_ HB.out); clear hq_ BK396 BK398 HB; have BK396 := n0_; have BK398 := n1_; have HB := n2_; clear n0_ n1_ n2_))
           have n0_ : Aside0 (((((((w16.setCell ⟨gb398, 0, none⟩ (.int .i64 ((rd_T25 l0_1 x16_2).f0))).setCell ⟨gb398, 1, none⟩ (.int .i64 ((rd_T25 l0_1 x16_2).f1))).setCell ⟨gb398, 2, none⟩ (.string ((rd_T25 l0_1 x16_2).f2))).setCell ⟨gb398, 3, none⟩ (.string ((rd_T25 l0_1 x16_2).f3))).setCell ⟨gb398, 4, none⟩ (.int .i64 ((rd_T25 l0_1 x16_2).f4))).setCell ⟨gb398, 5, none⟩ (.bool ((rd_T25 l0_1 x16_2).f5))).heap[gb396]? = some (.cells #[.int .i64 a0_0, .slice (some ad397) l0_1.length c0_1] 53 (0, 0))) := ⟨by (with_reducible repeat (first | refine blk_drewN ?_ _ | refine blk_drew ?_ | refine blk_alloc ?_ _)); refine blk_far ?_ NB396_398.out _; (with_reducible repeat (first | refine blk_drewN ?_ _ | refine blk_drew ?_ | refine blk_alloc ?_ _)); refine blk_far ?_ NB396_398.out _; (with_reducible repeat (first | refine blk_drewN ?_ _ | refine blk_drew ?_ | refine blk_alloc ?_ _)); refine blk_far ?_ NB396_398.out _; (with_reducible repeat (first | refine blk_drewN ?_ _ | refine blk_drew ?_ | refine blk_alloc ?_ _)); refine blk_far ?_ NB396_398.out _; (with_reducible repeat (first | refine blk_drewN ?_ _ | refine blk_drew ?_ | refine blk_alloc ?_ _)); refine blk_far ?_ NB396_398.out _; (with_reducible repeat (first | refine blk_drewN ?_ _ | refine blk_drew ?_ | refine blk_alloc ?_ _)); refine blk_far ?_ NB396_398.out _; (with_reducible repeat (first | refine blk_drewN ?_ _ | refine blk_drew ?_ | refine blk_alloc ?_ _)); exact BK396.out⟩
           have n1_ : Aside0 (((((((w16.setCell ⟨gb398, 0, none⟩ (.int .i64 ((rd_T25 l0_1 x16_2).f0))).setCell ⟨gb398, 1, none⟩ (.int .i64 ((rd_T25 l0_1 x16_2).f1))).setCell ⟨gb398, 2, none⟩ (.string ((rd_T25 l0_1 x16_2).f2))).setCell ⟨gb398, 3, none⟩ (.string ((rd_T25 l0_1 x16_2).f3))).setCell ⟨gb398, 4, none⟩ (.int .i64 ((rd_T25 l0_1 x16_2).f4))).setCell ⟨gb398, 5, none⟩ (.bool ((rd_T25 l0_1 x16_2).f5))).heap[gb398]? = some (.cells #[.int .i64 ((rd_T25 l0_1 x16_2).f0), .int .i64 ((rd_T25 l0_1 x16_2).f1), .string ((rd_T25 l0_1 x16_2).f2), .string ((rd_T25 l0_1 x16_2).f3), .int .i64 ((rd_T25 l0_1 x16_2).f4), .bool ((rd_T25 l0_1 x16_2).f5)] 25 (0, 0))) := ⟨by (with_reducible repeat (first | refine blk_drewN ?_ _ | refine blk_drew ?_ | refine blk_alloc ?_ _)); refine blk_put (cs := #[.int .i64 ((rd_T25 l0_1 x16_2).f0), .int .i64 ((rd_T25 l0_1 x16_2).f1), .string ((rd_T25 l0_1 x16_2).f2), .string ((rd_T25 l0_1 x16_2).f3), .int .i64 ((rd_T25 l0_1 x16_2).f4), .bool false]) ?_ 5 _ rfl; (with_reducible repeat (first | refine blk_drewN ?_ _ | refine blk_drew ?_ | refine blk_alloc ?_ _)); refine blk_put (cs := #[.int .i64 ((rd_T25 l0_1 x16_2).f0), .int .i64 ((rd_T25 l0_1 x16_2).f1), .string ((rd_T25 l0_1 x16_2).f2), .string ((rd_T25 l0_1 x16_2).f3), .int .i64 0, .bool false]) ?_ 4 _ rfl; (with_reducible repeat (first | refine blk_drewN ?_ _ | refine blk_drew ?_ | refine blk_alloc ?_ _)); refine blk_put (cs := #[.int .i64 ((rd_T25 l0_1 x16_2).f0), .int .i64 ((rd_T25 l0_1 x16_2).f1), .string ((rd_T25 l0_1 x16_2).f2), .string (⟨#[]⟩ : ByteArray), .int .i64 0, .bool false]) ?_ 3 _ rfl; (with_reducible repeat (first | refine blk_drewN ?_ _ | refine blk_drew ?_ | refine blk_alloc ?_ _)); refine blk_put (cs := #[.int .i64 ((rd_T25 l0_1 x16_2).f0), .int .i64 ((rd_T25 l0_1 x16_2).f1), .string (⟨#[]⟩ : ByteArray), .string (⟨#[]⟩ : ByteArray), .int .i64 0, .bool false]) ?_ 2 _ rfl; (with_reducible repeat (first | refine blk_drewN ?_ _ | refine blk_drew ?_ | refine blk_alloc ?_ _)); refine blk_put (cs := #[.int .i64 ((rd_T25 l0_1 x16_2).f0), .int .i64 0, .string (⟨#[]⟩ : ByteArray), .string (⟨#[]⟩ : ByteArray), .int .i64 0, .bool false]) ?_ 1 _ rfl; (with_reducible repeat (first | refine blk_drewN ?_ _ | refine blk_drew ?_ | refine blk_alloc ?_ _)); refine blk_put (cs := #[.int .i64 0, .int .i64 0, .string (⟨#[]⟩ : ByteArray), .string (⟨#[]⟩ : ByteArray), .int .i64 0, .bool false]) ?_ 0 _ rfl; (with_reducible repeat (first | refine blk_drewN ?_ _ | refine blk_drew ?_ | refine blk_alloc ?_ _)); exact BK398.out⟩
           have n2_ : Aside0 (Below w.heap.size w ((((((w16.setCell ⟨gb398, 0, none⟩ (.int .i64 ((rd_T25 l0_1 x16_2).f0))).setCell ⟨gb398, 1, none⟩ (.int .i64 ((rd_T25 l0_1 x16_2).f1))).setCell ⟨gb398, 2, none⟩ (.string ((rd_T25 l0_1 x16_2).f2))).setCell ⟨gb398, 3, none⟩ (.string ((rd_T25 l0_1 x16_2).f3))).setCell ⟨gb398, 4, none⟩ (.int .i64 ((rd_T25 l0_1 x16_2).f4))).setCell ⟨gb398, 5, none⟩ (.bool ((rd_T25 l0_1 x16_2).f5)))) := ⟨bo⟩
           (try clear BK396)
           (try clear BK398)
           (try clear HB)
           generalize ((((((w16.setCell ⟨gb398, 0, none⟩ (.int .i64 ((rd_T25 l0_1 x16_2).f0))).setCell ⟨gb398, 1, none⟩ (.int .i64 ((rd_T25 l0_1 x16_2).f1))).setCell ⟨gb398, 2, none⟩ (.string ((rd_T25 l0_1 x16_2).f2))).setCell ⟨gb398, 3, none⟩ (.string ((rd_T25 l0_1 x16_2).f3))).setCell ⟨gb398, 4, none⟩ (.int .i64 ((rd_T25 l0_1 x16_2).f4))).setCell ⟨gb398, 5, none⟩ (.bool ((rd_T25 l0_1 x16_2).f5))) = w19 at n0_ n1_ n2_ ⊢
           have BK396 := n0_
           have BK398 := n1_
           have HB := n2_
           clear n0_ n1_ n2_
           replace BK396 := Aside0.mk (blk_drew BK396.out)
           replace BK398 := Aside0.mk (blk_drew BK398.out)
           replace HB := Aside0.mk (below_drew1 HB.out)
           have q21 : (x16_2 : Int) ≤ ((l0_1.length : Int) : Int) := od
           obtain ⟨i021, hi021, _, hsz21, _⟩ := info_parts info25
           have hroom21 : l0_1.length ≤ c0_1 := HC0_1.out
           have hC21 : Kd.C k25 _ (some ad397) l0_1.length l0_1 := HR0_1.out
           have hcut21 := cut_to (P := Try.prog) 36 25 .i64 Try.underlying36 hi021 (some ad397) l0_1.length c0_1 x16_2 (od) q21 hroom21
           have hr21 := Kd.C_take (m := (x16_2 : Int).toNat) hC21 (by omega)
           have hy21 : y399.length = (x16_2 : Int).toNat := (by rw [Ny399.out, List.length_take]; omega)
           rw [← Ny399.out] at hr21
           rw [← hy21] at hcut21
           have HR402 := Aside0.mk hr21
           have HC402 := Aside0.mk (show y399.length ≤ c0_1 from by omega)
           clear hr21 hC21 hroom21 hi021 hsz21
           have KY21 := Aside0.mk hy21
           clear hy21
           replace q21 := eq_true q21
           refine start_ (n := 9) (S := fun w' => w'.cell? ⟨gb396, 0, none⟩ = some (.int .i64 a0_0) ∧ w'.cell? ⟨gb396, 1, none⟩ = some (.slice (some ad397) l0_1.length c0_1) ∧ w'.cell? ⟨gb398, 0, none⟩ = some (.int .i64 ((rd_T25 l0_1 x16_2).f0)) ∧ w'.cell? ⟨gb398, 1, none⟩ = some (.int .i64 ((rd_T25 l0_1 x16_2).f1)) ∧ w'.cell? ⟨gb398, 2, none⟩ = some (.string ((rd_T25 l0_1 x16_2).f2)) ∧ w'.cell? ⟨gb398, 3, none⟩ = some (.string ((rd_T25 l0_1 x16_2).f3)) ∧ w'.cell? ⟨gb398, 4, none⟩ = some (.int .i64 ((rd_T25 l0_1 x16_2).f4)) ∧ w'.cell? ⟨gb398, 5, none⟩ = some (.bool ((rd_T25 l0_1 x16_2).f5))) (ds := []) #[O,O,O,O,O,O,O,O,O] (by kernel_rfl) rfl rfl ⟨(blk_cell BK396.out 0).trans rfl, (blk_cell BK396.out 1).trans rfl, (blk_cell BK398.out 0).trans rfl, (blk_cell BK398.out 1).trans rfl, (blk_cell BK398.out 2).trans rfl, (blk_cell BK398.out 3).trans rfl, (blk_cell BK398.out 4).trans rfl, (blk_cell BK398.out 5).trans rfl⟩ (fun hHeld => ?_); refine with_tabW seg_Check.tab6 seg_Check.bits6 (fun HT_ HW_ => ?_)
           generalize w19.drew = w20 at BK396 BK398 HB HR402 hHeld ⊢
           refine pz (i := 0) (N := some 21) #[I,O,O,O,O,O,O,O,O] ?_
           refine pz (i := 2) (N := some 23) #[I,O,I,O,O,O,O,O,O] ?_
           refine pz (i := 4) (N := some 25) #[I,O,I,O,I,O,O,O,O] ?_
           refine tz (i := 1) (N := some 22) #[I,I,I,O,I,O,O,O,O] ?_
           refine tz (i := 3) (N := some 24) #[I,I,I,I,I,O,O,O,O] ?_
           refine pz (i := 5) (N := some 26) #[I,I,I,I,I,I,O,O,O] ?_
           refine tz (i := 6) (N := some 27) #[I,I,I,I,I,I,I,O,O] ?_
           refine one_ (i := 7) (N := some 28) #[I,I,I,I,I,I,I,I,O] rfl rfl (one_of HT_.out (by kernel_rfl)) (by decide) (fun K hK => ?_)
           refine goes_ Try.func75 (by kernel_rfl) rfl #[.int .i64 a0_0, .slice (some ad397) y399.length c0_1, .agg #[.int .i64 ((rd_T25 l0_1 x16_2).f0), .int .i64 ((rd_T25 l0_1 x16_2).f1), .string ((rd_T25 l0_1 x16_2).f2), .string ((rd_T25 l0_1 x16_2).f3), .int .i64 ((rd_T25 l0_1 x16_2).f4), .bool ((rd_T25 l0_1 x16_2).f5)]] (by rfl) rfl rfl aa ?_
           with_reducible refine (seg_behind.calls k2 a0_0 _ _ y399 ((rd_T25 l0_1 x16_2).f0) ((rd_T25 l0_1 x16_2).f1) ((rd_T25 l0_1 x16_2).f2) ((rd_T25 l0_1 x16_2).f3) ((rd_T25 l0_1 x16_2).f4) ((rd_T25 l0_1 x16_2).f5) true _ ?side1 ?side2 A14.out).mono ?_
           (case side1 => repeat (first | exact (Kd.C_below HR402.out HB.out) | (with_reducible refine Kd.C_alloc ?_ _) | (with_reducible refine Kd.C_drewN ?_ _) | (with_reducible refine Kd.C_drew ?_)))
           (case side2 => exact HC402.out)
           rintro e w22 ⟨rfl, hb⟩
           refine ⟨_, rfl, ?_⟩
           replace BK396 := Aside0.mk (blk_below (g := gb396) (o := .cells #[.int .i64 a0_0, .slice (some ad397) l0_1.length c0_1] 53 (0, 0)) (bk BK396.out) hb)
           replace BK398 := Aside0.mk (blk_below (g := gb398) (o := .cells #[.int .i64 ((rd_T25 l0_1 x16_2).f0), .int .i64 ((rd_T25 l0_1 x16_2).f1), .string ((rd_T25 l0_1 x16_2).f2), .string ((rd_T25 l0_1 x16_2).f3), .int .i64 ((rd_T25 l0_1 x16_2).f4), .bool ((rd_T25 l0_1 x16_2).f5)] 25 (0, 0)) (bk BK398.out) hb)
           replace HB := Aside0.mk (below_step bo hb)
           (try clear hb)
           (try clear hb2)
           (try clear hk)
           (try clear hi)
           refine hK.out _ _ ⟨(blk_cell BK396.out 0).trans rfl, (blk_cell BK396.out 1).trans rfl, (blk_cell BK398.out 0).trans rfl, (blk_cell BK398.out 1).trans rfl, (blk_cell BK398.out 2).trans rfl, (blk_cell BK398.out 3).trans rfl, (blk_cell BK398.out 4).trans rfl, (blk_cell BK398.out 5).trans rfl⟩ (fun hHeld => ?_)
           clear hK K
           refine norm_ (a' := ?_) ?_ ?_
           rotate_left
           ·show Act.put _ (some 28) _ = _
            simp only [Act.put, List.setIfInBounds_toArray, List.set_cons_zero, List.set_cons_succ, i64_w, i32_w]
            rfl
           refine pz (i := 8) (N := some 29) #[I,I,I,I,I,I,I,I,I] ?_
           refine done_ (done_of HT_.out (by kernel_rfl)) ?_
           try go_wp2
           go_roundg k2
           case measure => have := HJ1.out; have := HK2.out; omega
           case rel => exact ⟨(wrap64 (x16_2 + 1)), ap, H', ⟨by have := HJ1.out; have := HK2.out; omega⟩, ⟨by (with_reducible repeat (first | refine blk_drewN ?_ _ | refine blk_drew ?_ | refine blk_alloc ?_ _)); exact BK396.out⟩, ⟨bo⟩⟩
          ·replace c15 := Bool.eq_false_iff.mpr c15
           subst c15
           have H1 : (some 1) = some r := by rw [if_neg (show ¬ (false = true) by decide)] at H; exact H
           clear H
           have H := H1
           clear H1
           obtain rfl := Option.some.inj H
           have p397 : 0 ≤ (x16_2 : Int) := od
           have q397 : x16_2 < (l0_1.length : Int) := od
           obtain ⟨ad397, e397, hx397_0, hx397_1, hx397_2, hx397_3, hx397_4, hx397_5⟩ := at_T25 HR0_1.out x16_2 p397 q397
           cases e397
           replace hx397_0 := cx HB.out hx397_0
           replace hx397_1 := cx HB.out hx397_1
           replace hx397_2 := cx HB.out hx397_2
           replace hx397_3 := cx HB.out hx397_3
           replace hx397_4 := cx HB.out hx397_4
           replace hx397_5 := cx HB.out hx397_5
           replace p397 := eq_true p397
           replace q397 := eq_true q397
           try go_wp2_with (first | ((with_reducible refine gate_dst (N := 4) rfl ?_); refine box_event ?hg (N := 4) ?hd (cs := #[.int .i64 0, .int .i64 0, .string (⟨#[]⟩ : ByteArray), .string (⟨#[]⟩ : ByteArray), .int .i64 0, .bool false]) (t := 25) ?hr ?_; (case hd => rfl); (case hg => rfl); (case hr => first | (go_simp; done) | (go_simp; rfl)); intro gb398 hg w23 hbox hb; have BK398 := Aside0.mk (hbox); have GW398 := Aside0.mk ((by rw [hg]; exact (below_size bo) : w.heap.size ≤ gb398)); have GE398 := Aside0.mk ((by rw [hg]; exact (below_size bo) : w.heap.size ≤ gb398)); replace HB := Aside0.mk (below_step bo hb); have NB396_398 := Aside0.mk ((by rw [hg]; exact Nat.ne_of_lt (blk_lt (g := gb396) (o := .cells #[.int .i64 a0_0, .slice (some ad397) l0_1.length c0_1] 53 (0, 0)) (bk BK396.out)) : gb396 ≠ gb398)); have NB398_396 := Aside0.mk ((by rw [hg]; exact Nat.ne_of_gt (blk_lt (g := gb396) (o := .cells #[.int .i64 a0_0, .slice (some ad397) l0_1.length c0_1] 53 (0, 0)) (bk BK396.out)) : gb398 ≠ gb396)); replace BK396 := Aside0.mk (blk_below (g := gb396) (o := .cells #[.int .i64 a0_0, .slice (some ad397) l0_1.length c0_1] 53 (0, 0)) (bk BK396.out) hb); clear hb hbox hg; have hnb24 := NB398_396.out; have hnc24 := NB396_398.out; obtain ⟨hcz25_0, hcz25_1, hcz25_2, hcz25_3, hcz25_4, hcz25_5⟩ := cl6 BK398.out; obtain ⟨hfz25_0, hfz25_1, hfz25_2, hfz25_3, hfz25_4, hfz25_5⟩ := fz6 BK398.out))
           (try (rw [drewN_self w23]; generalize hq_ : World.drewN w23 _ = w23; have n0_ := Aside0.mk (blk_at hq_ BK396.out); have n1_ := Aside0.mk (blk_at hq_ BK398.out); have n2_ := Aside0.mk (below_at hq_ HB.out); clear hq_ BK396 BK398 HB; have BK396 := n0_; have BK398 := n1_; have HB := n2_; clear n0_ n1_ n2_))
           have n0_ : Aside0 (((((((w23.setCell ⟨gb398, 0, none⟩ (.int .i64 ((rd_T25 l0_1 x16_2).f0))).setCell ⟨gb398, 1, none⟩ (.int .i64 ((rd_T25 l0_1 x16_2).f1))).setCell ⟨gb398, 2, none⟩ (.string ((rd_T25 l0_1 x16_2).f2))).setCell ⟨gb398, 3, none⟩ (.string ((rd_T25 l0_1 x16_2).f3))).setCell ⟨gb398, 4, none⟩ (.int .i64 ((rd_T25 l0_1 x16_2).f4))).setCell ⟨gb398, 5, none⟩ (.bool ((rd_T25 l0_1 x16_2).f5))).heap[gb396]? = some (.cells #[.int .i64 a0_0, .slice (some ad397) l0_1.length c0_1] 53 (0, 0))) := ⟨by (with_reducible repeat (first | refine blk_drewN ?_ _ | refine blk_drew ?_ | refine blk_alloc ?_ _)); refine blk_far ?_ NB396_398.out _; (with_reducible repeat (first | refine blk_drewN ?_ _ | refine blk_drew ?_ | refine blk_alloc ?_ _)); refine blk_far ?_ NB396_398.out _; (with_reducible repeat (first | refine blk_drewN ?_ _ | refine blk_drew ?_ | refine blk_alloc ?_ _)); refine blk_far ?_ NB396_398.out _; (with_reducible repeat (first | refine blk_drewN ?_ _ | refine blk_drew ?_ | refine blk_alloc ?_ _)); refine blk_far ?_ NB396_398.out _; (with_reducible repeat (first | refine blk_drewN ?_ _ | refine blk_drew ?_ | refine blk_alloc ?_ _)); refine blk_far ?_ NB396_398.out _; (with_reducible repeat (first | refine blk_drewN ?_ _ | refine blk_drew ?_ | refine blk_alloc ?_ _)); refine blk_far ?_ NB396_398.out _; (with_reducible repeat (first | refine blk_drewN ?_ _ | refine blk_drew ?_ | refine blk_alloc ?_ _)); exact BK396.out⟩
           have n1_ : Aside0 (((((((w23.setCell ⟨gb398, 0, none⟩ (.int .i64 ((rd_T25 l0_1 x16_2).f0))).setCell ⟨gb398, 1, none⟩ (.int .i64 ((rd_T25 l0_1 x16_2).f1))).setCell ⟨gb398, 2, none⟩ (.string ((rd_T25 l0_1 x16_2).f2))).setCell ⟨gb398, 3, none⟩ (.string ((rd_T25 l0_1 x16_2).f3))).setCell ⟨gb398, 4, none⟩ (.int .i64 ((rd_T25 l0_1 x16_2).f4))).setCell ⟨gb398, 5, none⟩ (.bool ((rd_T25 l0_1 x16_2).f5))).heap[gb398]? = some (.cells #[.int .i64 ((rd_T25 l0_1 x16_2).f0), .int .i64 ((rd_T25 l0_1 x16_2).f1), .string ((rd_T25 l0_1 x16_2).f2), .string ((rd_T25 l0_1 x16_2).f3), .int .i64 ((rd_T25 l0_1 x16_2).f4), .bool ((rd_T25 l0_1 x16_2).f5)] 25 (0, 0))) := ⟨by (with_reducible repeat (first | refine blk_drewN ?_ _ | refine blk_drew ?_ | refine blk_alloc ?_ _)); refine blk_put (cs := #[.int .i64 ((rd_T25 l0_1 x16_2).f0), .int .i64 ((rd_T25 l0_1 x16_2).f1), .string ((rd_T25 l0_1 x16_2).f2), .string ((rd_T25 l0_1 x16_2).f3), .int .i64 ((rd_T25 l0_1 x16_2).f4), .bool false]) ?_ 5 _ rfl; (with_reducible repeat (first | refine blk_drewN ?_ _ | refine blk_drew ?_ | refine blk_alloc ?_ _)); refine blk_put (cs := #[.int .i64 ((rd_T25 l0_1 x16_2).f0), .int .i64 ((rd_T25 l0_1 x16_2).f1), .string ((rd_T25 l0_1 x16_2).f2), .string ((rd_T25 l0_1 x16_2).f3), .int .i64 0, .bool false]) ?_ 4 _ rfl; (with_reducible repeat (first | refine blk_drewN ?_ _ | refine blk_drew ?_ | refine blk_alloc ?_ _)); refine blk_put (cs := #[.int .i64 ((rd_T25 l0_1 x16_2).f0), .int .i64 ((rd_T25 l0_1 x16_2).f1), .string ((rd_T25 l0_1 x16_2).f2), .string (⟨#[]⟩ : ByteArray), .int .i64 0, .bool false]) ?_ 3 _ rfl; (with_reducible repeat (first | refine blk_drewN ?_ _ | refine blk_drew ?_ | refine blk_alloc ?_ _)); refine blk_put (cs := #[.int .i64 ((rd_T25 l0_1 x16_2).f0), .int .i64 ((rd_T25 l0_1 x16_2).f1), .string (⟨#[]⟩ : ByteArray), .string (⟨#[]⟩ : ByteArray), .int .i64 0, .bool false]) ?_ 2 _ rfl; (with_reducible repeat (first | refine blk_drewN ?_ _ | refine blk_drew ?_ | refine blk_alloc ?_ _)); refine blk_put (cs := #[.int .i64 ((rd_T25 l0_1 x16_2).f0), .int .i64 0, .string (⟨#[]⟩ : ByteArray), .string (⟨#[]⟩ : ByteArray), .int .i64 0, .bool false]) ?_ 1 _ rfl; (with_reducible repeat (first | refine blk_drewN ?_ _ | refine blk_drew ?_ | refine blk_alloc ?_ _)); refine blk_put (cs := #[.int .i64 0, .int .i64 0, .string (⟨#[]⟩ : ByteArray), .string (⟨#[]⟩ : ByteArray), .int .i64 0, .bool false]) ?_ 0 _ rfl; (with_reducible repeat (first | refine blk_drewN ?_ _ | refine blk_drew ?_ | refine blk_alloc ?_ _)); exact BK398.out⟩
           have n2_ : Aside0 (Below w.heap.size w ((((((w23.setCell ⟨gb398, 0, none⟩ (.int .i64 ((rd_T25 l0_1 x16_2).f0))).setCell ⟨gb398, 1, none⟩ (.int .i64 ((rd_T25 l0_1 x16_2).f1))).setCell ⟨gb398, 2, none⟩ (.string ((rd_T25 l0_1 x16_2).f2))).setCell ⟨gb398, 3, none⟩ (.string ((rd_T25 l0_1 x16_2).f3))).setCell ⟨gb398, 4, none⟩ (.int .i64 ((rd_T25 l0_1 x16_2).f4))).setCell ⟨gb398, 5, none⟩ (.bool ((rd_T25 l0_1 x16_2).f5)))) := ⟨bo⟩
           (try clear BK396)
           (try clear BK398)
           (try clear HB)
           generalize ((((((w23.setCell ⟨gb398, 0, none⟩ (.int .i64 ((rd_T25 l0_1 x16_2).f0))).setCell ⟨gb398, 1, none⟩ (.int .i64 ((rd_T25 l0_1 x16_2).f1))).setCell ⟨gb398, 2, none⟩ (.string ((rd_T25 l0_1 x16_2).f2))).setCell ⟨gb398, 3, none⟩ (.string ((rd_T25 l0_1 x16_2).f3))).setCell ⟨gb398, 4, none⟩ (.int .i64 ((rd_T25 l0_1 x16_2).f4))).setCell ⟨gb398, 5, none⟩ (.bool ((rd_T25 l0_1 x16_2).f5))) = w26 at n0_ n1_ n2_ ⊢
           have BK396 := n0_
           have BK398 := n1_
           have HB := n2_
           clear n0_ n1_ n2_
           replace BK396 := Aside0.mk (blk_drew BK396.out)
           replace BK398 := Aside0.mk (blk_drew BK398.out)
           replace HB := Aside0.mk (below_drew1 HB.out)
           have q28 : (x16_2 : Int) ≤ ((l0_1.length : Int) : Int) := od
           obtain ⟨i028, hi028, _, hsz28, _⟩ := info_parts info25
           have hroom28 : l0_1.length ≤ c0_1 := HC0_1.out
           have hC28 : Kd.C k25 _ (some ad397) l0_1.length l0_1 := HR0_1.out
           have hcut28 := cut_to (P := Try.prog) 36 25 .i64 Try.underlying36 hi028 (some ad397) l0_1.length c0_1 x16_2 (od) q28 hroom28
           have hr28 := Kd.C_take (m := (x16_2 : Int).toNat) hC28 (by omega)
           have hy28 : y399.length = (x16_2 : Int).toNat := (by rw [Ny399.out, List.length_take]; omega)
           rw [← Ny399.out] at hr28
           rw [← hy28] at hcut28
           have HR402 := Aside0.mk hr28
           have HC402 := Aside0.mk (show y399.length ≤ c0_1 from by omega)
           clear hr28 hC28 hroom28 hi028 hsz28
           have KY28 := Aside0.mk hy28
           clear hy28
           replace q28 := eq_true q28
           refine start_ (n := 9) (S := fun w' => w'.cell? ⟨gb396, 0, none⟩ = some (.int .i64 a0_0) ∧ w'.cell? ⟨gb396, 1, none⟩ = some (.slice (some ad397) l0_1.length c0_1) ∧ w'.cell? ⟨gb398, 0, none⟩ = some (.int .i64 ((rd_T25 l0_1 x16_2).f0)) ∧ w'.cell? ⟨gb398, 1, none⟩ = some (.int .i64 ((rd_T25 l0_1 x16_2).f1)) ∧ w'.cell? ⟨gb398, 2, none⟩ = some (.string ((rd_T25 l0_1 x16_2).f2)) ∧ w'.cell? ⟨gb398, 3, none⟩ = some (.string ((rd_T25 l0_1 x16_2).f3)) ∧ w'.cell? ⟨gb398, 4, none⟩ = some (.int .i64 ((rd_T25 l0_1 x16_2).f4)) ∧ w'.cell? ⟨gb398, 5, none⟩ = some (.bool ((rd_T25 l0_1 x16_2).f5))) (ds := []) #[O,O,O,O,O,O,O,O,O] (by kernel_rfl) rfl rfl ⟨(blk_cell BK396.out 0).trans rfl, (blk_cell BK396.out 1).trans rfl, (blk_cell BK398.out 0).trans rfl, (blk_cell BK398.out 1).trans rfl, (blk_cell BK398.out 2).trans rfl, (blk_cell BK398.out 3).trans rfl, (blk_cell BK398.out 4).trans rfl, (blk_cell BK398.out 5).trans rfl⟩ (fun hHeld => ?_); refine with_tabW seg_Check.tab6 seg_Check.bits6 (fun HT_ HW_ => ?_)
           generalize w26.drew = w27 at BK396 BK398 HB HR402 hHeld ⊢
           refine pz (i := 0) (N := some 21) #[I,O,O,O,O,O,O,O,O] ?_
           refine pz (i := 2) (N := some 23) #[I,O,I,O,O,O,O,O,O] ?_
           refine pz (i := 4) (N := some 25) #[I,O,I,O,I,O,O,O,O] ?_
           refine tz (i := 1) (N := some 22) #[I,I,I,O,I,O,O,O,O] ?_
           refine tz (i := 3) (N := some 24) #[I,I,I,I,I,O,O,O,O] ?_
           refine pz (i := 5) (N := some 26) #[I,I,I,I,I,I,O,O,O] ?_
           refine tz (i := 6) (N := some 27) #[I,I,I,I,I,I,I,O,O] ?_
           refine one_ (i := 7) (N := some 28) #[I,I,I,I,I,I,I,I,O] rfl rfl (one_of HT_.out (by kernel_rfl)) (by decide) (fun K hK => ?_)
           refine goes_ Try.func75 (by kernel_rfl) rfl #[.int .i64 a0_0, .slice (some ad397) y399.length c0_1, .agg #[.int .i64 ((rd_T25 l0_1 x16_2).f0), .int .i64 ((rd_T25 l0_1 x16_2).f1), .string ((rd_T25 l0_1 x16_2).f2), .string ((rd_T25 l0_1 x16_2).f3), .int .i64 ((rd_T25 l0_1 x16_2).f4), .bool ((rd_T25 l0_1 x16_2).f5)]] (by rfl) rfl rfl aa ?_
           with_reducible refine (seg_behind.calls k2 a0_0 _ _ y399 ((rd_T25 l0_1 x16_2).f0) ((rd_T25 l0_1 x16_2).f1) ((rd_T25 l0_1 x16_2).f2) ((rd_T25 l0_1 x16_2).f3) ((rd_T25 l0_1 x16_2).f4) ((rd_T25 l0_1 x16_2).f5) false _ ?side1 ?side2 A14.out).mono ?_
           (case side1 => repeat (first | exact (Kd.C_below HR402.out HB.out) | (with_reducible refine Kd.C_alloc ?_ _) | (with_reducible refine Kd.C_drewN ?_ _) | (with_reducible refine Kd.C_drew ?_)))
           (case side2 => exact HC402.out)
           rintro e w29 ⟨rfl, hb⟩
           refine ⟨_, rfl, ?_⟩
           replace BK396 := Aside0.mk (blk_below (g := gb396) (o := .cells #[.int .i64 a0_0, .slice (some ad397) l0_1.length c0_1] 53 (0, 0)) (bk BK396.out) hb)
           replace BK398 := Aside0.mk (blk_below (g := gb398) (o := .cells #[.int .i64 ((rd_T25 l0_1 x16_2).f0), .int .i64 ((rd_T25 l0_1 x16_2).f1), .string ((rd_T25 l0_1 x16_2).f2), .string ((rd_T25 l0_1 x16_2).f3), .int .i64 ((rd_T25 l0_1 x16_2).f4), .bool ((rd_T25 l0_1 x16_2).f5)] 25 (0, 0)) (bk BK398.out) hb)
           replace HB := Aside0.mk (below_step bo hb)
           (try clear hb)
           (try clear hb2)
           (try clear hk)
           (try clear hi)
           refine hK.out _ _ ⟨(blk_cell BK396.out 0).trans rfl, (blk_cell BK396.out 1).trans rfl, (blk_cell BK398.out 0).trans rfl, (blk_cell BK398.out 1).trans rfl, (blk_cell BK398.out 2).trans rfl, (blk_cell BK398.out 3).trans rfl, (blk_cell BK398.out 4).trans rfl, (blk_cell BK398.out 5).trans rfl⟩ (fun hHeld => ?_)
           clear hK K
           refine norm_ (a' := ?_) ?_ ?_
           rotate_left
           ·show Act.put _ (some 28) _ = _
            simp only [Act.put, List.setIfInBounds_toArray, List.set_cons_zero, List.set_cons_succ, i64_w, i32_w]
            rfl
           refine pz (i := 8) (N := some 29) #[I,I,I,I,I,I,I,I,I] ?_
           refine done_ (done_of HT_.out (by kernel_rfl)) ?_
           try go_wp2
           go_ret
           exact ⟨er, bo⟩
         ·rw [if_neg c13] at H
          exact absurd H (by simp)
        ·rw [if_neg c11] at H
         exact absurd H (by simp)
       ·rw [if_neg c10] at H
        exact absurd H (by simp)
      ·rw [if_neg c9] at H
       have c9b0 : decide (x16_2 < (l0_1.length : Int)) = false := decide_eq_false c9
       clear c9
       obtain rfl := Option.some.inj H
       go_wp2
       go_ret
       exact ⟨er, bo⟩

end Go.Proofs.Ytmabdfdmccbfnaa.P

-- written by a program of the proving session, out of the translation; Lean checks it
namespace Go.Proofs.Ytmabdfdmccbfnaa.P
open Go.RowKit Go.Proofs.Ytmabdfdmccbfnaa.Sq Go.Proofs.YtmabdfdmccbfnaaW.PrintWords Go.Proofs.YtmabdfdmccbfnaaW.PrintLast Go.Proofs.YtmabdfdmccbfnaaW.PrintMore
attribute [local go_sem] max2_int min2_int max_two min_two max_three min_three max_four min_four   -- for this text's walks alone
set_option linter.unusedVariables false
set_option linter.unusedSimpArgs false

open Go.Shelf
def bd_ren : Go.Shelf.Ren := ⟨fun | 169 => 78 | n => n, fun | 70 => 106 | 9 => 9 | 0 => 0 | 72 => 108 | 37 => 23 | 127 => 118 | 3 => 3 | 5 => 5 | n => n, fun | n => n⟩
theorem bd_lays : Lays.n169 Try.prog bd_ren := {
 mixed := by kernel_rfl
 f169 := Try.func78.trans (congrArg some (by kernel_rfl))
 t0 := Try.underlying0
 a0 := Try.isAgg0
 z0 := Try.sizeOf0
 v0 := Try.zeroValue0
 t3 := Try.underlying3
 a3 := Try.isAgg3
 z3 := Try.sizeOf3
 v3 := Try.zeroValue3
 t9 := Try.underlying9
 a9 := Try.isAgg9
 z9 := Try.sizeOf9
 v9 := Try.zeroValue9
 t37 := Try.underlying23
 a37 := Try.isAgg23
 z37 := Try.sizeOf23
 v37 := Try.zeroValue23
 t70 := Try.underlying106
 a70 := Try.isAgg106
 z70 := Try.sizeOf106
 v70 := Try.zeroValue106
 t72 := Try.underlying108
 a72 := Try.isAgg108
 z72 := Try.sizeOf108
 v72 := Try.zeroValue108
 t127 := Try.underlying118
 a127 := Try.isAgg118
 z127 := Try.sizeOf118
 v127 := Try.zeroValue118 }
theorem bd_extra : Builder.Extra Try.prog bd_ren := {
 sizeBuilder := by kernel_rfl
 liesBuilder := by kernel_rfl
 t5 := Try.underlying5
 a5 := Try.isAgg5
 z5 := Try.sizeOf5
 v5 := Try.zeroValue5
 infoByte := by kernel_rfl
 cellsByte := by kernel_rfl
 sizeByte := by kernel_rfl
 neB5 := by decide }
/-! ### the builder -/
set_option maxHeartbeats 1000000 in
set_option maxRecDepth 100000 in
theorem bd_used (b : Nat) (w : World) (h0 : w.cell? ⟨b, 0, none⟩ = some (.pointer (some ⟨b, 0, none⟩))) :
 Calls Try.prog 85 #[.pointer (some ⟨b, 0, none⟩)] w fun e w' => e = .returned (.tuple #[]) ∧ w' = w := by
 obtain ⟨j, hj, _⟩ := Option.map_eq_some_iff.1 (show (Try.prog.info? 108).map (·.size) = some 2 by kernel_rfl)
 go_enter Try.func85, Try.ntmps85
 go_wp2
 rw [Lib.run_neq_ptr_same w _ Try.underlying106 hj]
 go_wp2
 go_end0
 exact ⟨rfl, rfl⟩
set_option maxHeartbeats 1000000 in
set_option maxRecDepth 100000 in
theorem bd_fresh (b : Nat) (w : World) (h0 : w.cell? ⟨b, 0, none⟩ = some (.pointer none)) (hsh : w.shape? b = some (108, 2)) (hfz : w.frozen? ⟨b, 0, none⟩ = false) :
 Calls Try.prog 85 #[.pointer (some ⟨b, 0, none⟩)] w fun e w' => e = .returned (.tuple #[]) ∧ w' = w.setCell ⟨b, 0, none⟩ (.pointer (some ⟨b, 0, none⟩)) := by
 obtain ⟨j, hj, hjs⟩ := Option.map_eq_some_iff.1 (show (Try.prog.info? 108).map (·.size) = some 2 by kernel_rfl)
 have hl : liesAt Try.prog Try.prog.depth 108 (2 / Try.prog.cellsOf 108) 0 108 1 = true := by kernel_rfl
 go_enter Try.func85, Try.ntmps85
 go_wp2
 rw [Lib.run_to_unsafe w ⟨b, 0, none⟩ Try.underlying106 Try.underlying119 hj (by rw [hjs]; decide) hsh (Nat.zero_lt_succ 1)]
 simp only [Result.andThen]
 rw [Oper.upon_value]
 go_wp2
 rw [run_callFunc_extern Try.func86 (by kernel_rfl) (by kernel_rfl) (by kernel_rfl) (e := Extern.AbiNoEscape.same) (by kernel_rfl)]
 rw [Lib.run_noEscape]
 simp only [Result.andThen]
 rw [Oper.upon_value]
 go_wp2
 rw [Lib.run_from_unsafe w ⟨b, 0, none⟩ Try.underlying119 Try.underlying106 hj hsh hl]
 simp only [Result.andThen]
 rw [Oper.upon_value]
 go_wp2
 go_end0
 exact ⟨rfl, rfl⟩
theorem bd_check (B b : Nat) (bs : List Value) (w : World) (h : Lib.IsBuilder 108 5 B b bs w) :
 Calls Try.prog 85 #[.pointer (some ⟨b, 0, none⟩)] w fun e w' => e = .returned (.tuple #[]) ∧ (Lib.BuilderAt 108 5 B b (.pointer (some ⟨b, 0, none⟩)) bs w' ∧ Below B w w') := by
 rcases h with h | h
 ·refine (bd_fresh b w h.cell0 h.shape h.frozen0).mono ?_
  rintro e w' ⟨rfl, rfl⟩
  exact ⟨rfl, h.used _, (Below.refl B w).setCell (p := ⟨b, 0, none⟩) h.1 _⟩
 ·refine (bd_used b w h.cell0).mono ?_
  rintro e w' ⟨rfl, rfl⟩
  exact ⟨rfl, h, Below.refl B _⟩
set_option maxHeartbeats 2000000 in
set_option maxRecDepth 100000 in
theorem bd_write (B b : Nat) (bs : List Value) (s : ByteArray) (w : World) (h : Lib.IsBuilder 108 5 B b bs w) (hlen : bs.length + s.size ≤ 140737488355328) (hBw : B ≤ w.heap.size) :
 Calls Try.prog 77 #[.pointer (some ⟨b, 0, none⟩), .string s] w fun e w' => e = .returned (.tuple #[.int .i64 s.size, .nilIface]) ∧ (Lib.BuilderAt 108 5 B b (.pointer (some ⟨b, 0, none⟩)) (bs ++ Lib.strCells s) w' ∧ Below B w w') := by
 obtain ⟨i0, hi, hz0, hz1, hz2⟩ := info_parts (show (Try.prog.info? 5).map (fun i => (i.zero, i.size, i.bytes)) = some (some (.int .u8 0), 1, 1) by kernel_rfl)
 go_enter Try.func77, Try.ntmps77
 go_wp2_with (go_at_call 85; refine (bd_check B b bs _ h).mono ?_)
 rintro e w1 ⟨rfl, h1, hb1⟩
 obtain ⟨hB, v, hbk, hown, hne⟩ := h1
 have c0 : w1.cell? ⟨b, 0, none⟩ = some (.pointer (some ⟨b, 0, none⟩)) := by rw [Lib.cell_of_heap hbk]; rfl
 have c1 : w1.cell? ⟨b, 1, none⟩ = some v := by rw [Lib.cell_of_heap hbk]; rfl
 go_wp2_with (at_builtin; refine Lib.wpList_append_own_string _ rfl _ _ 23 9 rfl B 5 i0 Try.underlying23 Try.underlying9 hi hz0 hz1 hz2 _ _ _ rfl hown s rfl ?c3 ?c4 ?c5 ?_)
 case c3 => unfold maxLen; omega
 case c4 => omega
 case c5 => have := hb1.size; omega
 intro v' w2 hown' hgrow _
 have hlt : b < w1.heap.size := by
  rcases Nat.lt_or_ge b w1.heap.size with h' | h'
  ·exact h'
  ·simp [Array.getElem?_eq_none h'] at hbk
 have hb2 : w2.heap[b]? = some (.cells #[.pointer (some ⟨b, 0, none⟩), v] 108 (0, 0)) := by
  rw [hgrow.block b hlt (fun e => hne e.symm)]
  exact hbk
 have d0 : w2.cell? ⟨b, 0, none⟩ = some (.pointer (some ⟨b, 0, none⟩)) := by rw [Lib.cell_of_heap hb2]; rfl
 have d1 : w2.cell? ⟨b, 1, none⟩ = some v := by rw [Lib.cell_of_heap hb2]; rfl
 have f1 : w2.frozen? ⟨b, 1, none⟩ = false := Lib.frozen_of_heap hb2 1
 obtain ⟨ao, n', cap, rfl⟩ : ∃ ao n' cap, v' = .slice ao n' cap := by
  rcases hown'.2 with ⟨hv, _⟩ | ⟨g, cap, cur, hv, _⟩
  ·exact ⟨_, _, _, hv⟩
  ·exact ⟨_, _, _, hv⟩
 go_wp2
 go_ret2
 refine ⟨rfl, ?_, ?_⟩
 ·exact Lib.BuilderAt.put (T := 108) (e := 5) hB hb2 (bs' := bs ++ Lib.strCells s) (by simpa [Lib.strCells_length] using hown') (by decide)
 ·exact (hb1.grown hgrow (by have := hb1.size; omega) (fun k hk => (hown.lt k hk).1)).setCell (p := ⟨b, 1, none⟩) hB _
theorem bd_string (B b : Nat) (l : List UInt8) (w : World) (h : Lib.IsBuilder 108 5 B b (Lib.byteCells l) w) (hBw : B ≤ w.heap.size) :
 Calls Try.prog 78 #[.pointer (some ⟨b, 0, none⟩)] w fun e w' => e = .returned (.string ⟨l.toArray⟩) ∧ Below B w w' := Any.Builder_String_any bd_lays bd_extra B b l w h hBw
theorem bd_text (B b : Nat) (s : ByteArray) (w : World) (h : Lib.IsBuilder 108 5 B b (Lib.strCells s) w) (hBw : B ≤ w.heap.size) :
 Calls Try.prog 78 #[.pointer (some ⟨b, 0, none⟩)] w fun e w' => e = .returned (.string s) ∧ Below B w w' := by
 have e : (⟨s.data.toList.toArray⟩ : ByteArray) = s := by simp
 have := bd_string B b s.data.toList w h hBw
 rw [e] at this
 exact this
theorem bd_alloc {B b : Nat} {p : Value} {bs : List Value} {w : World} (h : Lib.BuilderAt 108 5 B b p bs w) (o : Obj) : Lib.BuilderAt 108 5 B b p bs (w.alloc o) := by
 have hlt := h.lt
 obtain ⟨hB, v, hb, hown, hne⟩ := h
 exact ⟨hB, v, (Lib.alloc_old w o b hlt).trans hb, hown.alloc o, hne⟩
theorem bd_below {B b : Nat} {p : Value} {bs : List Value} {w w1 : World} (h : Lib.BuilderAt 108 5 B b p bs w) (hb : Below w.heap.size w w1) : Lib.BuilderAt 108 5 B b p bs w1 := by
 have hlt := h.lt
 obtain ⟨hB, v, hk, hown, hne⟩ := h
 exact ⟨hB, v, (hb.block b hlt).trans hk, pw_own_below hown hb, hne⟩
theorem bi_alloc {B b : Nat} {bs : List Value} {w : World} (h : Lib.IsBuilder 108 5 B b bs w) (o : Obj) : Lib.IsBuilder 108 5 B b bs (w.alloc o) := h.elim (fun x => .inl (bd_alloc x o)) (fun x => .inr (bd_alloc x o))
theorem bi_below {B b : Nat} {bs : List Value} {w w1 : World} (h : Lib.IsBuilder 108 5 B b bs w) (hb : Below w.heap.size w w1) : Lib.IsBuilder 108 5 B b bs w1 := h.elim (fun x => .inl (bd_below x hb)) (fun x => .inr (bd_below x hb))
theorem bi_lt {B b : Nat} {bs : List Value} {w : World} (h : Lib.IsBuilder 108 5 B b bs w) : b < w.heap.size ∧ B ≤ b := h.elim (fun x => ⟨x.lt, x.1⟩) (fun x => ⟨x.lt, x.1⟩)
/-! ### seg_Text: function 45 -/
/-- The records' bytes behind others. -/
def seg_Text.acc (k : Nat) : List (S25) → ByteArray → Option ByteArray
 | [], s => some s
 | r :: l, s => (rec_Bytes.f k r.f0 r.f1 r.f2 r.f3 r.f4 r.f5).bind fun b => (if s.size + b.1.size ≤ 140737488355328 then seg_Text.acc k l (s ++ b.1) else none)
def seg_Text.f (k : Nat) (a0_0 : Int) (l0_1 : List (S25)) : Option (ByteArray × Int) :=
 (seg_Check.f k a0_0 l0_1).bind fun t => (if t = 0 then ((seg_Text.acc k l0_1 (⟨#[]⟩ : ByteArray)).bind fun s => some (s, 0)) else some ((⟨#[]⟩ : ByteArray), t))
theorem seg_Text.mono_acc (k : Nat) : ∀ (l : List (S25)) (s : ByteArray), LeO (seg_Text.acc k l s) (seg_Text.acc (k + 1) l s)
 | [], s => LeO.refl _
 | r :: l, s => by
  unfold seg_Text.acc
  exact LeO.bind (rec_Bytes.mono _ _ _ _ _ _ _) (fun b => LeO.ite (seg_Text.mono_acc k l _) (LeO.refl _))
theorem seg_Text.mono : ∀ a0 a1 k, LeO (seg_Text.f k a0 a1) (seg_Text.f (k + 1) a0 a1) := by
 intro a0 a1 k
 unfold seg_Text.f
 exact LeO.bind (seg_Check.mono _ _ _) (fun _ => LeO.ite (LeO.bind (seg_Text.mono_acc _ _ _) (fun _ => LeO.refl _)) (LeO.refl _))
theorem seg_Text.acc_step (k : Nat) (l : List (S25)) (i : Nat) (s r : ByteArray) (hi : i < l.length) (h : seg_Text.acc k (l.drop i) s = some r) :
 ∃ b1 b2, rec_Bytes.f k (rd_T25 l i).f0 (rd_T25 l i).f1 (rd_T25 l i).f2 (rd_T25 l i).f3 (rd_T25 l i).f4 (rd_T25 l i).f5 = some (b1, b2) ∧ s.size + b1.size ≤ 140737488355328 ∧ seg_Text.acc k (l.drop (i + 1)) (s ++ b1) = some r := by
 have e : rd_T25 l i = l[i] := by unfold rd_T25; simp [List.getD_eq_getElem?_getD, List.getElem?_eq_getElem hi]
 rw [List.drop_eq_getElem_cons hi, seg_Text.acc, ← e] at h
 obtain ⟨⟨b1, b2⟩, hb, h⟩ := Option.bind_eq_some_iff.1 h
 by_cases hs : s.size + b1.size ≤ 140737488355328
 ·rw [if_pos hs] at h
  exact ⟨b1, b2, hb, hs, h⟩
 ·rw [if_neg hs] at h
  cases h
theorem seg_Text.below_cells {W w1 : World} (hb : Below W.heap.size W w1) : (∀ b o, b < W.heap.size → w1.cell? ⟨b, o, none⟩ = W.cell? ⟨b, o, none⟩) ∧ (∀ b o, b < W.heap.size → w1.frozen? ⟨b, o, none⟩ = W.frozen? ⟨b, o, none⟩) :=
 ⟨fun b o h => hb.cell (p := ⟨b, o, none⟩) h, fun b o h => hb.frozen (p := ⟨b, o, none⟩) h⟩
theorem strCells_add (s t : ByteArray) : Lib.strCells s ++ Lib.strCells t = Lib.strCells (s ++ t) := by
 simp [Lib.strCells, ByteArray.data_append]
set_option maxHeartbeats 4000000 in
set_option maxRecDepth 100000 in
theorem seg_Text.calls (k : Nat) (a0_0 : Int) (A0_1 : Option Addr) (c0_1 : Nat) (l0_1 : List (S25)) (r1 : ByteArray) (r2 : Int) (w : World) (hr0_1 : Kd.C k25 w A0_1 l0_1.length l0_1) (hc0_1 : l0_1.length ≤ c0_1)
 (h : seg_Text.f k a0_0 l0_1 = some (r1, r2)) :
 Calls Try.prog 45 #[.agg #[.int .i64 a0_0, .slice A0_1 l0_1.length c0_1]] w fun e w' => e = .returned (.tuple #[.string r1, .int .i64 r2]) ∧ Below w.heap.size w w' := by
 have hu53 := Try.underlying53
 have hu25 := Try.underlying25
 have hm := hr0_1.2.1
 unfold seg_Text.f at h
 obtain ⟨t, ht, h⟩ := Option.bind_eq_some_iff.1 h
 have HT := Aside0.mk ht
 have HR0 := Aside0.mk hr0_1
 have HC0 := Aside0.mk hc0_1
 have HB := Aside0.mk (Below.refl w.heap.size w)
 clear hr0_1 hc0_1 ht
 by_cases h0 : t = 0
 ·subst h0
  rw [if_pos rfl] at h
  obtain ⟨s_, hs_, h⟩ := Option.bind_eq_some_iff.1 h
  simp only [Option.some.injEq, Prod.mk.injEq] at h
  obtain ⟨rfl, rfl⟩ := h
  have HS := Aside0.mk hs_
  clear hs_
  go_enter Try.func45, Try.ntmps45
  go_wp2_with (first | (go_at_call 46; (with_reducible refine (seg_Check.calls k a0_0 _ _ l0_1 _ _ (Kd.C_alloc HR0.out _) HC0.out HT.out).mono ?_); rintro e w2 ⟨rfl, hb⟩; obtain ⟨hc2, hf2⟩ := seg_Text.below_cells hb; have hz2 : w.heap.size < w2.heap.size := (by have := hb.size; simp at this; omega); replace HB := Aside0.mk (below_step ((Below.refl w.heap.size w).alloc (Nat.le_refl _) _) hb); have HX := Aside0.mk hb; clear hb))
  have HI : Aside0 (Lib.IsBuilder 108 5 w2.heap.size w2.heap.size (Lib.strCells ⟨#[]⟩) (w2.alloc (.cells #[.pointer none, .slice none 0 0] 108))) := ⟨Lib.fresh_isBuilder 108 5 w2⟩
  have HZ0 := Aside0.mk hz2
  replace HB := Aside0.mk (HB.out.alloc (Nat.le_of_lt hz2) (.cells #[.pointer none, .slice none 0 0] 108))
  clear HX hc2 hf2 hz2
  go_loopw [18] (fun v18 w' => ∃ (i : Nat) (s : ByteArray), i ≤ l0_1.length ∧ v18 = .int .i64 i ∧ Aside0 (seg_Text.acc k (l0_1.drop i) s = some s_) ∧ Aside0 (Lib.IsBuilder 108 5 w2.heap.size w2.heap.size (Lib.strCells s) w') ∧ Aside0 (Below w.heap.size w w') ∧ Aside0 (w2.heap.size < w'.heap.size)) (fun v18 _ => l0_1.length - (intOf v18).toNat)
  case atStart => exact ⟨0, ⟨#[]⟩, Nat.zero_le _, rfl, ⟨by simpa using HS.out⟩, HI, HB, ⟨by simp⟩⟩
  case round =>
   clear HB HI
   obtain ⟨i, s, hi, rfl, HX, HI, HB, HZ⟩ := hrel
   by_cases hlt : i < l0_1.length
   ·obtain ⟨b1, b2, hb1, hs1, hx1⟩ := seg_Text.acc_step k l0_1 i s s_ hlt HX.out
    have HB1 := Aside0.mk hb1
    have HS1 := Aside0.mk hs1
    have HX1 := Aside0.mk hx1
    clear hb1 hs1 hx1
    obtain ⟨ad, ead, hx0, hx1, hx2, hx3, hx4, hx5⟩ := at_T25 HR0.out (i : Int) (by omega) (by omega)
    cases ead
    simp only [Int.toNat_natCast] at hx0 hx1 hx2 hx3 hx4 hx5
    replace hx0 := cx HB.out hx0
    replace hx1 := cx HB.out hx1
    replace hx2 := cx HB.out hx2
    replace hx3 := cx HB.out hx3
    replace hx4 := cx HB.out hx4
    replace hx5 := cx HB.out hx5
    go_wp2_with (first | (go_at_call 14; (with_reducible refine (rec_Bytes.calls k _ _ _ _ _ _ b1 b2 _ HB1.out).mono ?_); rintro e w5 ⟨rfl, hb⟩; have hz5 : w2.heap.size ≤ w5.heap.size := (by have := hb.size; have := HZ.out; simp at *; omega); replace HI := Aside0.mk (bi_below (bi_alloc HI.out _) hb); replace HB := Aside0.mk (below_step (HB.out.alloc (by have := HB.out.size; omega) _) hb); have HZ5 := Aside0.mk hz5; clear hb hz5) | (go_at_call 77; (with_reducible refine (bd_write w2.heap.size w2.heap.size (Lib.strCells s) b1 _ HI.out (by rw [Lib.strCells_length]; exact HS1.out) HZ5.out).mono ?_); rintro e w6 ⟨rfl, h6, hb6⟩; have H6 := Aside0.mk h6; have HB6 := Aside0.mk (HB.out.trans (hb6.mono (Nat.le_of_lt HZ0.out))); have HZ6 := Aside0.mk (bi_lt (Or.inr h6)).1; clear h6 hb6))
    go_roundw
    case rel => exact ⟨i + 1, s ++ b1, by omega, by go_num, HX1, ⟨by rw [← strCells_add]; exact Or.inr H6.out⟩, HB6, HZ6⟩
    case measure => simp [intOf]; omega
   ·have hi2 : i = l0_1.length := by omega
    have e1 := HX.out
    rw [List.drop_eq_nil_of_le (by omega), seg_Text.acc] at e1
    have e2 := Option.some.inj e1
    subst e2
    clear e1 HX HS
    subst hi2
    go_wp2_with (first | (go_at_call 78; (with_reducible refine (bd_text w2.heap.size w2.heap.size s _ HI.out (Nat.le_of_lt HZ.out)).mono ?_); rintro e w6 ⟨rfl, hb6⟩; replace HB := Aside0.mk (HB.out.trans (hb6.mono (Nat.le_of_lt HZ0.out))); clear hb6))
    go_ret2
    exact ⟨rfl, HB.out⟩
 ·rw [if_neg h0] at h
  simp only [Option.some.injEq, Prod.mk.injEq] at h
  obtain ⟨rfl, rfl⟩ := h
  have b0 : (t == 0) = false := beq_eq_false_iff_ne.mpr h0
  have b1 : (t != 0) = true := bne_iff_ne.mpr h0
  go_enter Try.func45, Try.ntmps45
  go_wp2_with (first | (go_at_call 46; (with_reducible refine (seg_Check.calls k a0_0 _ _ l0_1 _ _ (Kd.C_alloc HR0.out _) HC0.out HT.out).mono ?_); rintro e w2 ⟨rfl, hb⟩; obtain ⟨hc2, hf2⟩ := seg_Text.below_cells hb; have hz2 : w.heap.size < w2.heap.size := (by have := hb.size; simp at this; omega); replace HB := Aside0.mk (below_step ((Below.refl w.heap.size w).alloc (Nat.le_refl _) _) hb); clear hb))
  go_ret2
  exact ⟨rfl, HB.out⟩

end Go.Proofs.Ytmabdfdmccbfnaa.P

-- written by a program of the proving session, out of the translation; Lean checks it
namespace Go.Proofs.Ytmabdfdmccbfnaa.P
open Go.RowKit Go.Proofs.Ytmabdfdmccbfnaa.Sq Go.Proofs.YtmabdfdmccbfnaaW.PrintWords Go.Proofs.YtmabdfdmccbfnaaW.PrintLast Go.Proofs.YtmabdfdmccbfnaaW.PrintMore
attribute [local go_sem] max2_int min2_int max_two min_two max_three min_three max_four min_four   -- for this text's walks alone
set_option linter.unusedVariables false
set_option linter.unusedSimpArgs false

/-! ### seg_Size: function 44 -/
def seg_Size.l0 : Nat → Int → List (S25) → Int → Int → Option (Int × Int)
 | 0, _, _, _, _ => none
 | k + 1, x5, x16, x17, x18 => if x18 < x17 then (if 0 ≤ x18 then (if x18 < (x16.length : Int) then ((rec_Size.f k ((rd_T25 x16 x18).f0) ((rd_T25 x16 x18).f1) ((rd_T25 x16 x18).f2) ((rd_T25 x16 x18).f3) ((rd_T25 x16 x18).f4) ((rd_T25 x16 x18).f5)).bind fun bt568 => (seg_Size.l0 k (wrap64 (x5 + bt568.1)) x16 x17 (wrap64 (x18 + 1)))) else (none)) else (none)) else (some (x5, 0))
def seg_Size.f (k : Nat) (a0_0 : Int) (l0_1 : List (S25)) : Option (Int × Int) := (seg_Check.f k a0_0 l0_1).bind fun t565 => (if t565 = 0 then (seg_Size.l0 k 0 l0_1 (l0_1.length : Int) 0) else (some (0, t565)))
theorem seg_Size.mono_l : ∀ k, (∀ y0 y1 y2 y3, LeO (seg_Size.l0 k y0 y1 y2 y3) (seg_Size.l0 (k + 1) y0 y1 y2 y3))
 | 0 => fun _ _ _ _ r h => by simp [seg_Size.l0] at h
 | k + 1 => by
  have ih0 := seg_Size.mono_l k
  ·intro y0 y1 y2 y3
   unfold seg_Size.l0
   repeat' first
   | (with_reducible exact ih0 _ _ _ _)
   | (with_reducible exact rec_Size.mono _ _ _ _ _ _ _)
   | (with_reducible exact seg_Check.mono _ _ _)
   | (with_reducible exact LeO.refl _)
   | (with_reducible exact LeO.none _)
   | (with_reducible refine LeO.ite ?_ ?_)
   | (with_reducible refine LeO.bind ?_ (fun _ => ?_))
   | exact ih0 _ _ _ _
   | exact rec_Size.mono _ _ _ _ _ _ _
   | exact seg_Check.mono _ _ _
   | exact LeO.none _
   | refine LeO.ite ?_ ?_
   | refine LeO.bind ?_ (fun _ => ?_)
theorem seg_Size.mono : ∀ a0 a1 k, LeO (seg_Size.f k a0 a1) (seg_Size.f (k + 1) a0 a1) := by
 intro a0 a1 k
 have ih0 := seg_Size.mono_l k
 unfold seg_Size.f
 repeat' first
  | (with_reducible exact ih0 _ _ _ _)
  | (with_reducible exact rec_Size.mono _ _ _ _ _ _ _)
  | (with_reducible exact seg_Check.mono _ _ _)
  | (with_reducible exact LeO.refl _)
  | (with_reducible exact LeO.none _)
  | (with_reducible refine LeO.ite ?_ ?_)
  | (with_reducible refine LeO.bind ?_ (fun _ => ?_))
  | exact ih0 _ _ _ _
  | exact rec_Size.mono _ _ _ _ _ _ _
  | exact seg_Check.mono _ _ _
  | exact LeO.none _
  | refine LeO.ite ?_ ?_
  | refine LeO.bind ?_ (fun _ => ?_)
set_option maxHeartbeats 8000000 in
set_option maxRecDepth 100000 in
theorem seg_Size.calls (k : Nat) (a0_0 : Int) (A0_1 : Option Addr) (c0_1 : Nat) (l0_1 : List (S25)) (r1 : Int) (r2 : Int) (w : World) (hr0_1 : Kd.C k25 w A0_1 l0_1.length l0_1) (hc0_1 : l0_1.length ≤ c0_1) (h : seg_Size.f k a0_0 l0_1 = some (r1, r2)) :
 Calls Try.prog 44 #[.agg #[.int .i64 a0_0, .slice A0_1 l0_1.length c0_1]] w fun e w' => e = .returned (.tuple #[.int .i64 r1, .int .i64 r2]) ∧ Below w.heap.size w w' := by
 have hu53 := Try.underlying53
 have hu25 := Try.underlying25
 have HR0_1 := Aside0.mk hr0_1
 have HC0_1 := Aside0.mk hc0_1
 clear hr0_1 hc0_1
 have HB := Aside0.mk (Below.refl w.heap.size w)
 have H : ((seg_Check.f k a0_0 l0_1).bind fun t565 => (if t565 = 0 then (seg_Size.l0 k 0 l0_1 (l0_1.length : Int) 0) else (some (0, t565)))) = some (r1, r2) := h
 clear h
 replace H := Option.bind_eq_some_iff.mp H
 obtain ⟨t565, A20, H⟩ := H
 replace H : (if t565 = 0 then (seg_Size.l0 k 0 l0_1 (l0_1.length : Int) 0) else (some (0, t565))) = some (r1, r2) := H
 have A2 := Aside0.mk A20
 clear A20
 by_cases c3 : t565 = 0
 ·rw [if_pos c3] at H
  have c3b0 : (t565 == 0) = true := beq_iff_eq.mpr c3
  have c3b1 : (t565 != 0) = false := bne_eq_false_iff_eq.mpr c3
  clear c3
  have H' := Aside0.mk H
  clear H
  go_enter Try.func44, Try.ntmps44
  go_wp2_with (first | ((with_reducible refine gate_dst (N := 1) rfl ?_); refine box_event ?hg (N := 1) ?hd (cs := #[.int .i64 a0_0, .slice A0_1 l0_1.length c0_1]) (t := 53) ?hr ?_; (case hd => rfl); (case hg => rfl); (case hr => first | (go_simp; done) | (go_simp; rfl)); intro gb564 hg w4 hbox hb; have BK564 := Aside0.mk (hbox); have GW564 := Aside0.mk ((by rw [hg]; exact (below_size bo) : w.heap.size ≤ gb564)); have GE564 := Aside0.mk ((by rw [hg]; exact (below_size bo) : w.heap.size ≤ gb564)); replace HB := Aside0.mk (below_step bo hb); clear hb hbox hg; obtain ⟨hcz5_0, hcz5_1⟩ := cl2 BK564.out; obtain ⟨hfz5_0, hfz5_1⟩ := fz2 BK564.out) | ((with_reducible refine gate_callee (f := 46) rfl ?_); refine goesL_ (some 11) rfl rfl Try.func46 (by kernel_rfl) rfl #[.agg #[.int .i64 a0_0, .slice A0_1 l0_1.length c0_1]] rfl aa ?_; (with_reducible refine (seg_Check.calls k a0_0 _ _ l0_1 t565 _ ?side1 ?side2 A2.out).mono ?_); (case side1 => repeat (first | exact (Kd.C_below HR0_1.out HB.out) | (with_reducible refine Kd.C_alloc ?_ _) | (with_reducible refine Kd.C_drewN ?_ _) | (with_reducible refine Kd.C_drew ?_))); (case side2 => exact HC0_1.out); rintro e w6 ⟨rfl, hb⟩; refine ⟨_, rfl, ?_⟩; replace BK564 := Aside0.mk (blk_below (g := gb564) (o := .cells #[.int .i64 a0_0, .slice A0_1 l0_1.length c0_1] 53 (0, 0)) (bk BK564.out) hb); replace HB := Aside0.mk (below_step bo hb); (try clear hb); (try clear hb2); (try clear hk); (try clear hi); obtain ⟨hcz7_0, hcz7_1⟩ := cl2 BK564.out; obtain ⟨hfz7_0, hfz7_1⟩ := fz2 BK564.out))
  go_loopg [5, 18] k (fun kq v5 v18 w' => ∃ (x5_1 : Int) (x18_1 : Int), v5 = .int .i64 x5_1 ∧ v18 = .int .i64 x18_1 ∧ Aside0 (seg_Size.l0 kq x5_1 l0_1 (l0_1.length : Int) x18_1 = some (r1, r2)) ∧ Aside0 (kq ≤ k) ∧ Aside0 (w'.heap[gb564]? = some (.cells #[.int .i64 a0_0, (.slice A0_1 l0_1.length c0_1)] 53 (0, 0))) ∧ Aside0 (Below w.heap.size w w'))
  case atStart => exact ⟨(0), (0), ap, ap, H', ⟨Nat.le_refl _⟩, ⟨by (with_reducible repeat (first | refine blk_drewN ?_ _ | refine blk_drew ?_ | refine blk_alloc ?_ _)); exact BK564.out⟩, ⟨bo⟩⟩
  case round =>
   clear H'
   try clear p2
   try clear c3
   try clear c3b0
   try clear c3b1
   try clear c4
   try clear hcz5_0
   try clear hcz5_1
   try clear hcz7_0
   try clear hcz7_1
   try clear hfz5_0
   try clear hfz5_1
   try clear hfz7_0
   try clear hfz7_1
   obtain ⟨x5_1, x18_1, rfl, rfl, HA, HK1, BK564, HB⟩ := hrel
   cases gk with
   | zero => exact absurd HA.out (by simp [seg_Size.l0])
   | succ k1 =>
    have H := HA.out
    clear HA
    simp only [seg_Size.l0] at H
    by_cases c8 : x18_1 < (l0_1.length : Int)
    ·rw [if_pos c8] at H
     have c8b0 : decide (x18_1 < (l0_1.length : Int)) = true := decide_eq_true c8
     clear c8
     by_cases c9 : 0 ≤ x18_1
     ·rw [if_pos c9] at H
      have c9b0 : decide (0 ≤ x18_1) = true := decide_eq_true c9
      clear c9
      by_cases c10 : x18_1 < (l0_1.length : Int)
      ·rw [if_pos c10] at H
       have c10b0 : decide (x18_1 < (l0_1.length : Int)) = true := decide_eq_true c10
       clear c10
       replace H := Option.bind_eq_some_iff.mp H
       obtain ⟨⟨t568, t569⟩, A110, H⟩ := H
       replace H : (seg_Size.l0 k1 (wrap64 (x5_1 + t568)) l0_1 (l0_1.length : Int) (wrap64 (x18_1 + 1))) = some (r1, r2) := H
       have A11 := Aside0.mk A110
       clear A110
       have H' := Aside0.mk H
       clear H
       have p566 : 0 ≤ (x18_1 : Int) := od
       have q566 : x18_1 < (l0_1.length : Int) := od
       obtain ⟨ad566, e566, hx566_0, hx566_1, hx566_2, hx566_3, hx566_4, hx566_5⟩ := at_T25 HR0_1.out x18_1 p566 q566
       cases e566
       replace hx566_0 := cx HB.out hx566_0
       replace hx566_1 := cx HB.out hx566_1
       replace hx566_2 := cx HB.out hx566_2
       replace hx566_3 := cx HB.out hx566_3
       replace hx566_4 := cx HB.out hx566_4
       replace hx566_5 := cx HB.out hx566_5
       replace p566 := eq_true p566
       replace q566 := eq_true q566
       go_wp2_with (first | ((with_reducible refine gate_dst (N := 7) rfl ?_); refine box_event ?hg (N := 7) ?hd (cs := #[.int .i64 0, .int .i64 0, .string (⟨#[]⟩ : ByteArray), .string (⟨#[]⟩ : ByteArray), .int .i64 0, .bool false]) (t := 25) ?hr ?_; (case hd => rfl); (case hg => rfl); (case hr => first | (go_simp; done) | (go_simp; rfl)); intro gb567 hg w12 hbox hb; have BK567 := Aside0.mk (hbox); have GW567 := Aside0.mk ((by rw [hg]; exact (below_size bo) : w.heap.size ≤ gb567)); have GE567 := Aside0.mk ((by rw [hg]; exact (below_size bo) : w.heap.size ≤ gb567)); replace HB := Aside0.mk (below_step bo hb); have NB564_567 := Aside0.mk ((by rw [hg]; exact Nat.ne_of_lt (blk_lt (g := gb564) (o := .cells #[.int .i64 a0_0, .slice (some ad566) l0_1.length c0_1] 53 (0, 0)) (bk BK564.out)) : gb564 ≠ gb567)); have NB567_564 := Aside0.mk ((by rw [hg]; exact Nat.ne_of_gt (blk_lt (g := gb564) (o := .cells #[.int .i64 a0_0, .slice (some ad566) l0_1.length c0_1] 53 (0, 0)) (bk BK564.out)) : gb567 ≠ gb564)); replace BK564 := Aside0.mk (blk_below (g := gb564) (o := .cells #[.int .i64 a0_0, .slice (some ad566) l0_1.length c0_1] 53 (0, 0)) (bk BK564.out) hb); clear hb hbox hg; have hnb13 := NB567_564.out; have hnc13 := NB564_567.out; obtain ⟨hcz14_0, hcz14_1, hcz14_2, hcz14_3, hcz14_4, hcz14_5⟩ := cl6 BK567.out; obtain ⟨hfz14_0, hfz14_1, hfz14_2, hfz14_3, hfz14_4, hfz14_5⟩ := fz6 BK567.out) | ((with_reducible refine gate_callee (f := 21) rfl ?_); refine goesL_ (some 24) rfl rfl Try.func21 (by kernel_rfl) rfl #[.agg #[.int .i64 ((rd_T25 l0_1 x18_1).f0), .int .i64 ((rd_T25 l0_1 x18_1).f1), .string ((rd_T25 l0_1 x18_1).f2), .string ((rd_T25 l0_1 x18_1).f3), .int .i64 ((rd_T25 l0_1 x18_1).f4), .bool ((rd_T25 l0_1 x18_1).f5)]] rfl aa ?_; (with_reducible refine (rec_Size.calls k1 ((rd_T25 l0_1 x18_1).f0) ((rd_T25 l0_1 x18_1).f1) ((rd_T25 l0_1 x18_1).f2) ((rd_T25 l0_1 x18_1).f3) ((rd_T25 l0_1 x18_1).f4) ((rd_T25 l0_1 x18_1).f5) t568 t569 _ A11.out).mono ?_); rintro e w15 ⟨rfl, hb⟩; refine ⟨_, rfl, ?_⟩; replace BK564 := Aside0.mk (blk_below (g := gb564) (o := .cells #[.int .i64 a0_0, .slice (some ad566) l0_1.length c0_1] 53 (0, 0)) (bf BK564.out) hb); replace BK567 := Aside0.mk (blk_below (g := gb567) (o := .cells #[.int .i64 ((rd_T25 l0_1 x18_1).f0), .int .i64 ((rd_T25 l0_1 x18_1).f1), .string ((rd_T25 l0_1 x18_1).f2), .string ((rd_T25 l0_1 x18_1).f3), .int .i64 ((rd_T25 l0_1 x18_1).f4), .bool ((rd_T25 l0_1 x18_1).f5)] 25 (0, 0)) (by (with_reducible repeat (first | refine blk_drewN ?_ _ | refine blk_drew ?_ | refine blk_alloc ?_ _)); refine blk_put (cs := #[.int .i64 ((rd_T25 l0_1 x18_1).f0), .int .i64 ((rd_T25 l0_1 x18_1).f1), .string ((rd_T25 l0_1 x18_1).f2), .string ((rd_T25 l0_1 x18_1).f3), .int .i64 ((rd_T25 l0_1 x18_1).f4), .bool false]) ?_ 5 _ rfl; (with_reducible repeat (first | refine blk_drewN ?_ _ | refine blk_drew ?_ | refine blk_alloc ?_ _)); refine blk_put (cs := #[.int .i64 ((rd_T25 l0_1 x18_1).f0), .int .i64 ((rd_T25 l0_1 x18_1).f1), .string ((rd_T25 l0_1 x18_1).f2), .string ((rd_T25 l0_1 x18_1).f3), .int .i64 0, .bool false]) ?_ 4 _ rfl; (with_reducible repeat (first | refine blk_drewN ?_ _ | refine blk_drew ?_ | refine blk_alloc ?_ _)); refine blk_put (cs := #[.int .i64 ((rd_T25 l0_1 x18_1).f0), .int .i64 ((rd_T25 l0_1 x18_1).f1), .string ((rd_T25 l0_1 x18_1).f2), .string (⟨#[]⟩ : ByteArray), .int .i64 0, .bool false]) ?_ 3 _ rfl; (with_reducible repeat (first | refine blk_drewN ?_ _ | refine blk_drew ?_ | refine blk_alloc ?_ _)); refine blk_put (cs := #[.int .i64 ((rd_T25 l0_1 x18_1).f0), .int .i64 ((rd_T25 l0_1 x18_1).f1), .string (⟨#[]⟩ : ByteArray), .string (⟨#[]⟩ : ByteArray), .int .i64 0, .bool false]) ?_ 2 _ rfl; (with_reducible repeat (first | refine blk_drewN ?_ _ | refine blk_drew ?_ | refine blk_alloc ?_ _)); refine blk_put (cs := #[.int .i64 ((rd_T25 l0_1 x18_1).f0), .int .i64 0, .string (⟨#[]⟩ : ByteArray), .string (⟨#[]⟩ : ByteArray), .int .i64 0, .bool false]) ?_ 1 _ rfl; (with_reducible repeat (first | refine blk_drewN ?_ _ | refine blk_drew ?_ | refine blk_alloc ?_ _)); refine blk_put (cs := #[.int .i64 0, .int .i64 0, .string (⟨#[]⟩ : ByteArray), .string (⟨#[]⟩ : ByteArray), .int .i64 0, .bool false]) ?_ 0 _ rfl; (with_reducible repeat (first | refine blk_drewN ?_ _ | refine blk_drew ?_ | refine blk_alloc ?_ _)); exact BK567.out) hb); replace HB := Aside0.mk (below_step bo hb); (try clear hb); (try clear hb2); (try clear hk); (try clear hi)))
       go_roundg k1
       case measure => have := HK1.out; omega
       case rel => exact ⟨(wrap64 (x5_1 + t568)), (wrap64 (x18_1 + 1)), ap, ap, H', ⟨by have := HK1.out; omega⟩, ⟨by (with_reducible repeat (first | refine blk_drewN ?_ _ | refine blk_drew ?_ | refine blk_alloc ?_ _)); exact BK564.out⟩, ⟨bo⟩⟩
      ·rw [if_neg c10] at H
       exact absurd H (by simp)
     ·rw [if_neg c9] at H
      exact absurd H (by simp)
    ·rw [if_neg c8] at H
     have c8b0 : decide (x18_1 < (l0_1.length : Int)) = false := decide_eq_false c8
     clear c8
     simp only [Option.some.injEq, Prod.mk.injEq] at H
     obtain ⟨rfl, rfl⟩ := H
     go_wp2
     go_ret2
     exact ⟨er, bo⟩
 ·rw [if_neg c3] at H
  have c3b0 : (t565 == 0) = false := beq_eq_false_iff_ne.mpr c3
  have c3b1 : (t565 != 0) = true := bne_iff_ne.mpr c3
  simp only [Option.some.injEq, Prod.mk.injEq] at H
  obtain ⟨rfl, rfl⟩ := H
  go_enter Try.func44, Try.ntmps44
  go_wp2_with (first | ((with_reducible refine gate_dst (N := 1) rfl ?_); refine box_event ?hg (N := 1) ?hd (cs := #[.int .i64 a0_0, .slice A0_1 l0_1.length c0_1]) (t := 53) ?hr ?_; (case hd => rfl); (case hg => rfl); (case hr => first | (go_simp; done) | (go_simp; rfl)); intro gb564 hg w16 hbox hb; have BK564 := Aside0.mk (hbox); have GW564 := Aside0.mk ((by rw [hg]; exact (below_size bo) : w.heap.size ≤ gb564)); have GE564 := Aside0.mk ((by rw [hg]; exact (below_size bo) : w.heap.size ≤ gb564)); replace HB := Aside0.mk (below_step bo hb); clear hb hbox hg; obtain ⟨hcz17_0, hcz17_1⟩ := cl2 BK564.out; obtain ⟨hfz17_0, hfz17_1⟩ := fz2 BK564.out) | ((with_reducible refine gate_callee (f := 46) rfl ?_); refine goesL_ (some 11) rfl rfl Try.func46 (by kernel_rfl) rfl #[.agg #[.int .i64 a0_0, .slice A0_1 l0_1.length c0_1]] rfl aa ?_; (with_reducible refine (seg_Check.calls k a0_0 _ _ l0_1 t565 _ ?side1 ?side2 A2.out).mono ?_); (case side1 => repeat (first | exact (Kd.C_below HR0_1.out HB.out) | (with_reducible refine Kd.C_alloc ?_ _) | (with_reducible refine Kd.C_drewN ?_ _) | (with_reducible refine Kd.C_drew ?_))); (case side2 => exact HC0_1.out); rintro e w18 ⟨rfl, hb⟩; refine ⟨_, rfl, ?_⟩; replace BK564 := Aside0.mk (blk_below (g := gb564) (o := .cells #[.int .i64 a0_0, .slice A0_1 l0_1.length c0_1] 53 (0, 0)) (bk BK564.out) hb); replace HB := Aside0.mk (below_step bo hb); (try clear hb); (try clear hb2); (try clear hk); (try clear hi)))
  go_ret2
  exact ⟨er, bo⟩

end Go.Proofs.Ytmabdfdmccbfnaa.P

-- written by a program of the proving session, out of the translation; Lean checks it
namespace Go.Proofs.Ytmabdfdmccbfnaa.P
open Go.RowKit Go.Proofs.Ytmabdfdmccbfnaa.Sq Go.Proofs.YtmabdfdmccbfnaaW.PrintWords Go.Proofs.YtmabdfdmccbfnaaW.PrintLast Go.Proofs.YtmabdfdmccbfnaaW.PrintMore
attribute [local go_sem] max2_int min2_int max_two min_two max_three min_three max_four min_four   -- for this text's walks alone
set_option linter.unusedVariables false
set_option linter.unusedSimpArgs false

/-! ### fairwayref10_Text: function 43 -/
def fairwayref10_Text.l0 : Nat → ByteArray → Int → Int → List (S25) → Option (ByteArray)
 | 0, _, _, _, _ => none
 | k + 1, x3, x4, x562000, x562001 => if x4 < (x562001.length : Int) then (if 0 ≤ x4 then ((fairwayref10_Bytes.f k ((rd_T25 x562001 x4).f0) ((rd_T25 x562001 x4).f1) ((rd_T25 x562001 x4).f2) ((rd_T25 x562001 x4).f3) ((rd_T25 x562001 x4).f4) ((rd_T25 x562001 x4).f5)).bind fun t563 => (if x3.size + t563.size ≤ 9223372036854775807 then (fairwayref10_Text.l0 k (x3 ++ t563) (wrap64 (x4 + 1)) x562000 x562001) else (none))) else (none)) else (some x3)
def fairwayref10_Text.f (k : Nat) (a0_0 : Int) (l0_1 : List (S25)) : Option (ByteArray) := fairwayref10_Text.l0 k (⟨#[]⟩ : ByteArray) 0 a0_0 l0_1
theorem fairwayref10_Text.mono_l : ∀ k, (∀ y0 y1 y2 y3, LeO (fairwayref10_Text.l0 k y0 y1 y2 y3) (fairwayref10_Text.l0 (k + 1) y0 y1 y2 y3))
 | 0 => fun _ _ _ _ r h => by simp [fairwayref10_Text.l0] at h
 | k + 1 => by
  have ih0 := fairwayref10_Text.mono_l k
  ·intro y0 y1 y2 y3
   unfold fairwayref10_Text.l0
   repeat' first
   | (with_reducible exact ih0 _ _ _ _)
   | (with_reducible exact fairwayref10_Bytes.mono _ _ _ _ _ _ _)
   | (with_reducible exact LeO.refl _)
   | (with_reducible exact LeO.none _)
   | (with_reducible refine LeO.ite ?_ ?_)
   | (with_reducible refine LeO.bind ?_ (fun _ => ?_))
   | exact ih0 _ _ _ _
   | exact fairwayref10_Bytes.mono _ _ _ _ _ _ _
   | exact LeO.none _
   | refine LeO.ite ?_ ?_
   | refine LeO.bind ?_ (fun _ => ?_)
theorem fairwayref10_Text.mono : ∀ a0 a1 k, LeO (fairwayref10_Text.f k a0 a1) (fairwayref10_Text.f (k + 1) a0 a1) := by
 intro a0 a1 k
 have ih0 := fairwayref10_Text.mono_l k
 unfold fairwayref10_Text.f
 repeat' first
  | (with_reducible exact ih0 _ _ _ _)
  | (with_reducible exact fairwayref10_Bytes.mono _ _ _ _ _ _ _)
  | (with_reducible exact LeO.refl _)
  | (with_reducible exact LeO.none _)
  | (with_reducible refine LeO.ite ?_ ?_)
  | (with_reducible refine LeO.bind ?_ (fun _ => ?_))
  | exact ih0 _ _ _ _
  | exact fairwayref10_Bytes.mono _ _ _ _ _ _ _
  | exact LeO.none _
  | refine LeO.ite ?_ ?_
  | refine LeO.bind ?_ (fun _ => ?_)
set_option maxHeartbeats 8000000 in
set_option maxRecDepth 100000 in
theorem fairwayref10_Text.calls (k : Nat) (a0_0 : Int) (A0_1 : Option Addr) (c0_1 : Nat) (l0_1 : List (S25)) (r : ByteArray) (w : World) (hr0_1 : Kd.C k25 w A0_1 l0_1.length l0_1) (hc0_1 : l0_1.length ≤ c0_1) (h : fairwayref10_Text.f k a0_0 l0_1 = some r) :
 Calls Try.prog 43 #[.agg #[.int .i64 a0_0, .slice A0_1 l0_1.length c0_1]] w fun e w' => e = .returned (.string r) ∧ Below w.heap.size w w' := by
 have hu53 := Try.underlying53
 have hu25 := Try.underlying25
 have HR0_1 := Aside0.mk hr0_1
 have HC0_1 := Aside0.mk hc0_1
 clear hr0_1 hc0_1
 have HB := Aside0.mk (Below.refl w.heap.size w)
 have H : (fairwayref10_Text.l0 k (⟨#[]⟩ : ByteArray) 0 a0_0 l0_1) = some r := h
 clear h
 have H' := Aside0.mk H
 clear H
 go_enter Try.func43, Try.ntmps43
 go_wp2_with (first | ((with_reducible refine gate_dst (N := 1) rfl ?_); refine box_event ?hg (N := 1) ?hd (cs := #[.int .i64 a0_0, .slice A0_1 l0_1.length c0_1]) (t := 53) ?hr ?_; (case hd => rfl); (case hg => rfl); (case hr => first | (go_simp; done) | (go_simp; rfl)); intro gb561 hg w2 hbox hb; have BK561 := Aside0.mk (hbox); have GW561 := Aside0.mk ((by rw [hg]; exact (below_size bo) : w.heap.size ≤ gb561)); have GE561 := Aside0.mk ((by rw [hg]; exact (below_size bo) : w.heap.size ≤ gb561)); replace HB := Aside0.mk (below_step bo hb); clear hb hbox hg))
 go_loopg [3, 4] k (fun kq v3 v4 w' => ∃ (x3_1 : ByteArray) (x4_1 : Int), v3 = .string x3_1 ∧ v4 = .int .i64 x4_1 ∧ Aside0 (fairwayref10_Text.l0 kq x3_1 x4_1 a0_0 l0_1 = some r) ∧ Aside0 (kq ≤ k) ∧ Aside0 (w'.heap[gb561]? = some (.cells #[.int .i64 a0_0, (.slice A0_1 l0_1.length c0_1)] 53 (0, 0))) ∧ Aside0 (Below w.heap.size w w'))
 case atStart => exact ⟨((⟨#[]⟩ : ByteArray)), (0), ap, ap, H', ⟨Nat.le_refl _⟩, ⟨by (with_reducible repeat (first | refine blk_drewN ?_ _ | refine blk_drew ?_ | refine blk_alloc ?_ _)); exact BK561.out⟩, ⟨bo⟩⟩
 case round =>
  clear H'
  try clear p2
  obtain ⟨x3_1, x4_1, rfl, rfl, HA, HK1, BK561, HB⟩ := hrel
  cases gk with
  | zero => exact absurd HA.out (by simp [fairwayref10_Text.l0])
  | succ k1 =>
   have H := HA.out
   clear HA
   simp only [fairwayref10_Text.l0] at H
   by_cases c3 : x4_1 < (l0_1.length : Int)
   ·rw [if_pos c3] at H
    have c3b0 : decide (x4_1 < (l0_1.length : Int)) = true := decide_eq_true c3
    clear c3
    by_cases c4 : 0 ≤ x4_1
    ·rw [if_pos c4] at H
     have c4b0 : decide (0 ≤ x4_1) = true := decide_eq_true c4
     clear c4
     replace H := Option.bind_eq_some_iff.mp H
     obtain ⟨t563, A50, H⟩ := H
     replace H : (if x3_1.size + t563.size ≤ 9223372036854775807 then (fairwayref10_Text.l0 k1 (x3_1 ++ t563) (wrap64 (x4_1 + 1)) a0_0 l0_1) else (none)) = some r := H
     have A5 := Aside0.mk A50
     clear A50
     by_cases c6 : x3_1.size + t563.size ≤ 9223372036854775807
     ·rw [if_pos c6] at H
      have c6b0 := eq_true c6
      have c6b1 : decide (x3_1.size + t563.size ≤ 9223372036854775807) = true := decide_eq_true c6
      try have c6b2 : (9223372036854775807 < x3_1.size + t563.size) = False := eq_false (Nat.not_lt.2 c6)
      have H' := Aside0.mk H
      clear H
      have hcz7_0 : wr.cell? ⟨gb561, 0, none⟩ = some (.int .i64 a0_0) := (blk_cell BK561.out 0).trans rfl
      have hcz7_1 : wr.cell? ⟨gb561, 1, none⟩ = some (.slice A0_1 l0_1.length c0_1) := (blk_cell BK561.out 1).trans rfl
      have hfz7_0 := blk_frozen BK561.out 0
      have hfz7_1 := blk_frozen BK561.out 1
      have p562 : 0 ≤ (x4_1 : Int) := od
      have q562 : x4_1 < (l0_1.length : Int) := od
      obtain ⟨ad562, e562, hx562_0, hx562_1, hx562_2, hx562_3, hx562_4, hx562_5⟩ := at_T25 HR0_1.out x4_1 p562 q562
      cases e562
      replace hx562_0 := cx HB.out hx562_0
      replace hx562_1 := cx HB.out hx562_1
      replace hx562_2 := cx HB.out hx562_2
      replace hx562_3 := cx HB.out hx562_3
      replace hx562_4 := cx HB.out hx562_4
      replace hx562_5 := cx HB.out hx562_5
      replace p562 := eq_true p562
      replace q562 := eq_true q562
      go_wp2_with (first | ((with_reducible refine gate_callee (f := 20) rfl ?_); refine goesL_ (some 18) rfl rfl Try.func20 (by kernel_rfl) rfl #[.agg #[.int .i64 ((rd_T25 l0_1 x4_1).f0), .int .i64 ((rd_T25 l0_1 x4_1).f1), .string ((rd_T25 l0_1 x4_1).f2), .string ((rd_T25 l0_1 x4_1).f3), .int .i64 ((rd_T25 l0_1 x4_1).f4), .bool ((rd_T25 l0_1 x4_1).f5)]] rfl aa ?_; (with_reducible refine (fairwayref10_Bytes.calls k1 ((rd_T25 l0_1 x4_1).f0) ((rd_T25 l0_1 x4_1).f1) ((rd_T25 l0_1 x4_1).f2) ((rd_T25 l0_1 x4_1).f3) ((rd_T25 l0_1 x4_1).f4) ((rd_T25 l0_1 x4_1).f5) t563 _ A5.out).mono ?_); rintro e w8 ⟨rfl, hb⟩; refine ⟨_, rfl, ?_⟩; replace BK561 := Aside0.mk (blk_below (g := gb561) (o := .cells #[.int .i64 a0_0, .slice (some ad562) l0_1.length c0_1] 53 (0, 0)) (bk BK561.out) hb); replace HB := Aside0.mk (below_step bo hb); (try clear hb); (try clear hb2); (try clear hk); (try clear hi)))
      go_roundg k1
      case measure => have := HK1.out; omega
      case rel => exact ⟨(x3_1 ++ t563), (wrap64 (x4_1 + 1)), ap, ap, H', ⟨by have := HK1.out; omega⟩, ⟨by (with_reducible repeat (first | refine blk_drewN ?_ _ | refine blk_drew ?_ | refine blk_alloc ?_ _)); exact BK561.out⟩, ⟨bo⟩⟩
     ·rw [if_neg c6] at H
      exact absurd H (by simp)
    ·rw [if_neg c4] at H
     exact absurd H (by simp)
   ·rw [if_neg c3] at H
    have c3b0 : decide (x4_1 < (l0_1.length : Int)) = false := decide_eq_false c3
    clear c3
    obtain rfl := Option.some.inj H
    have hcz9_0 : wr.cell? ⟨gb561, 0, none⟩ = some (.int .i64 a0_0) := (blk_cell BK561.out 0).trans rfl
    have hcz9_1 : wr.cell? ⟨gb561, 1, none⟩ = some (.slice A0_1 l0_1.length c0_1) := (blk_cell BK561.out 1).trans rfl
    have hfz9_0 := blk_frozen BK561.out 0
    have hfz9_1 := blk_frozen BK561.out 1
    go_wp2
    go_ret
    exact ⟨er, bo⟩

end Go.Proofs.Ytmabdfdmccbfnaa.P

