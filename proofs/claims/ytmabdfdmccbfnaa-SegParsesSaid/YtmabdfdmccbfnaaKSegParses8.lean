/- SegParses: for every input of the row the law returns true, and the input reads afterwards as before. Conditions: none beside the row's own. -/
import Derived.Test.YtmabdfdmccbfnaaKSegParses4
import Derived.Test.YtmabdfdmccbfnaaKSegParses7
import Derived.Test.YtmabdfdmccbfnaaKSegParses5
import Derived.Test.YtmabdfdmccbfnaaKSegParses6
import Derived.Test.YtmabdfdmccbfnaaRows
import Derived.WalkKit
import Derived.ProofKit
import Derived.OpenShut
import Derived.ShutString
import Derived.ChangeOld
import Derived.Below
import Derived.SizedLaws
-- written by a program of the proving session, out of the translation; Lean checks it
namespace Go.Proofs.Ytmabdfdmccbfnaa.P
open Go.RowKit Go.Proofs.Ytmabdfdmccbfnaa.Sq Go.Proofs.YtmabdfdmccbfnaaW.PrintWords Go.Proofs.YtmabdfdmccbfnaaW.PrintLast Go.Proofs.YtmabdfdmccbfnaaW.PrintMore
attribute [local go_sem] max2_int min2_int max_two min_two max_three min_three max_four min_four   -- for this text's walks alone
set_option linter.unusedVariables false
set_option linter.unusedSimpArgs false

/-! ### rec_Bytes: function 14 -/
def rec_Bytes.j0 : Nat → Int → Int → Int → ByteArray → ByteArray → Int → Bool → Option (ByteArray × Int)
 | 0, _, _, _, _, _, _, _ => none
 | k + 1, x5, x115000, x115001, x115002, x115003, x115004, x115005 => (vbi_Two.f k (x115002.size : Int)).bind fun bt116 => ((rec_eight.f k x115000).bind fun t118 => ((rec_eight.f k x115001).bind fun t119 => (if t118.size + t119.size ≤ 9223372036854775807 then ((some (([x5] : List Int) : List Int)).bind fun y120 => (if (t118 ++ t119).size + (strOfNums y120).size ≤ 9223372036854775807 then (if ((t118 ++ t119) ++ (strOfNums y120)).size + bt116.1.size ≤ 9223372036854775807 then (if (((t118 ++ t119) ++ (strOfNums y120)) ++ bt116.1).size + x115002.size ≤ 9223372036854775807 then (if ((((t118 ++ t119) ++ (strOfNums y120)) ++ bt116.1) ++ x115002).size + x115003.size ≤ 9223372036854775807 then ((vbi_Two.f k ((((((t118 ++ t119) ++ (strOfNums y120)) ++ bt116.1) ++ x115002) ++ x115003).size : Int)).bind fun bt123 => ((sum_Sum.f k 0 bt123.1).bind fun t125 => ((sum_Sum.f k t125 (((((t118 ++ t119) ++ (strOfNums y120)) ++ bt116.1) ++ x115002) ++ x115003)).bind fun t126 => ((vbi_Four.f k (wrap64 (t126))).bind fun bt127 => (if bt123.1.size + bt127.1.size ≤ 9223372036854775807 then (if (bt123.1 ++ bt127.1).size + (((((t118 ++ t119) ++ (strOfNums y120)) ++ bt116.1) ++ x115002) ++ x115003).size ≤ 9223372036854775807 then (some ((bt123.1 ++ bt127.1) ++ (((((t118 ++ t119) ++ (strOfNums y120)) ++ bt116.1) ++ x115002) ++ x115003), 0)) else (none)) else (none)))))) else (none)) else (none)) else (none)) else (none))) else (none))))
def rec_Bytes.f (k : Nat) (a0_0 : Int) (a0_1 : Int) (a0_2 : ByteArray) (a0_3 : ByteArray) (a0_4 : Int) (a0_5 : Bool) : Option (ByteArray × Int) := (rec_Check.f k a0_0 a0_1 a0_2 a0_3 a0_4 a0_5).bind fun t115 => (if t115 = 0 then (if a0_5 = true then (rec_Bytes.j0 k (Go.bits .or .u8 ((a0_4) % 256) 4) a0_0 a0_1 a0_2 a0_3 a0_4 a0_5) else (rec_Bytes.j0 k ((a0_4) % 256) a0_0 a0_1 a0_2 a0_3 a0_4 a0_5)) else (some ((⟨#[]⟩ : ByteArray), t115)))
theorem rec_Bytes.mono_l : ∀ k, (∀ y0 y1 y2 y3 y4 y5 y6, LeO (rec_Bytes.j0 k y0 y1 y2 y3 y4 y5 y6) (rec_Bytes.j0 (k + 1) y0 y1 y2 y3 y4 y5 y6))
 | 0 => fun _ _ _ _ _ _ _ r h => by simp [rec_Bytes.j0] at h
 | k + 1 => by
  have ih0 := rec_Bytes.mono_l k
  ·intro y0 y1 y2 y3 y4 y5 y6
   unfold rec_Bytes.j0
   repeat' first
   | (with_reducible exact ih0 _ _ _ _ _ _ _)
   | (with_reducible exact rec_Check.mono _ _ _ _ _ _ _)
   | (with_reducible exact rec_eight.mono _ _)
   | (with_reducible exact sum_Sum.mono _ _ _)
   | (with_reducible exact vbi_Four.mono _ _)
   | (with_reducible exact vbi_Two.mono _ _)
   | (with_reducible exact LeO.refl _)
   | (with_reducible exact LeO.none _)
   | (with_reducible refine LeO.ite ?_ ?_)
   | (with_reducible refine LeO.bind ?_ (fun _ => ?_))
   | exact ih0 _ _ _ _ _ _ _
   | exact rec_Check.mono _ _ _ _ _ _ _
   | exact rec_eight.mono _ _
   | exact sum_Sum.mono _ _ _
   | exact vbi_Four.mono _ _
   | exact vbi_Two.mono _ _
   | exact LeO.none _
   | refine LeO.ite ?_ ?_
   | refine LeO.bind ?_ (fun _ => ?_)
theorem rec_Bytes.mono : ∀ a0 a1 a2 a3 a4 a5 k, LeO (rec_Bytes.f k a0 a1 a2 a3 a4 a5) (rec_Bytes.f (k + 1) a0 a1 a2 a3 a4 a5) := by
 intro a0 a1 a2 a3 a4 a5 k
 have ih0 := rec_Bytes.mono_l k
 unfold rec_Bytes.f
 repeat' first
  | (with_reducible exact ih0 _ _ _ _ _ _ _)
  | (with_reducible exact rec_Check.mono _ _ _ _ _ _ _)
  | (with_reducible exact rec_eight.mono _ _)
  | (with_reducible exact sum_Sum.mono _ _ _)
  | (with_reducible exact vbi_Four.mono _ _)
  | (with_reducible exact vbi_Two.mono _ _)
  | (with_reducible exact LeO.refl _)
  | (with_reducible exact LeO.none _)
  | (with_reducible refine LeO.ite ?_ ?_)
  | (with_reducible refine LeO.bind ?_ (fun _ => ?_))
  | exact ih0 _ _ _ _ _ _ _
  | exact rec_Check.mono _ _ _ _ _ _ _
  | exact rec_eight.mono _ _
  | exact sum_Sum.mono _ _ _
  | exact vbi_Four.mono _ _
  | exact vbi_Two.mono _ _
  | exact LeO.none _
  | refine LeO.ite ?_ ?_
  | refine LeO.bind ?_ (fun _ => ?_)
def rec_Bytes.T8 : Bool × List (List Nat × List Nat) := (true, [([], []), ([0], [0]), ([1], [1]), ([], []), ([3], [3]), ([4, 2], [4]), ([2, 5], [2, 5]), ([], []), ([7], [7]), ([8], [8]), ([6, 9], [6, 9]), ([], []), ([10, 11], [10, 11]), ([], []), ([13], [13]), ([12, 14], [12, 14]), ([], []), ([16], [16]), ([15, 17], [15, 17]), ([18, 5, 0, 1, 2, 3, 4, 5, 6, 7, 8, 9, 10, 11, 12, 13, 14, 15, 16, 17, 18], [18])])
def rec_Bytes.B8 : List Nat := [0, 1, 3, 0, 8, 31, 63, 0, 128, 384, 1023, 0, 4095, 0, 8192, 32767, 0, 65536, 262143, 524287]
theorem rec_Bytes.tab8 : rtab .any (opsOf Try.f14 8) = rec_Bytes.T8 := by kernel_rfl
theorem rec_Bytes.bits8 : waitsOk rec_Bytes.T8.2 rec_Bytes.B8 = true := by kernel_rfl
set_option maxHeartbeats 8000000 in
set_option maxRecDepth 100000 in
theorem rec_Bytes.calls (k : Nat) (a0_0 : Int) (a0_1 : Int) (a0_2 : ByteArray) (a0_3 : ByteArray) (a0_4 : Int) (a0_5 : Bool) (r1 : ByteArray) (r2 : Int) (w : World) (h : rec_Bytes.f k a0_0 a0_1 a0_2 a0_3 a0_4 a0_5 = some (r1, r2)) :
 Calls Try.prog 14 #[.agg #[.int .i64 a0_0, .int .i64 a0_1, .string a0_2, .string a0_3, .int .i64 a0_4, .bool a0_5]] w fun e w' => e = .returned (.tuple #[.string r1, .int .i64 r2]) ∧ Below w.heap.size w w' := by
 have hu25 := Try.underlying25
 have HB := Aside0.mk (Below.refl w.heap.size w)
 have H : ((rec_Check.f k a0_0 a0_1 a0_2 a0_3 a0_4 a0_5).bind fun t115 => (if t115 = 0 then (if a0_5 = true then (rec_Bytes.j0 k (Go.bits .or .u8 ((a0_4) % 256) 4) a0_0 a0_1 a0_2 a0_3 a0_4 a0_5) else (rec_Bytes.j0 k ((a0_4) % 256) a0_0 a0_1 a0_2 a0_3 a0_4 a0_5)) else (some ((⟨#[]⟩ : ByteArray), t115)))) = some (r1, r2) := h
 clear h
 replace H := Option.bind_eq_some_iff.mp H
 obtain ⟨t115, A20, H⟩ := H
 replace H : (if t115 = 0 then (if a0_5 = true then (rec_Bytes.j0 k (Go.bits .or .u8 ((a0_4) % 256) 4) a0_0 a0_1 a0_2 a0_3 a0_4 a0_5) else (rec_Bytes.j0 k ((a0_4) % 256) a0_0 a0_1 a0_2 a0_3 a0_4 a0_5)) else (some ((⟨#[]⟩ : ByteArray), t115))) = some (r1, r2) := H
 have A2 := Aside0.mk A20
 clear A20
 by_cases c3 : t115 = 0
 ·rw [if_pos c3] at H
  have c3b0 : (t115 == 0) = true := beq_iff_eq.mpr c3
  have c3b1 : (t115 != 0) = false := bne_eq_false_iff_eq.mpr c3
  clear c3
  have HC4 := Aside0.mk H
  clear H
  go_enter Try.func14, Try.ntmps14
  go_upto_if 22 with (first | ((with_reducible refine gate_dst (N := 1) rfl ?_); refine box_event ?hg (N := 1) ?hd (cs := #[.int .i64 a0_0, .int .i64 a0_1, .string a0_2, .string a0_3, .int .i64 a0_4, .bool a0_5]) (t := 25) ?hr ?_; (case hd => rfl); (case hg => rfl); (case hr => first | (go_simp; done) | (go_simp; rfl)); intro gb114 hg w5 hbox hb; have BK114 := Aside0.mk (hbox); have GW114 := Aside0.mk ((by rw [hg]; exact (below_size bo) : w.heap.size ≤ gb114)); have GE114 := Aside0.mk ((by rw [hg]; exact (below_size bo) : w.heap.size ≤ gb114)); replace HB := Aside0.mk (below_step bo hb); clear hb hbox hg; obtain ⟨hcz6_0, hcz6_1, hcz6_2, hcz6_3, hcz6_4, hcz6_5⟩ := cl6 BK114.out; obtain ⟨hfz6_0, hfz6_1, hfz6_2, hfz6_3, hfz6_4, hfz6_5⟩ := fz6 BK114.out) | ((with_reducible refine gate_callee (f := 22) rfl ?_); refine goesL_ (some 14) rfl rfl Try.func22 (by kernel_rfl) rfl #[.agg #[.int .i64 a0_0, .int .i64 a0_1, .string a0_2, .string a0_3, .int .i64 a0_4, .bool a0_5]] rfl aa ?_; (with_reducible refine (rec_Check.calls k a0_0 a0_1 a0_2 a0_3 a0_4 a0_5 t115 _ A2.out).mono ?_); rintro e w7 ⟨rfl, hb⟩; refine ⟨_, rfl, ?_⟩; replace BK114 := Aside0.mk (blk_below (g := gb114) (o := .cells #[.int .i64 a0_0, .int .i64 a0_1, .string a0_2, .string a0_3, .int .i64 a0_4, .bool a0_5] 25 (0, 0)) (bk BK114.out) hb); replace HB := Aside0.mk (below_step bo hb); (try clear hb); (try clear hb2); (try clear hk); (try clear hi); obtain ⟨hcz8_0, hcz8_1, hcz8_2, hcz8_3, hcz8_4, hcz8_5⟩ := cl6 BK114.out; obtain ⟨hfz8_0, hfz8_1, hfz8_2, hfz8_3, hfz8_4, hfz8_5⟩ := fz6 BK114.out))
  (try simp only [Act.put, List.setIfInBounds_toArray, List.set_cons_zero, List.set_cons_succ])
  go_cut [5] (fun v5 wc => ∃ (kq : Nat) (x5_3 : Int), v5 = .int .u8 x5_3 ∧ Aside0 (rec_Bytes.j0 kq x5_3 a0_0 a0_1 a0_2 a0_3 a0_4 a0_5 = some (r1, r2)) ∧ Aside0 (kq ≤ k) ∧ Aside0 (wc.heap[gb114]? = some (.cells #[.int .i64 a0_0, .int .i64 a0_1, .string a0_2, .string a0_3, .int .i64 a0_4, .bool a0_5] 25 (0, 0))) ∧ Aside0 (Below w.heap.size w wc))
  case first =>
   have H := HC4.out
   clear HC4
   by_cases c9 : a0_5 = true
   ·subst c9
    have H1 : (rec_Bytes.j0 k (Go.bits .or .u8 ((a0_4) % 256) 4) a0_0 a0_1 a0_2 a0_3 a0_4 true) = some (r1, r2) := by rw [if_pos rfl] at H; exact H
    clear H
    have H := H1
    clear H1
    have H' := Aside0.mk H
    clear H
    go_wp2
    go_meet
    case rel => exact ⟨_, (Go.bits .or .u8 ((a0_4) % 256) 4), ap, H', ⟨by first | omega | exact Nat.le_refl _⟩, ⟨by (with_reducible repeat (first | refine blk_drewN ?_ _ | refine blk_drew ?_ | refine blk_alloc ?_ _)); exact BK114.out⟩, ⟨bo⟩⟩
   ·replace c9 := Bool.eq_false_iff.mpr c9
    subst c9
    have H1 : (rec_Bytes.j0 k ((a0_4) % 256) a0_0 a0_1 a0_2 a0_3 a0_4 false) = some (r1, r2) := by rw [if_neg (show ¬ (false = true) by decide)] at H; exact H
    clear H
    have H := H1
    clear H1
    have H' := Aside0.mk H
    clear H
    go_wp2
    go_meet
    case rel => exact ⟨_, ((a0_4) % 256), ap, H', ⟨by first | omega | exact Nat.le_refl _⟩, ⟨by (with_reducible repeat (first | refine blk_drewN ?_ _ | refine blk_drew ?_ | refine blk_alloc ?_ _)); exact BK114.out⟩, ⟨bo⟩⟩
  case rest =>
   clear HC4
   try clear c1
   try clear c2
   try clear p2
   try clear c3
   try clear c3b0
   try clear c3b1
   try clear c9
   try clear hcz6_0
   try clear hcz6_1
   try clear hcz6_2
   try clear hcz6_3
   try clear hcz6_4
   try clear hcz6_5
   try clear hcz8_0
   try clear hcz8_1
   try clear hcz8_2
   try clear hcz8_3
   try clear hcz8_4
   try clear hcz8_5
   try clear hfz6_0
   try clear hfz6_1
   try clear hfz6_2
   try clear hfz6_3
   try clear hfz6_4
   try clear hfz6_5
   try clear hfz8_0
   try clear hfz8_1
   try clear hfz8_2
   try clear hfz8_3
   try clear hfz8_4
   try clear hfz8_5
   obtain ⟨kq, x5_3, rfl, HA, HJ3, BK114, HB⟩ := hcut
   cases kq with
   | zero => exact absurd HA.out (by simp [rec_Bytes.j0])
   | succ kj3 =>
    have H := HA.out
    clear HA
    simp only [rec_Bytes.j0] at H
    replace H := Option.bind_eq_some_iff.mp H
    obtain ⟨⟨t116, t117⟩, A100, H⟩ := H
    replace H : ((rec_eight.f kj3 a0_0).bind fun t118 => ((rec_eight.f kj3 a0_1).bind fun t119 => (if t118.size + t119.size ≤ 9223372036854775807 then ((some (([x5_3] : List Int) : List Int)).bind fun y120 => (if (t118 ++ t119).size + (strOfNums y120).size ≤ 9223372036854775807 then (if ((t118 ++ t119) ++ (strOfNums y120)).size + t116.size ≤ 9223372036854775807 then (if (((t118 ++ t119) ++ (strOfNums y120)) ++ t116).size + a0_2.size ≤ 9223372036854775807 then (if ((((t118 ++ t119) ++ (strOfNums y120)) ++ t116) ++ a0_2).size + a0_3.size ≤ 9223372036854775807 then ((vbi_Two.f kj3 ((((((t118 ++ t119) ++ (strOfNums y120)) ++ t116) ++ a0_2) ++ a0_3).size : Int)).bind fun bt123 => ((sum_Sum.f kj3 0 bt123.1).bind fun t125 => ((sum_Sum.f kj3 t125 (((((t118 ++ t119) ++ (strOfNums y120)) ++ t116) ++ a0_2) ++ a0_3)).bind fun t126 => ((vbi_Four.f kj3 (wrap64 (t126))).bind fun bt127 => (if bt123.1.size + bt127.1.size ≤ 9223372036854775807 then (if (bt123.1 ++ bt127.1).size + (((((t118 ++ t119) ++ (strOfNums y120)) ++ t116) ++ a0_2) ++ a0_3).size ≤ 9223372036854775807 then (some ((bt123.1 ++ bt127.1) ++ (((((t118 ++ t119) ++ (strOfNums y120)) ++ t116) ++ a0_2) ++ a0_3), 0)) else (none)) else (none)))))) else (none)) else (none)) else (none)) else (none))) else (none)))) = some (r1, r2) := H
    have A10 := Aside0.mk A100
    clear A100
    replace H := Option.bind_eq_some_iff.mp H
    obtain ⟨t118, A110, H⟩ := H
    replace H : ((rec_eight.f kj3 a0_1).bind fun t119 => (if t118.size + t119.size ≤ 9223372036854775807 then ((some (([x5_3] : List Int) : List Int)).bind fun y120 => (if (t118 ++ t119).size + (strOfNums y120).size ≤ 9223372036854775807 then (if ((t118 ++ t119) ++ (strOfNums y120)).size + t116.size ≤ 9223372036854775807 then (if (((t118 ++ t119) ++ (strOfNums y120)) ++ t116).size + a0_2.size ≤ 9223372036854775807 then (if ((((t118 ++ t119) ++ (strOfNums y120)) ++ t116) ++ a0_2).size + a0_3.size ≤ 9223372036854775807 then ((vbi_Two.f kj3 ((((((t118 ++ t119) ++ (strOfNums y120)) ++ t116) ++ a0_2) ++ a0_3).size : Int)).bind fun bt123 => ((sum_Sum.f kj3 0 bt123.1).bind fun t125 => ((sum_Sum.f kj3 t125 (((((t118 ++ t119) ++ (strOfNums y120)) ++ t116) ++ a0_2) ++ a0_3)).bind fun t126 => ((vbi_Four.f kj3 (wrap64 (t126))).bind fun bt127 => (if bt123.1.size + bt127.1.size ≤ 9223372036854775807 then (if (bt123.1 ++ bt127.1).size + (((((t118 ++ t119) ++ (strOfNums y120)) ++ t116) ++ a0_2) ++ a0_3).size ≤ 9223372036854775807 then (some ((bt123.1 ++ bt127.1) ++ (((((t118 ++ t119) ++ (strOfNums y120)) ++ t116) ++ a0_2) ++ a0_3), 0)) else (none)) else (none)))))) else (none)) else (none)) else (none)) else (none))) else (none))) = some (r1, r2) := H
    have A11 := Aside0.mk A110
    clear A110
    replace H := Option.bind_eq_some_iff.mp H
    obtain ⟨t119, A120, H⟩ := H
    replace H : (if t118.size + t119.size ≤ 9223372036854775807 then ((some (([x5_3] : List Int) : List Int)).bind fun y120 => (if (t118 ++ t119).size + (strOfNums y120).size ≤ 9223372036854775807 then (if ((t118 ++ t119) ++ (strOfNums y120)).size + t116.size ≤ 9223372036854775807 then (if (((t118 ++ t119) ++ (strOfNums y120)) ++ t116).size + a0_2.size ≤ 9223372036854775807 then (if ((((t118 ++ t119) ++ (strOfNums y120)) ++ t116) ++ a0_2).size + a0_3.size ≤ 9223372036854775807 then ((vbi_Two.f kj3 ((((((t118 ++ t119) ++ (strOfNums y120)) ++ t116) ++ a0_2) ++ a0_3).size : Int)).bind fun bt123 => ((sum_Sum.f kj3 0 bt123.1).bind fun t125 => ((sum_Sum.f kj3 t125 (((((t118 ++ t119) ++ (strOfNums y120)) ++ t116) ++ a0_2) ++ a0_3)).bind fun t126 => ((vbi_Four.f kj3 (wrap64 (t126))).bind fun bt127 => (if bt123.1.size + bt127.1.size ≤ 9223372036854775807 then (if (bt123.1 ++ bt127.1).size + (((((t118 ++ t119) ++ (strOfNums y120)) ++ t116) ++ a0_2) ++ a0_3).size ≤ 9223372036854775807 then (some ((bt123.1 ++ bt127.1) ++ (((((t118 ++ t119) ++ (strOfNums y120)) ++ t116) ++ a0_2) ++ a0_3), 0)) else (none)) else (none)))))) else (none)) else (none)) else (none)) else (none))) else (none)) = some (r1, r2) := H
    have A12 := Aside0.mk A120
    clear A120
    by_cases c13 : t118.size + t119.size ≤ 9223372036854775807
    ·rw [if_pos c13] at H
     have c13b0 := eq_true c13
     have c13b1 : decide (t118.size + t119.size ≤ 9223372036854775807) = true := decide_eq_true c13
     try have c13b2 : (9223372036854775807 < t118.size + t119.size) = False := eq_false (Nat.not_lt.2 c13)
     obtain ⟨y120, hy120⟩ : ∃ y_ : List Int, y_ = (([x5_3] : List Int)) := ⟨_, rfl⟩
     replace H : (if (t118 ++ t119).size + (strOfNums y120).size ≤ 9223372036854775807 then (if ((t118 ++ t119) ++ (strOfNums y120)).size + t116.size ≤ 9223372036854775807 then (if (((t118 ++ t119) ++ (strOfNums y120)) ++ t116).size + a0_2.size ≤ 9223372036854775807 then (if ((((t118 ++ t119) ++ (strOfNums y120)) ++ t116) ++ a0_2).size + a0_3.size ≤ 9223372036854775807 then ((vbi_Two.f kj3 ((((((t118 ++ t119) ++ (strOfNums y120)) ++ t116) ++ a0_2) ++ a0_3).size : Int)).bind fun bt123 => ((sum_Sum.f kj3 0 bt123.1).bind fun t125 => ((sum_Sum.f kj3 t125 (((((t118 ++ t119) ++ (strOfNums y120)) ++ t116) ++ a0_2) ++ a0_3)).bind fun t126 => ((vbi_Four.f kj3 (wrap64 (t126))).bind fun bt127 => (if bt123.1.size + bt127.1.size ≤ 9223372036854775807 then (if (bt123.1 ++ bt127.1).size + (((((t118 ++ t119) ++ (strOfNums y120)) ++ t116) ++ a0_2) ++ a0_3).size ≤ 9223372036854775807 then (some ((bt123.1 ++ bt127.1) ++ (((((t118 ++ t119) ++ (strOfNums y120)) ++ t116) ++ a0_2) ++ a0_3), 0)) else (none)) else (none)))))) else (none)) else (none)) else (none)) else (none)) = some (r1, r2) := by first | (rw [hy120]; with_reducible exact H) | (have H2_ := (Option.bind_some _ _).symm.trans H; rw [hy120]; with_reducible exact H2_) | (have H2_ := (Option.bind_some _ _).symm.trans H; with_reducible exact H2_) | with_reducible exact H | (rw [hy120]; exact H) | exact H
     have Ny120 := Aside0.mk hy120
     clear hy120
     by_cases c14 : (t118 ++ t119).size + (strOfNums y120).size ≤ 9223372036854775807
     ·rw [if_pos c14] at H
      have c14b0 := eq_true c14
      have c14b1 : decide ((t118 ++ t119).size + (strOfNums y120).size ≤ 9223372036854775807) = true := decide_eq_true c14
      try have c14b2 : (9223372036854775807 < (t118 ++ t119).size + (strOfNums y120).size) = False := eq_false (Nat.not_lt.2 c14)
      (try (have c14n2 := c14b2; simp only [ByteArray.size_append] at c14n2))
      (try (have c14n1 := c14b1; simp only [ByteArray.size_append] at c14n1))
      by_cases c15 : ((t118 ++ t119) ++ (strOfNums y120)).size + t116.size ≤ 9223372036854775807
      ·rw [if_pos c15] at H
       have c15b0 := eq_true c15
       have c15b1 : decide (((t118 ++ t119) ++ (strOfNums y120)).size + t116.size ≤ 9223372036854775807) = true := decide_eq_true c15
       try have c15b2 : (9223372036854775807 < ((t118 ++ t119) ++ (strOfNums y120)).size + t116.size) = False := eq_false (Nat.not_lt.2 c15)
       (try (have c15n2 := c15b2; simp only [ByteArray.size_append] at c15n2))
       (try (have c15n1 := c15b1; simp only [ByteArray.size_append] at c15n1))
       by_cases c16 : (((t118 ++ t119) ++ (strOfNums y120)) ++ t116).size + a0_2.size ≤ 9223372036854775807
       ·rw [if_pos c16] at H
        have c16b0 := eq_true c16
        have c16b1 : decide ((((t118 ++ t119) ++ (strOfNums y120)) ++ t116).size + a0_2.size ≤ 9223372036854775807) = true := decide_eq_true c16
        try have c16b2 : (9223372036854775807 < (((t118 ++ t119) ++ (strOfNums y120)) ++ t116).size + a0_2.size) = False := eq_false (Nat.not_lt.2 c16)
        (try (have c16n2 := c16b2; simp only [ByteArray.size_append] at c16n2))
        (try (have c16n1 := c16b1; simp only [ByteArray.size_append] at c16n1))
        by_cases c17 : ((((t118 ++ t119) ++ (strOfNums y120)) ++ t116) ++ a0_2).size + a0_3.size ≤ 9223372036854775807
        ·rw [if_pos c17] at H
         have c17b0 := eq_true c17
         have c17b1 : decide (((((t118 ++ t119) ++ (strOfNums y120)) ++ t116) ++ a0_2).size + a0_3.size ≤ 9223372036854775807) = true := decide_eq_true c17
         try have c17b2 : (9223372036854775807 < ((((t118 ++ t119) ++ (strOfNums y120)) ++ t116) ++ a0_2).size + a0_3.size) = False := eq_false (Nat.not_lt.2 c17)
         (try (have c17n2 := c17b2; simp only [ByteArray.size_append] at c17n2))
         (try (have c17n1 := c17b1; simp only [ByteArray.size_append] at c17n1))
         replace H := Option.bind_eq_some_iff.mp H
         obtain ⟨⟨t123, t124⟩, A180, H⟩ := H
         replace H : ((sum_Sum.f kj3 0 t123).bind fun t125 => ((sum_Sum.f kj3 t125 (((((t118 ++ t119) ++ (strOfNums y120)) ++ t116) ++ a0_2) ++ a0_3)).bind fun t126 => ((vbi_Four.f kj3 (wrap64 (t126))).bind fun bt127 => (if t123.size + bt127.1.size ≤ 9223372036854775807 then (if (t123 ++ bt127.1).size + (((((t118 ++ t119) ++ (strOfNums y120)) ++ t116) ++ a0_2) ++ a0_3).size ≤ 9223372036854775807 then (some ((t123 ++ bt127.1) ++ (((((t118 ++ t119) ++ (strOfNums y120)) ++ t116) ++ a0_2) ++ a0_3), 0)) else (none)) else (none))))) = some (r1, r2) := H
         have A18 := Aside0.mk A180
         clear A180
         replace H := Option.bind_eq_some_iff.mp H
         obtain ⟨t125, A190, H⟩ := H
         replace H : ((sum_Sum.f kj3 t125 (((((t118 ++ t119) ++ (strOfNums y120)) ++ t116) ++ a0_2) ++ a0_3)).bind fun t126 => ((vbi_Four.f kj3 (wrap64 (t126))).bind fun bt127 => (if t123.size + bt127.1.size ≤ 9223372036854775807 then (if (t123 ++ bt127.1).size + (((((t118 ++ t119) ++ (strOfNums y120)) ++ t116) ++ a0_2) ++ a0_3).size ≤ 9223372036854775807 then (some ((t123 ++ bt127.1) ++ (((((t118 ++ t119) ++ (strOfNums y120)) ++ t116) ++ a0_2) ++ a0_3), 0)) else (none)) else (none)))) = some (r1, r2) := H
         have A19 := Aside0.mk A190
         clear A190
         replace H := Option.bind_eq_some_iff.mp H
         obtain ⟨t126, A200, H⟩ := H
         replace H : ((vbi_Four.f kj3 (wrap64 (t126))).bind fun bt127 => (if t123.size + bt127.1.size ≤ 9223372036854775807 then (if (t123 ++ bt127.1).size + (((((t118 ++ t119) ++ (strOfNums y120)) ++ t116) ++ a0_2) ++ a0_3).size ≤ 9223372036854775807 then (some ((t123 ++ bt127.1) ++ (((((t118 ++ t119) ++ (strOfNums y120)) ++ t116) ++ a0_2) ++ a0_3), 0)) else (none)) else (none))) = some (r1, r2) := H
         have A20 := Aside0.mk A200
         clear A200
         replace H := Option.bind_eq_some_iff.mp H
         obtain ⟨⟨t127, t128⟩, A210, H⟩ := H
         replace H : (if t123.size + t127.size ≤ 9223372036854775807 then (if (t123 ++ t127).size + (((((t118 ++ t119) ++ (strOfNums y120)) ++ t116) ++ a0_2) ++ a0_3).size ≤ 9223372036854775807 then (some ((t123 ++ t127) ++ (((((t118 ++ t119) ++ (strOfNums y120)) ++ t116) ++ a0_2) ++ a0_3), 0)) else (none)) else (none)) = some (r1, r2) := H
         have A21 := Aside0.mk A210
         clear A210
         by_cases c22 : t123.size + t127.size ≤ 9223372036854775807
         ·rw [if_pos c22] at H
          have c22b0 := eq_true c22
          have c22b1 : decide (t123.size + t127.size ≤ 9223372036854775807) = true := decide_eq_true c22
          try have c22b2 : (9223372036854775807 < t123.size + t127.size) = False := eq_false (Nat.not_lt.2 c22)
          by_cases c23 : (t123 ++ t127).size + (((((t118 ++ t119) ++ (strOfNums y120)) ++ t116) ++ a0_2) ++ a0_3).size ≤ 9223372036854775807
          ·rw [if_pos c23] at H
           have c23b0 := eq_true c23
           have c23b1 : decide ((t123 ++ t127).size + (((((t118 ++ t119) ++ (strOfNums y120)) ++ t116) ++ a0_2) ++ a0_3).size ≤ 9223372036854775807) = true := decide_eq_true c23
           try have c23b2 : (9223372036854775807 < (t123 ++ t127).size + (((((t118 ++ t119) ++ (strOfNums y120)) ++ t116) ++ a0_2) ++ a0_3).size) = False := eq_false (Nat.not_lt.2 c23)
           (try (have c23n2 := c23b2; simp only [ByteArray.size_append] at c23n2))
           (try (have c23n1 := c23b1; simp only [ByteArray.size_append] at c23n1))
           simp only [Option.some.injEq, Prod.mk.injEq] at H
           obtain ⟨rfl, rfl⟩ := H
           have hcz24_0 : wc.cell? ⟨gb114, 0, none⟩ = some (.int .i64 a0_0) := (blk_cell BK114.out 0).trans rfl
           have hcz24_1 : wc.cell? ⟨gb114, 1, none⟩ = some (.int .i64 a0_1) := (blk_cell BK114.out 1).trans rfl
           have hcz24_2 : wc.cell? ⟨gb114, 2, none⟩ = some (.string a0_2) := (blk_cell BK114.out 2).trans rfl
           have hcz24_3 : wc.cell? ⟨gb114, 3, none⟩ = some (.string a0_3) := (blk_cell BK114.out 3).trans rfl
           have hcz24_4 : wc.cell? ⟨gb114, 4, none⟩ = some (.int .i64 a0_4) := (blk_cell BK114.out 4).trans rfl
           have hcz24_5 : wc.cell? ⟨gb114, 5, none⟩ = some (.bool a0_5) := (blk_cell BK114.out 5).trans rfl
           have hfz24_0 := blk_frozen BK114.out 0
           have hfz24_1 := blk_frozen BK114.out 1
           have hfz24_2 := blk_frozen BK114.out 2
           have hfz24_3 := blk_frozen BK114.out 3
           have hfz24_4 := blk_frozen BK114.out 4
           have hfz24_5 := blk_frozen BK114.out 5
           try go_wp2_with (first | ((with_reducible refine gate_callee (f := 60) rfl ?_); refine goesL_ (some 29) rfl rfl Try.func60 (by kernel_rfl) rfl #[.int .i64 (a0_2.size : Int)] rfl aa ?_; (with_reducible refine (vbi_Two.calls kj3 (a0_2.size : Int) t116 t117 _ A10.out).mono ?_); rintro e w25 ⟨rfl, hb⟩; refine ⟨_, rfl, ?_⟩; replace BK114 := Aside0.mk (blk_below (g := gb114) (o := .cells #[.int .i64 a0_0, .int .i64 a0_1, .string a0_2, .string a0_3, .int .i64 a0_4, .bool a0_5] 25 (0, 0)) (bk BK114.out) hb); replace HB := Aside0.mk (below_step bo hb); (try clear hb); (try clear hb2); (try clear hk); (try clear hi)))
           replace BK114 := Aside0.mk (blk_drew BK114.out)
           replace HB := Aside0.mk (below_drew1 HB.out)
           refine start_ (n := 20) (S := fun w' => w'.cell? ⟨gb114, 0, none⟩ = some (.int .i64 a0_0) ∧ w'.cell? ⟨gb114, 1, none⟩ = some (.int .i64 a0_1) ∧ w'.cell? ⟨gb114, 2, none⟩ = some (.string a0_2) ∧ w'.cell? ⟨gb114, 3, none⟩ = some (.string a0_3) ∧ w'.cell? ⟨gb114, 4, none⟩ = some (.int .i64 a0_4) ∧ w'.cell? ⟨gb114, 5, none⟩ = some (.bool a0_5)) (ds := []) #[O,O,O,O,O,O,O,O,O,O,O,O,O,O,O,O,O,O,O,O] (by kernel_rfl) rfl rfl ⟨(blk_cell BK114.out 0).trans rfl, (blk_cell BK114.out 1).trans rfl, (blk_cell BK114.out 2).trans rfl, (blk_cell BK114.out 3).trans rfl, (blk_cell BK114.out 4).trans rfl, (blk_cell BK114.out 5).trans rfl⟩ (fun hHeld => ?_); refine with_tabW rec_Bytes.tab8 rec_Bytes.bits8 (fun HT_ HW_ => ?_)
           generalize w25.drew = w26 at BK114 HB hHeld ⊢
           refine pz (i := 0) (N := some 32) #[I,O,O,O,O,O,O,O,O,O,O,O,O,O,O,O,O,O,O,O] ?_
           refine pz (i := 3) (N := some 35) #[I,O,O,I,O,O,O,O,O,O,O,O,O,O,O,O,O,O,O,O] ?_
           refine pz (i := 7) (N := some 39) #[I,O,O,I,O,O,O,I,O,O,O,O,O,O,O,O,O,O,O,O] ?_
           refine pz (i := 11) (N := some 43) #[I,O,O,I,O,O,O,I,O,O,O,I,O,O,O,O,O,O,O,O] ?_
           refine pz (i := 13) (N := some 45) #[I,O,O,I,O,O,O,I,O,O,O,I,O,I,O,O,O,O,O,O] ?_
           refine pz (i := 16) (N := some 48) #[I,O,O,I,O,O,O,I,O,O,O,I,O,I,O,O,I,O,O,O] ?_
           refine tz (i := 1) (N := some 33) #[I,I,O,I,O,O,O,I,O,O,O,I,O,I,O,O,I,O,O,O] ?_
           refine tz (i := 4) (N := some 36) #[I,I,O,I,I,O,O,I,O,O,O,I,O,I,O,O,I,O,O,O] ?_
           refine tz (i := 14) (N := some 46) #[I,I,O,I,I,O,O,I,O,O,O,I,O,I,I,O,I,O,O,O] ?_
           refine tz (i := 17) (N := some 49) #[I,I,O,I,I,O,O,I,O,O,O,I,O,I,I,O,I,I,O,O] ?_
           refine join_ (σ := Value) 5 #[I,I,I,I,I,I,I,I,I,I,O,I,O,I,I,O,I,I,O,O] (fun s_ => [(34, .string t118), (37, .string t119), (40, s_), (41, .string (strOfNums y120)), (38, .string (t118 ++ t119))]) (fun s_ w' => (w'.cell? ⟨gb114, 0, none⟩ = some (.int .i64 a0_0) ∧ w'.cell? ⟨gb114, 1, none⟩ = some (.int .i64 a0_1) ∧ w'.cell? ⟨gb114, 2, none⟩ = some (.string a0_2) ∧ w'.cell? ⟨gb114, 3, none⟩ = some (.string a0_3) ∧ w'.cell? ⟨gb114, 4, none⟩ = some (.int .i64 a0_4) ∧ w'.cell? ⟨gb114, 5, none⟩ = some (.bool a0_5)) ∧ (Kd.R (Kd.int .u8) 5 w' w.heap.size (fun _ => True) s_ y120) ∧ (w'.heap[gb114]? = some (.cells #[.int .i64 a0_0, .int .i64 a0_1, .string a0_2, .string a0_3, .int .i64 a0_4, .bool a0_5] 25 (0, 0))) ∧ (Below w.heap.size w w')) ?_ ?_
           rotate_left
           ·intro hJ2_5_8_9
            refine join_ (σ := Value) 6 #[I,I,I,I,I,I,I,I,I,O,O,I,O,I,I,O,I,I,O,O] (fun s_ => [(34, .string t118), (37, .string t119), (40, s_), (38, .string (t118 ++ t119))]) (fun s_ w' => (w'.cell? ⟨gb114, 0, none⟩ = some (.int .i64 a0_0) ∧ w'.cell? ⟨gb114, 1, none⟩ = some (.int .i64 a0_1) ∧ w'.cell? ⟨gb114, 2, none⟩ = some (.string a0_2) ∧ w'.cell? ⟨gb114, 3, none⟩ = some (.string a0_3) ∧ w'.cell? ⟨gb114, 4, none⟩ = some (.int .i64 a0_4) ∧ w'.cell? ⟨gb114, 5, none⟩ = some (.bool a0_5)) ∧ (Kd.R (Kd.int .u8) 5 w' w.heap.size (fun _ => True) s_ y120) ∧ (w'.heap[gb114]? = some (.cells #[.int .i64 a0_0, .int .i64 a0_1, .string a0_2, .string a0_3, .int .i64 a0_4, .bool a0_5] 25 (0, 0))) ∧ (Below w.heap.size w w')) ?_ ?_
            rotate_left
            ·intro hJ2_5_8
             refine join_ (σ := Value) 7 #[I,I,I,I,I,O,O,I,I,I,O,I,O,I,I,O,I,I,O,O] (fun s_ => [(34, .string t118), (40, s_), (41, .string (strOfNums y120))]) (fun s_ w' => (w'.cell? ⟨gb114, 0, none⟩ = some (.int .i64 a0_0) ∧ w'.cell? ⟨gb114, 1, none⟩ = some (.int .i64 a0_1) ∧ w'.cell? ⟨gb114, 2, none⟩ = some (.string a0_2) ∧ w'.cell? ⟨gb114, 3, none⟩ = some (.string a0_3) ∧ w'.cell? ⟨gb114, 4, none⟩ = some (.int .i64 a0_4) ∧ w'.cell? ⟨gb114, 5, none⟩ = some (.bool a0_5)) ∧ (Kd.R (Kd.int .u8) 5 w' w.heap.size (fun _ => True) s_ y120) ∧ (w'.heap[gb114]? = some (.cells #[.int .i64 a0_0, .int .i64 a0_1, .string a0_2, .string a0_3, .int .i64 a0_4, .bool a0_5] 25 (0, 0))) ∧ (Below w.heap.size w w')) ?_ ?_
             rotate_left
             ·intro hJ2_8_9
              refine join_ (σ := Unit) 7 #[I,I,I,I,I,I,I,I,O,O,O,I,O,I,I,O,I,I,O,O] (fun s_ => [(34, .string t118), (37, .string t119), (38, .string (t118 ++ t119))]) (fun s_ w' => (w'.cell? ⟨gb114, 0, none⟩ = some (.int .i64 a0_0) ∧ w'.cell? ⟨gb114, 1, none⟩ = some (.int .i64 a0_1) ∧ w'.cell? ⟨gb114, 2, none⟩ = some (.string a0_2) ∧ w'.cell? ⟨gb114, 3, none⟩ = some (.string a0_3) ∧ w'.cell? ⟨gb114, 4, none⟩ = some (.int .i64 a0_4) ∧ w'.cell? ⟨gb114, 5, none⟩ = some (.bool a0_5)) ∧ (w'.heap[gb114]? = some (.cells #[.int .i64 a0_0, .int .i64 a0_1, .string a0_2, .string a0_3, .int .i64 a0_4, .bool a0_5] 25 (0, 0))) ∧ (Below w.heap.size w w')) ?_ ?_
              rotate_left
              ·intro hJ2_5
               refine join_ (σ := Value) 8 #[I,I,I,I,I,O,O,I,I,O,O,I,O,I,I,O,I,I,O,O] (fun s_ => [(34, .string t118), (40, s_)]) (fun s_ w' => (w'.cell? ⟨gb114, 0, none⟩ = some (.int .i64 a0_0) ∧ w'.cell? ⟨gb114, 1, none⟩ = some (.int .i64 a0_1) ∧ w'.cell? ⟨gb114, 2, none⟩ = some (.string a0_2) ∧ w'.cell? ⟨gb114, 3, none⟩ = some (.string a0_3) ∧ w'.cell? ⟨gb114, 4, none⟩ = some (.int .i64 a0_4) ∧ w'.cell? ⟨gb114, 5, none⟩ = some (.bool a0_5)) ∧ (Kd.R (Kd.int .u8) 5 w' w.heap.size (fun _ => True) s_ y120) ∧ (w'.heap[gb114]? = some (.cells #[.int .i64 a0_0, .int .i64 a0_1, .string a0_2, .string a0_3, .int .i64 a0_4, .bool a0_5] 25 (0, 0))) ∧ (Below w.heap.size w w')) ?_ ?_
               rotate_left
               ·intro hJ2_8
                refine join_ (σ := Value) 8 #[I,I,O,I,I,O,O,I,I,I,O,I,O,I,I,O,I,I,O,O] (fun s_ => [(40, s_), (41, .string (strOfNums y120))]) (fun s_ w' => (w'.cell? ⟨gb114, 0, none⟩ = some (.int .i64 a0_0) ∧ w'.cell? ⟨gb114, 1, none⟩ = some (.int .i64 a0_1) ∧ w'.cell? ⟨gb114, 2, none⟩ = some (.string a0_2) ∧ w'.cell? ⟨gb114, 3, none⟩ = some (.string a0_3) ∧ w'.cell? ⟨gb114, 4, none⟩ = some (.int .i64 a0_4) ∧ w'.cell? ⟨gb114, 5, none⟩ = some (.bool a0_5)) ∧ (Kd.R (Kd.int .u8) 5 w' w.heap.size (fun _ => True) s_ y120) ∧ (w'.heap[gb114]? = some (.cells #[.int .i64 a0_0, .int .i64 a0_1, .string a0_2, .string a0_3, .int .i64 a0_4, .bool a0_5] 25 (0, 0))) ∧ (Below w.heap.size w w')) ?_ ?_
                rotate_left
                ·intro hJ8_9
                 refine join_ (σ := Unit) 9 #[I,I,I,I,I,O,O,I,O,O,O,I,O,I,I,O,I,I,O,O] (fun s_ => [(34, .string t118)]) (fun s_ w' => (w'.cell? ⟨gb114, 0, none⟩ = some (.int .i64 a0_0) ∧ w'.cell? ⟨gb114, 1, none⟩ = some (.int .i64 a0_1) ∧ w'.cell? ⟨gb114, 2, none⟩ = some (.string a0_2) ∧ w'.cell? ⟨gb114, 3, none⟩ = some (.string a0_3) ∧ w'.cell? ⟨gb114, 4, none⟩ = some (.int .i64 a0_4) ∧ w'.cell? ⟨gb114, 5, none⟩ = some (.bool a0_5)) ∧ (w'.heap[gb114]? = some (.cells #[.int .i64 a0_0, .int .i64 a0_1, .string a0_2, .string a0_3, .int .i64 a0_4, .bool a0_5] 25 (0, 0))) ∧ (Below w.heap.size w w')) ?_ ?_
                 rotate_left
                 ·intro hJ2
                  refine join_ (σ := Value) 9 #[I,I,O,I,I,O,O,I,I,O,O,I,O,I,I,O,I,I,O,O] (fun s_ => [(40, s_)]) (fun s_ w' => (w'.cell? ⟨gb114, 0, none⟩ = some (.int .i64 a0_0) ∧ w'.cell? ⟨gb114, 1, none⟩ = some (.int .i64 a0_1) ∧ w'.cell? ⟨gb114, 2, none⟩ = some (.string a0_2) ∧ w'.cell? ⟨gb114, 3, none⟩ = some (.string a0_3) ∧ w'.cell? ⟨gb114, 4, none⟩ = some (.int .i64 a0_4) ∧ w'.cell? ⟨gb114, 5, none⟩ = some (.bool a0_5)) ∧ (Kd.R (Kd.int .u8) 5 w' w.heap.size (fun _ => True) s_ y120) ∧ (w'.heap[gb114]? = some (.cells #[.int .i64 a0_0, .int .i64 a0_1, .string a0_2, .string a0_3, .int .i64 a0_4, .bool a0_5] 25 (0, 0))) ∧ (Below w.heap.size w w')) ?_ ?_
                  rotate_left
                  ·intro hJ8
                   refine two_ (i := 2) (j := 8) (Ni := some 34) (Nj := some 40) #[I,I,I,I,I,O,O,I,O,O,O,I,O,I,I,O,I,I,O,O] #[I,I,O,I,I,O,O,I,I,O,O,I,O,I,I,O,I,I,O,O] rfl rfl rfl rfl (two_of HT_.out (by kernel_rfl)) (by decide) (by decide) (fun K hK => ?_) (fun K hK => ?_)
                   ·skip
                    refine goes_ Try.func61 (by kernel_rfl) rfl #[.int .i64 a0_0] (by rfl) rfl rfl aa ?_
                    with_reducible refine (rec_eight.calls kj3 a0_0 t118 _ A11.out).mono ?_
                    rintro e w27 ⟨rfl, hb⟩
                    refine ⟨_, rfl, ?_⟩
                    replace BK114 := Aside0.mk (blk_below (g := gb114) (o := .cells #[.int .i64 a0_0, .int .i64 a0_1, .string a0_2, .string a0_3, .int .i64 a0_4, .bool a0_5] 25 (0, 0)) (bk BK114.out) hb)
                    replace HB := Aside0.mk (below_step bo hb)
                    (try clear hb)
                    (try clear hb2)
                    (try clear hk)
                    (try clear hi)
                    refine hK.out _ _ ⟨(blk_cell BK114.out 0).trans rfl, (blk_cell BK114.out 1).trans rfl, (blk_cell BK114.out 2).trans rfl, (blk_cell BK114.out 3).trans rfl, (blk_cell BK114.out 4).trans rfl, (blk_cell BK114.out 5).trans rfl⟩ (fun hHeld => ?_)
                    clear hK K
                    refine norm_ (a' := ?_) ?_ ?_
                    rotate_left
                    ·show Act.put _ (some 34) _ = _
                     simp only [Act.put, List.setIfInBounds_toArray, List.set_cons_zero, List.set_cons_succ, i64_w, i32_w]
                     rfl
                    exact norm_ (by first | (simp only [putAll, Act.put, List.setIfInBounds_toArray, List.set_cons_zero, List.set_cons_succ]; done) | (simp only [putAll, Act.put, List.setIfInBounds_toArray, List.set_cons_zero, List.set_cons_succ]; rfl)) (hJ2 () _ ⟨hHeld, (bk BK114.out), bo⟩)
                   ·skip
                    refine Kd.R_lit_step (Kd.int .u8) _ 5 ?hg (N := 40) ?hd (xs := ([x5_3] : List Int)) (inner := [.int .u8 x5_3]) (ok := fun _ => True) (okp := fun _ => True) ?hr ?hp (fun _ hk => hk) trivial (Below.refl _ _) (Nat.le_refl _) (by simp) ?_; (case hd => rfl); (case hg => rfl); (case hr => first | (go_simp; done) | (go_simp; rfl)); (case hp => exact (Reps.one (show Kd.M (Kd.int .u8) _ _ _ x5_3 [.int .u8 x5_3] from rfl) (Reps.none _ _)))
                    intro v121 w27 ho28 hb hg_ hnew_
                    clear hg_ hnew_
                    (first | rw [← Ny120.out] at ho28 | (simp only [Int.reduceToNat] at ho28; rw [← Ny120.out] at ho28))
                    have HO122 := Aside0.mk (Kd.R_lower ho28 (below_size bo))
                    replace BK114 := Aside0.mk (blk_below (g := gb114) (o := .cells #[.int .i64 a0_0, .int .i64 a0_1, .string a0_2, .string a0_3, .int .i64 a0_4, .bool a0_5] 25 (0, 0)) (bk BK114.out) hb)
                    replace HB := Aside0.mk (below_step bo hb)
                    clear hb ho28
                    refine hK.out _ _ ⟨(blk_cell BK114.out 0).trans rfl, (blk_cell BK114.out 1).trans rfl, (blk_cell BK114.out 2).trans rfl, (blk_cell BK114.out 3).trans rfl, (blk_cell BK114.out 4).trans rfl, (blk_cell BK114.out 5).trans rfl⟩ (fun hHeld => ?_)
                    clear hK K
                    refine norm_ (a' := ?_) ?_ ?_
                    rotate_left
                    ·show Act.put _ (some 40) _ = _
                     simp only [Act.put, List.setIfInBounds_toArray, List.set_cons_zero, List.set_cons_succ, i64_w, i32_w]
                     rfl
                    exact norm_ (by first | (simp only [putAll, Act.put, List.setIfInBounds_toArray, List.set_cons_zero, List.set_cons_succ]; done) | (simp only [putAll, Act.put, List.setIfInBounds_toArray, List.set_cons_zero, List.set_cons_succ]; rfl)) (hJ8 (v121) _ ⟨hHeld, (rk HO122.out), (bk BK114.out), bo⟩)
                  ·skip
                   rintro v121 w29 ⟨hS_, h0_, h1_, h2_⟩
                   have n0_ : Aside0 (Kd.R (Kd.int .u8) 5 w29 w.heap.size (fun _ => True) v121 y120) := ⟨h0_⟩
                   have n1_ : Aside0 (w29.heap[gb114]? = some (.cells #[.int .i64 a0_0, .int .i64 a0_1, .string a0_2, .string a0_3, .int .i64 a0_4, .bool a0_5] 25 (0, 0))) := ⟨h1_⟩
                   have n2_ : Aside0 (Below w.heap.size w w29) := ⟨h2_⟩
                   clear BK114
                   clear HB
                   clear h0_ h1_ h2_
                   have HO122 := n0_
                   have BK114 := n1_
                   have HB := n2_
                   clear n0_ n1_ n2_
                   have hHeld : w29.cell? ⟨gb114, 0, none⟩ = some (.int .i64 a0_0) ∧ w29.cell? ⟨gb114, 1, none⟩ = some (.int .i64 a0_1) ∧ w29.cell? ⟨gb114, 2, none⟩ = some (.string a0_2) ∧ w29.cell? ⟨gb114, 3, none⟩ = some (.string a0_3) ∧ w29.cell? ⟨gb114, 4, none⟩ = some (.int .i64 a0_4) ∧ w29.cell? ⟨gb114, 5, none⟩ = some (.bool a0_5) := hS_
                   refine norm_ (a' := ?_) ?_ ?_
                   rotate_left
                   ·simp only [putAll, Act.put, List.setIfInBounds_toArray, List.set_cons_zero, List.set_cons_succ]
                    rfl
                   refine two_ (i := 2) (j := 9) (Ni := some 34) (Nj := some 41) #[I,I,I,I,I,O,O,I,I,O,O,I,O,I,I,O,I,I,O,O] #[I,I,O,I,I,O,O,I,I,I,O,I,O,I,I,O,I,I,O,O] rfl rfl rfl rfl (two_of HT_.out (by kernel_rfl)) (by decide) (by decide) (fun K hK => ?_) (fun K hK => ?_)
                   ·skip
                    refine goes_ Try.func61 (by kernel_rfl) rfl #[.int .i64 a0_0] (by rfl) rfl rfl aa ?_
                    with_reducible refine (rec_eight.calls kj3 a0_0 t118 _ A11.out).mono ?_
                    rintro e w30 ⟨rfl, hb⟩
                    refine ⟨_, rfl, ?_⟩
                    replace HO122 := Aside0.mk (Kd.R_below (rk HO122.out) hb)
                    replace BK114 := Aside0.mk (blk_below (g := gb114) (o := .cells #[.int .i64 a0_0, .int .i64 a0_1, .string a0_2, .string a0_3, .int .i64 a0_4, .bool a0_5] 25 (0, 0)) (bk BK114.out) hb)
                    replace HB := Aside0.mk (below_step bo hb)
                    (try clear hb)
                    (try clear hb2)
                    (try clear hk)
                    (try clear hi)
                    refine hK.out _ _ ⟨(blk_cell BK114.out 0).trans rfl, (blk_cell BK114.out 1).trans rfl, (blk_cell BK114.out 2).trans rfl, (blk_cell BK114.out 3).trans rfl, (blk_cell BK114.out 4).trans rfl, (blk_cell BK114.out 5).trans rfl⟩ (fun hHeld => ?_)
                    clear hK K
                    refine norm_ (a' := ?_) ?_ ?_
                    rotate_left
                    ·show Act.put _ (some 34) _ = _
                     simp only [Act.put, List.setIfInBounds_toArray, List.set_cons_zero, List.set_cons_succ, i64_w, i32_w]
                     rfl
                    exact norm_ (by first | (simp only [putAll, Act.put, List.setIfInBounds_toArray, List.set_cons_zero, List.set_cons_succ]; done) | (simp only [putAll, Act.put, List.setIfInBounds_toArray, List.set_cons_zero, List.set_cons_succ]; rfl)) (hJ2_8 (v121) _ ⟨hHeld, (rk HO122.out), (bk BK114.out), bo⟩)
                   ·skip
                    have hcv30 := own_string (P := Try.prog) Try.underlying23 Try.underlying5 Try.underlying9 (Kd.own_of_R HO122.out)
                    refine value_ (w1 := ?_) (v := ?_) (by rfl) rfl ?_ ?_
                    rotate_left 2
                    ·go_simp
                     constructor
                     ·rfl
                     ·rfl
                    clear hcv30
                    refine hK.out _ _ ⟨(blk_cell BK114.out 0).trans rfl, (blk_cell BK114.out 1).trans rfl, (blk_cell BK114.out 2).trans rfl, (blk_cell BK114.out 3).trans rfl, (blk_cell BK114.out 4).trans rfl, (blk_cell BK114.out 5).trans rfl⟩ (fun hHeld => ?_)
                    clear hK K
                    refine norm_ (a' := ?_) ?_ ?_
                    rotate_left
                    ·show Act.put _ (some 41) _ = _
                     simp only [Act.put, List.setIfInBounds_toArray, List.set_cons_zero, List.set_cons_succ, i64_w, i32_w]
                     rfl
                    exact norm_ (by first | (simp only [putAll, Act.put, List.setIfInBounds_toArray, List.set_cons_zero, List.set_cons_succ]; done) | (simp only [putAll, Act.put, List.setIfInBounds_toArray, List.set_cons_zero, List.set_cons_succ]; rfl)) (hJ8_9 (v121) _ ⟨hHeld, (rk HO122.out), (bk BK114.out), bo⟩)
                 ·skip
                  rintro _ w28 ⟨hS_, h0_, h1_⟩
                  have n0_ : Aside0 (w28.heap[gb114]? = some (.cells #[.int .i64 a0_0, .int .i64 a0_1, .string a0_2, .string a0_3, .int .i64 a0_4, .bool a0_5] 25 (0, 0))) := ⟨h0_⟩
                  have n1_ : Aside0 (Below w.heap.size w w28) := ⟨h1_⟩
                  clear BK114
                  clear HB
                  clear h0_ h1_
                  have BK114 := n0_
                  have HB := n1_
                  clear n0_ n1_
                  have hHeld : w28.cell? ⟨gb114, 0, none⟩ = some (.int .i64 a0_0) ∧ w28.cell? ⟨gb114, 1, none⟩ = some (.int .i64 a0_1) ∧ w28.cell? ⟨gb114, 2, none⟩ = some (.string a0_2) ∧ w28.cell? ⟨gb114, 3, none⟩ = some (.string a0_3) ∧ w28.cell? ⟨gb114, 4, none⟩ = some (.int .i64 a0_4) ∧ w28.cell? ⟨gb114, 5, none⟩ = some (.bool a0_5) := hS_
                  refine norm_ (a' := ?_) ?_ ?_
                  rotate_left
                  ·simp only [putAll, Act.put, List.setIfInBounds_toArray, List.set_cons_zero, List.set_cons_succ]
                   rfl
                  refine two_ (i := 5) (j := 8) (Ni := some 37) (Nj := some 40) #[I,I,I,I,I,I,O,I,O,O,O,I,O,I,I,O,I,I,O,O] #[I,I,I,I,I,O,O,I,I,O,O,I,O,I,I,O,I,I,O,O] rfl rfl rfl rfl (two_of HT_.out (by kernel_rfl)) (by decide) (by decide) (fun K hK => ?_) (fun K hK => ?_)
                  ·skip
                   refine goes_ Try.func61 (by kernel_rfl) rfl #[.int .i64 a0_1] (by rfl) rfl rfl aa ?_
                   with_reducible refine (rec_eight.calls kj3 a0_1 t119 _ A12.out).mono ?_
                   rintro e w29 ⟨rfl, hb⟩
                   refine ⟨_, rfl, ?_⟩
                   replace BK114 := Aside0.mk (blk_below (g := gb114) (o := .cells #[.int .i64 a0_0, .int .i64 a0_1, .string a0_2, .string a0_3, .int .i64 a0_4, .bool a0_5] 25 (0, 0)) (bk BK114.out) hb)
                   replace HB := Aside0.mk (below_step bo hb)
                   (try clear hb)
                   (try clear hb2)
                   (try clear hk)
                   (try clear hi)
                   refine hK.out _ _ ⟨(blk_cell BK114.out 0).trans rfl, (blk_cell BK114.out 1).trans rfl, (blk_cell BK114.out 2).trans rfl, (blk_cell BK114.out 3).trans rfl, (blk_cell BK114.out 4).trans rfl, (blk_cell BK114.out 5).trans rfl⟩ (fun hHeld => ?_)
                   clear hK K
                   refine norm_ (a' := ?_) ?_ ?_
                   rotate_left
                   ·show Act.put _ (some 37) _ = _
                    simp only [Act.put, List.setIfInBounds_toArray, List.set_cons_zero, List.set_cons_succ, i64_w, i32_w]
                    rfl
                   refine pz (i := 6) (N := some 38) #[I,I,I,I,I,I,I,I,O,O,O,I,O,I,I,O,I,I,O,O] ?_
                   exact norm_ (by first | (simp only [putAll, Act.put, List.setIfInBounds_toArray, List.set_cons_zero, List.set_cons_succ]; done) | (simp only [putAll, Act.put, List.setIfInBounds_toArray, List.set_cons_zero, List.set_cons_succ]; rfl)) (hJ2_5 () _ ⟨hHeld, (bk BK114.out), bo⟩)
                  ·skip
                   refine Kd.R_lit_step (Kd.int .u8) _ 5 ?hg (N := 40) ?hd (xs := ([x5_3] : List Int)) (inner := [.int .u8 x5_3]) (ok := fun _ => True) (okp := fun _ => True) ?hr ?hp (fun _ hk => hk) trivial (Below.refl _ _) (Nat.le_refl _) (by simp) ?_; (case hd => rfl); (case hg => rfl); (case hr => first | (go_simp; done) | (go_simp; rfl)); (case hp => exact (Reps.one (show Kd.M (Kd.int .u8) _ _ _ x5_3 [.int .u8 x5_3] from rfl) (Reps.none _ _)))
                   intro v121 w29 ho30 hb hg_ hnew_
                   clear hg_ hnew_
                   (first | rw [← Ny120.out] at ho30 | (simp only [Int.reduceToNat] at ho30; rw [← Ny120.out] at ho30))
                   have HO122 := Aside0.mk (Kd.R_lower ho30 (below_size bo))
                   replace BK114 := Aside0.mk (blk_below (g := gb114) (o := .cells #[.int .i64 a0_0, .int .i64 a0_1, .string a0_2, .string a0_3, .int .i64 a0_4, .bool a0_5] 25 (0, 0)) (bk BK114.out) hb)
                   replace HB := Aside0.mk (below_step bo hb)
                   clear hb ho30
                   refine hK.out _ _ ⟨(blk_cell BK114.out 0).trans rfl, (blk_cell BK114.out 1).trans rfl, (blk_cell BK114.out 2).trans rfl, (blk_cell BK114.out 3).trans rfl, (blk_cell BK114.out 4).trans rfl, (blk_cell BK114.out 5).trans rfl⟩ (fun hHeld => ?_)
                   clear hK K
                   refine norm_ (a' := ?_) ?_ ?_
                   rotate_left
                   ·show Act.put _ (some 40) _ = _
                    simp only [Act.put, List.setIfInBounds_toArray, List.set_cons_zero, List.set_cons_succ, i64_w, i32_w]
                    rfl
                   exact norm_ (by first | (simp only [putAll, Act.put, List.setIfInBounds_toArray, List.set_cons_zero, List.set_cons_succ]; done) | (simp only [putAll, Act.put, List.setIfInBounds_toArray, List.set_cons_zero, List.set_cons_succ]; rfl)) (hJ2_8 (v121) _ ⟨hHeld, (rk HO122.out), (bk BK114.out), bo⟩)
                ·skip
                 rintro v121 w30 ⟨hS_, h0_, h1_, h2_⟩
                 have n0_ : Aside0 (Kd.R (Kd.int .u8) 5 w30 w.heap.size (fun _ => True) v121 y120) := ⟨h0_⟩
                 have n1_ : Aside0 (w30.heap[gb114]? = some (.cells #[.int .i64 a0_0, .int .i64 a0_1, .string a0_2, .string a0_3, .int .i64 a0_4, .bool a0_5] 25 (0, 0))) := ⟨h1_⟩
                 have n2_ : Aside0 (Below w.heap.size w w30) := ⟨h2_⟩
                 clear BK114
                 clear HB
                 clear h0_ h1_ h2_
                 have HO122 := n0_
                 have BK114 := n1_
                 have HB := n2_
                 clear n0_ n1_ n2_
                 have hHeld : w30.cell? ⟨gb114, 0, none⟩ = some (.int .i64 a0_0) ∧ w30.cell? ⟨gb114, 1, none⟩ = some (.int .i64 a0_1) ∧ w30.cell? ⟨gb114, 2, none⟩ = some (.string a0_2) ∧ w30.cell? ⟨gb114, 3, none⟩ = some (.string a0_3) ∧ w30.cell? ⟨gb114, 4, none⟩ = some (.int .i64 a0_4) ∧ w30.cell? ⟨gb114, 5, none⟩ = some (.bool a0_5) := hS_
                 refine norm_ (a' := ?_) ?_ ?_
                 rotate_left
                 ·simp only [putAll, Act.put, List.setIfInBounds_toArray, List.set_cons_zero, List.set_cons_succ]
                  rfl
                 refine one_ (i := 2) (N := some 34) #[I,I,I,I,I,O,O,I,I,I,O,I,O,I,I,O,I,I,O,O] rfl rfl (one_of HT_.out (by kernel_rfl)) (by decide) (fun K hK => ?_)
                 refine goes_ Try.func61 (by kernel_rfl) rfl #[.int .i64 a0_0] (by rfl) rfl rfl aa ?_
                 with_reducible refine (rec_eight.calls kj3 a0_0 t118 _ A11.out).mono ?_
                 rintro e w31 ⟨rfl, hb⟩
                 refine ⟨_, rfl, ?_⟩
                 replace HO122 := Aside0.mk (Kd.R_below (rk HO122.out) hb)
                 replace BK114 := Aside0.mk (blk_below (g := gb114) (o := .cells #[.int .i64 a0_0, .int .i64 a0_1, .string a0_2, .string a0_3, .int .i64 a0_4, .bool a0_5] 25 (0, 0)) (bk BK114.out) hb)
                 replace HB := Aside0.mk (below_step bo hb)
                 (try clear hb)
                 (try clear hb2)
                 (try clear hk)
                 (try clear hi)
                 refine hK.out _ _ ⟨(blk_cell BK114.out 0).trans rfl, (blk_cell BK114.out 1).trans rfl, (blk_cell BK114.out 2).trans rfl, (blk_cell BK114.out 3).trans rfl, (blk_cell BK114.out 4).trans rfl, (blk_cell BK114.out 5).trans rfl⟩ (fun hHeld => ?_)
                 clear hK K
                 refine norm_ (a' := ?_) ?_ ?_
                 rotate_left
                 ·show Act.put _ (some 34) _ = _
                  simp only [Act.put, List.setIfInBounds_toArray, List.set_cons_zero, List.set_cons_succ, i64_w, i32_w]
                  rfl
                 exact norm_ (by first | (simp only [putAll, Act.put, List.setIfInBounds_toArray, List.set_cons_zero, List.set_cons_succ]; done) | (simp only [putAll, Act.put, List.setIfInBounds_toArray, List.set_cons_zero, List.set_cons_succ]; rfl)) (hJ2_8_9 (v121) _ ⟨hHeld, (rk HO122.out), (bk BK114.out), bo⟩)
               ·skip
                rintro v121 w30 ⟨hS_, h0_, h1_, h2_⟩
                have n0_ : Aside0 (Kd.R (Kd.int .u8) 5 w30 w.heap.size (fun _ => True) v121 y120) := ⟨h0_⟩
                have n1_ : Aside0 (w30.heap[gb114]? = some (.cells #[.int .i64 a0_0, .int .i64 a0_1, .string a0_2, .string a0_3, .int .i64 a0_4, .bool a0_5] 25 (0, 0))) := ⟨h1_⟩
                have n2_ : Aside0 (Below w.heap.size w w30) := ⟨h2_⟩
                clear BK114
                clear HB
                clear h0_ h1_ h2_
                have HO122 := n0_
                have BK114 := n1_
                have HB := n2_
                clear n0_ n1_ n2_
                have hHeld : w30.cell? ⟨gb114, 0, none⟩ = some (.int .i64 a0_0) ∧ w30.cell? ⟨gb114, 1, none⟩ = some (.int .i64 a0_1) ∧ w30.cell? ⟨gb114, 2, none⟩ = some (.string a0_2) ∧ w30.cell? ⟨gb114, 3, none⟩ = some (.string a0_3) ∧ w30.cell? ⟨gb114, 4, none⟩ = some (.int .i64 a0_4) ∧ w30.cell? ⟨gb114, 5, none⟩ = some (.bool a0_5) := hS_
                refine norm_ (a' := ?_) ?_ ?_
                rotate_left
                ·simp only [putAll, Act.put, List.setIfInBounds_toArray, List.set_cons_zero, List.set_cons_succ]
                 rfl
                refine two_ (i := 5) (j := 9) (Ni := some 37) (Nj := some 41) #[I,I,I,I,I,I,O,I,I,O,O,I,O,I,I,O,I,I,O,O] #[I,I,I,I,I,O,O,I,I,I,O,I,O,I,I,O,I,I,O,O] rfl rfl rfl rfl (two_of HT_.out (by kernel_rfl)) (by decide) (by decide) (fun K hK => ?_) (fun K hK => ?_)
                ·skip
                 refine goes_ Try.func61 (by kernel_rfl) rfl #[.int .i64 a0_1] (by rfl) rfl rfl aa ?_
                 with_reducible refine (rec_eight.calls kj3 a0_1 t119 _ A12.out).mono ?_
                 rintro e w31 ⟨rfl, hb⟩
                 refine ⟨_, rfl, ?_⟩
                 replace HO122 := Aside0.mk (Kd.R_below (rk HO122.out) hb)
                 replace BK114 := Aside0.mk (blk_below (g := gb114) (o := .cells #[.int .i64 a0_0, .int .i64 a0_1, .string a0_2, .string a0_3, .int .i64 a0_4, .bool a0_5] 25 (0, 0)) (bk BK114.out) hb)
                 replace HB := Aside0.mk (below_step bo hb)
                 (try clear hb)
                 (try clear hb2)
                 (try clear hk)
                 (try clear hi)
                 refine hK.out _ _ ⟨(blk_cell BK114.out 0).trans rfl, (blk_cell BK114.out 1).trans rfl, (blk_cell BK114.out 2).trans rfl, (blk_cell BK114.out 3).trans rfl, (blk_cell BK114.out 4).trans rfl, (blk_cell BK114.out 5).trans rfl⟩ (fun hHeld => ?_)
                 clear hK K
                 refine norm_ (a' := ?_) ?_ ?_
                 rotate_left
                 ·show Act.put _ (some 37) _ = _
                  simp only [Act.put, List.setIfInBounds_toArray, List.set_cons_zero, List.set_cons_succ, i64_w, i32_w]
                  rfl
                 refine pz (i := 6) (N := some 38) #[I,I,I,I,I,I,I,I,I,O,O,I,O,I,I,O,I,I,O,O] ?_
                 exact norm_ (by first | (simp only [putAll, Act.put, List.setIfInBounds_toArray, List.set_cons_zero, List.set_cons_succ]; done) | (simp only [putAll, Act.put, List.setIfInBounds_toArray, List.set_cons_zero, List.set_cons_succ]; rfl)) (hJ2_5_8 (v121) _ ⟨hHeld, (rk HO122.out), (bk BK114.out), bo⟩)
                ·skip
                 have hcv31 := own_string (P := Try.prog) Try.underlying23 Try.underlying5 Try.underlying9 (Kd.own_of_R HO122.out)
                 refine value_ (w1 := ?_) (v := ?_) (by rfl) rfl ?_ ?_
                 rotate_left 2
                 ·go_simp
                  constructor
                  ·rfl
                  ·rfl
                 clear hcv31
                 refine hK.out _ _ ⟨(blk_cell BK114.out 0).trans rfl, (blk_cell BK114.out 1).trans rfl, (blk_cell BK114.out 2).trans rfl, (blk_cell BK114.out 3).trans rfl, (blk_cell BK114.out 4).trans rfl, (blk_cell BK114.out 5).trans rfl⟩ (fun hHeld => ?_)
                 clear hK K
                 refine norm_ (a' := ?_) ?_ ?_
                 rotate_left
                 ·show Act.put _ (some 41) _ = _
                  simp only [Act.put, List.setIfInBounds_toArray, List.set_cons_zero, List.set_cons_succ, i64_w, i32_w]
                  rfl
                 exact norm_ (by first | (simp only [putAll, Act.put, List.setIfInBounds_toArray, List.set_cons_zero, List.set_cons_succ]; done) | (simp only [putAll, Act.put, List.setIfInBounds_toArray, List.set_cons_zero, List.set_cons_succ]; rfl)) (hJ2_8_9 (v121) _ ⟨hHeld, (rk HO122.out), (bk BK114.out), bo⟩)
              ·skip
               rintro _ w29 ⟨hS_, h0_, h1_⟩
               have n0_ : Aside0 (w29.heap[gb114]? = some (.cells #[.int .i64 a0_0, .int .i64 a0_1, .string a0_2, .string a0_3, .int .i64 a0_4, .bool a0_5] 25 (0, 0))) := ⟨h0_⟩
               have n1_ : Aside0 (Below w.heap.size w w29) := ⟨h1_⟩
               clear BK114
               clear HB
               clear h0_ h1_
               have BK114 := n0_
               have HB := n1_
               clear n0_ n1_
               have hHeld : w29.cell? ⟨gb114, 0, none⟩ = some (.int .i64 a0_0) ∧ w29.cell? ⟨gb114, 1, none⟩ = some (.int .i64 a0_1) ∧ w29.cell? ⟨gb114, 2, none⟩ = some (.string a0_2) ∧ w29.cell? ⟨gb114, 3, none⟩ = some (.string a0_3) ∧ w29.cell? ⟨gb114, 4, none⟩ = some (.int .i64 a0_4) ∧ w29.cell? ⟨gb114, 5, none⟩ = some (.bool a0_5) := hS_
               refine norm_ (a' := ?_) ?_ ?_
               rotate_left
               ·simp only [putAll, Act.put, List.setIfInBounds_toArray, List.set_cons_zero, List.set_cons_succ]
                rfl
               refine one_ (i := 8) (N := some 40) #[I,I,I,I,I,I,I,I,I,O,O,I,O,I,I,O,I,I,O,O] rfl rfl (one_of HT_.out (by kernel_rfl)) (by decide) (fun K hK => ?_)
               refine Kd.R_lit_step (Kd.int .u8) _ 5 ?hg (N := 40) ?hd (xs := ([x5_3] : List Int)) (inner := [.int .u8 x5_3]) (ok := fun _ => True) (okp := fun _ => True) ?hr ?hp (fun _ hk => hk) trivial (Below.refl _ _) (Nat.le_refl _) (by simp) ?_; (case hd => rfl); (case hg => rfl); (case hr => first | (go_simp; done) | (go_simp; rfl)); (case hp => exact (Reps.one (show Kd.M (Kd.int .u8) _ _ _ x5_3 [.int .u8 x5_3] from rfl) (Reps.none _ _)))
               intro v121 w30 ho31 hb hg_ hnew_
               clear hg_ hnew_
               (first | rw [← Ny120.out] at ho31 | (simp only [Int.reduceToNat] at ho31; rw [← Ny120.out] at ho31))
               have HO122 := Aside0.mk (Kd.R_lower ho31 (below_size bo))
               replace BK114 := Aside0.mk (blk_below (g := gb114) (o := .cells #[.int .i64 a0_0, .int .i64 a0_1, .string a0_2, .string a0_3, .int .i64 a0_4, .bool a0_5] 25 (0, 0)) (bk BK114.out) hb)
               replace HB := Aside0.mk (below_step bo hb)
               clear hb ho31
               refine hK.out _ _ ⟨(blk_cell BK114.out 0).trans rfl, (blk_cell BK114.out 1).trans rfl, (blk_cell BK114.out 2).trans rfl, (blk_cell BK114.out 3).trans rfl, (blk_cell BK114.out 4).trans rfl, (blk_cell BK114.out 5).trans rfl⟩ (fun hHeld => ?_)
               clear hK K
               refine norm_ (a' := ?_) ?_ ?_
               rotate_left
               ·show Act.put _ (some 40) _ = _
                simp only [Act.put, List.setIfInBounds_toArray, List.set_cons_zero, List.set_cons_succ, i64_w, i32_w]
                rfl
               exact norm_ (by first | (simp only [putAll, Act.put, List.setIfInBounds_toArray, List.set_cons_zero, List.set_cons_succ]; done) | (simp only [putAll, Act.put, List.setIfInBounds_toArray, List.set_cons_zero, List.set_cons_succ]; rfl)) (hJ2_5_8 (v121) _ ⟨hHeld, (rk HO122.out), (bk BK114.out), bo⟩)
             ·skip
              rintro v121 w31 ⟨hS_, h0_, h1_, h2_⟩
              have n0_ : Aside0 (Kd.R (Kd.int .u8) 5 w31 w.heap.size (fun _ => True) v121 y120) := ⟨h0_⟩
              have n1_ : Aside0 (w31.heap[gb114]? = some (.cells #[.int .i64 a0_0, .int .i64 a0_1, .string a0_2, .string a0_3, .int .i64 a0_4, .bool a0_5] 25 (0, 0))) := ⟨h1_⟩
              have n2_ : Aside0 (Below w.heap.size w w31) := ⟨h2_⟩
              clear BK114
              clear HB
              clear h0_ h1_ h2_
              have HO122 := n0_
              have BK114 := n1_
              have HB := n2_
              clear n0_ n1_ n2_
              have hHeld : w31.cell? ⟨gb114, 0, none⟩ = some (.int .i64 a0_0) ∧ w31.cell? ⟨gb114, 1, none⟩ = some (.int .i64 a0_1) ∧ w31.cell? ⟨gb114, 2, none⟩ = some (.string a0_2) ∧ w31.cell? ⟨gb114, 3, none⟩ = some (.string a0_3) ∧ w31.cell? ⟨gb114, 4, none⟩ = some (.int .i64 a0_4) ∧ w31.cell? ⟨gb114, 5, none⟩ = some (.bool a0_5) := hS_
              refine norm_ (a' := ?_) ?_ ?_
              rotate_left
              ·simp only [putAll, Act.put, List.setIfInBounds_toArray, List.set_cons_zero, List.set_cons_succ]
               rfl
              refine one_ (i := 5) (N := some 37) #[I,I,I,I,I,I,O,I,I,I,O,I,O,I,I,O,I,I,O,O] rfl rfl (one_of HT_.out (by kernel_rfl)) (by decide) (fun K hK => ?_)
              refine goes_ Try.func61 (by kernel_rfl) rfl #[.int .i64 a0_1] (by rfl) rfl rfl aa ?_
              with_reducible refine (rec_eight.calls kj3 a0_1 t119 _ A12.out).mono ?_
              rintro e w32 ⟨rfl, hb⟩
              refine ⟨_, rfl, ?_⟩
              replace HO122 := Aside0.mk (Kd.R_below (rk HO122.out) hb)
              replace BK114 := Aside0.mk (blk_below (g := gb114) (o := .cells #[.int .i64 a0_0, .int .i64 a0_1, .string a0_2, .string a0_3, .int .i64 a0_4, .bool a0_5] 25 (0, 0)) (bk BK114.out) hb)
              replace HB := Aside0.mk (below_step bo hb)
              (try clear hb)
              (try clear hb2)
              (try clear hk)
              (try clear hi)
              refine hK.out _ _ ⟨(blk_cell BK114.out 0).trans rfl, (blk_cell BK114.out 1).trans rfl, (blk_cell BK114.out 2).trans rfl, (blk_cell BK114.out 3).trans rfl, (blk_cell BK114.out 4).trans rfl, (blk_cell BK114.out 5).trans rfl⟩ (fun hHeld => ?_)
              clear hK K
              refine norm_ (a' := ?_) ?_ ?_
              rotate_left
              ·show Act.put _ (some 37) _ = _
               simp only [Act.put, List.setIfInBounds_toArray, List.set_cons_zero, List.set_cons_succ, i64_w, i32_w]
               rfl
              refine pz (i := 6) (N := some 38) #[I,I,I,I,I,I,I,I,I,I,O,I,O,I,I,O,I,I,O,O] ?_
              exact norm_ (by first | (simp only [putAll, Act.put, List.setIfInBounds_toArray, List.set_cons_zero, List.set_cons_succ]; done) | (simp only [putAll, Act.put, List.setIfInBounds_toArray, List.set_cons_zero, List.set_cons_succ]; rfl)) (hJ2_5_8_9 (v121) _ ⟨hHeld, (rk HO122.out), (bk BK114.out), bo⟩)
            ·skip
             rintro v121 w31 ⟨hS_, h0_, h1_, h2_⟩
             have n0_ : Aside0 (Kd.R (Kd.int .u8) 5 w31 w.heap.size (fun _ => True) v121 y120) := ⟨h0_⟩
             have n1_ : Aside0 (w31.heap[gb114]? = some (.cells #[.int .i64 a0_0, .int .i64 a0_1, .string a0_2, .string a0_3, .int .i64 a0_4, .bool a0_5] 25 (0, 0))) := ⟨h1_⟩
             have n2_ : Aside0 (Below w.heap.size w w31) := ⟨h2_⟩
             clear BK114
             clear HB
             clear h0_ h1_ h2_
             have HO122 := n0_
             have BK114 := n1_
             have HB := n2_
             clear n0_ n1_ n2_
             have hHeld : w31.cell? ⟨gb114, 0, none⟩ = some (.int .i64 a0_0) ∧ w31.cell? ⟨gb114, 1, none⟩ = some (.int .i64 a0_1) ∧ w31.cell? ⟨gb114, 2, none⟩ = some (.string a0_2) ∧ w31.cell? ⟨gb114, 3, none⟩ = some (.string a0_3) ∧ w31.cell? ⟨gb114, 4, none⟩ = some (.int .i64 a0_4) ∧ w31.cell? ⟨gb114, 5, none⟩ = some (.bool a0_5) := hS_
             refine norm_ (a' := ?_) ?_ ?_
             rotate_left
             ·simp only [putAll, Act.put, List.setIfInBounds_toArray, List.set_cons_zero, List.set_cons_succ]
              rfl
             refine one_ (i := 9) (N := some 41) #[I,I,I,I,I,I,I,I,I,I,O,I,O,I,I,O,I,I,O,O] rfl rfl (one_of HT_.out (by kernel_rfl)) (by decide) (fun K hK => ?_)
             have hcv32 := own_string (P := Try.prog) Try.underlying23 Try.underlying5 Try.underlying9 (Kd.own_of_R HO122.out)
             refine value_ (w1 := ?_) (v := ?_) (by rfl) rfl ?_ ?_
             rotate_left 2
             ·go_simp
              constructor
              ·rfl
              ·rfl
             clear hcv32
             refine hK.out _ _ ⟨(blk_cell BK114.out 0).trans rfl, (blk_cell BK114.out 1).trans rfl, (blk_cell BK114.out 2).trans rfl, (blk_cell BK114.out 3).trans rfl, (blk_cell BK114.out 4).trans rfl, (blk_cell BK114.out 5).trans rfl⟩ (fun hHeld => ?_)
             clear hK K
             refine norm_ (a' := ?_) ?_ ?_
             rotate_left
             ·show Act.put _ (some 41) _ = _
              simp only [Act.put, List.setIfInBounds_toArray, List.set_cons_zero, List.set_cons_succ, i64_w, i32_w]
              rfl
             exact norm_ (by first | (simp only [putAll, Act.put, List.setIfInBounds_toArray, List.set_cons_zero, List.set_cons_succ]; done) | (simp only [putAll, Act.put, List.setIfInBounds_toArray, List.set_cons_zero, List.set_cons_succ]; rfl)) (hJ2_5_8_9 (v121) _ ⟨hHeld, (rk HO122.out), (bk BK114.out), bo⟩)
           rintro v121 w32 ⟨hS_, h0_, h1_, h2_⟩
           have n0_ : Aside0 (Kd.R (Kd.int .u8) 5 w32 w.heap.size (fun _ => True) v121 y120) := ⟨h0_⟩
           have n1_ : Aside0 (w32.heap[gb114]? = some (.cells #[.int .i64 a0_0, .int .i64 a0_1, .string a0_2, .string a0_3, .int .i64 a0_4, .bool a0_5] 25 (0, 0))) := ⟨h1_⟩
           have n2_ : Aside0 (Below w.heap.size w w32) := ⟨h2_⟩
           clear BK114
           clear HB
           clear h0_ h1_ h2_
           have HO122 := n0_
           have BK114 := n1_
           have HB := n2_
           clear n0_ n1_ n2_
           have hHeld : w32.cell? ⟨gb114, 0, none⟩ = some (.int .i64 a0_0) ∧ w32.cell? ⟨gb114, 1, none⟩ = some (.int .i64 a0_1) ∧ w32.cell? ⟨gb114, 2, none⟩ = some (.string a0_2) ∧ w32.cell? ⟨gb114, 3, none⟩ = some (.string a0_3) ∧ w32.cell? ⟨gb114, 4, none⟩ = some (.int .i64 a0_4) ∧ w32.cell? ⟨gb114, 5, none⟩ = some (.bool a0_5) := hS_
           refine norm_ (a' := ?_) ?_ ?_
           rotate_left
           ·simp only [putAll, Act.put, List.setIfInBounds_toArray, List.set_cons_zero, List.set_cons_succ]
            rfl
           refine pz (i := 10) (N := some 42) #[I,I,I,I,I,I,I,I,I,I,I,I,O,I,I,O,I,I,O,O] ?_
           refine pz (i := 12) (N := some 44) #[I,I,I,I,I,I,I,I,I,I,I,I,I,I,I,O,I,I,O,O] ?_
           refine pz (i := 15) (N := some 47) #[I,I,I,I,I,I,I,I,I,I,I,I,I,I,I,I,I,I,O,O] ?_
           refine pz (i := 18) (N := some 50) #[I,I,I,I,I,I,I,I,I,I,I,I,I,I,I,I,I,I,I,O] ?_
           refine pz (i := 19) (N := some 8) #[I,I,I,I,I,I,I,I,I,I,I,I,I,I,I,I,I,I,I,I] ?_
           refine done_ (done_of HT_.out (by kernel_rfl)) ?_
           try go_wp2_with (first | ((with_reducible refine gate_callee (f := 60) rfl ?_); refine goesL_ (some 54) rfl rfl Try.func60 (by kernel_rfl) rfl #[.int .i64 ((((((t118 ++ t119) ++ (strOfNums y120)) ++ t116) ++ a0_2) ++ a0_3).size : Int)] rfl aa ?_; (with_reducible refine (vbi_Two.calls kj3 ((((((t118 ++ t119) ++ (strOfNums y120)) ++ t116) ++ a0_2) ++ a0_3).size : Int) t123 t124 _ A18.out).mono ?_); rintro e w33 ⟨rfl, hb⟩; refine ⟨_, rfl, ?_⟩; replace HO122 := Aside0.mk (Kd.R_below (rk HO122.out) hb); replace BK114 := Aside0.mk (blk_below (g := gb114) (o := .cells #[.int .i64 a0_0, .int .i64 a0_1, .string a0_2, .string a0_3, .int .i64 a0_4, .bool a0_5] 25 (0, 0)) (bk BK114.out) hb); replace HB := Aside0.mk (below_step bo hb); (try clear hb); (try clear hb2); (try clear hk); (try clear hi)) | ((with_reducible refine gate_callee (f := 63) rfl ?_); refine goesL_ (some 59) rfl rfl Try.func63 (by kernel_rfl) rfl #[.int .u32 0, .string t123] rfl aa ?_; (with_reducible refine (sum_Sum.calls kj3 0 t123 t125 _ A19.out).mono ?_); rintro e w' ⟨rfl, ⟨nd, rfl⟩⟩; refine ⟨_, rfl, ?_⟩) | ((with_reducible refine gate_callee (f := 63) rfl ?_); refine goesL_ (some 61) rfl rfl Try.func63 (by kernel_rfl) rfl #[.int .u32 t125, .string (((((t118 ++ t119) ++ (strOfNums y120)) ++ t116) ++ a0_2) ++ a0_3)] rfl aa ?_; (with_reducible refine (sum_Sum.calls kj3 t125 (((((t118 ++ t119) ++ (strOfNums y120)) ++ t116) ++ a0_2) ++ a0_3) t126 _ A20.out).mono ?_); rintro e w' ⟨rfl, ⟨nd, rfl⟩⟩; refine ⟨_, rfl, ?_⟩) | ((with_reducible refine gate_callee (f := 62) rfl ?_); refine goesL_ (some 63) rfl rfl Try.func62 (by kernel_rfl) rfl #[.int .i64 (wrap64 (t126))] rfl aa ?_; (with_reducible refine (vbi_Four.calls kj3 (wrap64 (t126)) t127 t128 _ A21.out).mono ?_); rintro e w34 ⟨rfl, hb⟩; refine ⟨_, rfl, ?_⟩; replace HO122 := Aside0.mk (Kd.R_below (rk HO122.out) hb); replace BK114 := Aside0.mk (blk_below (g := gb114) (o := .cells #[.int .i64 a0_0, .int .i64 a0_1, .string a0_2, .string a0_3, .int .i64 a0_4, .bool a0_5] 25 (0, 0)) (bk BK114.out) hb); replace HB := Aside0.mk (below_step bo hb); (try clear hb); (try clear hb2); (try clear hk); (try clear hi)))
           go_ret2
           exact ⟨er, bo⟩
          ·rw [if_neg c23] at H
           exact absurd H (by simp)
         ·rw [if_neg c22] at H
          exact absurd H (by simp)
        ·rw [if_neg c17] at H
         exact absurd H (by simp)
       ·rw [if_neg c16] at H
        exact absurd H (by simp)
      ·rw [if_neg c15] at H
       exact absurd H (by simp)
     ·rw [if_neg c14] at H
      exact absurd H (by simp)
    ·rw [if_neg c13] at H
     exact absurd H (by simp)
 ·rw [if_neg c3] at H
  have c3b0 : (t115 == 0) = false := beq_eq_false_iff_ne.mpr c3
  have c3b1 : (t115 != 0) = true := bne_iff_ne.mpr c3
  simp only [Option.some.injEq, Prod.mk.injEq] at H
  obtain ⟨rfl, rfl⟩ := H
  go_enter Try.func14, Try.ntmps14
  go_wp2_with (first | ((with_reducible refine gate_dst (N := 1) rfl ?_); refine box_event ?hg (N := 1) ?hd (cs := #[.int .i64 a0_0, .int .i64 a0_1, .string a0_2, .string a0_3, .int .i64 a0_4, .bool a0_5]) (t := 25) ?hr ?_; (case hd => rfl); (case hg => rfl); (case hr => first | (go_simp; done) | (go_simp; rfl)); intro gb114 hg w35 hbox hb; have BK114 := Aside0.mk (hbox); have GW114 := Aside0.mk ((by rw [hg]; exact (below_size bo) : w.heap.size ≤ gb114)); have GE114 := Aside0.mk ((by rw [hg]; exact (below_size bo) : w.heap.size ≤ gb114)); replace HB := Aside0.mk (below_step bo hb); clear hb hbox hg; obtain ⟨hcz36_0, hcz36_1, hcz36_2, hcz36_3, hcz36_4, hcz36_5⟩ := cl6 BK114.out; obtain ⟨hfz36_0, hfz36_1, hfz36_2, hfz36_3, hfz36_4, hfz36_5⟩ := fz6 BK114.out) | ((with_reducible refine gate_callee (f := 22) rfl ?_); refine goesL_ (some 14) rfl rfl Try.func22 (by kernel_rfl) rfl #[.agg #[.int .i64 a0_0, .int .i64 a0_1, .string a0_2, .string a0_3, .int .i64 a0_4, .bool a0_5]] rfl aa ?_; (with_reducible refine (rec_Check.calls k a0_0 a0_1 a0_2 a0_3 a0_4 a0_5 t115 _ A2.out).mono ?_); rintro e w37 ⟨rfl, hb⟩; refine ⟨_, rfl, ?_⟩; replace BK114 := Aside0.mk (blk_below (g := gb114) (o := .cells #[.int .i64 a0_0, .int .i64 a0_1, .string a0_2, .string a0_3, .int .i64 a0_4, .bool a0_5] 25 (0, 0)) (bk BK114.out) hb); replace HB := Aside0.mk (below_step bo hb); (try clear hb); (try clear hb2); (try clear hk); (try clear hi)))
  go_ret2
  exact ⟨er, bo⟩

end Go.Proofs.Ytmabdfdmccbfnaa.P

/- The check sum of bytes as a run over 32 bits: what sum.Sum and the page's Sum compute, and what the run is worth. -/
namespace Go.Proofs.Ytmabdfdmccbfnaa.USum
open Go Go.RowKit Go.Proofs.YtmabdfdmccbfnaaW.PrintWords Go.Proofs.YtmabdfdmccbfnaaW.PrintLast
set_option linter.unusedVariables false
theorem ofI (a : BitVec 32) : BitVec.ofInt (IntKind.bits .u32) (a.toNat : Int) = a := by
  show BitVec.ofInt 32 _ = a
  rw [BitVec.ofInt_natCast, BitVec.ofNat_toNat, BitVec.setWidth_eq]
theorem wrapI (a : BitVec 32) : IntKind.wrap .u32 (a.toNat : Int) = a.toNat := by
  have := a.isLt
  simp [IntKind.wrap, IntKind.bits, IntKind.signed]
  omega
theorem bits_xor (a b : BitVec 32) : Go.bits .xor .u32 (a.toNat : Int) (b.toNat : Int) = ((a ^^^ b).toNat : Int) := by
  unfold Go.bits
  simp only [ofI]
  exact wrapI _
theorem bits_and (a b : BitVec 32) : Go.bits .and .u32 (a.toNat : Int) (b.toNat : Int) = ((a &&& b).toNat : Int) := by
  unfold Go.bits
  simp only [ofI]
  exact wrapI _
theorem half (a : BitVec 32) : (a.toNat : Int) / (2 : Int) = ((a >>> 1).toNat : Int) := by
  rw [BitVec.toNat_ushiftRight, Nat.shiftRight_eq_div_pow]; rfl
theorem low (a : BitVec 32) : a &&& 1#32 = 0#32 ∨ a &&& 1#32 = 1#32 := by
  have : (a &&& 1#32).toNat = a.toNat % 2 := by simp [BitVec.toNat_and, Nat.and_one_is_mod]
  rcases Nat.mod_two_eq_zero_or_one a.toNat with h | h
  · left; apply BitVec.eq_of_toNat_eq; rw [this, h]; rfl
  · right; apply BitVec.eq_of_toNat_eq; rw [this, h]; rfl
def cstep (s : BitVec 32) : BitVec 32 := if s &&& 1#32 = 1#32 then (s >>> 1) ^^^ 2197175160#32 else s >>> 1
theorem pstep (s : BitVec 32) : Go.bits .xor .u32 ((s.toNat : Int) / 2) (Go.bits .and .u32 2197175160 ((-(Go.bits .and .u32 (s.toNat : Int) 1)) % 4294967296)) = ((cstep s).toNat : Int) := by
  have e1 : (1 : Int) = ((1#32 : BitVec 32).toNat : Int) := rfl
  have e2 : (2197175160 : Int) = ((2197175160#32 : BitVec 32).toNat : Int) := rfl
  have hb : Go.bits .and .u32 (s.toNat : Int) 1 = ((s &&& 1#32).toNat : Int) := bits_and s 1#32
  rw [hb, half]
  unfold cstep
  rcases low s with h | h
  · rw [h, if_neg (by decide)]
    have : Go.bits .and .u32 2197175160 ((-(((0#32 : BitVec 32).toNat : Nat) : Int)) % 4294967296) = ((0#32 : BitVec 32).toNat : Int) := bits_and 2197175160#32 0#32
    rw [this, bits_xor]
    simp
  · rw [h, if_pos rfl]
    have : Go.bits .and .u32 2197175160 ((-(((1#32 : BitVec 32).toNat : Nat) : Int)) % 4294967296) = ((2197175160#32 : BitVec 32).toNat : Int) := bits_and 2197175160#32 4294967295#32
    rw [this, bits_xor]
theorem rstep1 (s : BitVec 32) (h : Go.bits .and .u32 (s.toNat : Int) 1 = 1) : Go.bits .xor .u32 ((s.toNat : Int) / 2) 2197175160 = ((cstep s).toNat : Int) := by
  have hb : Go.bits .and .u32 (s.toNat : Int) 1 = ((s &&& 1#32).toNat : Int) := bits_and s 1#32
  rw [hb] at h
  rw [half, show (2197175160 : Int) = ((2197175160#32 : BitVec 32).toNat : Int) from rfl, bits_xor]
  unfold cstep
  rcases low s with h' | h'
  · rw [h'] at h; exact absurd h (by decide)
  · rw [if_pos h']
theorem rstep0 (s : BitVec 32) (h : ¬ Go.bits .and .u32 (s.toNat : Int) 1 = 1) : (s.toNat : Int) / 2 = ((cstep s).toNat : Int) := by
  have hb : Go.bits .and .u32 (s.toNat : Int) 1 = ((s &&& 1#32).toNat : Int) := bits_and s 1#32
  rw [hb] at h
  rw [half]
  unfold cstep
  rcases low s with h' | h'
  · rw [if_neg (by rw [h']; decide)]
  · rw [h'] at h; exact absurd rfl h

theorem wrap_one {x : Int} (h0 : 0 ≤ x) (h1 : x < 9223372036854775807) : wrap64 (x + 1) = x + 1 := by
  unfold wrap64; omega
def bstep (s : BitVec 32) (b : UInt8) : BitVec 32 := cstep (cstep (cstep (cstep (cstep (cstep (cstep (cstep (s ^^^ BitVec.ofNat 32 b.toNat))))))))
def run (s : BitVec 32) (l : List UInt8) : BitVec 32 := l.foldl bstep s
theorem bt_get (s : ByteArray) (i : Nat) (h : i < s.size) : bt s i = ((s.data.toList[i]'(by simpa using h)).toNat : Int) := by
  have := bt_at s i (by simpa using h)
  rw [← this]; simp; rfl
theorem bt_u32 (b : UInt8) : (b.toNat : Int) % 4294967296 = ((BitVec.ofNat 32 b.toNat).toNat : Int) := by
  have := b.toNat_lt
  rw [BitVec.toNat_ofNat]; omega
theorem not_eq (s : BitVec 32) : Go.bits .xor .u32 4294967295 (s.toNat : Int) = ((~~~s).toNat : Int) := by
  rw [show (4294967295 : Int) = ((4294967295#32 : BitVec 32).toNat : Int) from rfl, bits_xor]
  have : (4294967295#32 : BitVec 32) = BitVec.allOnes 32 := by decide
  rw [this, BitVec.allOnes_xor]
section
open Go.Proofs.Ytmabdfdmccbfnaa.P
/-- The eight rounds over a byte. -/
theorem l1_ev (x1 : ByteArray) (n i : Int) (r : Int) (s : BitVec 32)
    (h : Ev (fun k => sum_Sum.l0 k ((cstep (cstep (cstep (cstep (cstep (cstep (cstep (cstep s)))))))).toNat) x1 n (wrap64 (i + 1))) r) :
    Ev (fun k => sum_Sum.l1 k (s.toNat) x1 n i 0) r := by
  have one : ∀ (j : Int) (s : BitVec 32), 0 ≤ j → j < 8 → Ev (fun k => sum_Sum.l1 k ((cstep s).toNat) x1 n i (j + 1)) r → Ev (fun k => sum_Sum.l1 k (s.toNat) x1 n i j) r := by
    intro j s h0 h1 hh
    refine Ev.step (f := fun k => sum_Sum.l1 k ((cstep s).toNat) x1 n i (j + 1)) (fun k => ?_) hh
    simp only [sum_Sum.l1]
    rw [if_pos (by omega), pstep, wrap_one h0 (by omega)]
  refine one 0 _ (by omega) (by omega) (one 1 _ (by omega) (by omega) (one 2 _ (by omega) (by omega) (one 3 _ (by omega) (by omega) (one 4 _ (by omega) (by omega) (one 5 _ (by omega) (by omega) (one 6 _ (by omega) (by omega) (one 7 _ (by omega) (by omega) ?_)))))))
  refine Ev.step (fun k => ?_) h
  simp only [sum_Sum.l1]
  rw [if_neg (by omega)]
theorem l0_ev (x1 : ByteArray) (hx : x1.size ≤ 140737488351232) : ∀ (d i : Nat) (s : BitVec 32), x1.size = i + d →
    Ev (fun k => sum_Sum.l0 k (s.toNat) x1 (x1.size : Int) i) ((~~~ (run s (x1.data.toList.drop i))).toNat : Int)
  | 0, i, s, h => by
    refine Ev.step (f := fun _ => some _) (fun k => ?_) (Ev.now _)
    simp only [sum_Sum.l0]
    rw [if_neg (by omega), not_eq, List.drop_eq_nil_of_le (by simp; omega)]
    rfl
  | d + 1, i, s, h => by
    have hi : i < x1.size := by omega
    have ih := l0_ev x1 hx d (i + 1) (bstep s (x1.data.toList[i]'(by simpa using hi))) (by omega)
    refine Ev.step (f := fun k => sum_Sum.l1 k ((s ^^^ BitVec.ofNat 32 (x1.data.toList[i]'(by simpa using hi)).toNat).toNat) x1 (x1.size : Int) i 0) (fun k => ?_) (l1_ev x1 _ _ _ _ ?_)
    · simp only [sum_Sum.l0]
      rw [if_pos (by omega), if_pos (by omega), if_pos (by omega), bt_get x1 i hi, bt_u32, bits_xor]
    · rw [wrap_one (by omega) (by omega), List.drop_eq_getElem_cons (by simpa using hi)]
      exact ih
theorem sum_ev (s : BitVec 32) (x1 : ByteArray) (hx : x1.size ≤ 140737488351232) : Ev (fun k => sum_Sum.f k (s.toNat) x1) ((~~~ (run (~~~ s) x1.data.toList)).toNat : Int) := by
  unfold sum_Sum.f
  rw [not_eq]
  exact l0_ev x1 hx x1.size 0 (~~~s) (by omega)
/-- The eight rounds over a byte. -/
theorem rl1_ev (x1 : ByteArray) (i : Int) (r : Int) (s : BitVec 32)
    (h : Ev (fun k => fairwayref1_Sum.l0 k ((cstep (cstep (cstep (cstep (cstep (cstep (cstep (cstep s)))))))).toNat) x1 (wrap64 (i + 1))) r) :
    Ev (fun k => fairwayref1_Sum.l1 k (s.toNat) x1 i 0) r := by
  have one : ∀ (j : Int) (s : BitVec 32), 0 ≤ j → j < 8 → Ev (fun k => fairwayref1_Sum.l1 k ((cstep s).toNat) x1 i (j + 1)) r → Ev (fun k => fairwayref1_Sum.l1 k (s.toNat) x1 i j) r := by
    intro j s h0 h1 hh
    refine Ev.step (f := fun k => fairwayref1_Sum.l1 k ((cstep s).toNat) x1 i (j + 1)) (fun k => ?_) hh
    simp only [fairwayref1_Sum.l1]
    by_cases hb : Go.bits .and .u32 (s.toNat : Int) 1 = 1
    · rw [if_pos (by omega), if_pos hb, rstep1 s hb, wrap_one h0 (by omega)]
    · rw [if_pos (by omega), if_neg hb, rstep0 s hb, wrap_one h0 (by omega)]
  refine one 0 _ (by omega) (by omega) (one 1 _ (by omega) (by omega) (one 2 _ (by omega) (by omega) (one 3 _ (by omega) (by omega) (one 4 _ (by omega) (by omega) (one 5 _ (by omega) (by omega) (one 6 _ (by omega) (by omega) (one 7 _ (by omega) (by omega) ?_)))))))
  refine Ev.step (fun k => ?_) h
  simp only [fairwayref1_Sum.l1]
  rw [if_neg (by omega)]
theorem rl0_ev (x1 : ByteArray) (hx : x1.size ≤ 140737488351232) : ∀ (d i : Nat) (s : BitVec 32), x1.size = i + d →
    Ev (fun k => fairwayref1_Sum.l0 k (s.toNat) x1 i) ((~~~ (run s (x1.data.toList.drop i))).toNat : Int)
  | 0, i, s, h => by
    refine Ev.step (f := fun _ => some _) (fun k => ?_) (Ev.now _)
    simp only [fairwayref1_Sum.l0]
    rw [if_neg (by omega), not_eq, List.drop_eq_nil_of_le (by simp; omega)]
    rfl
  | d + 1, i, s, h => by
    have hi : i < x1.size := by omega
    have ih := rl0_ev x1 hx d (i + 1) (bstep s (x1.data.toList[i]'(by simpa using hi))) (by omega)
    refine Ev.step (f := fun k => fairwayref1_Sum.l1 k ((s ^^^ BitVec.ofNat 32 (x1.data.toList[i]'(by simpa using hi)).toNat).toNat) x1 i 0) (fun k => ?_) (rl1_ev x1 _ _ _ ?_)
    · simp only [fairwayref1_Sum.l0]
      rw [if_pos (by omega), if_pos (by omega), bt_get x1 i hi, bt_u32, bits_xor]
    · rw [wrap_one (by omega) (by omega), List.drop_eq_getElem_cons (by simpa using hi)]
      exact ih
theorem sumref_ev (s : BitVec 32) (x1 : ByteArray) (hx : x1.size ≤ 140737488351232) : Ev (fun k => fairwayref1_Sum.f k (s.toNat) x1) ((~~~ (run (~~~ s) x1.data.toList)).toNat : Int) := by
  unfold fairwayref1_Sum.f
  rw [not_eq]
  exact rl0_ev x1 hx x1.size 0 (~~~s) (by omega)
/-- A number of the kind u32 is a word's. -/
theorem of_wf {n : Int} (h : (Lit.int .u32 n).wf = true) : ∃ s : BitVec 32, n = (s.toNat : Int) := by
  simp [Lit.wf, IntKind.min, IntKind.max, IntKind.signed, IntKind.bits] at h
  refine ⟨BitVec.ofNat 32 n.toNat, ?_⟩
  rw [BitVec.toNat_ofNat]
  omega
end
end Go.Proofs.Ytmabdfdmccbfnaa.USum

/- Records as bytes: what the program puts together is what the page says. -/
namespace Go.Proofs.Ytmabdfdmccbfnaa.UBytes
open Go Go.RowKit Go.Proofs.Ytmabdfdmccbfnaa.P Go.Proofs.Ytmabdfdmccbfnaa.URec Go.Proofs.Ytmabdfdmccbfnaa.USum Go.Proofs.YtmabdfdmccbfnaaW.PrintWords Go.Proofs.YtmabdfdmccbfnaaW.PrintLast Go.Proofs.YtmabdfdmccbfnaaW.PrintMore
set_option linter.unusedVariables false
set_option linter.unusedSimpArgs false

/-- A number's bytes, the highest first. -/
def digits (x : Int) : Nat → List Int
  | 0 => []
  | n + 1 => (x / 2 ^ (8 * n)) % 256 :: digits x n
theorem digits_length (x : Int) : ∀ n, (digits x n).length = n
  | 0 => rfl
  | n + 1 => by simp [digits, digits_length x n]
def fixed (x : Int) (n : Nat) : ByteArray := strOfNums (digits x n)
theorem fixed_size (x : Int) (n : Nat) : (fixed x n).size = n := by rw [fixed, strOfNums_size, digits_length]
theorem shr_in (x : Int) (n : Nat) (h : n ≤ 64) : shr .i64 x (n : Int) = x / 2 ^ n := by
  unfold shr
  have : min (n : Int).toNat (IntKind.bits .i64) = n := by
    have : IntKind.bits .i64 = 64 := rfl
    omega
  rw [this]
theorem wrap8 (n : Nat) (h : n ≤ 8) : wrap64 (8 * (n : Int)) = ((8 * n : Nat) : Int) := by rw [wrap_in (by omega) (by omega)]; omega

theorem fixed_loop (x : Int) : ∀ (n : Nat) (acc : List Int), n ≤ 8 → acc.length + n ≤ 100 → Ev (fun k => fairwayref1_Fixed.l0 k x acc ((n : Int) - 1)) (strOfNums (acc ++ digits x n))
  | 0, acc, _, _ => by
    refine Ev.step (f := fun _ => some _) (fun k => ?_) (Ev.now _)
    simp only [fairwayref1_Fixed.l0]
    rw [if_neg (by omega)]
    simp [digits]
  | n + 1, acc, hn, hl => by
    have ih := fixed_loop x n (acc ++ [(x / 2 ^ (8 * n)) % 256]) (by omega) (by simp; omega)
    refine Ev.step (f := fun k => fairwayref1_Fixed.l0 k x (acc ++ [(x / 2 ^ (8 * n)) % 256]) ((n : Int) - 1)) (fun k => ?_) ?_
    · simp only [fairwayref1_Fixed.l0]
      have e : ((n + 1 : Nat) : Int) - 1 = (n : Int) := by omega
      rw [e, if_pos (by omega), wrap8 n (by omega), if_pos (by omega), if_pos (by omega), shr_in x (8 * n) (by omega), wrap_in (by omega) (by omega)]
    · simpa [digits] using ih
theorem fixed_ev (x : Int) (n : Nat) (h : n ≤ 8) : Ev (fun k => fairwayref1_Fixed.f k x n) (fixed x n) := by
  unfold fairwayref1_Fixed.f
  rw [wrap_in (by omega) (by omega)]
  simpa [fixed] using fixed_loop x n [] h (by simp; omega)

theorem set_row (m : Nat) (D : List Int) (v : Int) : ((List.replicate (m + 1) (0 : Int)) ++ D).set m v = List.replicate m 0 ++ (v :: D) := by
  rw [List.replicate_succ', List.append_assoc, List.set_append_right _ _ (by simp)]
  simp
theorem high_loop (x : Int) (wd : Nat) (hw : wd ≤ 8) : ∀ (d i : Nat), wd = i + d → Ev (fun k => vbi_high.l0 k x wd (List.replicate d 0 ++ digits x i) wd i) (fixed x wd, 0)
  | 0, i, h => by
    obtain rfl : wd = i := by omega
    refine Ev.step (f := fun _ => some _) (fun k => ?_) (Ev.now _)
    simp only [vbi_high.l0]
    rw [if_neg (by omega)]
    simp [fixed]
  | d + 1, i, h => by
    have ih := high_loop x wd hw d (i + 1) (by omega)
    refine Ev.step (f := fun k => vbi_high.l0 k x wd (List.replicate d 0 ++ digits x (i + 1)) wd ((i + 1 : Nat) : Int)) (fun k => ?_) ih
    simp only [vbi_high.l0]
    have e : wrap64 (wrap64 ((wd : Int) - 1) - (i : Int)) = ((d : Nat) : Int) := by rw [wrap_in (x := (wd : Int) - 1) (by omega) (by omega), wrap_in (by omega) (by omega)]; omega
    rw [if_pos (by omega), wrap8 i (by omega), if_pos (by omega), e, if_pos (by omega), if_pos (by simp [digits_length]; omega), shr_in x (8 * i) (by omega), wrap_in (by omega) (by omega), Int.toNat_natCast, set_row]
    rfl
theorem high_ev (x : Int) (wd : Nat) (hw : wd ≤ 8) (h0 : 0 ≤ x) (h1 : x / 2 ^ (8 * wd) = 0) : Ev (fun k => vbi_high.f k x wd) (fixed x wd, 0) := by
  have hl := high_loop x wd hw wd 0 (by omega)
  refine Ev.step (f := fun k => vbi_high.l0 k x wd (List.replicate wd 0) (wd : Int) 0) (fun k => ?_) (by simpa [digits] using hl)
  simp only [vbi_high.f, vbi_high.j0]
  rw [if_neg (by omega), wrap8 wd hw, if_pos (by omega), shr_in x (8 * wd) (by omega), h1, if_neg (by decide), if_pos (by omega), if_pos (by omega)]
  simp
theorem two_ev (x : Int) (h0 : 0 ≤ x) (h1 : x < 65536) : Ev (fun k => vbi_Two.f k x) (fixed x 2, 0) :=
  Ev.bind (g := fun k => vbi_high.f k x 2) (f := fun _ b => some (b.1, b.2)) (high_ev x 2 (by omega) h0 (by show x / 65536 = 0; omega)) (Ev.now _)
theorem four_ev (x : Int) (h0 : 0 ≤ x) (h1 : x < 4294967296) : Ev (fun k => vbi_Four.f k x) (fixed x 4, 0) :=
  Ev.bind (g := fun k => vbi_high.f k x 4) (f := fun _ b => some (b.1, b.2)) (high_ev x 4 (by omega) h0 (by show x / 4294967296 = 0; omega)) (Ev.now _)

theorem strOfNums_append (a b : List Int) : strOfNums (a ++ b) = strOfNums a ++ strOfNums b := by
  apply ByteArray.ext
  simp [strOfNums, ByteArray.data_append]
theorem low32 (x : Int) (h0 : 0 ≤ x) (h1 : x < 9223372036854775808) : Go.bits .and .i64 x 4294967295 = x % 4294967296 :=
  bits_mask .i64 63 (by decide) (fun n h0 h1 => by rw [IntKind.wrap_i64]; omega) 32 (by decide) x h0 h1
theorem digits8 (x : Int) (h0 : 0 ≤ x) : digits x 8 = digits (x / 4294967296) 4 ++ digits (x % 4294967296) 4 := by
  simp only [digits, List.cons_append, List.nil_append, List.cons.injEq, and_true]
  refine ⟨?_, ?_, ?_, ?_, ?_, ?_, ?_, ?_⟩ <;> omega
theorem eight_ev (x : Int) (h0 : 0 ≤ x) (h1 : x < 9223372036854775808) : Ev (fun k => rec_eight.f k x) (fixed x 8) := by
  refine Ev.bind (f := fun k b => (vbi_Four.f k (Go.bits .and .i64 x 4294967295)).bind fun c => (if b.1.size + c.1.size ≤ 9223372036854775807 then (some (b.1 ++ c.1)) else none)) (four_ev (x / 4294967296) (by omega) (by omega)) ?_
  rw [low32 x h0 h1]
  refine Ev.bind (f := fun k c => (if (fixed (x / 4294967296) 4).size + c.1.size ≤ 9223372036854775807 then (some ((fixed (x / 4294967296) 4) ++ c.1)) else none)) (four_ev (x % 4294967296) (by omega) (by omega)) ?_
  refine Ev.congr (f := fun _ => some _) (fun k => ?_) (Ev.now _)
  rw [if_pos (by simp [fixed_size])]
  rw [fixed, fixed, fixed, ← strOfNums_append, ← digits8 x h0]

/-- A record's first byte behind its numbers. -/
def flagOf (r : R) : Int := if r.f5 = true then r.f4 + 4 else r.f4
def bodyOf (r : R) : ByteArray := ((((fixed r.f0 8 ++ fixed r.f1 8) ++ strOfNums [flagOf r]) ++ fixed (r.f2.size : Int) 2) ++ r.f2) ++ r.f3
def headOf (r : R) : ByteArray := fixed ((bodyOf r).size : Int) 2
def sumOf (h b : ByteArray) : Int := ((~~~ (run (~~~ (0#32)) (h ++ b).data.toList)).toNat : Int)
/-- A record's bytes, by the page. -/
def recBytes (r : R) : ByteArray := (headOf r ++ fixed (sumOf (headOf r) (bodyOf r)) 4) ++ bodyOf r
theorem bodyOf_size (r : R) : (bodyOf r).size = 19 + r.f2.size + r.f3.size := by
  simp only [bodyOf, ByteArray.size_append, fixed_size, strOfNums_size, List.length_singleton]
theorem recBytes_size (r : R) : (recBytes r).size = recLen r := by
  simp only [recBytes, headOf, ByteArray.size_append, fixed_size, bodyOf_size, recLen]; omega
theorem sumOf_in (h b : ByteArray) : 0 ≤ sumOf h b ∧ sumOf h b < 4294967296 := by
  unfold sumOf
  have := (~~~ (run (~~~ (0#32)) (h ++ b).data.toList)).isLt
  omega

theorem ref_tail (r : R) (hr : recOk r) : Ev (fun k => fairwayref10_Bytes.j0 k (flagOf r) r.f0 r.f1 r.f2 r.f3 r.f4 r.f5) (recBytes r) := by
  obtain ⟨h0, h1, h2, h3, h4, h5, h6, h7, h8⟩ := hr
  have hb := bodyOf_size r
  have hf : 0 ≤ flagOf r ∧ flagOf r ≤ 6 := by unfold flagOf; split <;> omega
  have hs := sumOf_in (headOf r) (bodyOf r)
  have hh : (headOf r).size = 2 := fixed_size _ _
  refine Ev.step (fun k => by rw [fairwayref10_Bytes.j0]) ?_
  refine Ev.bind (fixed_ev r.f0 8 (by omega)) ?_
  refine Ev.bind (fixed_ev r.f1 8 (by omega)) ?_
  refine Ev.congr (fun k => if_pos (by simp [fixed_size])) ?_
  refine Ev.bind (Ev.now _) ?_
  rw [show flagOf r % 256 = flagOf r by omega]
  refine Ev.congr (fun k => if_pos (by simp [fixed_size, strOfNums_size])) ?_
  refine Ev.bind (fixed_ev (r.f2.size : Int) 2 (by omega)) ?_
  refine Ev.congr (fun k => if_pos (by simp [fixed_size, strOfNums_size])) ?_
  refine Ev.congr (fun k => if_pos (by simp [fixed_size, strOfNums_size]; omega)) ?_
  refine Ev.congr (fun k => if_pos (by simp [fixed_size, strOfNums_size]; omega)) ?_
  show Ev (fun k => (fairwayref1_Fixed.f k ((bodyOf r).size : Int) (2 : Nat)).bind fun t224 => (if t224.size + (bodyOf r).size ≤ 9223372036854775807 then ((fairwayref1_Sum.f k 0 (t224 ++ bodyOf r)).bind fun t225 => ((fairwayref1_Fixed.f k (wrap64 (t225)) (4 : Nat)).bind fun t226 => (if t224.size + t226.size ≤ 9223372036854775807 then (if (t224 ++ t226).size + (bodyOf r).size ≤ 9223372036854775807 then (some ((t224 ++ t226) ++ bodyOf r)) else (none)) else (none)))) else (none))) (recBytes r)
  refine Ev.bind (fixed_ev ((bodyOf r).size : Int) 2 (by omega)) ?_
  refine Ev.congr (fun k => if_pos (by rw [fixed_size]; omega)) ?_
  refine Ev.bind (sumref_ev 0#32 (headOf r ++ bodyOf r) (by rw [ByteArray.size_append]; omega)) ?_
  have hw : wrap64 ((~~~ (run (~~~ (0#32)) (headOf r ++ bodyOf r).data.toList)).toNat : Int) = sumOf (headOf r) (bodyOf r) := by
    rw [wrap_in (by have := hs; unfold sumOf at this; omega) (by have := hs; unfold sumOf at this; omega)]; rfl
  rw [hw]
  refine Ev.bind (fixed_ev (sumOf (headOf r) (bodyOf r)) 4 (by omega)) ?_
  refine Ev.congr (fun k => if_pos (by rw [fixed_size, fixed_size]; omega)) ?_
  refine Ev.congr (fun k => if_pos (by rw [ByteArray.size_append, fixed_size, fixed_size]; omega)) ?_
  exact Ev.now _
theorem refbytes_ev (r : R) (hr : recOk r) : Ev (fun k => fairwayref10_Bytes.f k r.f0 r.f1 r.f2 r.f3 r.f4 r.f5) (recBytes r) := by
  have ht := ref_tail r hr
  obtain ⟨h0, h1, h2, h3, h4, h5, h6, h7, h8⟩ := hr
  refine Ev.congr (fun k => ?_) ht
  unfold fairwayref10_Bytes.f flagOf
  split
  · rw [wrap_in (by omega) (by omega)]
  · rfl

theorem run_append (s : BitVec 32) (a b : List UInt8) : run s (a ++ b) = run (run s a) b := by simp [run]
theorem flag_u8 (r : R) (hr : recOk r) : (if r.f5 = true then Go.bits .or .u8 (r.f4 % 256) 4 else r.f4 % 256) = flagOf r := by
  obtain ⟨h0, h1, h2, h3, h4, h5, h6, h7, h8⟩ := hr
  have : r.f4 = 0 ∨ r.f4 = 1 ∨ r.f4 = 2 := by omega
  unfold flagOf
  rcases this with h | h | h <;> rw [h] <;> split <;> first | rfl | decide
theorem prog_tail (r : R) (hr : recOk r) : Ev (fun k => rec_Bytes.j0 k (flagOf r) r.f0 r.f1 r.f2 r.f3 r.f4 r.f5) (recBytes r, 0) := by
  obtain ⟨h0, h1, h2, h3, h4, h5, h6, h7, h8⟩ := hr
  have hb := bodyOf_size r
  have hs := sumOf_in (headOf r) (bodyOf r)
  have hh : (headOf r).size = 2 := fixed_size _ _
  refine Ev.step (fun k => by rw [rec_Bytes.j0]) ?_
  refine Ev.bind (two_ev (r.f2.size : Int) (by omega) (by omega)) ?_
  refine Ev.bind (eight_ev r.f0 (by omega) (by omega)) ?_
  refine Ev.bind (eight_ev r.f1 (by omega) (by omega)) ?_
  refine Ev.congr (fun k => if_pos (by simp [fixed_size])) ?_
  refine Ev.bind (Ev.now _) ?_
  refine Ev.congr (fun k => if_pos (by simp [fixed_size, strOfNums_size])) ?_
  refine Ev.congr (fun k => if_pos (by simp [fixed_size, strOfNums_size])) ?_
  refine Ev.congr (fun k => if_pos (by simp [fixed_size, strOfNums_size]; omega)) ?_
  refine Ev.congr (fun k => if_pos (by simp [fixed_size, strOfNums_size]; omega)) ?_
  show Ev (fun k => (vbi_Two.f k ((bodyOf r).size : Int)).bind fun b => ((sum_Sum.f k 0 b.1).bind fun t => ((sum_Sum.f k t (bodyOf r)).bind fun t2 => ((vbi_Four.f k (wrap64 t2)).bind fun c => (if b.1.size + c.1.size ≤ 9223372036854775807 then (if (b.1 ++ c.1).size + (bodyOf r).size ≤ 9223372036854775807 then (some ((b.1 ++ c.1) ++ bodyOf r, (0 : Int))) else none) else none))))) (recBytes r, 0)
  refine Ev.bind (two_ev ((bodyOf r).size : Int) (by omega) (by omega)) ?_
  refine Ev.bind (sum_ev 0#32 (headOf r) (by omega)) ?_
  refine Ev.bind (sum_ev (~~~ (run (~~~ (0#32)) (headOf r).data.toList)) (bodyOf r) (by omega)) ?_
  have hw : wrap64 ((~~~ (run (~~~ ~~~ (run (~~~ (0#32)) (headOf r).data.toList)) (bodyOf r).data.toList)).toNat : Int) = sumOf (headOf r) (bodyOf r) := by
    rw [BitVec.not_not, ← run_append]
    have e : (headOf r).data.toList ++ (bodyOf r).data.toList = (headOf r ++ bodyOf r).data.toList := by simp [ByteArray.data_append]
    rw [e]
    rw [wrap_in (by have := hs; unfold sumOf at this; omega) (by have := hs; unfold sumOf at this; omega)]; rfl
  rw [hw]
  refine Ev.bind (four_ev (sumOf (headOf r) (bodyOf r)) hs.1 hs.2) ?_
  refine Ev.congr (fun k => if_pos (by rw [fixed_size, fixed_size]; omega)) ?_
  refine Ev.congr (fun k => if_pos (by rw [ByteArray.size_append, fixed_size, fixed_size]; omega)) ?_
  exact Ev.now _
theorem bytes_yes (r : R) (hr : recOk r) : Ev (fun k => rec_Bytes.f k r.f0 r.f1 r.f2 r.f3 r.f4 r.f5) (recBytes r, 0) := by
  refine Ev.bind (check_yes r hr) (Ev.congr (fun k => if_pos rfl) ?_)
  have ht := prog_tail r hr
  rw [← flag_u8 r hr] at ht
  refine Ev.congr (fun k => ?_) ht
  split <;> rfl
theorem bytes_no (r : R) (hr : ¬ recOk r) : Ev (fun k => rec_Bytes.f k r.f0 r.f1 r.f2 r.f3 r.f4 r.f5) (⟨#[]⟩, 1) :=
  Ev.bind (check_no r hr) (Ev.congr (fun k => if_neg (by decide)) (Ev.now _))
end Go.Proofs.Ytmabdfdmccbfnaa.UBytes

-- written by a program of the proving session, out of the translation; Lean checks it
namespace Go.Proofs.Ytmabdfdmccbfnaa.P
open Go.RowKit Go.Proofs.Ytmabdfdmccbfnaa.Sq Go.Proofs.YtmabdfdmccbfnaaW.PrintWords Go.Proofs.YtmabdfdmccbfnaaW.PrintLast Go.Proofs.YtmabdfdmccbfnaaW.PrintMore
attribute [local go_sem] max2_int min2_int max_two min_two max_three min_three max_four min_four   -- for this text's walks alone
set_option linter.unusedVariables false
set_option linter.unusedSimpArgs false

/-! ### fairwaylaw0_Recs: function 28 -/
def fairwaylaw0_Recs.l0 : Nat → List (S25) → Int → Option (Unit)
 | 0, _, _ => none
 | k + 1, x0, x2 => if x2 < (x0.length : Int) then (if 0 ≤ x2 then (fairwaylaw0_Recs.l0 k (x0.set (x2 : Int).toNat (⟨(-9), 0, (⟨#[]⟩ : ByteArray), (⟨#[]⟩ : ByteArray), 0, false⟩ : S25)) (wrap64 (x2 + 1))) else (none)) else (if x0.length < 2199023255552 then (some ()) else (none))
def fairwaylaw0_Recs.f (k : Nat) (l0 : List (S25)) : Option (Unit) := fairwaylaw0_Recs.l0 k l0 0
theorem fairwaylaw0_Recs.mono_l : ∀ k, (∀ y0 y1, LeO (fairwaylaw0_Recs.l0 k y0 y1) (fairwaylaw0_Recs.l0 (k + 1) y0 y1))
 | 0 => fun _ _ r h => by simp [fairwaylaw0_Recs.l0] at h
 | k + 1 => by
  have ih0 := fairwaylaw0_Recs.mono_l k
  ·intro y0 y1
   unfold fairwaylaw0_Recs.l0
   repeat' first
   | (with_reducible exact ih0 _ _)
   | (with_reducible exact LeO.refl _)
   | (with_reducible exact LeO.none _)
   | (with_reducible refine LeO.ite ?_ ?_)
   | (with_reducible refine LeO.bind ?_ (fun _ => ?_))
   | exact ih0 _ _
   | exact LeO.none _
   | refine LeO.ite ?_ ?_
   | refine LeO.bind ?_ (fun _ => ?_)
theorem fairwaylaw0_Recs.mono : ∀ a0 k, LeO (fairwaylaw0_Recs.f k a0) (fairwaylaw0_Recs.f (k + 1) a0) := by
 intro a0 k
 have ih0 := fairwaylaw0_Recs.mono_l k
 unfold fairwaylaw0_Recs.f
 repeat' first
  | (with_reducible exact ih0 _ _)
  | (with_reducible exact LeO.refl _)
  | (with_reducible exact LeO.none _)
  | (with_reducible refine LeO.ite ?_ ?_)
  | (with_reducible refine LeO.bind ?_ (fun _ => ?_))
  | exact ih0 _ _
  | exact LeO.none _
  | refine LeO.ite ?_ ?_
  | refine LeO.bind ?_ (fun _ => ?_)
set_option maxHeartbeats 8000000 in
set_option maxRecDepth 100000 in
theorem fairwaylaw0_Recs.calls (k : Nat) (P0_ : Nat → Prop) (u9000_ : Value) (l0 : List (S25)) (w0 w : World) (hB : Below w0.heap.size w0 w) (ho0 : Kd.R k25 25 w w0.heap.size P0_ u9000_ l0) (h : fairwaylaw0_Recs.f k l0 = some ()) :
 Calls Try.prog 28 #[u9000_] w fun e w' => e = .returned (.tuple #[]) ∧ Below w0.heap.size w0 w' ∧ Kept w w' (fun k_ => P0_ k_) := by
 have hu25 := Try.underlying25
 have HO0 := Aside0.mk (show Kd.R k25 25 w w0.heap.size (fun k_ => (P0_ k_ ∨ w.heap.size ≤ k_)) u9000_ l0 from Kd.R_mono ho0 (fun k_ hk => (.inl hk)))
 have HK := Aside0.mk (Kept.refl w (fun k_ => P0_ k_))
 have HW0 := Aside0.mk hB.size
 have HB := Aside0.mk hB
 clear hB
 have H : (fairwaylaw0_Recs.l0 k l0 0) = some () := h
 clear h
 have H' := Aside0.mk H
 clear H
 go_enter Try.func28, Try.ntmps28
 go_wp2
 go_loopg [2] k (fun kq v2 w' => ∃ (x0_1 : List (S25)) (x2_1 : Int), v2 = .int .i64 x2_1 ∧ Aside0 (fairwaylaw0_Recs.l0 kq x0_1 x2_1 = some ()) ∧ Aside0 (kq ≤ k) ∧ Aside0 (Kd.R k25 25 w' w0.heap.size (fun k_ => (P0_ k_ ∨ w.heap.size ≤ k_)) u9000_ x0_1) ∧ Aside0 (Kept w w' (fun k_ => P0_ k_)) ∧ Aside0 (Below w0.heap.size w0 w'))
 case atStart => exact ⟨(l0), (0), ap, H', ⟨Nat.le_refl _⟩, ⟨by (with_reducible repeat (first | apply Kd.R_alloc | apply Kd.R_drewN | apply Kd.R_drew)); exact HO0.out⟩, ⟨by repeat (first | (with_reducible first | exact HK.out | apply Kept.alloc | apply Kept.drewN | apply Kept.drew) | exact HK.out)⟩, ⟨bo⟩⟩
 case round =>
  clear H'
  obtain ⟨x0_1, x2_1, rfl, HA, HK1, HO_0, HK, HB⟩ := hrel
  cases gk with
  | zero => exact absurd HA.out (by simp [fairwaylaw0_Recs.l0])
  | succ k1 =>
   have H := HA.out
   clear HA
   simp only [fairwaylaw0_Recs.l0] at H
   by_cases c2 : x2_1 < (x0_1.length : Int)
   ·rw [if_pos c2] at H
    have c2b0 : decide (x2_1 < (x0_1.length : Int)) = true := decide_eq_true c2
    clear c2
    by_cases c3 : 0 ≤ x2_1
    ·rw [if_pos c3] at H
     have c3b0 : decide (0 ≤ x2_1) = true := decide_eq_true c3
     clear c3
     obtain ⟨y291, hy291⟩ : ∃ y_ : List (S25), y_ = (x0_1.set (x2_1 : Int).toNat (⟨(-9), 0, (⟨#[]⟩ : ByteArray), (⟨#[]⟩ : ByteArray), 0, false⟩ : S25)) := ⟨_, rfl⟩
     replace H : (fairwaylaw0_Recs.l0 k1 y291 (wrap64 (x2_1 + 1))) = some () := by first | (rw [hy291]; with_reducible exact H) | (have H2_ := (Option.bind_some _ _).symm.trans H; rw [hy291]; with_reducible exact H2_) | (have H2_ := (Option.bind_some _ _).symm.trans H; with_reducible exact H2_) | with_reducible exact H | (rw [hy291]; exact H) | exact H
     have Ny291 := Aside0.mk hy291
     clear hy291
     have H' := Aside0.mk H
     clear H
     obtain ⟨Ao5, co5, eo5⟩ := Kd.R_slice HO_0.out
     subst eo5
     have p4 : 0 ≤ (x2_1 : Int) := od
     have q4 : (x2_1 : Int) < ((x0_1.length : Int) : Int) := od
     obtain ⟨go4, co4, eo4, gb4, gl4, cl4, HG4⟩ := Kd.R_form HO_0.out (by omega)
     (first | cases eo4 | (injection eo4 with ea_ en_ ec_; (first | subst ea_ | (injection ea_ with ea_; subst ea_)); subst ec_; clear en_))
     have GB4 := Aside0.mk gb4
     have GG4 := Aside0.mk HG4
     clear gb4 gl4 HG4
     have HMgo4 := Aside0.mk (show (P0_ go4 ∨ w.heap.size ≤ go4) from (HO_0.out.1 _ rfl))
     obtain ⟨ce4, hcl4, hM4, hcc4, hfr4⟩ := Kd.R_elem HO_0.out z25 (x2_1 : Int) p4 q4
     obtain rfl := k25_openM hM4
     have hx4_0 : wr.cell? ⟨go4, (x2_1 : Int).toNat * 6, none⟩ = some (.int .i64 ((rd_T25 x0_1 x2_1).f0)) := hcc4 0 _ rfl
     have hx4_1 : wr.cell? ⟨go4, (x2_1 : Int).toNat * 6 + 1, none⟩ = some (.int .i64 ((rd_T25 x0_1 x2_1).f1)) := hcc4 1 _ rfl
     have hx4_2 : wr.cell? ⟨go4, (x2_1 : Int).toNat * 6 + 2, none⟩ = some (.string ((rd_T25 x0_1 x2_1).f2)) := hcc4 2 _ rfl
     have hx4_3 : wr.cell? ⟨go4, (x2_1 : Int).toNat * 6 + 3, none⟩ = some (.string ((rd_T25 x0_1 x2_1).f3)) := hcc4 3 _ rfl
     have hx4_4 : wr.cell? ⟨go4, (x2_1 : Int).toNat * 6 + 4, none⟩ = some (.int .i64 ((rd_T25 x0_1 x2_1).f4)) := hcc4 4 _ rfl
     have hx4_5 : wr.cell? ⟨go4, (x2_1 : Int).toNat * 6 + 5, none⟩ = some (.bool ((rd_T25 x0_1 x2_1).f5)) := hcc4 5 _ rfl
     have hf4_0 : wr.frozen? ⟨go4, (x2_1 : Int).toNat * 6, none⟩ = false := hfr4 0
     have hf4_1 : wr.frozen? ⟨go4, (x2_1 : Int).toNat * 6 + 1, none⟩ = false := hfr4 1
     have hf4_2 : wr.frozen? ⟨go4, (x2_1 : Int).toNat * 6 + 2, none⟩ = false := hfr4 2
     have hf4_3 : wr.frozen? ⟨go4, (x2_1 : Int).toNat * 6 + 3, none⟩ = false := hfr4 3
     have hf4_4 : wr.frozen? ⟨go4, (x2_1 : Int).toNat * 6 + 4, none⟩ = false := hfr4 4
     have hf4_5 : wr.frozen? ⟨go4, (x2_1 : Int).toNat * 6 + 5, none⟩ = false := hfr4 5
     clear hcl4 hcc4 hfr4 hM4
     replace p4 := eq_true p4
     replace q4 := eq_true q4
     have HX6 := Aside0.mk (show Kd.R k25 25 wr w0.heap.size (fun k_ => (P0_ k_ ∨ w.heap.size ≤ k_)) (.slice (some ⟨go4, 0, none⟩) x0_1.length co5) x0_1 from (rk HO_0.out))
     obtain ⟨ce6, hcl6, hM6, hcc6, hfr6⟩ := Kd.R_elem HX6.out z25 (x2_1 : Int) (od) (by have h_ : (x2_1 : Int) < ((x0_1.length : Int) : Int) := od; first | exact h_ | (have e_ := (Kd.R_reads' HO_0.out).1; omega) | simpa using h_)
     obtain rfl := k25_openM hM6
     have HP6 := Kd.R_seg HX6.out (x2_1 : Int) (od) (by have h_ : (x2_1 : Int) < ((x0_1.length : Int) : Int) := od; first | exact h_ | (have e_ := (Kd.R_reads' HO_0.out).1; omega) | simpa using h_) (seg := [.int .i64 (-9), .int .i64 0, .string (⟨#[]⟩ : ByteArray), .string (⟨#[]⟩ : ByteArray), .int .i64 0, .bool false]) (j := 0) hcl6 hcc6 (show 6 ≤ 6 from by decide) (x' := (⟨(-9), 0, (⟨#[]⟩ : ByteArray), (⟨#[]⟩ : ByteArray), 0, false⟩ : S25)) (k25_mkM _ _ _ (⟨(-9), 0, (⟨#[]⟩ : ByteArray), (⟨#[]⟩ : ByteArray), 0, false⟩ : S25) ) (fun _ hk => hk)
     have hx6_0 := hcc6 0 _ rfl
     (try simp only [show (k25).sz = 6 from rfl, Nat.mul_one, Nat.add_zero] at hx6_0)
     have hf6_0 := hfr6 0
     (try simp only [show (k25).sz = 6 from rfl, Nat.mul_one, Nat.add_zero] at hf6_0)
     have hx6_1 := hcc6 1 _ rfl
     (try simp only [show (k25).sz = 6 from rfl, Nat.mul_one, Nat.add_zero] at hx6_1)
     have hf6_1 := hfr6 1
     (try simp only [show (k25).sz = 6 from rfl, Nat.mul_one, Nat.add_zero] at hf6_1)
     have hx6_2 := hcc6 2 _ rfl
     (try simp only [show (k25).sz = 6 from rfl, Nat.mul_one, Nat.add_zero] at hx6_2)
     have hf6_2 := hfr6 2
     (try simp only [show (k25).sz = 6 from rfl, Nat.mul_one, Nat.add_zero] at hf6_2)
     have hx6_3 := hcc6 3 _ rfl
     (try simp only [show (k25).sz = 6 from rfl, Nat.mul_one, Nat.add_zero] at hx6_3)
     have hf6_3 := hfr6 3
     (try simp only [show (k25).sz = 6 from rfl, Nat.mul_one, Nat.add_zero] at hf6_3)
     have hx6_4 := hcc6 4 _ rfl
     (try simp only [show (k25).sz = 6 from rfl, Nat.mul_one, Nat.add_zero] at hx6_4)
     have hf6_4 := hfr6 4
     (try simp only [show (k25).sz = 6 from rfl, Nat.mul_one, Nat.add_zero] at hf6_4)
     have hx6_5 := hcc6 5 _ rfl
     (try simp only [show (k25).sz = 6 from rfl, Nat.mul_one, Nat.add_zero] at hx6_5)
     have hf6_5 := hfr6 5
     (try simp only [show (k25).sz = 6 from rfl, Nat.mul_one, Nat.add_zero] at hf6_5)
     clear hcl6 hcc6 hfr6 hM6
     go_wp2_with (first | ((with_reducible refine gate_store (t := 25) (p := 12) rfl ?_); refine store_event (t := 25) (p := 12) (v := ?vo_w7) (w1 := ((((((wr.setCell ⟨go4, (x2_1 : Int).toNat * 6, none⟩ (.int .i64 (-9))).setCell ⟨go4, (x2_1 : Int).toNat * 6 + 1, none⟩ (.int .i64 0)).setCell ⟨go4, (x2_1 : Int).toNat * 6 + 2, none⟩ (.string (⟨#[]⟩ : ByteArray))).setCell ⟨go4, (x2_1 : Int).toNat * 6 + 3, none⟩ (.string (⟨#[]⟩ : ByteArray))).setCell ⟨go4, (x2_1 : Int).toNat * 6 + 4, none⟩ (.int .i64 0)).setCell ⟨go4, (x2_1 : Int).toNat * 6 + 5, none⟩ (.bool false))) ?hg ?ho ?hn ?hr ?_; (case ho => rfl); (case hg => rfl); (case hn => rfl); (case hr => first | (go_simp; done) | (go_simp; rfl)); intro w7 hw; have hg : wr.grownBy w7 (some go4) := (by rw [hw]; exact HP6.2); have hp_ : Kd.R k25 25 w7 w0.heap.size (fun k_ => (P0_ k_ ∨ w.heap.size ≤ k_)) (.slice (some ⟨go4, 0, none⟩) x0_1.length co5) y291 := (by rw [hw, Ny291.out]; exact HP6.1); clear HP6; replace HB := Aside0.mk ((by rw [hw]; exact below_set (below_set (below_set (below_set (below_set (below_set (HB.out) GB4.out) GB4.out) GB4.out) GB4.out) GB4.out) GB4.out : Below w0.heap.size w0 w7)); replace HK := Aside0.mk (Kept.of_grown (S := (fun k_ => P0_ k_)) hg (by repeat (first | (with_reducible first | exact HK.out | apply Kept.alloc | apply Kept.drewN | apply Kept.drew) | exact HK.out)) (fun k_ e_ => (HO_0.out.1 k_ e_))); replace HO_0 := Aside0.mk (hp_); clear hg hw hp_))
     go_roundg k1
     case measure => have := HK1.out; omega
     case rel => exact ⟨(y291), (wrap64 (x2_1 + 1)), ap, H', ⟨by have := HK1.out; omega⟩, ⟨by (with_reducible repeat (first | apply Kd.R_alloc | apply Kd.R_drewN | apply Kd.R_drew)); exact HO_0.out⟩, ⟨by repeat (first | (with_reducible first | exact HK.out | apply Kept.alloc | apply Kept.drewN | apply Kept.drew) | exact HK.out)⟩, ⟨bo⟩⟩
    ·rw [if_neg c3] at H
     exact absurd H (by simp)
   ·rw [if_neg c2] at H
    have c2b0 : decide (x2_1 < (x0_1.length : Int)) = false := decide_eq_false c2
    clear c2
    by_cases c8 : x0_1.length < 2199023255552
    ·rw [if_pos c8] at H
     have LMc8 := Aside0.mk c8
     clear c8
     obtain ⟨y292, hy292⟩ : ∃ y_ : List (S25), y_ = (x0_1 ++ [(⟨0, 0, (⟨#[]⟩ : ByteArray), (⟨#[]⟩ : ByteArray), 0, false⟩ : S25)]) := ⟨_, rfl⟩
     replace H : (some ()) = some () := by first | (rw [hy292]; with_reducible exact H) | (have H2_ := (Option.bind_some _ _).symm.trans H; rw [hy292]; with_reducible exact H2_) | (have H2_ := (Option.bind_some _ _).symm.trans H; with_reducible exact H2_) | with_reducible exact H | (rw [hy292]; exact H) | exact H
     have Ny292 := Aside0.mk hy292
     clear hy292
     obtain ⟨Ao9, co9, eo9⟩ := Kd.R_slice HO_0.out
     subst eo9
     go_wp2_with (first | ((with_reducible refine gate_builtin (b := .append) (xs := #[.tmp 13, .tmp 15]) rfl ?_); at_builtin; refine Kd.R_append k25 (w0 := w0) w0.heap.size rfl (.tmp 13) (.tmp 15) 36 25 (.agg #[(.int .i64 0), (.int .i64 0), (.string ⟨#[]⟩), (.string ⟨#[]⟩), (.int .i64 0), (.bool false)]) 64 rfl Try.underlying36 info25 rfl (by decide) (by omega) (.slice Ao9 x0_1.length co9) x0_1 (⟨0, 0, (⟨#[]⟩ : ByteArray), (⟨#[]⟩ : ByteArray), 0, false⟩ : S25) [.int .i64 0, .int .i64 0, .string (⟨#[]⟩ : ByteArray), .string (⟨#[]⟩ : ByteArray), .int .i64 0, .bool false] (fun k_ => (P0_ k_ ∨ w.heap.size ≤ k_)) (fun _ => False) rfl rfl ?aP (fun _ hk => hk.elim) ?aF ?aO ?aB ?aS ?aL ?_; (case aP => exact k25_mkM _ _ _ (⟨0, 0, (⟨#[]⟩ : ByteArray), (⟨#[]⟩ : ByteArray), 0, false⟩ : S25)); (case aB => exact bo); (case aF => exact (fun k_ hk => (.inr (Nat.le_trans (by first | exact HK.out.1 | exact (show Kept w _ (fun k_ => P0_ k_) from by repeat (first | (with_reducible first | exact HK.out | apply Kept.alloc | apply Kept.drewN | apply Kept.drew) | exact HK.out)).1) hk)))); (case aO => exact (rk HO_0.out)); (case aS => exact (below_size bo)); (case aL => have := LMc8.out; omega); intro v293 w10 ho hb hg hat; rw [← Ny292.out] at ho; have n0_ := Aside0.mk (hb); have n1_ := Aside0.mk (Kept.of_grown (S := (fun k_ => P0_ k_)) hg (by repeat (first | (with_reducible first | exact HK.out | apply Kept.alloc | apply Kept.drewN | apply Kept.drew) | exact HK.out)) (fun k_ e_ => (HO_0.out.1 k_ e_))); have n2_ := Aside0.mk (ho); clear HB; clear HK; clear HO_0; have HB := n0_; have HK := n1_; have HO294 := n2_; clear n0_ n1_ n2_; clear ho hb hg hat))
     first | go_end0 | ((try simp only [Exit.inBlock, Exit.then]); refine bodyPost_ret (results_none rfl _ _ _) rfl ?_)
     exact ⟨er, bo, by repeat (first | (with_reducible first | exact HK.out | apply Kept.alloc | apply Kept.drewN | apply Kept.drew) | exact HK.out)⟩
    ·rw [if_neg c8] at H
     exact absurd H (by simp)

end Go.Proofs.Ytmabdfdmccbfnaa.P

/- Numbers read back out of bytes. -/
namespace Go.Proofs.Ytmabdfdmccbfnaa.UTake
open Go Go.RowKit Go.Proofs.Ytmabdfdmccbfnaa.P Go.Proofs.Ytmabdfdmccbfnaa.URec Go.Proofs.Ytmabdfdmccbfnaa.UBytes Go.Proofs.YtmabdfdmccbfnaaW.PrintWords Go.Proofs.YtmabdfdmccbfnaaW.PrintLast
set_option linter.unusedVariables false
set_option linter.unusedSimpArgs false

/-- The number of the first so many bytes. -/
def V (s : ByteArray) : Nat → Nat
  | 0 => 0
  | n + 1 => V s n * 256 + (bt s n).toNat
theorem bt_lt (s : ByteArray) (i : Int) : (bt s i).toNat < 256 ∧ ((bt s i).toNat : Int) = bt s i := by
  have := bt_range s i; omega
theorem V_lt (s : ByteArray) : ∀ n, V s n < 256 ^ n
  | 0 => by simp [V]
  | n + 1 => by
    have h := V_lt s n
    have hb := (bt_lt s n).1
    simp only [V, Nat.pow_succ]
    have : V s n + 1 ≤ 256 ^ n := h
    have h2 := Nat.mul_le_mul_right 256 this
    omega
theorem wrap_of_nat (n : Nat) (h : n < 18446744073709551616) : IntKind.i64.wrap (n : Int) = wrap64 (n : Int) := by rw [IntKind.wrap_i64]; unfold wrap64; rfl
theorem or_byte (x b : Nat) (hx : x < 2 ^ 56) (hb : b < 256) : Go.bits .or .i64 (wrap64 ((x : Int) * 256)) (wrap64 (b : Int)) = wrap64 ((x * 256 + b : Nat) : Int) := by
  have e1 : BitVec.ofInt (IntKind.bits .i64) (wrap64 ((x : Int) * 256)) = BitVec.ofNat 64 (x * 256) := by
    show BitVec.ofInt 64 _ = _
    apply BitVec.eq_of_toNat_eq
    rw [BitVec.toNat_ofInt, BitVec.toNat_ofNat]
    unfold wrap64
    omega
  have e2 : BitVec.ofInt (IntKind.bits .i64) (wrap64 (b : Int)) = BitVec.ofNat 64 b := by
    show BitVec.ofInt 64 _ = _
    apply BitVec.eq_of_toNat_eq
    rw [BitVec.toNat_ofInt, BitVec.toNat_ofNat]
    unfold wrap64
    omega
  unfold Go.bits
  simp only [e1, e2]
  have e3 : (BitVec.ofNat 64 (x * 256) ||| BitVec.ofNat 64 b).toNat = x * 256 + b := by
    rw [BitVec.toNat_or, BitVec.toNat_ofNat, BitVec.toNat_ofNat, Nat.mod_eq_of_lt (by omega), Nat.mod_eq_of_lt (by omega)]
    have := Nat.shiftLeft_add_eq_or_of_lt (i := 8) (b := b) (by omega) x
    rw [Nat.shiftLeft_eq] at this
    exact this.symm
  show IntKind.i64.wrap ((BitVec.ofNat 64 (x * 256) ||| BitVec.ofNat 64 b).toNat : Int) = _
  rw [e3]
  exact wrap_of_nat _ (by omega)
theorem pow_small : ∀ n, n ≤ 7 → (256 : Nat) ^ n ≤ 2 ^ 56 := by
  intro n h
  calc (256 : Nat) ^ n ≤ 256 ^ 7 := Nat.pow_le_pow_right (by omega) h
    _ = 2 ^ 56 := by decide

theorem taken_loop (s : ByteArray) (n : Nat) (hn : n ≤ 8) (hs : n ≤ s.size) : ∀ (d i : Nat), n = i + d →
    Ev (fun k => vbi_taken.l0 k s (wrap64 (V s i : Nat)) n i) (wrap64 (V s n : Nat), 0) ∧ Ev (fun k => fairwayref1_TakeFixed.l0 k s n (wrap64 (V s i : Nat)) i) (wrap64 (V s n : Nat), true)
  | 0, i, h => by
    obtain rfl : n = i := by omega
    refine ⟨Ev.step (f := fun _ => some _) (fun k => ?_) (Ev.now _), Ev.step (f := fun _ => some _) (fun k => ?_) (Ev.now _)⟩
    · simp only [vbi_taken.l0]; rw [if_neg (by omega)]
    · simp only [fairwayref1_TakeFixed.l0]; rw [if_neg (by omega)]
  | d + 1, i, h => by
    obtain ⟨h1, h2⟩ := taken_loop s n hn hs d (i + 1) (by omega)
    have hv := V_lt s i
    have hp := pow_small i (by omega)
    have e : Go.bits .or .i64 (wrap64 (wrap64 ((V s i : Nat) : Int) * 256)) (wrap64 (bt s i)) = wrap64 ((V s (i + 1) : Nat) : Int) := by
      rw [wrap_in (x := ((V s i : Nat) : Int)) (by omega) (by omega), ← (bt_lt s i).2]
      exact or_byte _ _ (by omega) (bt_lt s i).1
    refine ⟨Ev.step (fun k => ?_) h1, Ev.step (fun k => ?_) h2⟩
    · simp only [vbi_taken.l0]; rw [if_pos (by omega), if_pos (by omega), if_pos (by omega), e, wrap_in (x := (i : Int) + 1) (by omega) (by omega)]; rfl
    · simp only [fairwayref1_TakeFixed.l0]; rw [if_pos (by omega), if_pos (by omega), if_pos (by omega), e, wrap_in (x := (i : Int) + 1) (by omega) (by omega)]; rfl
theorem wrap_zero : wrap64 ((0 : Nat) : Int) = 0 := wrap_in (by decide) (by decide)
theorem taken_ev (s : ByteArray) (n : Nat) (hn : n ≤ 8) (hs : n ≤ s.size) : Ev (fun k => vbi_taken.f k s n) (wrap64 (V s n : Nat), 0) := by
  have h := (taken_loop s n hn hs n 0 (by omega)).1
  unfold vbi_taken.f
  refine Ev.congr (fun k => if_neg (by omega)) ?_
  rw [show V s 0 = 0 from rfl, wrap_zero] at h
  exact h
theorem taken_cut (s : ByteArray) (n : Nat) (hs : s.size < n) : Ev (fun k => vbi_taken.f k s n) (0, 7) := by
  unfold vbi_taken.f
  exact Ev.congr (fun k => if_pos (by omega)) (Ev.now _)
theorem takefixed_ev (s : ByteArray) (n : Nat) (hn : n ≤ 8) (hs : n ≤ s.size) : Ev (fun k => fairwayref1_TakeFixed.f k s n) (wrap64 (V s n : Nat), true) := by
  have h := (taken_loop s n hn hs n 0 (by omega)).2
  unfold fairwayref1_TakeFixed.f
  refine Ev.congr (fun k => if_neg (by omega)) ?_
  rw [show V s 0 = 0 from rfl, wrap_zero] at h
  exact h
theorem takefixed_cut (s : ByteArray) (n : Nat) (hs : s.size < n) : Ev (fun k => fairwayref1_TakeFixed.f k s n) (0, false) := by
  unfold fairwayref1_TakeFixed.f
  exact Ev.congr (fun k => if_pos (by omega)) (Ev.now _)
theorem two_in (s : ByteArray) : wrap64 (V s 2 : Nat) = (V s 2 : Nat) ∧ V s 2 < 65536 := by
  have := V_lt s 2
  exact ⟨wrap_in (by omega) (by omega), by omega⟩
theorem four_in (s : ByteArray) : wrap64 (V s 4 : Nat) = (V s 4 : Nat) ∧ V s 4 < 4294967296 := by
  have := V_lt s 4
  exact ⟨wrap_in (by omega) (by omega), by omega⟩
theorem taketwo_ev (s : ByteArray) (hs : 2 ≤ s.size) : Ev (fun k => vbi_TakeTwo.f k s) ((V s 2 : Nat), 0) := by
  have h := taken_ev s 2 (by omega) hs
  rw [(two_in s).1] at h
  exact Ev.bind (g := fun k => vbi_taken.f k s 2) (f := fun _ b => some (b.1, b.2)) h (Ev.now _)
theorem taketwo_cut (s : ByteArray) (hs : s.size < 2) : Ev (fun k => vbi_TakeTwo.f k s) (0, 7) :=
  Ev.bind (g := fun k => vbi_taken.f k s 2) (f := fun _ b => some (b.1, b.2)) (taken_cut s 2 hs) (Ev.now _)
theorem takefour_ev (s : ByteArray) (hs : 4 ≤ s.size) : Ev (fun k => vbi_TakeFour.f k s) ((V s 4 : Nat), 0) := by
  have h := taken_ev s 4 (by omega) hs
  rw [(four_in s).1] at h
  exact Ev.bind (g := fun k => vbi_taken.f k s 4) (f := fun _ b => some (b.1, b.2)) h (Ev.now _)
end Go.Proofs.Ytmabdfdmccbfnaa.UTake

/- What any bytes begin with: the program's reading of a record and the page's are the same. -/
namespace Go.Proofs.Ytmabdfdmccbfnaa.UTk
open Go Go.RowKit Go.Proofs.Ytmabdfdmccbfnaa.P Go.Proofs.Ytmabdfdmccbfnaa.Sq Go.Proofs.Ytmabdfdmccbfnaa.URec Go.Proofs.Ytmabdfdmccbfnaa.UBytes Go.Proofs.Ytmabdfdmccbfnaa.USum Go.Proofs.Ytmabdfdmccbfnaa.UTake Go.Proofs.YtmabdfdmccbfnaaW.PrintWords Go.Proofs.YtmabdfdmccbfnaaW.PrintLast
set_option linter.unusedVariables false
set_option linter.unusedSimpArgs false

theorem bt_ext (s : ByteArray) (a b i : Nat) (hb : b ≤ s.size) (h : a + i < b) : bt (s.extract a b) i = bt s ((a + i : Nat) : Int) := by
  have hx : i < (s.extract a b).size := by rw [ByteArray.size_extract]; omega
  rw [bt_get _ i hx, bt_get s (a + i) (by omega)]
  congr 2
  simp only [ByteArray.data_extract, Array.toList_extract, List.extract_eq_take_drop]
  rw [List.getElem_take, List.getElem_drop]
theorem V_add (s : ByteArray) (a : Nat) : ∀ n, a + n ≤ s.size → V s (a + n) = V s a * 256 ^ n + V (s.extract a s.size) n
  | 0, _ => by simp [V]
  | n + 1, h => by
    have ih := V_add s a n (by omega)
    have hb := bt_ext s a s.size n (Nat.le_refl _) (by omega)
    show V s (a + n) * 256 + (bt s ((a + n : Nat) : Int)).toNat = V s a * 256 ^ (n + 1) + (V (s.extract a s.size) n * 256 + (bt (s.extract a s.size) (n : Nat)).toNat)
    rw [ih, hb, Nat.pow_succ, Nat.add_mul, Nat.mul_assoc, Nat.add_assoc]
theorem V_one (s : ByteArray) : V s 1 = (bt s 0).toNat := by
  show 0 * 256 + (bt s ((0 : Nat) : Int)).toNat = (bt s 0).toNat
  rw [Nat.zero_mul, Nat.zero_add]; rfl
attribute [local irreducible] bt V ByteArray.extract Go.bits
theorem V_high (s : ByteArray) (h : 8 ≤ s.size) : (bt s 0 ≤ 127 → V s 8 < 9223372036854775808) ∧ (127 < bt s 0 → 9223372036854775808 ≤ V s 8) ∧ V s 8 < 18446744073709551616 := by
  have e := V_add s 1 7 (by omega)
  have e1 : V s 1 = (bt s 0).toNat := by
    rw [V_one]
  have l := V_lt (s.extract 1 s.size) 7
  have l2 := V_lt s 8
  have b0 := bt_lt s 0
  rw [e1] at e
  have hp : (256 : Nat) ^ 7 = 72057594037927936 := by rfl
  have hp8 : (256 : Nat) ^ 8 = 18446744073709551616 := by rfl
  rw [hp] at e l
  rw [hp8] at l2
  simp only [show 1 + 7 = 8 from rfl] at e
  refine ⟨fun g => ?_, fun g => ?_, l2⟩ <;> omega
theorem number_ev (s : ByteArray) (h : 8 ≤ s.size) (h0 : bt s 0 ≤ 127) : Ev (fun k => rec_number.f k s) (wrap64 (V s 8 : Nat)) := by
  have hV := (V_high s h).1 h0
  have e := V_add s 4 4 (by omega)
  have hp : (256 : Nat) ^ 4 = 4294967296 := by rfl
  simp only [show 4 + 4 = 8 from rfl, hp] at e
  have l1 := V_lt s 4
  have l2 := V_lt (s.extract 4 s.size) 4
  rw [hp] at l1 l2
  have hsz : (s.extract 4 s.size).size = s.size - 4 := by rw [ByteArray.size_extract]; omega
  refine Ev.bind (takefour_ev s (by omega)) (Ev.congr (fun k => if_pos (by omega)) (Ev.bind (takefour_ev _ (by omega)) (Ev.congr (f := fun _ => some (wrap64 (V s 8 : Nat))) (fun k => ?_) (Ev.now _))))
  rw [wrap_in (x := ((V s 4 : Nat) : Int) * 4294967296) (by omega) (by omega), wrap_in (x := ((V s 8 : Nat) : Int)) (by omega) (by omega)]
  congr 1
  rw [bits_join .i64 63 (by decide) (fun n h0 h1 => by rw [IntKind.wrap_i64]; omega) 32 (((V s 4 : Nat) : Int) * 4294967296) ((V (s.extract 4 s.size) 4 : Nat) : Int) (by omega) (by omega) (by omega) (by omega) (by omega) (by omega)]
  omega

/-! ### a body -/
def keyLen (b : ByteArray) : Nat := V (b.extract 17 b.size) 2
def rcOf (b : ByteArray) : R := ⟨wrap64 (V b 8 : Nat), wrap64 (V (b.extract 8 b.size) 8 : Nat), b.extract 19 (19 + keyLen b), b.extract (19 + keyLen b) b.size, bt b 16 % 4, decide (bt b 16 ≥ 4)⟩
theorem rd0 (b : ByteArray) : (rcOf b).f0 = wrap64 (V b 8 : Nat) := by simp only [rcOf]
theorem rd1 (b : ByteArray) : (rcOf b).f1 = wrap64 (V (b.extract 8 b.size) 8 : Nat) := by simp only [rcOf]
theorem rd2 (b : ByteArray) : (rcOf b).f2 = b.extract 19 (19 + keyLen b) := by simp only [rcOf]
theorem rd3 (b : ByteArray) : (rcOf b).f3 = b.extract (19 + keyLen b) b.size := by simp only [rcOf]
theorem rd4 (b : ByteArray) : (rcOf b).f4 = bt b 16 % 4 := by simp only [rcOf]
theorem rd5 (b : ByteArray) : (rcOf b).f5 = decide (bt b 16 ≥ 4) := by simp only [rcOf]
theorem keyLen_lt (b : ByteArray) : keyLen b < 65536 := (two_in _).2
theorem keyLen_ev (b : ByteArray) (h : 2 ≤ (b.extract 17 b.size).size) : Ev (fun k => vbi_TakeTwo.f k (b.extract 17 b.size)) (((keyLen b : Nat) : Int), 0) := taketwo_ev _ h
attribute [local irreducible] keyLen rcOf
def good (b : ByteArray) : Prop := 19 ≤ b.size ∧ bt b 16 ≤ 7 ∧ keyLen b ≤ b.size - 19 ∧ recOk (rcOf b)
theorem and34 : ∀ n : Nat, n < 8 → Go.bits .and .u8 (n : Int) 3 = (n : Int) % 4 ∧ decide (Go.bits .and .u8 (n : Int) 4 > 0) = decide ((n : Int) ≥ 4) := by decide +kernel
theorem bits16 (b : ByteArray) (h : bt b 16 ≤ 7) : wrap64 (Go.bits .and .u8 (bt b 16) 3) = bt b 16 % 4 ∧ decide (Go.bits .and .u8 (bt b 16) 4 > 0) = decide (bt b 16 ≥ 4) := by
  have hb := bt_lt b 16
  obtain ⟨h1, h2⟩ := and34 (bt b 16).toNat (by omega)
  rw [hb.2] at h1 h2
  rw [h1, wrap_in (by omega) (by omega)]
  exact ⟨rfl, h2⟩
theorem ext8 (b : ByteArray) (h : 19 ≤ b.size) : (b.extract 8 b.size).size = b.size - 8 ∧ bt (b.extract 8 b.size) 0 = bt b 8 :=
  ⟨by rw [ByteArray.size_extract]; omega, bt_ext b 8 b.size 0 (Nat.le_refl _) (by omega)⟩
theorem zeros_ev (b : ByteArray) (n : Int) : Ev (fun k => rec_read.j0 k b n true 0 0 ⟨#[]⟩ ⟨#[]⟩ 0 false) (0, 0, ⟨#[]⟩, ⟨#[]⟩, 0, false, false) := by
  refine Ev.step (f := fun _ => some _) (fun k => ?_) (Ev.now _)
  simp only [rec_read.j0]; rw [if_pos trivial]
/-- What is done behind the key's length. -/
def rest (k : Nat) (b : ByteArray) (n : Int) : Option (Int × Int × ByteArray × ByteArray × Int × Bool × Bool) :=
  if (bt b 16) > 7 then (rec_read.j0 k b n true 0 0 (⟨#[]⟩ : ByteArray) (⟨#[]⟩ : ByteArray) 0 false) else (if n > (wrap64 ((b.size : Int) - 19)) then (rec_read.j0 k b n true 0 0 (⟨#[]⟩ : ByteArray) (⟨#[]⟩ : ByteArray) 0 false) else (if 0 < (b.size : Int) then (if (bt b 0) > 127 then (rec_read.j0 k b n true 0 0 (⟨#[]⟩ : ByteArray) (⟨#[]⟩ : ByteArray) 0 false) else (if 8 < (b.size : Int) then (rec_read.j0 k b n (decide ((bt b 8) > 127)) 0 0 (⟨#[]⟩ : ByteArray) (⟨#[]⟩ : ByteArray) 0 false) else (none))) else (none)))
theorem open_ev (b : ByteArray) (h : 19 ≤ b.size) {r} (hr : Ev (fun k => rest k b ((keyLen b : Nat) : Int)) r) : Ev (fun k => rec_read.f k b) r := by
  have hx17 : (b.extract 17 b.size).size = b.size - 17 := by rw [ByteArray.size_extract]; omega
  have t1 : Ev (fun k => vbi_TakeTwo.f k (b.extract 17 b.size)) (((keyLen b : Nat) : Int), 0) := keyLen_ev b (by omega)
  have e1 : ¬ (b.size : Int) < 19 := by omega
  have e2 : 17 ≤ (b.size : Int) := by omega
  have e3 : 16 < (b.size : Int) := by omega
  unfold rec_read.f
  refine Ev.congr (fun k => by rw [if_neg e1, if_pos e2]) (Ev.bind t1 (Ev.congr (fun k => if_pos e3) ?_))
  unfold rest at hr
  exact hr
theorem arith (n kl : Nat) (h : 19 ≤ n) (hs : n ≤ 140737488351232) (d2 : kl ≤ n - 19) (hk : kl < 65536) : wrap64 ((n : Int) - 19) = ((n - 19 : Nat) : Int) ∧ wrap64 (19 + (kl : Int)) = ((19 + kl : Nat) : Int) ∧ ¬ (kl : Int) > ((n - 19 : Nat) : Int) ∧ 0 < (n : Int) ∧ 8 < (n : Int) ∧ 8 ≤ (n : Int) ∧
    19 ≤ ((19 + kl : Nat) : Int) ∧ ((19 + kl : Nat) : Int) ≤ (n : Int) ∧ 0 ≤ ((19 + kl : Nat) : Int) ∧ 16 < (n : Int) ∧ 8 ≤ n ∧ 8 ≤ n - 8 := by
  refine ⟨?_, ?_, by omega, by omega, by omega, by omega, by omega, by omega, by omega, by omega, by omega, by omega⟩
  · rw [wrap_in (by omega) (by omega)]; omega
  · rw [wrap_in (by omega) (by omega)]; omega
theorem rest_main (b : ByteArray) (h : 19 ≤ b.size) (hs : b.size ≤ 140737488351232) (d1 : bt b 16 ≤ 7) (d2 : keyLen b ≤ b.size - 19) (d3 : bt b 0 ≤ 127) (d4 : bt b 8 ≤ 127) {t : Int}
    (ht : Ev (fun k => rec_Check.f k (rcOf b).f0 (rcOf b).f1 (rcOf b).f2 (rcOf b).f3 (rcOf b).f4 (rcOf b).f5) t) :
    Ev (fun k => rest k b ((keyLen b : Nat) : Int)) ((rcOf b).f0, (rcOf b).f1, (rcOf b).f2, (rcOf b).f3, (rcOf b).f4, (rcOf b).f5, (t == 0)) := by
  obtain ⟨hx8, hx80⟩ := ext8 b h
  obtain ⟨w1, w2, e2, e3, e5, e7, e8, e9, e10, e11, q1, q2⟩ := arith b.size (keyLen b) h hs d2 (keyLen_lt b)
  have n1 := number_ev b q1 d3
  have n2 := number_ev (b.extract 8 b.size) (by rw [hx8]; exact q2) (by rw [hx80]; exact d4)
  obtain ⟨b1, b2⟩ := bits16 b d1
  rw [rd0, rd1, rd2, rd3, rd4, rd5] at ht
  rw [rd0, rd1, rd2, rd3, rd4, rd5]
  have e1 : ¬ bt b 16 > 7 := Int.not_lt.2 d1
  have e4 : ¬ bt b 0 > 127 := Int.not_lt.2 d3
  have e6 : decide (bt b 8 > 127) = false := decide_eq_false (Int.not_lt.2 d4)
  refine Ev.congr (f := fun k => rec_read.j0 k b ((keyLen b : Nat) : Int) false 0 0 (⟨#[]⟩ : ByteArray) (⟨#[]⟩ : ByteArray) 0 false) (fun k => ?_) ?_
  · unfold rest
    rw [w1, if_neg e1, if_neg e2, if_pos e3, if_neg e4, if_pos e5, e6]
  refine Ev.step (fun k => by rw [rec_read.j0, if_neg (by decide)]) ?_
  refine Ev.bind n1 (Ev.congr (fun k => if_pos e7) (Ev.bind n2 ?_))
  refine Ev.congr (fun k => by rw [w2, if_pos e8, if_pos e9, if_pos e10, if_pos e11, Int.toNat_natCast, b1, b2]) ?_
  exact Ev.bind ht (Ev.now _)
theorem high_neg (s : ByteArray) (h : 8 ≤ s.size) (hb : 127 < bt s 0) : wrap64 (V s 8 : Nat) < 0 := by
  obtain ⟨a1, a2, a3⟩ := V_high s h
  have a4 := a2 hb
  generalize V s 8 = v at *
  unfold wrap64; omega
theorem read_yes (b : ByteArray) (hs : b.size ≤ 140737488351232) (h : good b) : Ev (fun k => rec_read.f k b) ((rcOf b).f0, (rcOf b).f1, (rcOf b).f2, (rcOf b).f3, (rcOf b).f4, (rcOf b).f5, true) := by
  obtain ⟨h1, h2, h3, h4⟩ := h
  obtain ⟨hx8, hx80⟩ := ext8 b h1
  refine open_ev b h1 (rest_main b h1 hs h2 h3 ?_ ?_ (check_yes _ h4))
  · by_cases d : bt b 0 ≤ 127
    · exact d
    · have := high_neg b (by omega) (by omega)
      have h0 := h4.1
      rw [rd0] at h0
      omega
  · by_cases d : bt b 8 ≤ 127
    · exact d
    · have := high_neg (b.extract 8 b.size) (by omega) (by rw [hx80]; omega)
      have h0 := h4.2.2.1
      rw [rd1] at h0
      omega
theorem read_no (b : ByteArray) (hs : b.size ≤ 140737488351232) (h : ¬ good b) : ∃ x : R, Ev (fun k => rec_read.f k b) (x.f0, x.f1, x.f2, x.f3, x.f4, x.f5, false) := by
  by_cases c1 : b.size < 19
  · refine ⟨⟨0, 0, ⟨#[]⟩, ⟨#[]⟩, 0, false⟩, ?_⟩
    unfold rec_read.f
    exact Ev.congr (fun k => if_pos (by omega)) (Ev.now _)
  have h1 : 19 ≤ b.size := by omega
  have e3 : 0 < (b.size : Int) := by omega
  have e5 : 8 < (b.size : Int) := by omega
  by_cases d1 : bt b 16 > 7
  · exact ⟨⟨0, 0, ⟨#[]⟩, ⟨#[]⟩, 0, false⟩, open_ev b h1 (Ev.congr (fun k => if_pos d1) (zeros_ev _ _))⟩
  by_cases d2 : ((keyLen b : Nat) : Int) > wrap64 ((b.size : Int) - 19)
  · exact ⟨⟨0, 0, ⟨#[]⟩, ⟨#[]⟩, 0, false⟩, open_ev b h1 (Ev.congr (fun k => by unfold rest; rw [if_neg d1, if_pos d2]) (zeros_ev _ _))⟩
  by_cases d3 : bt b 0 > 127
  · exact ⟨⟨0, 0, ⟨#[]⟩, ⟨#[]⟩, 0, false⟩, open_ev b h1 (Ev.congr (fun k => by unfold rest; rw [if_neg d1, if_neg d2, if_pos e3, if_pos d3]) (zeros_ev _ _))⟩
  by_cases d4 : bt b 8 > 127
  · exact ⟨⟨0, 0, ⟨#[]⟩, ⟨#[]⟩, 0, false⟩, open_ev b h1 (Ev.congr (fun k => by unfold rest; rw [if_neg d1, if_neg d2, if_pos e3, if_neg d3, if_pos e5, decide_eq_true d4]) (zeros_ev _ _))⟩
  have hkl : keyLen b ≤ b.size - 19 := by rw [wrap_in (by omega) (by omega)] at d2; omega
  have hr : ¬ recOk (rcOf b) := fun g => h ⟨h1, by omega, hkl, g⟩
  exact ⟨rcOf b, open_ev b h1 (rest_main b h1 hs (by omega) hkl (by omega) (by omega) (check_no _ hr))⟩

/-! ### the record at the front -/
def bodyAt (s : ByteArray) : ByteArray := s.extract 6 (6 + V s 2)
def sumAt (s : ByteArray) : Nat := V (s.extract 2 s.size) 4
theorem sumAt_lt (s : ByteArray) : sumAt s < 4294967296 := (four_in _).2
theorem sumAt_ev (s : ByteArray) (h : 4 ≤ (s.extract 2 s.size).size) : Ev (fun k => vbi_TakeFour.f k (s.extract 2 s.size)) (((sumAt s : Nat) : Int), 0) := takefour_ev _ h
theorem sumAt_ev2 (s : ByteArray) (h : 4 ≤ (s.extract 2 s.size).size) : Ev (fun k => fairwayref1_TakeFixed.f k (s.extract 2 s.size) 4) (((sumAt s : Nat) : Int), true) := by
  have := takefixed_ev (s.extract 2 s.size) 4 (by decide) h
  rw [(four_in _).1] at this
  exact this
theorem len_ev2 (s : ByteArray) (h : 2 ≤ s.size) : Ev (fun k => fairwayref1_TakeFixed.f k s 2) (((V s 2 : Nat) : Int), true) := by
  have := takefixed_ev s 2 (by decide) h
  rw [(two_in _).1] at this
  exact this
theorem bodyAt_eq (s : ByteArray) : s.extract 6 (((6 + V s 2 : Nat) : Int)).toNat = bodyAt s := by rw [Int.toNat_natCast]; rfl
theorem bodyAt_size (s : ByteArray) (h : 6 ≤ s.size) (hv : V s 2 ≤ s.size - 6) : (bodyAt s).size = V s 2 := by
  unfold bodyAt
  rw [ByteArray.size_extract]
  generalize V s 2 = v at *
  generalize s.size = n at *
  omega
theorem V2_lt (s : ByteArray) : V s 2 < 65536 := (two_in s).2
theorem ext_size (s : ByteArray) (a : Nat) (h : a ≤ s.size) : (s.extract a s.size).size = s.size - a := by rw [ByteArray.size_extract]; generalize s.size = n at *; omega
theorem ext_size0 (s : ByteArray) (h : 2 ≤ s.size) : (s.extract 0 2).size = 2 := by rw [ByteArray.size_extract]; generalize s.size = n at *; omega
attribute [local irreducible] bodyAt sumAt sumOf
def takeOk (s : ByteArray) : Prop := good (bodyAt s) ∧ sumOf (s.extract 0 2) (bodyAt s) = (sumAt s : Int)
theorem arith6 (n v : Nat) (h : 6 ≤ n) (hs : n ≤ 140737488351232) (hv : v ≤ n - 6) (hk : v < 65536) : wrap64 ((n : Int) - 6) = ((n - 6 : Nat) : Int) ∧ ¬ (n : Int) < 6 ∧ ¬ ((n - 6 : Nat) : Int) < (v : Int) ∧ 2 ≤ (n : Int) ∧ wrap64 (6 + (v : Int)) = ((6 + v : Nat) : Int) ∧
    6 ≤ ((6 + v : Nat) : Int) ∧ ((6 + v : Nat) : Int) ≤ (n : Int) ∧ 2 ≤ n ∧ 4 ≤ n - 2 ∧ v ≤ 140737488351232 ∧ 2 + v ≤ 9223372036854775807 ∧ 2 + v ≤ 140737488351232 := by
  refine ⟨?_, by omega, by omega, by omega, ?_, by omega, by omega, by omega, by omega, by omega, by omega, by omega⟩
  · rw [wrap_in (by omega) (by omega)]; omega
  · rw [wrap_in (by omega) (by omega)]; omega
theorem arith6' (n v : Nat) (h : 6 ≤ n) (hs : n ≤ 140737488351232) (hv : n - 6 < v) : ¬ (n : Int) < 6 ∧ wrap64 ((n : Int) - 6) < (v : Int) ∧ 2 ≤ n := by
  refine ⟨by omega, ?_, by omega⟩
  rw [wrap_in (by omega) (by omega)]; omega
theorem tj0_true (s : ByteArray) (n : Int) : Ev (fun k => rec_Take.j0 k s n true 0 0 ⟨#[]⟩ ⟨#[]⟩ 0 false) (0, 0, ⟨#[]⟩, ⟨#[]⟩, 0, false, 0, 7) := by
  refine Ev.step (f := fun _ => some _) (fun k => ?_) (Ev.now _)
  rw [rec_Take.j0, if_pos rfl]
theorem take_cut (s : ByteArray) (hs : s.size ≤ 140737488351232) (h : s.size < 6 ∨ s.size - 6 < V s 2) :
    Ev (fun k => rec_Take.f k s) (0, 0, ⟨#[]⟩, ⟨#[]⟩, 0, false, 0, 7) ∧ Ev (fun k => fairwayref10_Take.f k s) (0, 0, ⟨#[]⟩, ⟨#[]⟩, 0, false, 0, 7) := by
  by_cases h6 : s.size < 6
  · have e1 : (s.size : Int) < 6 := by generalize s.size = n at *; omega
    refine ⟨?_, ?_⟩
    · by_cases h2 : s.size < 2
      · exact Ev.bind (taketwo_cut s h2) (Ev.congr (fun k => if_pos e1) (tj0_true _ _))
      · exact Ev.bind (taketwo_ev s (Nat.le_of_not_lt h2)) (Ev.congr (fun k => if_pos e1) (tj0_true _ _))
    · unfold fairwayref10_Take.f
      exact Ev.congr (fun k => if_pos e1) (Ev.now _)
  · have hv := h.resolve_left h6
    obtain ⟨e1, e2, e3⟩ := arith6' s.size (V s 2) (Nat.le_of_not_lt h6) hs hv
    refine ⟨?_, ?_⟩
    · exact Ev.bind (taketwo_ev s e3) (Ev.congr (fun k => by rw [if_neg e1, decide_eq_true e2]) (tj0_true _ _))
    · unfold fairwayref10_Take.f
      exact Ev.congr (fun k => if_neg e1) (Ev.bind (len_ev2 s e3) (Ev.congr (fun k => if_pos e2) (Ev.now _)))

theorem sum_both (h b : ByteArray) (hh : h.size ≤ 140737488351232) (hb : b.size ≤ 140737488351232) : ∃ t : Int, Ev (fun k => sum_Sum.f k 0 h) t ∧ Ev (fun k => sum_Sum.f k t b) (sumOf h b) := by
  refine ⟨_, sum_ev 0#32 h hh, ?_⟩
  have := sum_ev (~~~ (run (~~~ (0#32)) h.data.toList)) b hb
  rw [BitVec.not_not, ← run_append] at this
  have e : h.data.toList ++ b.data.toList = (h ++ b).data.toList := by simp [ByteArray.data_append]
  rw [e] at this
  unfold sumOf
  exact this
theorem sum_ref (h b : ByteArray) (hh : h.size + b.size ≤ 140737488351232) : Ev (fun k => fairwayref1_Sum.f k 0 (h ++ b)) (sumOf h b) := by
  have := sumref_ev 0#32 (h ++ b) (by rw [ByteArray.size_append]; exact hh)
  unfold sumOf
  exact this
theorem take_prog (s : ByteArray) (hs : s.size ≤ 140737488351232) (h6 : 6 ≤ s.size) (hv : V s 2 ≤ s.size - 6) :
    (takeOk s → Ev (fun k => rec_Take.f k s) ((rcOf (bodyAt s)).f0, (rcOf (bodyAt s)).f1, (rcOf (bodyAt s)).f2, (rcOf (bodyAt s)).f3, (rcOf (bodyAt s)).f4, (rcOf (bodyAt s)).f5, ((6 + V s 2 : Nat) : Int), 0)) ∧
    (¬ takeOk s → Ev (fun k => rec_Take.f k s) (0, 0, ⟨#[]⟩, ⟨#[]⟩, 0, false, 0, 8)) := by
  obtain ⟨w1, e1, e2, e3, w2, e4, e5, e6, e7, e8, e9, e10⟩ := arith6 s.size (V s 2) h6 hs hv (V2_lt s)
  have hbs := bodyAt_size s h6 hv
  have hb : (bodyAt s).size ≤ 140737488351232 := by rw [hbs]; exact e8
  have hx2 := ext_size s 2 e6
  have hh := ext_size0 s e6
  obtain ⟨t, t1, t2⟩ := sum_both (s.extract 0 2) (bodyAt s) (by rw [hh]; decide) hb
  have hin := sumOf_in (s.extract 0 2) (bodyAt s)
  have ws : wrap64 (sumOf (s.extract 0 2) (bodyAt s)) = sumOf (s.extract 0 2) (bodyAt s) := by
    generalize sumOf (s.extract 0 2) (bodyAt s) = z at hin
    exact wrap_in (by omega) (by omega)
  have start : ∀ {r}, Ev (fun k => (rec_read.f k (bodyAt s)).bind fun bt148 => (if bt148.2.2.2.2.2.2 = true then (if 0 ≤ 2 then ((sum_Sum.f k 0 (s.extract 0 2)).bind fun t155 => ((sum_Sum.f k t155 (bodyAt s)).bind fun t156 => (if (wrap64 (t156)) = (sumAt s : Int) then (some (bt148.1, bt148.2.1, bt148.2.2.1, bt148.2.2.2.1, bt148.2.2.2.2.1, bt148.2.2.2.2.2.1, ((6 + V s 2 : Nat) : Int), 0)) else (some (0, 0, (⟨#[]⟩ : ByteArray), (⟨#[]⟩ : ByteArray), 0, false, 0, 8))))) else (none)) else (some (0, 0, (⟨#[]⟩ : ByteArray), (⟨#[]⟩ : ByteArray), 0, false, 0, 8)))) r → Ev (fun k => rec_Take.f k s) r := by
    intro r hr
    refine Ev.bind (taketwo_ev s e6) (Ev.congr (fun k => by rw [if_neg e1, w1, decide_eq_false e2]) ?_)
    refine Ev.step (fun k => by rw [rec_Take.j0, if_neg (by decide), if_pos e3]) ?_
    refine Ev.bind (sumAt_ev s (by rw [hx2]; exact e7)) ?_
    refine Ev.congr (fun k => by rw [w2, if_pos e4, if_pos e5, bodyAt_eq]) ?_
    exact hr
  have c0 : (0 : Int) ≤ 2 := by decide
  refine ⟨fun hk => start ?_, fun hk => ?_⟩
  · refine Ev.bind (read_yes _ hb hk.1) (Ev.congr (fun k => by rw [if_pos rfl, if_pos (by decide)]) (Ev.bind t1 (Ev.bind t2 (Ev.congr (fun k => if_pos ?_) (Ev.now _)))))
    rw [ws]; exact hk.2
  · by_cases hg : good (bodyAt s)
    · refine start (Ev.bind (read_yes _ hb hg) (Ev.congr (fun k => by rw [if_pos rfl, if_pos (by decide)]) (Ev.bind t1 (Ev.bind t2 (Ev.congr (fun k => if_neg ?_) (Ev.now _))))))
      rw [ws]; exact fun g => hk ⟨hg, g⟩
    · obtain ⟨x, hx⟩ := read_no _ hb hg
      exact start (Ev.bind hx (Ev.congr (fun k => if_neg Bool.false_ne_true) (Ev.now _)))

theorem rj0_true (n : Int) (b : ByteArray) : Ev (fun k => fairwayref10_Take.j0 k n b true 0 0 ⟨#[]⟩ ⟨#[]⟩ 0 false) (0, 0, ⟨#[]⟩, ⟨#[]⟩, 0, false, 0, 8) := by
  refine Ev.step (f := fun _ => some _) (fun k => ?_) (Ev.now _)
  rw [fairwayref10_Take.j0, if_pos rfl]
theorem rj1_true (n : Int) (b : ByteArray) (f y : Int) (p q : Int) : Ev (fun k => fairwayref10_Take.j1 k n b f y true 0 0 ⟨#[]⟩ ⟨#[]⟩ 0 false p q ⟨#[]⟩ ⟨#[]⟩ 0 false) (0, 0, ⟨#[]⟩, ⟨#[]⟩, 0, false, 0, 8) := by
  refine Ev.step (f := fun _ => some _) (fun k => ?_) (Ev.now _)
  rw [fairwayref10_Take.j1, if_pos rfl]
theorem fix8_ev (b : ByteArray) (h : 8 ≤ b.size) : Ev (fun k => fairwayref1_TakeFixed.f k b 8) (wrap64 (V b 8 : Nat), true) := takefixed_ev b 8 (by decide) h
theorem key_ev2 (b : ByteArray) (h : 2 ≤ (b.extract 17 b.size).size) : Ev (fun k => fairwayref1_TakeFixed.f k (b.extract 17 b.size) 2) (((keyLen b : Nat) : Int), true) := by
  unfold keyLen
  exact len_ev2 _ h
theorem bt16 (b : ByteArray) : wrap64 (bt b 16) = bt b 16 ∧ Int.tmod (bt b 16) 4 = bt b 16 % 4 := by
  obtain ⟨h1, h2⟩ := bt_range b 16
  generalize bt b 16 = z at *
  exact ⟨wrap_in (by omega) (by omega), Int.tmod_eq_emod_of_nonneg (by omega)⟩
theorem take_tail (b : ByteArray) (hs : b.size ≤ 140737488351232) (h : 19 ≤ b.size) :
    (good b → Ev (fun k => fairwayref10_Take.j0 k (b.size : Int) b false 0 0 ⟨#[]⟩ ⟨#[]⟩ 0 false) ((rcOf b).f0, (rcOf b).f1, (rcOf b).f2, (rcOf b).f3, (rcOf b).f4, (rcOf b).f5, wrap64 (6 + (b.size : Int)), 0)) ∧
    (¬ good b → Ev (fun k => fairwayref10_Take.j0 k (b.size : Int) b false 0 0 ⟨#[]⟩ ⟨#[]⟩ 0 false) (0, 0, ⟨#[]⟩, ⟨#[]⟩, 0, false, 0, 8)) := by
  obtain ⟨hx8, hx80⟩ := ext8 b h
  have hx17 := ext_size b 17 (Nat.le_trans (by decide) h)
  obtain ⟨g1, g2, g3, g4, g5, g6⟩ : 8 ≤ b.size ∧ 8 ≤ (b.size : Int) ∧ 16 < (b.size : Int) ∧ 17 ≤ (b.size : Int) ∧ 8 ≤ b.size - 8 ∧ 2 ≤ b.size - 17 := by
    generalize b.size = n at *; exact ⟨by omega, by omega, by omega, by omega, by omega, by omega⟩
  obtain ⟨bw, bm⟩ := bt16 b
  have start : ∀ {r}, Ev (fun k => (if bt b 16 > 7 then (fairwayref10_Take.j1 k (b.size : Int) b (bt b 16) (keyLen b : Int) true 0 0 ⟨#[]⟩ ⟨#[]⟩ 0 false (wrap64 (V b 8 : Nat)) (wrap64 (V (b.extract 8 b.size) 8 : Nat)) (⟨#[]⟩ : ByteArray) (⟨#[]⟩ : ByteArray) 0 false) else (fairwayref10_Take.j1 k (b.size : Int) b (bt b 16) (keyLen b : Int) (decide ((keyLen b : Int) > (wrap64 ((b.size : Int) - 19)))) 0 0 ⟨#[]⟩ ⟨#[]⟩ 0 false (wrap64 (V b 8 : Nat)) (wrap64 (V (b.extract 8 b.size) 8 : Nat)) (⟨#[]⟩ : ByteArray) (⟨#[]⟩ : ByteArray) 0 false))) r →
      Ev (fun k => fairwayref10_Take.j0 k (b.size : Int) b false 0 0 ⟨#[]⟩ ⟨#[]⟩ 0 false) r := by
    intro r hr
    refine Ev.step (fun k => by rw [fairwayref10_Take.j0, if_neg (by decide)]) ?_
    unfold xt
    refine Ev.bind (fix8_ev b g1) (Ev.congr (fun k => if_pos g2) (Ev.bind (fix8_ev _ (by rw [hx8]; exact g5)) (Ev.congr (fun k => by rw [if_pos g3, if_pos g4]) (Ev.bind (key_ev2 b (by rw [hx17]; exact g6)) ?_))))
    refine Ev.congr (fun k => by rw [bw]) ?_
    exact hr
  by_cases d1 : bt b 16 > 7
  · exact ⟨fun g => absurd g.2.1 (Int.not_le.2 d1), fun _ => start (Ev.congr (fun k => if_pos d1) (rj1_true _ _ _ _ _ _))⟩
  by_cases d2 : keyLen b ≤ b.size - 19
  · obtain ⟨w1, w2, e2, e3, e5, e7, e8, e9, e10, e11, q1, q2⟩ := arith b.size (keyLen b) h hs d2 (keyLen_lt b)
    have mid : ∀ {r}, Ev (fun k => (fairwayref10_Rec.f (rcOf b).f0 (rcOf b).f1 (rcOf b).f2 (rcOf b).f3 (rcOf b).f4 (rcOf b).f5).bind fun t264 => (if t264 = true then (some ((rcOf b).f0, (rcOf b).f1, (rcOf b).f2, (rcOf b).f3, (rcOf b).f4, (rcOf b).f5, wrap64 (6 + (b.size : Int)), 0)) else (some (0, 0, (⟨#[]⟩ : ByteArray), (⟨#[]⟩ : ByteArray), 0, false, 0, 8)))) r → Ev (fun k => fairwayref10_Take.j0 k (b.size : Int) b false 0 0 ⟨#[]⟩ ⟨#[]⟩ 0 false) r := by
      intro r hr
      refine start (Ev.congr (fun k => by rw [if_neg d1, w1, decide_eq_false e2]) ?_)
      refine Ev.step (fun k => by rw [fairwayref10_Take.j1, if_neg (by decide)]) ?_
      unfold xt
      rw [rd0, rd1, rd2, rd3, rd4, rd5] at hr
      refine Ev.congr (fun k => by rw [w2, if_pos e8, if_pos e9, if_pos e10, Int.toNat_natCast, bm]) ?_
      exact hr
    refine ⟨fun g => mid ?_, fun g => mid ?_⟩
    · rw [rec_yes _ g.2.2.2]; exact Ev.now _
    · rw [rec_no _ (fun hr => g ⟨h, Int.not_lt.1 d1, d2, hr⟩)]; exact Ev.now _
  · have e2 : (keyLen b : Int) > wrap64 ((b.size : Int) - 19) := by
      generalize keyLen b = kl at *
      generalize b.size = n at *
      rw [wrap_in (by omega) (by omega)]; omega
    exact ⟨fun g => absurd g.2.2.1 d2, fun _ => start (Ev.congr (fun k => by rw [if_neg d1, decide_eq_true e2]) (rj1_true _ _ _ _ _ _))⟩
theorem lt19 (v : Nat) : (v < 19 → (v : Int) < 19) ∧ (¬ v < 19 → ¬ (v : Int) < 19) := ⟨by omega, by omega⟩
theorem gt19 (n kl : Nat) (h : 19 ≤ n) (hs : n ≤ 140737488351232) (d2 : ¬ kl ≤ n - 19) : (kl : Int) > wrap64 ((n : Int) - 19) := by
  rw [wrap_in (by omega) (by omega)]; omega
theorem take_ref (s : ByteArray) (hs : s.size ≤ 140737488351232) (h6 : 6 ≤ s.size) (hv : V s 2 ≤ s.size - 6) :
    (takeOk s → Ev (fun k => fairwayref10_Take.f k s) ((rcOf (bodyAt s)).f0, (rcOf (bodyAt s)).f1, (rcOf (bodyAt s)).f2, (rcOf (bodyAt s)).f3, (rcOf (bodyAt s)).f4, (rcOf (bodyAt s)).f5, ((6 + V s 2 : Nat) : Int), 0)) ∧
    (¬ takeOk s → Ev (fun k => fairwayref10_Take.f k s) (0, 0, ⟨#[]⟩, ⟨#[]⟩, 0, false, 0, 8)) := by
  obtain ⟨w1, e1, e2, e3, w2, e4, e5, e6, e7, e8, e9, e10⟩ := arith6 s.size (V s 2) h6 hs hv (V2_lt s)
  have hbs := bodyAt_size s h6 hv
  have hb : (bodyAt s).size ≤ 140737488351232 := by rw [hbs]; exact e8
  have hx2 := ext_size s 2 e6
  have hh := ext_size0 s e6
  have t1 := sum_ref (s.extract 0 2) (bodyAt s) (by rw [hh, hbs]; exact e10)
  have hm : ((sumAt s : Nat) : Int) % 4294967296 = (sumAt s : Int) := by
    have := sumAt_lt s
    generalize sumAt s = z at *
    omega
  have start : ∀ {r}, Ev (fun k => (if (sumAt s : Int) = sumOf (s.extract 0 2) (bodyAt s) then (fairwayref10_Take.j0 k (V s 2 : Int) (bodyAt s) (decide ((V s 2 : Int) < 19)) 0 0 (⟨#[]⟩ : ByteArray) (⟨#[]⟩ : ByteArray) 0 false) else (fairwayref10_Take.j0 k (V s 2 : Int) (bodyAt s) true 0 0 (⟨#[]⟩ : ByteArray) (⟨#[]⟩ : ByteArray) 0 false))) r → Ev (fun k => fairwayref10_Take.f k s) r := by
    intro r hr
    unfold fairwayref10_Take.f
    unfold xt
    refine Ev.congr (fun k => if_neg e1) (Ev.bind (len_ev2 s e6) (Ev.congr (fun k => by rw [w1, if_neg e2, if_pos e3]) ?_))
    refine Ev.bind (sumAt_ev2 s (by rw [hx2]; exact e7)) ?_
    refine Ev.congr (fun k => by rw [w2, if_pos e4, if_pos e5, if_pos (by decide), bodyAt_eq, if_pos (by rw [hh, hbs]; exact e9)]) (Ev.bind t1 ?_)
    refine Ev.congr (fun k => by rw [hm]) ?_
    exact hr
  by_cases hc : (sumAt s : Int) = sumOf (s.extract 0 2) (bodyAt s)
  · by_cases h19 : V s 2 < 19
    · have h19' := (lt19 (V s 2)).1 h19
      refine ⟨fun hk => ?_, fun _ => start (Ev.congr (fun k => by rw [if_pos hc, decide_eq_true h19']) (rj0_true _ _))⟩
      have := hk.1.1
      rw [hbs] at this
      exact absurd h19 (Nat.not_lt.2 this)
    · have h19' := (lt19 (V s 2)).2 h19
      obtain ⟨y1, y2⟩ := take_tail (bodyAt s) hb (by rw [hbs]; exact Nat.le_of_not_lt h19)
      rw [hbs, w2] at y1
      rw [hbs] at y2
      exact ⟨fun hk => start (Ev.congr (fun k => by rw [if_pos hc, decide_eq_false h19']) (y1 hk.1)), fun hk => start (Ev.congr (fun k => by rw [if_pos hc, decide_eq_false h19']) (y2 fun g => hk ⟨g, hc.symm⟩))⟩
  · exact ⟨fun hk => absurd hk.2.symm hc, fun _ => start (Ev.congr (fun k => if_neg hc) (rj0_true _ _))⟩
end Go.Proofs.Ytmabdfdmccbfnaa.UTk

/- Records behind each other in bytes: the program's reading and the page's are the same; records held against each other; records written over. -/
namespace Go.Proofs.Ytmabdfdmccbfnaa.UScan
open Go Go.RowKit Go.Proofs.Ytmabdfdmccbfnaa.P Go.Proofs.Ytmabdfdmccbfnaa.URec Go.Proofs.Ytmabdfdmccbfnaa.UTake Go.Proofs.Ytmabdfdmccbfnaa.UTk Go.Proofs.YtmabdfdmccbfnaaW.PrintWords Go.Proofs.YtmabdfdmccbfnaaW.PrintLast
set_option linter.unusedVariables false
set_option linter.unusedSimpArgs false
attribute [local irreducible] bt V ByteArray.extract keyLen rcOf bodyAt sumAt takeOk

theorem take_any (s : ByteArray) (hs : s.size ≤ 140737488351232) :
    (∃ (r : R) (n : Nat), 6 ≤ n ∧ n ≤ s.size ∧ Ev (fun k => rec_Take.f k s) (r.f0, r.f1, r.f2, r.f3, r.f4, r.f5, (n : Int), 0) ∧ Ev (fun k => fairwayref10_Take.f k s) (r.f0, r.f1, r.f2, r.f3, r.f4, r.f5, (n : Int), 0)) ∨
    (∃ e : Int, e ≠ 0 ∧ Ev (fun k => rec_Take.f k s) (0, 0, ⟨#[]⟩, ⟨#[]⟩, 0, false, 0, e) ∧ Ev (fun k => fairwayref10_Take.f k s) (0, 0, ⟨#[]⟩, ⟨#[]⟩, 0, false, 0, e)) := by
  by_cases h : s.size < 6 ∨ s.size - 6 < V s 2
  · obtain ⟨a, b⟩ := take_cut s hs h
    exact .inr ⟨7, by decide, a, b⟩
  · have h6 : 6 ≤ s.size := Nat.le_of_not_lt fun g => h (.inl g)
    have hv : V s 2 ≤ s.size - 6 := Nat.le_of_not_lt fun g => h (.inr g)
    obtain ⟨a1, a2⟩ := take_prog s hs h6 hv
    obtain ⟨b1, b2⟩ := take_ref s hs h6 hv
    by_cases g : takeOk s
    · refine .inl ⟨rcOf (bodyAt s), 6 + V s 2, Nat.le_add_right _ _, ?_, a1 g, b1 g⟩
      generalize V s 2 = v at *
      generalize s.size = n at *
      omega
    · exact .inr ⟨8, by decide, a2 g, b2 g⟩

theorem ar_add (n a m : Nat) (hn : n ≤ 140737488351232) (ha : a ≤ n) (hm : m ≤ n - a) : wrap64 ((a : Int) + (m : Int)) = ((a + m : Nat) : Int) := by
  rw [wrap_in (by omega) (by omega)]; omega
theorem scan_both (s : ByteArray) (hs : s.size ≤ 140737488351232) : ∀ (d a : Nat) (acc : List R), s.size - a ≤ d → a ≤ s.size → acc.length * 6 ≤ a → s.size < 13194139533312 →
    ∃ (l : List R) (te : Int) (all : Bool), l.length * 6 ≤ s.size ∧ Ev (fun k => rec_Scan.l0 k s acc a) (l, te, all) ∧ Ev (fun k => fairwayref10_Scan.l0 k s acc a) (l, te, all)
  | d, a, acc, hd, ha, hl, hb => by
    by_cases hlt : a < s.size
    · have e1 : (a : Int) < (s.size : Int) := Int.ofNat_lt.2 hlt
      have e2 : (0 : Int) ≤ (a : Int) := Int.natCast_nonneg a
      have e3 : (a : Int) ≤ (s.size : Int) := Int.ofNat_le.2 ha
      have hx := ext_size s a ha
      rcases take_any (s.extract a s.size) (by rw [hx]; exact Nat.le_trans (Nat.sub_le _ _) hs) with ⟨r, n, hn6, hn, t1, t2⟩ | ⟨e, he, t1, t2⟩
      · rw [hx] at hn
        have hw := ar_add s.size a n hs ha hn
        have hll : acc.length < 2199023255552 := by generalize s.size = z at *; omega
        match d with
        | 0 => exact absurd hd (by generalize s.size = z at *; omega)
        | d + 1 =>
          obtain ⟨l, te, all, h1, h2, h3⟩ := scan_both s hs d (a + n) (acc ++ [r]) (by generalize s.size = z at *; omega) (by generalize s.size = z at *; omega) (by rw [List.length_append, List.length_singleton]; generalize acc.length = z at *; omega) hb
          refine ⟨l, te, all, h1, Ev.step (fun k => by rw [rec_Scan.l0, if_pos e1, if_pos e2, if_pos e3, Int.toNat_natCast]) (Ev.bind t1 (Ev.congr (fun k => by rw [if_pos rfl, if_pos hll, hw]) h2)), Ev.step (fun k => by rw [fairwayref10_Scan.l0, if_pos e1, if_pos e2, if_pos e3, Int.toNat_natCast]) (Ev.bind t2 (Ev.congr (fun k => by rw [if_pos rfl, if_pos hll, hw]) h3))⟩
      · exact ⟨acc, a, false, Nat.le_trans hl ha, Ev.step (fun k => by rw [rec_Scan.l0, if_pos e1, if_pos e2, if_pos e3, Int.toNat_natCast]) (Ev.bind t1 (Ev.congr (fun k => if_neg he) (Ev.now _))), Ev.step (fun k => by rw [fairwayref10_Scan.l0, if_pos e1, if_pos e2, if_pos e3, Int.toNat_natCast]) (Ev.bind t2 (Ev.congr (fun k => if_neg he) (Ev.now _)))⟩
    · have e1 : ¬ (a : Int) < (s.size : Int) := fun g => hlt (Int.ofNat_lt.1 g)
      exact ⟨acc, a, true, Nat.le_trans hl ha, Ev.step (fun k => by rw [rec_Scan.l0, if_neg e1]) (Ev.now _), Ev.step (fun k => by rw [fairwayref10_Scan.l0, if_neg e1]) (Ev.now _)⟩
theorem scan_any (s : ByteArray) (hs : s.size < 13194139533312) :
    ∃ (l : List R) (te : Int) (all : Bool), l.length * 6 ≤ s.size ∧ Ev (fun k => rec_Scan.f k s) (l, te, all) ∧ Ev (fun k => fairwayref10_Scan.f k s) (l, te, all) :=
  scan_both s (Nat.le_of_lt (Nat.lt_trans hs (by decide))) s.size 0 [] (Nat.sub_le _ _) (Nat.zero_le _) (Nat.zero_le _) hs

/-! ### held against each other -/
theorem r_same (a : R) : (!(a.f0 == a.f0) || (!(a.f1 == a.f1) || (!(a.f2.toList == a.f2.toList) || (!(a.f3.toList == a.f3.toList) || (!(a.f4 == a.f4) || (!(a.f5 == a.f5))))))) = false := by simp
theorem ar_next (n i : Nat) (hn : n ≤ 9223372036854775806) (hi : i < n) : wrap64 ((i : Int) + 1) = ((i + 1 : Nat) : Int) := by
  rw [wrap_in (by omega) (by omega)]; omega
theorem eqrecs_loop (l : List R) (hm : l.length ≤ 9223372036854775806) : ∀ (d i : Nat), l.length = i + d → Ev (fun k => fairwayref0_EqRecs.l0 k l l i) true
  | 0, i, h => by
    refine Ev.step (fun k => by rw [fairwayref0_EqRecs.l0, if_neg (by omega)]) (Ev.now _)
  | d + 1, i, h => by
    have ih := eqrecs_loop l hm d (i + 1) (by omega)
    have hw := ar_next l.length i hm (by omega)
    exact Ev.step (fun k => by rw [fairwayref0_EqRecs.l0, if_pos (by omega), if_pos (by omega), if_pos (by omega), r_same, if_neg Bool.false_ne_true, hw]) ih
theorem eqrecs_same (l : List R) (hm : l.length ≤ 9223372036854775806) : Ev (fun k => fairwayref0_EqRecs.f k l l) true := by
  unfold fairwayref0_EqRecs.f
  exact Ev.congr (fun k => if_pos rfl) (eqrecs_loop l hm l.length 0 (by omega))
theorem over_loop : ∀ (d i : Nat) (l : List R), l.length < 2199023255552 → l.length = i + d → Ev (fun k => fairwaylaw0_Recs.l0 k l i) ()
  | 0, i, l, hm, h => Ev.step (fun k => by rw [fairwaylaw0_Recs.l0, if_neg (by omega), if_pos hm]) (Ev.now _)
  | d + 1, i, l, hm, h => by
    have ih := over_loop d (i + 1) (l.set ((i : Int)).toNat (⟨(-9), 0, (⟨#[]⟩ : ByteArray), (⟨#[]⟩ : ByteArray), 0, false⟩ : R)) (by rw [List.length_set]; exact hm) (by rw [List.length_set]; omega)
    have hw := ar_next l.length i (by omega) (by omega)
    exact Ev.step (fun k => by rw [fairwaylaw0_Recs.l0, if_pos (by omega), if_pos (by omega), hw]) ih
theorem over_ev (l : List R) (hm : l.length < 2199023255552) : Ev (fun k => fairwaylaw0_Recs.f k l) () := over_loop l.length 0 l hm (by omega)
end Go.Proofs.Ytmabdfdmccbfnaa.UScan

/- The segment that bytes begin with: the program's and the page's. -/
namespace Go.Proofs.Ytmabdfdmccbfnaa.UParse
open Go Go.RowKit Go.Proofs.Ytmabdfdmccbfnaa.P Go.Proofs.Ytmabdfdmccbfnaa.URec Go.Proofs.Ytmabdfdmccbfnaa.USeg Go.Proofs.Ytmabdfdmccbfnaa.UBytes Go.Proofs.Ytmabdfdmccbfnaa.UWith Go.Proofs.Ytmabdfdmccbfnaa.UScan Go.Proofs.YtmabdfdmccbfnaaW.PrintWords Go.Proofs.YtmabdfdmccbfnaaW.PrintLast
set_option linter.unusedVariables false
set_option linter.unusedSimpArgs false
theorem ar_sum (n a m : Nat) (hn : n ≤ a * 3000) (ha : a < 200) (hm : m ≤ 3000) : wrap64 ((n : Int) + (m : Int)) = ((n + m : Nat) : Int) ∧ n + m ≤ (a + 1) * 3000 := by
  rw [wrap_in (by omega) (by omega)]; omega
theorem parse_loop (base : Int) (l : List R) (hm : l.length ≤ 2199023255552) : ∀ (d i : Nat) (acc : List R) (n : Nat), l.length = i + d → segOk base acc → n ≤ acc.length * 3000 →
    ∃ (g : List R) (m : Nat), segOk base g ∧ m ≤ g.length * 3000 ∧ Ev (fun k => seg_Parse.l0 k base n l (l.length : Int) i base acc) (base, g, (m : Int), 0) ∧ Ev (fun k => fairwayref10_Parse.l0 k l n i base acc) (base, g, (m : Int))
  | 0, i, acc, n, h, hs, hn => ⟨acc, n, hs, hn, Ev.step (fun k => by rw [seg_Parse.l0, if_neg (by omega)]) (Ev.now _), Ev.step (fun k => by rw [fairwayref10_Parse.l0, if_neg (by omega)]) (Ev.now _)⟩
  | d + 1, i, acc, n, h, hs, hn => by
    have hi : i < l.length := by omega
    have hw := ar_next l.length i (by omega) hi
    have p1 : (i : Int) < (l.length : Int) := by omega
    have p2 : 0 ≤ (i : Int) := by omega
    have ha := hs.2.2.1
    have q1 : acc.length < 2199023255552 := by omega
    have wv := with_ev base acc (rd_T25 l i) q1
    by_cases hc : canAdd base acc (rd_T25 l i)
    · have hs2 := (segOk_snoc base acc (rd_T25 l i)).2 ⟨hs, hc⟩
      obtain ⟨ar1, ar2⟩ := ar_sum n acc.length (recLen (rd_T25 l i)) hn hc.2.2.1 (recLen_in _ hc.1)
      obtain ⟨g, m, g1, g2, e1, e2⟩ := parse_loop base l hm d (i + 1) (acc ++ [rd_T25 l i]) (n + recLen (rd_T25 l i)) (by omega) hs2 (by rw [List.length_append, List.length_singleton]; exact ar2)
      refine ⟨g, m, g1, g2, ?_, ?_⟩
      · refine Ev.step (fun k => by rw [seg_Parse.l0, if_pos p1, if_pos p2, if_pos p1]) ?_
        refine Ev.bind (behind_yes base acc _ hc.1 hc.2.1 hc.2.2.1 hc.2.2.2) (Ev.congr (fun k => if_pos rfl) (Ev.bind (size_yes _ hc.1) ?_))
        exact Ev.congr (fun k => by rw [if_pos q1, ar1, hw]) e1
      · refine Ev.step (fun k => by rw [fairwayref10_Parse.l0, if_pos p1, if_pos p2]) ?_
        refine Ev.bind wv (Ev.bind (refseg_yes _ _ hs2) (Ev.congr (fun k => if_pos rfl) (Ev.bind (refbytes_ev _ hc.1) ?_)))
        exact Ev.congr (fun k => by rw [recBytes_size, ar1, hw]) e2
    · have hs2 : ¬ segOk base (acc ++ [rd_T25 l i]) := fun g => hc ((segOk_snoc base acc _).1 g).2
      refine ⟨acc, n, hs, hn, ?_, ?_⟩
      · refine Ev.step (fun k => by rw [seg_Parse.l0, if_pos p1, if_pos p2, if_pos p1]) ?_
        exact Ev.bind (behind_no base acc _ ha hc) (Ev.congr (fun k => if_neg Bool.false_ne_true) (Ev.now _))
      · refine Ev.step (fun k => by rw [fairwayref10_Parse.l0, if_pos p1, if_pos p2]) ?_
        exact Ev.bind wv (Ev.bind (refseg_no _ _ (by rw [List.length_append]; simp; omega) hs2) (Ev.congr (fun k => if_neg Bool.false_ne_true) (Ev.now _)))
theorem parse_both (base : Int) (s : ByteArray) (h0 : 0 ≤ base) (h1 : base ≤ 1099511627776) (hs : s.size < 13194139533312) :
    ∃ (g : List R) (m : Nat), segOk base g ∧ m ≤ g.length * 3000 ∧ Ev (fun k => seg_Parse.f k base s) (base, g, (m : Int), 0) ∧ Ev (fun k => fairwayref10_Parse.f k base s) (base, g, (m : Int)) := by
  obtain ⟨l, te, all, hl, a1, a2⟩ := scan_any s hs
  have hm : l.length ≤ 2199023255552 := by generalize s.size = z at *; omega
  obtain ⟨g, m, g1, g2, e1, e2⟩ := parse_loop base l hm l.length 0 [] 0 (by omega) (segOk_nil base h0 h1) (by omega)
  refine ⟨g, m, g1, g2, ?_, Ev.bind a2 e2⟩
  refine Ev.congr (fun k => by rw [seg_Parse.f, if_neg (by omega), decide_eq_false (by omega)]) ?_
  exact Ev.step (fun k => by rw [seg_Parse.j0, if_neg Bool.false_ne_true]) (Ev.bind a1 e1)
theorem parse_no (base : Int) (s : ByteArray) (h : ¬ (0 ≤ base ∧ base ≤ 1099511627776)) : Ev (fun k => seg_Parse.f k base s) (0, [], 0, 1) := by
  have hj : Ev (fun k => seg_Parse.j0 k base s 0 true 0) (0, [], 0, 1) := Ev.step (fun k => by rw [seg_Parse.j0, if_pos rfl]) (Ev.now _)
  by_cases h0 : base < 0
  · exact Ev.congr (fun k => by rw [seg_Parse.f, if_pos h0]) hj
  · exact Ev.congr (fun k => by rw [seg_Parse.f, if_neg h0, decide_eq_true (by omega)]) hj
end Go.Proofs.Ytmabdfdmccbfnaa.UParse

/- The pure law SegParses: which segment any bytes are, from any base on, and how many of them, is the page's, or refused. -/
namespace Go.Proofs.Ytmabdfdmccbfnaa.Pure
open Go Go.RowKit Go.Proofs.Ytmabdfdmccbfnaa.P Go.Proofs.Ytmabdfdmccbfnaa.URec Go.Proofs.Ytmabdfdmccbfnaa.USeg Go.Proofs.Ytmabdfdmccbfnaa.UHeavy Go.Proofs.Ytmabdfdmccbfnaa.UBytes Go.Proofs.Ytmabdfdmccbfnaa.UWith Go.Proofs.Ytmabdfdmccbfnaa.UScan Go.Proofs.Ytmabdfdmccbfnaa.UParse Go.Proofs.YtmabdfdmccbfnaaW.PrintWords Go.Proofs.YtmabdfdmccbfnaaW.PrintLast
set_option linter.unusedVariables false
set_option linter.unusedSimpArgs false
theorem wakes11_ev : Ev (fun k => fairwaylaw11_wakes.f k) true := Ev.of fairwaylaw11_wakes.mono (k := 30) (by decide +kernel)
theorem num11 (a : Int) : fairwaylaw11_num.f a = some a := rfl
theorem eqseg_same (b : Int) (l : List R) (hm : l.length ≤ 9223372036854775806) : Ev (fun k => fairwayref0_EqSeg.f k b l b l) true := by
  unfold fairwayref0_EqSeg.f
  exact Ev.congr (fun k => if_pos rfl) (Ev.bind (eqrecs_same l hm) (Ev.now _))
theorem sp_l2 (s : ByteArray) (hs : s.size < 13194139533312) (bs : List Int) (hb : bs.length ≤ 9223372036854775806) : ∀ (d i : Nat), bs.length = i + d → Ev (fun k => fairwaylaw11_SegParses.l2 k s bs i) true
  | 0, i, h => Ev.step (fun k => by rw [fairwaylaw11_SegParses.l2, if_neg (by omega)]) (Ev.bind wakes11_ev (Ev.now _))
  | d + 1, i, h => by
    have ih := sp_l2 s hs bs hb d (i + 1) (by omega)
    have p1 : (i : Int) < (bs.length : Int) := by omega
    have p2 : 0 ≤ (i : Int) := by omega
    have hw := ar_next bs.length i hb (by omega)
    refine Ev.step (fun k => by rw [fairwaylaw11_SegParses.l2, if_pos p1, if_pos p2]) ?_
    rw [num_f]
    by_cases hr : 0 ≤ rd bs i ∧ rd bs i ≤ 1099511627776
    · obtain ⟨g, m, g1, g2, e1, e2⟩ := parse_both (rd bs i) s hr.1 hr.2 hs
      refine Ev.bind e1 ?_
      simp only [Option.bind_some]
      refine Ev.congr (fun k => if_pos (decide_eq_true hr)) (Ev.bind e2 ?_)
      refine Ev.step (fun k => by rw [fairwaylaw11_SegParses.j5]) ?_
      simp only [num11, Option.bind_some]
      have hg := g1.2.2.1
      exact Ev.congr (fun k => by rw [if_pos trivial, if_pos trivial]) (Ev.bind (eqseg_same _ g (by omega)) (Ev.congr (fun k => by rw [if_pos rfl, hw]) ih))
    · refine Ev.bind (parse_no (rd bs i) s hr) ?_
      simp only [Option.bind_some]
      refine Ev.congr (fun k => if_neg (by simpa using hr)) ?_
      refine Ev.step (fun k => by rw [fairwaylaw11_SegParses.j5]) ?_
      simp only [num11, Option.bind_some]
      exact Ev.congr (fun k => by rw [if_pos trivial, if_pos trivial]) (Ev.bind (eqseg_same 0 [] (by simp)) (Ev.congr (fun k => by rw [if_pos rfl, hw]) ih))
theorem sp_l1 (p : S55) (hm : p.f2.length ≤ 9223372036854775806) (s : ByteArray) (hs : s.size < 13194139533312) : ∀ (d i : Nat) (bs : List Int), 4 = i + d → bs.length = 4 + i →
    Ev (fun k => fairwaylaw11_SegParses.l1 k s bs i p.f0.f0 p.f0.f1 p.f1 p.f2 p.f3) true := by
  have stop : ∀ bs : List Int, bs.length ≤ 9223372036854775806 → Ev (fun k => fairwaylaw11_SegParses.j3 k s bs) true := fun bs hb =>
    Ev.step (f := fun k => fairwaylaw11_SegParses.l2 k s bs ((0 : Nat) : Int)) (fun k => by rw [fairwaylaw11_SegParses.j3]; rfl) (sp_l2 s hs bs hb bs.length 0 (by omega))
  intro d
  induction d with
  | zero =>
    intro i bs h hb
    refine Ev.step (f := fun k => fairwaylaw11_SegParses.j3 k s bs) (fun k => ?_) (stop bs (by omega))
    rw [fairwaylaw11_SegParses.l1]
    split
    · rw [if_neg (by omega)]
    · rfl
  | succ d ih =>
    intro i bs h hb
    by_cases hil : i < p.f2.length
    · have hw := ar_next p.f2.length i hm hil
      exact Ev.step (fun k => by rw [fairwaylaw11_SegParses.l1, if_pos (by omega), if_pos (by omega), if_pos (by omega), if_pos (by omega), hw]) (ih (i + 1) (bs ++ [rd p.f2 i]) (by omega) (by simp; omega))
    · exact Ev.step (fun k => by rw [fairwaylaw11_SegParses.l1, if_neg (by omega)]) (stop bs (by omega))
theorem ar_b (z i : Nat) (h : i ≤ 6) (hs : z ≤ 8000 + i * 3000) : z ≤ 8000 + 6 * 3000 ∧ z ≤ 8000 + (i + 1) * 3000 ∧ z < 13194139533312 := by omega
theorem ar_c (n z i : Nat) (hn : n ≤ 3000) (h : i < 6) (hs : z ≤ 8000 + i * 3000) : n + z ≤ 8000 + (i + 1) * 3000 ∧ n + z ≤ 9223372036854775807 := by omega
theorem sp_l0 (p : S55) (hm : p.f2.length ≤ 9223372036854775806) (hm1 : p.f1.length ≤ 9223372036854775806) : ∀ (d i : Nat) (s : ByteArray), 6 = i + d → s.size ≤ 8000 + i * 3000 →
    Ev (fun k => fairwaylaw11_SegParses.l0 k s i p.f0.f0 p.f0.f1 p.f1 p.f2 p.f3) true := by
  have stop : ∀ (i : Int) (s : ByteArray), s.size ≤ 8000 + 6 * 3000 → Ev (fun k => fairwaylaw11_SegParses.j1 k s i false p.f0.f0 p.f0.f1 p.f1 p.f2 p.f3) true := fun i s hs =>
    Ev.step (f := fun k => fairwaylaw11_SegParses.l1 k s [0, p.f0.f0, -1, 1099511627777] ((0 : Nat) : Int) p.f0.f0 p.f0.f1 p.f1 p.f2 p.f3) (fun k => by rw [fairwaylaw11_SegParses.j1, if_neg Bool.false_ne_true]; rfl) (sp_l1 p hm s (ar_b s.size 6 (Nat.le_refl _) hs).2.2 4 0 _ (by omega) (by rfl))
  intro d
  induction d with
  | zero =>
    intro i s h hs
    refine Ev.step (f := fun k => fairwaylaw11_SegParses.j1 k s i false p.f0.f0 p.f0.f1 p.f1 p.f2 p.f3) (fun k => ?_) (stop i s (ar_b s.size i (by omega) hs).1)
    rw [fairwaylaw11_SegParses.l0]
    split
    · rw [decide_eq_false (by omega)]
    · rfl
  | succ d ih =>
    intro i s h hs
    by_cases hil : i < p.f1.length
    · have hw := ar_next p.f1.length i hm1 hil
      have p1 : (i : Int) < (p.f1.length : Int) := by omega
      have p2 : 0 ≤ (i : Int) := by omega
      refine Ev.step (fun k => by rw [fairwaylaw11_SegParses.l0, if_pos p1, decide_eq_true (show (i : Int) < 6 by omega)]) ?_
      refine Ev.step (fun k => by rw [fairwaylaw11_SegParses.j1, if_pos rfl, if_pos p2, if_pos p1]) ?_
      by_cases hr : recOk (rd_T25 p.f1 i)
      · have hz := recLen_in _ hr
        rw [rec_yes _ hr]
        simp only [Option.bind_some]
        refine Ev.congr (fun k => if_pos trivial) (Ev.bind (refbytes_ev _ hr) ?_)
        obtain ⟨z1, z2⟩ := ar_c (recLen (rd_T25 p.f1 i)) s.size i hz (by omega) hs
        refine Ev.congr (fun k => by rw [if_pos (by rw [recBytes_size]; exact z2), hw]) (ih (i + 1) _ (by omega) ?_)
        rw [ByteArray.size_append, recBytes_size]; exact z1
      · rw [rec_no _ hr]
        simp only [Option.bind_some]
        exact Ev.congr (fun k => by rw [if_neg Bool.false_ne_true, hw]) (ih (i + 1) s (by omega) (ar_b s.size i (by omega) hs).2.1)
    · exact Ev.step (fun k => by rw [fairwaylaw11_SegParses.l0, if_neg (by omega)]) (stop i s (ar_b s.size i (by omega) hs).1)
theorem SegParses (p : S55) (hg : good55 p) : ∃ k, fairwaylaw11_SegParses.f k p.f0.f0 p.f0.f1 p.f1 p.f2 p.f3 = some true := by
  obtain ⟨⟨g0, g1, g2⟩, ⟨g3, g4⟩, ⟨g5, g6⟩, g7⟩ := hg
  obtain ⟨b, hb, hb2⟩ := heavy_ev p.f0.f0 p.f0.f1 p.f1 p.f2 p.f3 g1 g2 g3 g4
  refine Ev.rounds (r := true) ?_
  refine Ev.bind hb ?_
  cases b with
  | true => exact Ev.congr (fun k => if_pos rfl) (Ev.now _)
  | false =>
    obtain ⟨b1, b2, b3⟩ := hb2 rfl
    exact Ev.congr (fun k => if_neg (by decide)) (sp_l0 p (by omega) (by omega) 6 0 p.f3 (by omega) (by omega))
end Go.Proofs.Ytmabdfdmccbfnaa.Pure

/- SegParses: for every input of the row the law returns true, and the input reads afterwards as before. Conditions: none beside the row's own. -/
namespace Go.Proofs.Ytmabdfdmccbfnaa.segParses
open Go.ChangeShapes Go.WideShapes Go.ChangeAt Go.RowKit Go.Proofs.YtmabdfdmccbfnaaW.PrintWords Go.Proofs.Ytmabdfdmccbfnaa.Open Go.Proofs.Ytmabdfdmccbfnaa.P
set_option linter.unusedVariables false
theorem own : ownKnob Try.prog.godebug = none := by kernel_rfl
theorem laidOut : laidOutB Try.prog = true := by kernel_rfl
theorem openK55 {w : World} {x : S55} {cs : List Value} (h : k55.K w x cs) : ∃ (A1 : Option Addr) (c1 : Nat) (A2 : Option Addr) (c2 : Nat) (A3 : Option Addr) (c3 : Nat), cs = [.int .i64 x.f0.f0, .slice A1 x.f0.f1.length c1, .slice A2 x.f1.length c2, .slice A3 x.f2.length c3, .string x.f3] ∧ Kd.C k25 w A1 x.f0.f1.length x.f0.f1 ∧ x.f0.f1.length ≤ c1 ∧ Kd.C k25 w A2 x.f1.length x.f1 ∧ x.f1.length ≤ c2 ∧ Kd.C (Kd.int .i64) w A3 x.f2.length x.f2 ∧ x.f2.length ≤ c3 := by
  obtain ⟨_, _, rfl, ⟨_, _, rfl, rfl, ⟨A1, c1, rfl, hc1, hr1⟩⟩, ⟨_, _, rfl, ⟨A2, c2, rfl, hc2, hr2⟩, ⟨_, _, rfl, ⟨A3, c3, rfl, hc3, hr3⟩, rfl⟩⟩⟩ := h
  exact ⟨A1, c1, A2, c2, A3, c3, rfl, hr1, hc1, hr2, hc2, hr3, hc3⟩
theorem purely (p : S55) (hg : good55 p) : ∃ k, fairwaylaw11_SegParses.f k p.f0.f0 p.f0.f1 p.f1 p.f2 p.f3 = some true := Pure.SegParses p hg
set_option maxRecDepth 100000 in
theorem lifted (os : Os) (started : os.Started) (H : Type) (enc : TypeId × Value → H) :
    ReturnsInHanded {} Try.checked os 8 .any (Rows.segParsesSpec.pre6 enc Try.prog Try.f8 Rows.segParsesRow.domain false) (Rows.segParsesSpec.post enc Try.prog Try.f8 false true false false) := by
  refine returnsInHanded_of_change_sized (C := Try.checked) own started (by kernel_rfl) Try.func8
    (ChangeSpec.witness6 (enc := enc) (C := Try.checked) false ⟨#[], #[.agg #[.int .i64 0, .slice none 0 0, .slice none 0 0, .slice none 0 0, .string ByteArray.empty]], []⟩ 8 (by kernel_rfl) (by kernel_rfl) (by kernel_rfl) (by kernel_rfl)) ?_
  intro W base args ds gs before hval0 hW hcnd hsz0 _
  have hsz : (DataW.weightsEach Try.prog (Try.f8.params.toList ++ Rows.segParsesSpec.plain.varTypes Try.prog) (ds ++ gs)).all (· ≤ reachBytes) = true := hsz0
  have hval : ∀ (j : Nat) t v, Try.f8.params[j]? = some t → args[j]? = some v → Value.okWide Try.prog W .any base t v := hval0
  have hW' := hW
  obtain ⟨p_, q_, hA0, hV, rfl, hfz, hnd⟩ := hW
  have hA : DataW.TrodAll enc Try.prog W 0 (fun _ => true) true Try.f8.params.toList args.toList ds p_ := hA0
  rw [Try.params8] at hA hval hsz
  obtain ⟨v0, vs0, d0, ds0, p0, q0, hargs, rfl, rfl, h0, r0⟩ := trodAll_cons hA
  obtain ⟨rfl, rfl, rfl⟩ := trodAll_nil r0
  obtain rfl : args = #[v0] := by cases args; simp_all
  obtain ⟨rfl, rfl⟩ := trodVars_none hV
  obtain ⟨cs0, rfl, hsz0_⟩ := okWide_struct Try.underlying55 (hval 0 55 v0 rfl rfl)
  have k0 := h0
  have lt0 : ∀ x ∈ p0, x.block < W.heap.size := by obtain ⟨m, hm⟩ := k0; exact DataW.trod_lt m _ _ _ hm
  obtain ⟨p, hg0, A1, c1, A2, c2, A3, c3, rfl, hr1, hc1, hr2, hc2, hr3, hc3⟩ : ∃ p : S55, good55 p ∧ ∃ (A1 : Option Addr) (c1 : Nat) (A2 : Option Addr) (c2 : Nat) (A3 : Option Addr) (c3 : Nat), cs0 = #[.int .i64 p.f0.f0, .slice A1 p.f0.f1.length c1, .slice A2 p.f1.length c2, .slice A3 p.f2.length c3, .string p.f3] ∧ Kd.C k25 W A1 p.f0.f1.length p.f0.f1 ∧ p.f0.f1.length ≤ c1 ∧ Kd.C k25 W A2 p.f1.length p.f1 ∧ p.f1.length ≤ c2 ∧ Kd.C (Kd.int .i64) W A3 p.f2.length p.f2 ∧ p.f2.length ≤ c3 := by
    obtain ⟨fuel, hf⟩ := h0
    obtain ⟨x, hK, hg⟩ := rd55.rd enc W fuel _ _ _ hf (fun m hm => of_decide_eq_true (List.all_eq_true.1 hsz m (DataW.weights_mem_each (j := 0) rfl rfl m hm)))
    obtain ⟨A1, c1, A2, c2, A3, c3, hcs, hr1, hc1, hr2, hc2, hr3, hc3⟩ := openK55 hK
    refine ⟨x, hg, A1, c1, A2, c2, A3, c3, ?_, hr1, hc1, hr2, hc2, hr3, hc3⟩
    have e_ := congrArg List.toArray hcs
    simpa [Value.cells] using e_
  clear hA0 hval0 hsz0 hsz
  obtain ⟨k, h⟩ := purely p hg0
  refine (fairwaylaw11_SegParses.calls k p.f0.f0 A1 c1 p.f0.f1 A2 c2 p.f1 A3 c3 p.f2 p.f3 true W hr1 hc1 hr2 hc2 hr3 hc3 h).mono fun e W' ⟨he, bel0⟩ => ?_
  have bel : Below W.heap.size W W' := bel0
  subst he
  exact ⟨_, rfl, _, _, _, [], _, [], hW', trodAll_mk1 (shut_bool Try.underlying4 _), (trodAll_cons_mk (Below.trod laidOut (by kernel_rfl) (of_decide_eq_true (by kernel_rfl)) k0 bel lt0) trodAll_mk0), rfl, bel.frame _, fun h => by cases h⟩
theorem over : Rows.segParsesRow.holds Try.pinned (OpenSpec.ofChange Rows.segParsesSpec) :=
  OpenClaim.holds_of_wide 8 Try.f8 rfl rfl rfl rfl rfl rfl rfl ⟨rfl, rfl, rfl, rfl, rfl⟩ rfl rfl rfl rfl rfl (by kernel_rfl) Try.func8 (by kernel_rfl)
    (of_decide_eq_true (by kernel_rfl)) (by unfold Func.isWrapper; first | (rw [if_pos (by decide +kernel)]; kernel_rfl) | (rw [if_neg (by decide +kernel)]; exact ⟨rfl, rfl⟩))
    (fun os started H enc _ => lifted os started H enc)
theorem proved : Rows.SegParsesSaid := over
#print axioms proved
end Go.Proofs.Ytmabdfdmccbfnaa.segParses
namespace Go.Proofs.Ytmabdfdmccbfnaa
theorem segParses_holds : Rows.SegParsesSaid := segParses.proved
end Go.Proofs.Ytmabdfdmccbfnaa

