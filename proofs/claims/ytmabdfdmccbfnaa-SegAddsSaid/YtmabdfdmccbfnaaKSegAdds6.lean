/- The law SegAdds: printed functions, their contracts, the plain laws and the row, part 6. -/
import Derived.Test.YtmabdfdmccbfnaaKSegAdds4
import Derived.Test.YtmabdfdmccbfnaaKSegAdds2
import Derived.Test.YtmabdfdmccbfnaaKSegAdds5
import Derived.Shelf.Strings.Builder1
-- written by a program of the proving session, out of the translation; Lean checks it
namespace Go.Proofs.Ytmabdfdmccbfnaa.P
open Go.RowKit Go.Proofs.Ytmabdfdmccbfnaa.Sq Go.Proofs.YtmabdfdmccbfnaaW.PrintWords Go.Proofs.YtmabdfdmccbfnaaW.PrintLast Go.Proofs.YtmabdfdmccbfnaaW.PrintMore
attribute [local go_sem] max2_int min2_int max_two min_two max_three min_three max_four min_four   -- for this text's walks alone
set_option linter.unusedVariables false
set_option linter.unusedSimpArgs false

/-! ### sum_Sum: function 63 -/
mutual
def sum_Sum.l0 : Nat → Int → ByteArray → Int → Int → Option (Int)
 | 0, _, _, _, _ => none
 | k + 1, x0, x1, x9, x10 => if x10 < x9 then (if 0 ≤ x10 then (if x10 < (x1.size : Int) then (sum_Sum.l1 k (Go.bits .xor .u32 x0 ((bt x1 x10) % 4294967296)) x1 x9 x10 0) else (none)) else (none)) else (some (Go.bits .xor .u32 4294967295 x0))
def sum_Sum.l1 : Nat → Int → ByteArray → Int → Int → Int → Option (Int)
 | 0, _, _, _, _, _ => none
 | k + 1, x0, x1, x9, x10, x19 => if x19 < 8 then (sum_Sum.l1 k (Go.bits .xor .u32 (x0 / 2) (Go.bits .and .u32 2197175160 ((-(Go.bits .and .u32 x0 1)) % 4294967296))) x1 x9 x10 (wrap64 (x19 + 1))) else (sum_Sum.l0 k x0 x1 x9 (wrap64 (x10 + 1)))
end
def sum_Sum.f (k : Nat) (a0 : Int) (a1 : ByteArray) : Option (Int) := sum_Sum.l0 k (Go.bits .xor .u32 4294967295 a0) a1 (a1.size : Int) 0
theorem sum_Sum.mono_l : ∀ k, (∀ y0 y1 y2 y3, LeO (sum_Sum.l0 k y0 y1 y2 y3) (sum_Sum.l0 (k + 1) y0 y1 y2 y3)) ∧ (∀ y0 y1 y2 y3 y4, LeO (sum_Sum.l1 k y0 y1 y2 y3 y4) (sum_Sum.l1 (k + 1) y0 y1 y2 y3 y4))
 | 0 => ⟨fun _ _ _ _ r h => by simp [sum_Sum.l0] at h, fun _ _ _ _ _ r h => by simp [sum_Sum.l1] at h⟩
 | k + 1 => by
  obtain ⟨ih0, ih1⟩ := sum_Sum.mono_l k
  refine ⟨?_, ?_⟩
  ·intro y0 y1 y2 y3
   unfold sum_Sum.l0
   repeat' first
   | (with_reducible exact ih0 _ _ _ _)
   | (with_reducible exact ih1 _ _ _ _ _)
   | (with_reducible exact LeO.refl _)
   | (with_reducible exact LeO.none _)
   | (with_reducible refine LeO.ite ?_ ?_)
   | (with_reducible refine LeO.bind ?_ (fun _ => ?_))
   | exact ih0 _ _ _ _
   | exact ih1 _ _ _ _ _
   | exact LeO.none _
   | refine LeO.ite ?_ ?_
   | refine LeO.bind ?_ (fun _ => ?_)
  ·intro y0 y1 y2 y3 y4
   unfold sum_Sum.l1
   repeat' first
   | (with_reducible exact ih0 _ _ _ _)
   | (with_reducible exact ih1 _ _ _ _ _)
   | (with_reducible exact LeO.refl _)
   | (with_reducible exact LeO.none _)
   | (with_reducible refine LeO.ite ?_ ?_)
   | (with_reducible refine LeO.bind ?_ (fun _ => ?_))
   | exact ih0 _ _ _ _
   | exact ih1 _ _ _ _ _
   | exact LeO.none _
   | refine LeO.ite ?_ ?_
   | refine LeO.bind ?_ (fun _ => ?_)
theorem sum_Sum.mono : ∀ a0 a1 k, LeO (sum_Sum.f k a0 a1) (sum_Sum.f (k + 1) a0 a1) := by
 intro a0 a1 k
 obtain ⟨ih0, ih1⟩ := sum_Sum.mono_l k
 unfold sum_Sum.f
 repeat' first
  | (with_reducible exact ih0 _ _ _ _)
  | (with_reducible exact ih1 _ _ _ _ _)
  | (with_reducible exact LeO.refl _)
  | (with_reducible exact LeO.none _)
  | (with_reducible refine LeO.ite ?_ ?_)
  | (with_reducible refine LeO.bind ?_ (fun _ => ?_))
  | exact ih0 _ _ _ _
  | exact ih1 _ _ _ _ _
  | exact LeO.none _
  | refine LeO.ite ?_ ?_
  | refine LeO.bind ?_ (fun _ => ?_)
set_option maxHeartbeats 8000000 in
set_option maxRecDepth 100000 in
theorem sum_Sum.calls (k : Nat) (a0 : Int) (a1 : ByteArray) (r : Int) (w : World) (h : sum_Sum.f k a0 a1 = some r) :
 Calls Try.prog 63 #[.int .u32 a0, .string a1] w fun e w' => e = .returned (.int .u32 r) ∧ Drawn0 w w' := by
 have H : (sum_Sum.l0 k (Go.bits .xor .u32 4294967295 a0) a1 (a1.size : Int) 0) = some r := h
 clear h
 have H' := Aside0.mk H
 clear H
 go_enter Try.func63, Try.ntmps63
 go_wp2
 go_loopg [0, 10] k (fun kq v0 v10 w' => ∃ (x0_1 : Int) (x10_1 : Int), v0 = .int .u32 x0_1 ∧ v10 = .int .i64 x10_1 ∧ Aside0 (sum_Sum.l0 kq x0_1 a1 (a1.size : Int) x10_1 = some r) ∧ Aside0 (kq ≤ k) ∧ Drawn0 w w')
 case atStart => exact ⟨(Go.bits .xor .u32 4294967295 a0), (0), ap, ap, H', ⟨Nat.le_refl _⟩, dr⟩
 case round =>
  clear H'
  try clear p2
  obtain ⟨x0_1, x10_1, rfl, rfl, HA, HK1, ⟨m1, rfl⟩⟩ := hrel
  cases gk with
  | zero => exact absurd HA.out (by simp [sum_Sum.l0])
  | succ k1 =>
   have H := HA.out
   clear HA
   simp only [sum_Sum.l0] at H
   by_cases c3 : x10_1 < (a1.size : Int)
   ·rw [if_pos c3] at H
    have c3b0 : decide (x10_1 < (a1.size : Int)) = true := decide_eq_true c3
    clear c3
    by_cases c4 : 0 ≤ x10_1
    ·rw [if_pos c4] at H
     have c4b0 : decide (0 ≤ x10_1) = true := decide_eq_true c4
     clear c4
     by_cases c5 : x10_1 < (a1.size : Int)
     ·rw [if_pos c5] at H
      have c5b0 : decide (x10_1 < (a1.size : Int)) = true := decide_eq_true c5
      clear c5
      have H' := Aside0.mk H
      clear H
      have p6 : 0 ≤ (x10_1 : Int) := od
      have q6 : x10_1 < (a1.size : Int) := od
      have hx6 := bt_at a1 x10_1
      replace p6 := eq_true p6
      replace q6 := eq_true q6
      go_wp2
      go_loopg [0, 19] k1 (fun kq v0 v19 w' => ∃ (x0_2 : Int) (x19_2 : Int), v0 = .int .u32 x0_2 ∧ v19 = .int .i64 x19_2 ∧ Aside0 (sum_Sum.l1 kq x0_2 a1 (a1.size : Int) x10_1 x19_2 = some r) ∧ Aside0 (kq ≤ k1) ∧ Drawn0 w w')
      case atStart => exact ⟨(Go.bits .xor .u32 x0_1 ((bt a1 x10_1) % 4294967296)), (0), ap, ap, H', ⟨Nat.le_refl _⟩, dr⟩
      case round =>
       clear H'
       try clear p2
       try clear c3
       try clear c3b0
       try clear c4
       try clear c4b0
       try clear c5
       try clear c5b0
       try clear c6
       try clear p6
       try clear q6
       try clear hx6
       try clear p2
       try clear p6
       try clear q6
       obtain ⟨x0_2, x19_2, rfl, rfl, HA, HK2, ⟨m2, rfl⟩⟩ := hrel
       cases gk with
       | zero => exact absurd HA.out (by simp [sum_Sum.l1])
       | succ k2 =>
        have H := HA.out
        clear HA
        simp only [sum_Sum.l1] at H
        by_cases c7 : x19_2 < 8
        ·rw [if_pos c7] at H
         have c7b0 : decide (x19_2 < 8) = true := decide_eq_true c7
         clear c7
         have H' := Aside0.mk H
         clear H
         go_wp2
         go_roundg k2
         case measure => have := HK1.out; have := HK2.out; omega
         case rel => exact ⟨(Go.bits .xor .u32 (x0_2 / 2) (Go.bits .and .u32 2197175160 ((-(Go.bits .and .u32 x0_2 1)) % 4294967296))), (wrap64 (x19_2 + 1)), ap, ap, H', ⟨by have := HK1.out; have := HK2.out; omega⟩, dr⟩
        ·rw [if_neg c7] at H
         have c7b0 : decide (x19_2 < 8) = false := decide_eq_false c7
         clear c7
         have H' := Aside0.mk H
         clear H
         go_wp2
         go_roundg k2
         case measure => have := HK1.out; have := HK2.out; omega
         case rel => exact ⟨(x0_2), (wrap64 (x10_1 + 1)), ap, ap, H', ⟨by have := HK1.out; have := HK2.out; omega⟩, dr⟩
     ·rw [if_neg c5] at H
      exact absurd H (by simp)
    ·rw [if_neg c4] at H
     exact absurd H (by simp)
   ·rw [if_neg c3] at H
    have c3b0 : decide (x10_1 < (a1.size : Int)) = false := decide_eq_false c3
    clear c3
    obtain rfl := Option.some.inj H
    go_wp2
    go_ret
    exact ⟨ap, dr⟩

end Go.Proofs.Ytmabdfdmccbfnaa.P

-- written by a program of the proving session, out of the translation; Lean checks it
namespace Go.Proofs.Ytmabdfdmccbfnaa.P
open Go.RowKit Go.Proofs.Ytmabdfdmccbfnaa.Sq Go.Proofs.YtmabdfdmccbfnaaW.PrintWords Go.Proofs.YtmabdfdmccbfnaaW.PrintLast Go.Proofs.YtmabdfdmccbfnaaW.PrintMore
attribute [local go_sem] max2_int min2_int max_two min_two max_three min_three max_four min_four   -- for this text's walks alone
set_option linter.unusedVariables false
set_option linter.unusedSimpArgs false

/-! ### rec_Bytes: function 14 -/
def rec_Bytes.j0 : Nat → Int → Int → Int → ByteArray → ByteArray → Int → Bool → Option (ByteArray × Int)
 | 0, _, _, _, _, _, _, _ => none
 | k + 1, x5, x115000, x115001, x115002, x115003, x115004, x115005 => (vbi_Two.f k (x115002.size : Int)).bind fun bt116 => ((rec_eight.f k x115000).bind fun t118 => ((rec_eight.f k x115001).bind fun t119 => (if t118.size + t119.size ≤ 9223372036854775807 then ((some (([x5] : List Int) : List Int)).bind fun y120 => (if (t118 ++ t119).size + (strOfNums y120).size ≤ 9223372036854775807 then (if ((t118 ++ t119) ++ (strOfNums y120)).size + bt116.1.size ≤ 9223372036854775807 then (if (((t118 ++ t119) ++ (strOfNums y120)) ++ bt116.1).size + x115002.size ≤ 9223372036854775807 then (if ((((t118 ++ t119) ++ (strOfNums y120)) ++ bt116.1) ++ x115002).size + x115003.size ≤ 9223372036854775807 then ((vbi_Two.f k ((((((t118 ++ t119) ++ (strOfNums y120)) ++ bt116.1) ++ x115002) ++ x115003).size : Int)).bind fun bt123 => ((sum_Sum.f k 0 bt123.1).bind fun t125 => ((sum_Sum.f k t125 (((((t118 ++ t119) ++ (strOfNums y120)) ++ bt116.1) ++ x115002) ++ x115003)).bind fun t126 => ((vbi_Four.f k (wrap64 (t126))).bind fun bt127 => (if bt123.1.size + bt127.1.size ≤ 9223372036854775807 then (if (bt123.1 ++ bt127.1).size + (((((t118 ++ t119) ++ (strOfNums y120)) ++ bt116.1) ++ x115002) ++ x115003).size ≤ 9223372036854775807 then (some ((bt123.1 ++ bt127.1) ++ (((((t118 ++ t119) ++ (strOfNums y120)) ++ bt116.1) ++ x115002) ++ x115003), 0)) else (none)) else (none)))))) else (none)) else (none)) else (none)) else (none))) else (none))))
def rec_Bytes.f (k : Nat) (a0_0 : Int) (a0_1 : Int) (a0_2 : ByteArray) (a0_3 : ByteArray) (a0_4 : Int) (a0_5 : Bool) : Option (ByteArray × Int) := (rec_Check.f k a0_0 a0_1 a0_2 a0_3 a0_4 a0_5).bind fun t115 => (if t115 = 0 then (if a0_5 = true then (rec_Bytes.j0 k (Go.bits .or .u8 ((a0_4) % 256) 4) a0_0 a0_1 a0_2 a0_3 a0_4 a0_5) else (rec_Bytes.j0 k ((a0_4) % 256) a0_0 a0_1 a0_2 a0_3 a0_4 a0_5)) else (some ((⟨#[]⟩ : ByteArray), t115)))
theorem rec_Bytes.mono_l : ∀ k, (∀ y0 y1 y2 y3 y4 y5 y6, LeO (rec_Bytes.j0 k y0 y1 y2 y3 y4 y5 y6) (rec_Bytes.j0 (k + 1) y0 y1 y2 y3 y4 y5 y6))
 | 0 => fun _ _ _ _ _ _ _ r h => by simp [rec_Bytes.j0] at h
 | k + 1 => by
  have ih0 := rec_Bytes.mono_l k
  ·intro y0 y1 y2 y3 y4 y5 y6
   unfold rec_Bytes.j0
   repeat' first
   | (with_reducible exact ih0 _ _ _ _ _ _ _)
   | (with_reducible exact rec_Check.mono _ _ _ _ _ _ _)
   | (with_reducible exact rec_eight.mono _ _)
   | (with_reducible exact sum_Sum.mono _ _ _)
   | (with_reducible exact vbi_Four.mono _ _)
   | (with_reducible exact vbi_Two.mono _ _)
   | (with_reducible exact LeO.refl _)
   | (with_reducible exact LeO.none _)
   | (with_reducible refine LeO.ite ?_ ?_)
   | (with_reducible refine LeO.bind ?_ (fun _ => ?_))
   | exact ih0 _ _ _ _ _ _ _
   | exact rec_Check.mono _ _ _ _ _ _ _
   | exact rec_eight.mono _ _
   | exact sum_Sum.mono _ _ _
   | exact vbi_Four.mono _ _
   | exact vbi_Two.mono _ _
   | exact LeO.none _
   | refine LeO.ite ?_ ?_
   | refine LeO.bind ?_ (fun _ => ?_)
theorem rec_Bytes.mono : ∀ a0 a1 a2 a3 a4 a5 k, LeO (rec_Bytes.f k a0 a1 a2 a3 a4 a5) (rec_Bytes.f (k + 1) a0 a1 a2 a3 a4 a5) := by
 intro a0 a1 a2 a3 a4 a5 k
 have ih0 := rec_Bytes.mono_l k
 unfold rec_Bytes.f
 repeat' first
  | (with_reducible exact ih0 _ _ _ _ _ _ _)
  | (with_reducible exact rec_Check.mono _ _ _ _ _ _ _)
  | (with_reducible exact rec_eight.mono _ _)
  | (with_reducible exact sum_Sum.mono _ _ _)
  | (with_reducible exact vbi_Four.mono _ _)
  | (with_reducible exact vbi_Two.mono _ _)
  | (with_reducible exact LeO.refl _)
  | (with_reducible exact LeO.none _)
  | (with_reducible refine LeO.ite ?_ ?_)
  | (with_reducible refine LeO.bind ?_ (fun _ => ?_))
  | exact ih0 _ _ _ _ _ _ _
  | exact rec_Check.mono _ _ _ _ _ _ _
  | exact rec_eight.mono _ _
  | exact sum_Sum.mono _ _ _
  | exact vbi_Four.mono _ _
  | exact vbi_Two.mono _ _
  | exact LeO.none _
  | refine LeO.ite ?_ ?_
  | refine LeO.bind ?_ (fun _ => ?_)
def rec_Bytes.T8 : Bool × List (List Nat × List Nat) := (true, [([], []), ([0], [0]), ([1], [1]), ([], []), ([3], [3]), ([4, 2], [4]), ([2, 5], [2, 5]), ([], []), ([7], [7]), ([8], [8]), ([6, 9], [6, 9]), ([], []), ([10, 11], [10, 11]), ([], []), ([13], [13]), ([12, 14], [12, 14]), ([], []), ([16], [16]), ([15, 17], [15, 17]), ([18, 5, 0, 1, 2, 3, 4, 5, 6, 7, 8, 9, 10, 11, 12, 13, 14, 15, 16, 17, 18], [18])])
def rec_Bytes.B8 : List Nat := [0, 1, 3, 0, 8, 31, 63, 0, 128, 384, 1023, 0, 4095, 0, 8192, 32767, 0, 65536, 262143, 524287]
theorem rec_Bytes.tab8 : rtab .any (opsOf Try.f14 8) = rec_Bytes.T8 := by kernel_rfl
theorem rec_Bytes.bits8 : waitsOk rec_Bytes.T8.2 rec_Bytes.B8 = true := by kernel_rfl
set_option maxHeartbeats 8000000 in
set_option maxRecDepth 100000 in
theorem rec_Bytes.calls (k : Nat) (a0_0 : Int) (a0_1 : Int) (a0_2 : ByteArray) (a0_3 : ByteArray) (a0_4 : Int) (a0_5 : Bool) (r1 : ByteArray) (r2 : Int) (w : World) (h : rec_Bytes.f k a0_0 a0_1 a0_2 a0_3 a0_4 a0_5 = some (r1, r2)) :
 Calls Try.prog 14 #[.agg #[.int .i64 a0_0, .int .i64 a0_1, .string a0_2, .string a0_3, .int .i64 a0_4, .bool a0_5]] w fun e w' => e = .returned (.tuple #[.string r1, .int .i64 r2]) ∧ Below w.heap.size w w' := by
 have hu25 := Try.underlying25
 have HB := Aside0.mk (Below.refl w.heap.size w)
 have H : ((rec_Check.f k a0_0 a0_1 a0_2 a0_3 a0_4 a0_5).bind fun t115 => (if t115 = 0 then (if a0_5 = true then (rec_Bytes.j0 k (Go.bits .or .u8 ((a0_4) % 256) 4) a0_0 a0_1 a0_2 a0_3 a0_4 a0_5) else (rec_Bytes.j0 k ((a0_4) % 256) a0_0 a0_1 a0_2 a0_3 a0_4 a0_5)) else (some ((⟨#[]⟩ : ByteArray), t115)))) = some (r1, r2) := h
 clear h
 replace H := Option.bind_eq_some_iff.mp H
 obtain ⟨t115, A20, H⟩ := H
 replace H : (if t115 = 0 then (if a0_5 = true then (rec_Bytes.j0 k (Go.bits .or .u8 ((a0_4) % 256) 4) a0_0 a0_1 a0_2 a0_3 a0_4 a0_5) else (rec_Bytes.j0 k ((a0_4) % 256) a0_0 a0_1 a0_2 a0_3 a0_4 a0_5)) else (some ((⟨#[]⟩ : ByteArray), t115))) = some (r1, r2) := H
 have A2 := Aside0.mk A20
 clear A20
 by_cases c3 : t115 = 0
 ·rw [if_pos c3] at H
  have c3b0 : (t115 == 0) = true := beq_iff_eq.mpr c3
  have c3b1 : (t115 != 0) = false := bne_eq_false_iff_eq.mpr c3
  clear c3
  have HC4 := Aside0.mk H
  clear H
  go_enter Try.func14, Try.ntmps14
  go_upto_if 22 with (first | ((with_reducible refine gate_dst (N := 1) rfl ?_); refine box_event ?hg (N := 1) ?hd (cs := #[.int .i64 a0_0, .int .i64 a0_1, .string a0_2, .string a0_3, .int .i64 a0_4, .bool a0_5]) (t := 25) ?hr ?_; (case hd => rfl); (case hg => rfl); (case hr => first | (go_simp; done) | (go_simp; rfl)); intro gb114 hg w5 hbox hb; have BK114 := Aside0.mk (hbox); have GW114 := Aside0.mk ((by rw [hg]; exact (below_size bo) : w.heap.size ≤ gb114)); have GE114 := Aside0.mk ((by rw [hg]; exact (below_size bo) : w.heap.size ≤ gb114)); replace HB := Aside0.mk (below_step bo hb); clear hb hbox hg; obtain ⟨hcz6_0, hcz6_1, hcz6_2, hcz6_3, hcz6_4, hcz6_5⟩ := cl6 BK114.out; obtain ⟨hfz6_0, hfz6_1, hfz6_2, hfz6_3, hfz6_4, hfz6_5⟩ := fz6 BK114.out) | ((with_reducible refine gate_callee (f := 22) rfl ?_); refine goesL_ (some 14) rfl rfl Try.func22 (by kernel_rfl) rfl #[.agg #[.int .i64 a0_0, .int .i64 a0_1, .string a0_2, .string a0_3, .int .i64 a0_4, .bool a0_5]] rfl aa ?_; (with_reducible refine (rec_Check.calls k a0_0 a0_1 a0_2 a0_3 a0_4 a0_5 t115 _ A2.out).mono ?_); rintro e w7 ⟨rfl, hb⟩; refine ⟨_, rfl, ?_⟩; replace BK114 := Aside0.mk (bb BK114.out hb); replace HB := Aside0.mk (below_step bo hb); (try clear hb); (try clear hb2); (try clear hk); (try clear hi); obtain ⟨hcz8_0, hcz8_1, hcz8_2, hcz8_3, hcz8_4, hcz8_5⟩ := cl6 BK114.out; obtain ⟨hfz8_0, hfz8_1, hfz8_2, hfz8_3, hfz8_4, hfz8_5⟩ := fz6 BK114.out))
  (try simp only [Act.put, List.setIfInBounds_toArray, List.set_cons_zero, List.set_cons_succ])
  go_cut [5] (fun v5 wc => ∃ (kq : Nat) (x5_3 : Int), v5 = .int .u8 x5_3 ∧ Aside0 (rec_Bytes.j0 kq x5_3 a0_0 a0_1 a0_2 a0_3 a0_4 a0_5 = some (r1, r2)) ∧ Aside0 (kq ≤ k) ∧ Aside0 (wc.heap[gb114]? = some (.cells #[.int .i64 a0_0, .int .i64 a0_1, .string a0_2, .string a0_3, .int .i64 a0_4, .bool a0_5] 25 (0, 0))) ∧ Aside0 (Below w.heap.size w wc))
  case first =>
   have H := HC4.out
   clear HC4
   by_cases c9 : a0_5 = true
   ·subst c9
    have H1 : (rec_Bytes.j0 k (Go.bits .or .u8 ((a0_4) % 256) 4) a0_0 a0_1 a0_2 a0_3 a0_4 true) = some (r1, r2) := by rw [if_pos rfl] at H; exact H
    clear H
    have H := H1
    clear H1
    have H' := Aside0.mk H
    clear H
    go_wp2
    go_meet
    case rel => exact ⟨_, (Go.bits .or .u8 ((a0_4) % 256) 4), ap, H', ⟨by first | omega | exact Nat.le_refl _⟩, ⟨by (with_reducible repeat (first | refine blk_drewN ?_ _ | refine blk_drew ?_ | refine blk_alloc ?_ _)); exact BK114.out⟩, ⟨bo⟩⟩
   ·replace c9 := Bool.eq_false_iff.mpr c9
    subst c9
    have H1 : (rec_Bytes.j0 k ((a0_4) % 256) a0_0 a0_1 a0_2 a0_3 a0_4 false) = some (r1, r2) := by rw [if_neg (show ¬ (false = true) by decide)] at H; exact H
    clear H
    have H := H1
    clear H1
    have H' := Aside0.mk H
    clear H
    go_wp2
    go_meet
    case rel => exact ⟨_, ((a0_4) % 256), ap, H', ⟨by first | omega | exact Nat.le_refl _⟩, ⟨by (with_reducible repeat (first | refine blk_drewN ?_ _ | refine blk_drew ?_ | refine blk_alloc ?_ _)); exact BK114.out⟩, ⟨bo⟩⟩
  case rest =>
   clear HC4
   try clear c1
   try clear c2
   try clear p2
   try clear c3
   try clear c3b0
   try clear c3b1
   try clear c9
   try clear hcz6_0
   try clear hcz6_1
   try clear hcz6_2
   try clear hcz6_3
   try clear hcz6_4
   try clear hcz6_5
   try clear hcz8_0
   try clear hcz8_1
   try clear hcz8_2
   try clear hcz8_3
   try clear hcz8_4
   try clear hcz8_5
   try clear hfz6_0
   try clear hfz6_1
   try clear hfz6_2
   try clear hfz6_3
   try clear hfz6_4
   try clear hfz6_5
   try clear hfz8_0
   try clear hfz8_1
   try clear hfz8_2
   try clear hfz8_3
   try clear hfz8_4
   try clear hfz8_5
   obtain ⟨kq, x5_3, rfl, HA, HJ3, BK114, HB⟩ := hcut
   cases kq with
   | zero => exact absurd HA.out (by simp [rec_Bytes.j0])
   | succ kj3 =>
    have H := HA.out
    clear HA
    simp only [rec_Bytes.j0] at H
    replace H := Option.bind_eq_some_iff.mp H
    obtain ⟨⟨t116, t117⟩, A100, H⟩ := H
    replace H : ((rec_eight.f kj3 a0_0).bind fun t118 => ((rec_eight.f kj3 a0_1).bind fun t119 => (if t118.size + t119.size ≤ 9223372036854775807 then ((some (([x5_3] : List Int) : List Int)).bind fun y120 => (if (t118 ++ t119).size + (strOfNums y120).size ≤ 9223372036854775807 then (if ((t118 ++ t119) ++ (strOfNums y120)).size + t116.size ≤ 9223372036854775807 then (if (((t118 ++ t119) ++ (strOfNums y120)) ++ t116).size + a0_2.size ≤ 9223372036854775807 then (if ((((t118 ++ t119) ++ (strOfNums y120)) ++ t116) ++ a0_2).size + a0_3.size ≤ 9223372036854775807 then ((vbi_Two.f kj3 ((((((t118 ++ t119) ++ (strOfNums y120)) ++ t116) ++ a0_2) ++ a0_3).size : Int)).bind fun bt123 => ((sum_Sum.f kj3 0 bt123.1).bind fun t125 => ((sum_Sum.f kj3 t125 (((((t118 ++ t119) ++ (strOfNums y120)) ++ t116) ++ a0_2) ++ a0_3)).bind fun t126 => ((vbi_Four.f kj3 (wrap64 (t126))).bind fun bt127 => (if bt123.1.size + bt127.1.size ≤ 9223372036854775807 then (if (bt123.1 ++ bt127.1).size + (((((t118 ++ t119) ++ (strOfNums y120)) ++ t116) ++ a0_2) ++ a0_3).size ≤ 9223372036854775807 then (some ((bt123.1 ++ bt127.1) ++ (((((t118 ++ t119) ++ (strOfNums y120)) ++ t116) ++ a0_2) ++ a0_3), 0)) else (none)) else (none)))))) else (none)) else (none)) else (none)) else (none))) else (none)))) = some (r1, r2) := H
    have A10 := Aside0.mk A100
    clear A100
    replace H := Option.bind_eq_some_iff.mp H
    obtain ⟨t118, A110, H⟩ := H
    replace H : ((rec_eight.f kj3 a0_1).bind fun t119 => (if t118.size + t119.size ≤ 9223372036854775807 then ((some (([x5_3] : List Int) : List Int)).bind fun y120 => (if (t118 ++ t119).size + (strOfNums y120).size ≤ 9223372036854775807 then (if ((t118 ++ t119) ++ (strOfNums y120)).size + t116.size ≤ 9223372036854775807 then (if (((t118 ++ t119) ++ (strOfNums y120)) ++ t116).size + a0_2.size ≤ 9223372036854775807 then (if ((((t118 ++ t119) ++ (strOfNums y120)) ++ t116) ++ a0_2).size + a0_3.size ≤ 9223372036854775807 then ((vbi_Two.f kj3 ((((((t118 ++ t119) ++ (strOfNums y120)) ++ t116) ++ a0_2) ++ a0_3).size : Int)).bind fun bt123 => ((sum_Sum.f kj3 0 bt123.1).bind fun t125 => ((sum_Sum.f kj3 t125 (((((t118 ++ t119) ++ (strOfNums y120)) ++ t116) ++ a0_2) ++ a0_3)).bind fun t126 => ((vbi_Four.f kj3 (wrap64 (t126))).bind fun bt127 => (if bt123.1.size + bt127.1.size ≤ 9223372036854775807 then (if (bt123.1 ++ bt127.1).size + (((((t118 ++ t119) ++ (strOfNums y120)) ++ t116) ++ a0_2) ++ a0_3).size ≤ 9223372036854775807 then (some ((bt123.1 ++ bt127.1) ++ (((((t118 ++ t119) ++ (strOfNums y120)) ++ t116) ++ a0_2) ++ a0_3), 0)) else (none)) else (none)))))) else (none)) else (none)) else (none)) else (none))) else (none))) = some (r1, r2) := H
    have A11 := Aside0.mk A110
    clear A110
    replace H := Option.bind_eq_some_iff.mp H
    obtain ⟨t119, A120, H⟩ := H
    replace H : (if t118.size + t119.size ≤ 9223372036854775807 then ((some (([x5_3] : List Int) : List Int)).bind fun y120 => (if (t118 ++ t119).size + (strOfNums y120).size ≤ 9223372036854775807 then (if ((t118 ++ t119) ++ (strOfNums y120)).size + t116.size ≤ 9223372036854775807 then (if (((t118 ++ t119) ++ (strOfNums y120)) ++ t116).size + a0_2.size ≤ 9223372036854775807 then (if ((((t118 ++ t119) ++ (strOfNums y120)) ++ t116) ++ a0_2).size + a0_3.size ≤ 9223372036854775807 then ((vbi_Two.f kj3 ((((((t118 ++ t119) ++ (strOfNums y120)) ++ t116) ++ a0_2) ++ a0_3).size : Int)).bind fun bt123 => ((sum_Sum.f kj3 0 bt123.1).bind fun t125 => ((sum_Sum.f kj3 t125 (((((t118 ++ t119) ++ (strOfNums y120)) ++ t116) ++ a0_2) ++ a0_3)).bind fun t126 => ((vbi_Four.f kj3 (wrap64 (t126))).bind fun bt127 => (if bt123.1.size + bt127.1.size ≤ 9223372036854775807 then (if (bt123.1 ++ bt127.1).size + (((((t118 ++ t119) ++ (strOfNums y120)) ++ t116) ++ a0_2) ++ a0_3).size ≤ 9223372036854775807 then (some ((bt123.1 ++ bt127.1) ++ (((((t118 ++ t119) ++ (strOfNums y120)) ++ t116) ++ a0_2) ++ a0_3), 0)) else (none)) else (none)))))) else (none)) else (none)) else (none)) else (none))) else (none)) = some (r1, r2) := H
    have A12 := Aside0.mk A120
    clear A120
    by_cases c13 : t118.size + t119.size ≤ 9223372036854775807
    ·rw [if_pos c13] at H
     have c13b0 := eq_true c13
     have c13b1 : decide (t118.size + t119.size ≤ 9223372036854775807) = true := decide_eq_true c13
     try have c13b2 : (9223372036854775807 < t118.size + t119.size) = False := eq_false (Nat.not_lt.2 c13)
     obtain ⟨y120, hy120⟩ : ∃ y_ : List Int, y_ = (([x5_3] : List Int)) := ⟨_, rfl⟩
     replace H : (if (t118 ++ t119).size + (strOfNums y120).size ≤ 9223372036854775807 then (if ((t118 ++ t119) ++ (strOfNums y120)).size + t116.size ≤ 9223372036854775807 then (if (((t118 ++ t119) ++ (strOfNums y120)) ++ t116).size + a0_2.size ≤ 9223372036854775807 then (if ((((t118 ++ t119) ++ (strOfNums y120)) ++ t116) ++ a0_2).size + a0_3.size ≤ 9223372036854775807 then ((vbi_Two.f kj3 ((((((t118 ++ t119) ++ (strOfNums y120)) ++ t116) ++ a0_2) ++ a0_3).size : Int)).bind fun bt123 => ((sum_Sum.f kj3 0 bt123.1).bind fun t125 => ((sum_Sum.f kj3 t125 (((((t118 ++ t119) ++ (strOfNums y120)) ++ t116) ++ a0_2) ++ a0_3)).bind fun t126 => ((vbi_Four.f kj3 (wrap64 (t126))).bind fun bt127 => (if bt123.1.size + bt127.1.size ≤ 9223372036854775807 then (if (bt123.1 ++ bt127.1).size + (((((t118 ++ t119) ++ (strOfNums y120)) ++ t116) ++ a0_2) ++ a0_3).size ≤ 9223372036854775807 then (some ((bt123.1 ++ bt127.1) ++ (((((t118 ++ t119) ++ (strOfNums y120)) ++ t116) ++ a0_2) ++ a0_3), 0)) else (none)) else (none)))))) else (none)) else (none)) else (none)) else (none)) = some (r1, r2) := by first | (rw [hy120]; with_reducible exact H) | (have H2_ := (Option.bind_some _ _).symm.trans H; rw [hy120]; with_reducible exact H2_) | (have H2_ := (Option.bind_some _ _).symm.trans H; with_reducible exact H2_) | with_reducible exact H | (rw [hy120]; exact H) | exact H
     have Ny120 := Aside0.mk hy120
     clear hy120
     by_cases c14 : (t118 ++ t119).size + (strOfNums y120).size ≤ 9223372036854775807
     ·rw [if_pos c14] at H
      have c14b0 := eq_true c14
      have c14b1 : decide ((t118 ++ t119).size + (strOfNums y120).size ≤ 9223372036854775807) = true := decide_eq_true c14
      try have c14b2 : (9223372036854775807 < (t118 ++ t119).size + (strOfNums y120).size) = False := eq_false (Nat.not_lt.2 c14)
      (try (have c14n2 := c14b2; simp only [ByteArray.size_append] at c14n2))
      (try (have c14n1 := c14b1; simp only [ByteArray.size_append] at c14n1))
      by_cases c15 : ((t118 ++ t119) ++ (strOfNums y120)).size + t116.size ≤ 9223372036854775807
      ·rw [if_pos c15] at H
       have c15b0 := eq_true c15
       have c15b1 : decide (((t118 ++ t119) ++ (strOfNums y120)).size + t116.size ≤ 9223372036854775807) = true := decide_eq_true c15
       try have c15b2 : (9223372036854775807 < ((t118 ++ t119) ++ (strOfNums y120)).size + t116.size) = False := eq_false (Nat.not_lt.2 c15)
       (try (have c15n2 := c15b2; simp only [ByteArray.size_append] at c15n2))
       (try (have c15n1 := c15b1; simp only [ByteArray.size_append] at c15n1))
       by_cases c16 : (((t118 ++ t119) ++ (strOfNums y120)) ++ t116).size + a0_2.size ≤ 9223372036854775807
       ·rw [if_pos c16] at H
        have c16b0 := eq_true c16
        have c16b1 : decide ((((t118 ++ t119) ++ (strOfNums y120)) ++ t116).size + a0_2.size ≤ 9223372036854775807) = true := decide_eq_true c16
        try have c16b2 : (9223372036854775807 < (((t118 ++ t119) ++ (strOfNums y120)) ++ t116).size + a0_2.size) = False := eq_false (Nat.not_lt.2 c16)
        (try (have c16n2 := c16b2; simp only [ByteArray.size_append] at c16n2))
        (try (have c16n1 := c16b1; simp only [ByteArray.size_append] at c16n1))
        by_cases c17 : ((((t118 ++ t119) ++ (strOfNums y120)) ++ t116) ++ a0_2).size + a0_3.size ≤ 9223372036854775807
        ·rw [if_pos c17] at H
         have c17b0 := eq_true c17
         have c17b1 : decide (((((t118 ++ t119) ++ (strOfNums y120)) ++ t116) ++ a0_2).size + a0_3.size ≤ 9223372036854775807) = true := decide_eq_true c17
         try have c17b2 : (9223372036854775807 < ((((t118 ++ t119) ++ (strOfNums y120)) ++ t116) ++ a0_2).size + a0_3.size) = False := eq_false (Nat.not_lt.2 c17)
         (try (have c17n2 := c17b2; simp only [ByteArray.size_append] at c17n2))
         (try (have c17n1 := c17b1; simp only [ByteArray.size_append] at c17n1))
         replace H := Option.bind_eq_some_iff.mp H
         obtain ⟨⟨t123, t124⟩, A180, H⟩ := H
         replace H : ((sum_Sum.f kj3 0 t123).bind fun t125 => ((sum_Sum.f kj3 t125 (((((t118 ++ t119) ++ (strOfNums y120)) ++ t116) ++ a0_2) ++ a0_3)).bind fun t126 => ((vbi_Four.f kj3 (wrap64 (t126))).bind fun bt127 => (if t123.size + bt127.1.size ≤ 9223372036854775807 then (if (t123 ++ bt127.1).size + (((((t118 ++ t119) ++ (strOfNums y120)) ++ t116) ++ a0_2) ++ a0_3).size ≤ 9223372036854775807 then (some ((t123 ++ bt127.1) ++ (((((t118 ++ t119) ++ (strOfNums y120)) ++ t116) ++ a0_2) ++ a0_3), 0)) else (none)) else (none))))) = some (r1, r2) := H
         have A18 := Aside0.mk A180
         clear A180
         replace H := Option.bind_eq_some_iff.mp H
         obtain ⟨t125, A190, H⟩ := H
         replace H : ((sum_Sum.f kj3 t125 (((((t118 ++ t119) ++ (strOfNums y120)) ++ t116) ++ a0_2) ++ a0_3)).bind fun t126 => ((vbi_Four.f kj3 (wrap64 (t126))).bind fun bt127 => (if t123.size + bt127.1.size ≤ 9223372036854775807 then (if (t123 ++ bt127.1).size + (((((t118 ++ t119) ++ (strOfNums y120)) ++ t116) ++ a0_2) ++ a0_3).size ≤ 9223372036854775807 then (some ((t123 ++ bt127.1) ++ (((((t118 ++ t119) ++ (strOfNums y120)) ++ t116) ++ a0_2) ++ a0_3), 0)) else (none)) else (none)))) = some (r1, r2) := H
         have A19 := Aside0.mk A190
         clear A190
         replace H := Option.bind_eq_some_iff.mp H
         obtain ⟨t126, A200, H⟩ := H
         replace H : ((vbi_Four.f kj3 (wrap64 (t126))).bind fun bt127 => (if t123.size + bt127.1.size ≤ 9223372036854775807 then (if (t123 ++ bt127.1).size + (((((t118 ++ t119) ++ (strOfNums y120)) ++ t116) ++ a0_2) ++ a0_3).size ≤ 9223372036854775807 then (some ((t123 ++ bt127.1) ++ (((((t118 ++ t119) ++ (strOfNums y120)) ++ t116) ++ a0_2) ++ a0_3), 0)) else (none)) else (none))) = some (r1, r2) := H
         have A20 := Aside0.mk A200
         clear A200
         replace H := Option.bind_eq_some_iff.mp H
         obtain ⟨⟨t127, t128⟩, A210, H⟩ := H
         replace H : (if t123.size + t127.size ≤ 9223372036854775807 then (if (t123 ++ t127).size + (((((t118 ++ t119) ++ (strOfNums y120)) ++ t116) ++ a0_2) ++ a0_3).size ≤ 9223372036854775807 then (some ((t123 ++ t127) ++ (((((t118 ++ t119) ++ (strOfNums y120)) ++ t116) ++ a0_2) ++ a0_3), 0)) else (none)) else (none)) = some (r1, r2) := H
         have A21 := Aside0.mk A210
         clear A210
         by_cases c22 : t123.size + t127.size ≤ 9223372036854775807
         ·rw [if_pos c22] at H
          have c22b0 := eq_true c22
          have c22b1 : decide (t123.size + t127.size ≤ 9223372036854775807) = true := decide_eq_true c22
          try have c22b2 : (9223372036854775807 < t123.size + t127.size) = False := eq_false (Nat.not_lt.2 c22)
          by_cases c23 : (t123 ++ t127).size + (((((t118 ++ t119) ++ (strOfNums y120)) ++ t116) ++ a0_2) ++ a0_3).size ≤ 9223372036854775807
          ·rw [if_pos c23] at H
           have c23b0 := eq_true c23
           have c23b1 : decide ((t123 ++ t127).size + (((((t118 ++ t119) ++ (strOfNums y120)) ++ t116) ++ a0_2) ++ a0_3).size ≤ 9223372036854775807) = true := decide_eq_true c23
           try have c23b2 : (9223372036854775807 < (t123 ++ t127).size + (((((t118 ++ t119) ++ (strOfNums y120)) ++ t116) ++ a0_2) ++ a0_3).size) = False := eq_false (Nat.not_lt.2 c23)
           (try (have c23n2 := c23b2; simp only [ByteArray.size_append] at c23n2))
           (try (have c23n1 := c23b1; simp only [ByteArray.size_append] at c23n1))
           simp only [Option.some.injEq, Prod.mk.injEq] at H
           obtain ⟨rfl, rfl⟩ := H
           have hcz24_0 : wc.cell? ⟨gb114, 0, none⟩ = some (.int .i64 a0_0) := (blk_cell BK114.out 0).trans rfl
           have hcz24_1 : wc.cell? ⟨gb114, 1, none⟩ = some (.int .i64 a0_1) := (blk_cell BK114.out 1).trans rfl
           have hcz24_2 : wc.cell? ⟨gb114, 2, none⟩ = some (.string a0_2) := (blk_cell BK114.out 2).trans rfl
           have hcz24_3 : wc.cell? ⟨gb114, 3, none⟩ = some (.string a0_3) := (blk_cell BK114.out 3).trans rfl
           have hcz24_4 : wc.cell? ⟨gb114, 4, none⟩ = some (.int .i64 a0_4) := (blk_cell BK114.out 4).trans rfl
           have hcz24_5 : wc.cell? ⟨gb114, 5, none⟩ = some (.bool a0_5) := (blk_cell BK114.out 5).trans rfl
           have hfz24_0 := blk_frozen BK114.out 0
           have hfz24_1 := blk_frozen BK114.out 1
           have hfz24_2 := blk_frozen BK114.out 2
           have hfz24_3 := blk_frozen BK114.out 3
           have hfz24_4 := blk_frozen BK114.out 4
           have hfz24_5 := blk_frozen BK114.out 5
           try go_wp2_with (first | ((with_reducible refine gate_callee (f := 60) rfl ?_); refine goesL_ (some 29) rfl rfl Try.func60 (by kernel_rfl) rfl #[.int .i64 (a0_2.size : Int)] rfl aa ?_; (with_reducible refine (vbi_Two.calls kj3 (a0_2.size : Int) t116 t117 _ A10.out).mono ?_); rintro e w25 ⟨rfl, hb⟩; refine ⟨_, rfl, ?_⟩; replace BK114 := Aside0.mk (bb BK114.out hb); replace HB := Aside0.mk (below_step bo hb); (try clear hb); (try clear hb2); (try clear hk); (try clear hi)))
           replace BK114 := Aside0.mk (blk_drew BK114.out)
           replace HB := Aside0.mk (below_drew1 HB.out)
           refine start_ (n := 20) (S := fun w' => w'.cell? ⟨gb114, 0, none⟩ = some (.int .i64 a0_0) ∧ w'.cell? ⟨gb114, 1, none⟩ = some (.int .i64 a0_1) ∧ w'.cell? ⟨gb114, 2, none⟩ = some (.string a0_2) ∧ w'.cell? ⟨gb114, 3, none⟩ = some (.string a0_3) ∧ w'.cell? ⟨gb114, 4, none⟩ = some (.int .i64 a0_4) ∧ w'.cell? ⟨gb114, 5, none⟩ = some (.bool a0_5)) (ds := []) #[O,O,O,O,O,O,O,O,O,O,O,O,O,O,O,O,O,O,O,O] (by kernel_rfl) rfl rfl ⟨(blk_cell BK114.out 0).trans rfl, (blk_cell BK114.out 1).trans rfl, (blk_cell BK114.out 2).trans rfl, (blk_cell BK114.out 3).trans rfl, (blk_cell BK114.out 4).trans rfl, (blk_cell BK114.out 5).trans rfl⟩ (fun hHeld => ?_); refine with_tabW rec_Bytes.tab8 rec_Bytes.bits8 (fun HT_ HW_ => ?_)
           generalize w25.drew = w26 at BK114 HB hHeld ⊢
           refine pz (i := 0) (N := some 32) #[I,O,O,O,O,O,O,O,O,O,O,O,O,O,O,O,O,O,O,O] ?_
           refine pz (i := 3) (N := some 35) #[I,O,O,I,O,O,O,O,O,O,O,O,O,O,O,O,O,O,O,O] ?_
           refine pz (i := 7) (N := some 39) #[I,O,O,I,O,O,O,I,O,O,O,O,O,O,O,O,O,O,O,O] ?_
           refine pz (i := 11) (N := some 43) #[I,O,O,I,O,O,O,I,O,O,O,I,O,O,O,O,O,O,O,O] ?_
           refine pz (i := 13) (N := some 45) #[I,O,O,I,O,O,O,I,O,O,O,I,O,I,O,O,O,O,O,O] ?_
           refine pz (i := 16) (N := some 48) #[I,O,O,I,O,O,O,I,O,O,O,I,O,I,O,O,I,O,O,O] ?_
           refine tz (i := 1) (N := some 33) #[I,I,O,I,O,O,O,I,O,O,O,I,O,I,O,O,I,O,O,O] ?_
           refine tz (i := 4) (N := some 36) #[I,I,O,I,I,O,O,I,O,O,O,I,O,I,O,O,I,O,O,O] ?_
           refine tz (i := 14) (N := some 46) #[I,I,O,I,I,O,O,I,O,O,O,I,O,I,I,O,I,O,O,O] ?_
           refine tz (i := 17) (N := some 49) #[I,I,O,I,I,O,O,I,O,O,O,I,O,I,I,O,I,I,O,O] ?_
           refine join_ (σ := Value) 5 #[I,I,I,I,I,I,I,I,I,I,O,I,O,I,I,O,I,I,O,O] (fun s_ => [(34, .string t118), (37, .string t119), (40, s_), (41, .string (strOfNums y120)), (38, .string (t118 ++ t119))]) (fun s_ w' => (w'.cell? ⟨gb114, 0, none⟩ = some (.int .i64 a0_0) ∧ w'.cell? ⟨gb114, 1, none⟩ = some (.int .i64 a0_1) ∧ w'.cell? ⟨gb114, 2, none⟩ = some (.string a0_2) ∧ w'.cell? ⟨gb114, 3, none⟩ = some (.string a0_3) ∧ w'.cell? ⟨gb114, 4, none⟩ = some (.int .i64 a0_4) ∧ w'.cell? ⟨gb114, 5, none⟩ = some (.bool a0_5)) ∧ (Kd.R (Kd.int .u8) 5 w' w.heap.size (fun _ => True) s_ y120) ∧ (w'.heap[gb114]? = some (.cells #[.int .i64 a0_0, .int .i64 a0_1, .string a0_2, .string a0_3, .int .i64 a0_4, .bool a0_5] 25 (0, 0))) ∧ (Below w.heap.size w w')) ?_ ?_
           rotate_left
           ·intro hJ2_5_8_9
            refine join_ (σ := Value) 6 #[I,I,I,I,I,I,I,I,I,O,O,I,O,I,I,O,I,I,O,O] (fun s_ => [(34, .string t118), (37, .string t119), (40, s_), (38, .string (t118 ++ t119))]) (fun s_ w' => (w'.cell? ⟨gb114, 0, none⟩ = some (.int .i64 a0_0) ∧ w'.cell? ⟨gb114, 1, none⟩ = some (.int .i64 a0_1) ∧ w'.cell? ⟨gb114, 2, none⟩ = some (.string a0_2) ∧ w'.cell? ⟨gb114, 3, none⟩ = some (.string a0_3) ∧ w'.cell? ⟨gb114, 4, none⟩ = some (.int .i64 a0_4) ∧ w'.cell? ⟨gb114, 5, none⟩ = some (.bool a0_5)) ∧ (Kd.R (Kd.int .u8) 5 w' w.heap.size (fun _ => True) s_ y120) ∧ (w'.heap[gb114]? = some (.cells #[.int .i64 a0_0, .int .i64 a0_1, .string a0_2, .string a0_3, .int .i64 a0_4, .bool a0_5] 25 (0, 0))) ∧ (Below w.heap.size w w')) ?_ ?_
            rotate_left
            ·intro hJ2_5_8
             refine join_ (σ := Value) 7 #[I,I,I,I,I,O,O,I,I,I,O,I,O,I,I,O,I,I,O,O] (fun s_ => [(34, .string t118), (40, s_), (41, .string (strOfNums y120))]) (fun s_ w' => (w'.cell? ⟨gb114, 0, none⟩ = some (.int .i64 a0_0) ∧ w'.cell? ⟨gb114, 1, none⟩ = some (.int .i64 a0_1) ∧ w'.cell? ⟨gb114, 2, none⟩ = some (.string a0_2) ∧ w'.cell? ⟨gb114, 3, none⟩ = some (.string a0_3) ∧ w'.cell? ⟨gb114, 4, none⟩ = some (.int .i64 a0_4) ∧ w'.cell? ⟨gb114, 5, none⟩ = some (.bool a0_5)) ∧ (Kd.R (Kd.int .u8) 5 w' w.heap.size (fun _ => True) s_ y120) ∧ (w'.heap[gb114]? = some (.cells #[.int .i64 a0_0, .int .i64 a0_1, .string a0_2, .string a0_3, .int .i64 a0_4, .bool a0_5] 25 (0, 0))) ∧ (Below w.heap.size w w')) ?_ ?_
             rotate_left
             ·intro hJ2_8_9
              refine join_ (σ := Unit) 7 #[I,I,I,I,I,I,I,I,O,O,O,I,O,I,I,O,I,I,O,O] (fun s_ => [(34, .string t118), (37, .string t119), (38, .string (t118 ++ t119))]) (fun s_ w' => (w'.cell? ⟨gb114, 0, none⟩ = some (.int .i64 a0_0) ∧ w'.cell? ⟨gb114, 1, none⟩ = some (.int .i64 a0_1) ∧ w'.cell? ⟨gb114, 2, none⟩ = some (.string a0_2) ∧ w'.cell? ⟨gb114, 3, none⟩ = some (.string a0_3) ∧ w'.cell? ⟨gb114, 4, none⟩ = some (.int .i64 a0_4) ∧ w'.cell? ⟨gb114, 5, none⟩ = some (.bool a0_5)) ∧ (w'.heap[gb114]? = some (.cells #[.int .i64 a0_0, .int .i64 a0_1, .string a0_2, .string a0_3, .int .i64 a0_4, .bool a0_5] 25 (0, 0))) ∧ (Below w.heap.size w w')) ?_ ?_
              rotate_left
              ·intro hJ2_5
               refine join_ (σ := Value) 8 #[I,I,I,I,I,O,O,I,I,O,O,I,O,I,I,O,I,I,O,O] (fun s_ => [(34, .string t118), (40, s_)]) (fun s_ w' => (w'.cell? ⟨gb114, 0, none⟩ = some (.int .i64 a0_0) ∧ w'.cell? ⟨gb114, 1, none⟩ = some (.int .i64 a0_1) ∧ w'.cell? ⟨gb114, 2, none⟩ = some (.string a0_2) ∧ w'.cell? ⟨gb114, 3, none⟩ = some (.string a0_3) ∧ w'.cell? ⟨gb114, 4, none⟩ = some (.int .i64 a0_4) ∧ w'.cell? ⟨gb114, 5, none⟩ = some (.bool a0_5)) ∧ (Kd.R (Kd.int .u8) 5 w' w.heap.size (fun _ => True) s_ y120) ∧ (w'.heap[gb114]? = some (.cells #[.int .i64 a0_0, .int .i64 a0_1, .string a0_2, .string a0_3, .int .i64 a0_4, .bool a0_5] 25 (0, 0))) ∧ (Below w.heap.size w w')) ?_ ?_
               rotate_left
               ·intro hJ2_8
                refine join_ (σ := Value) 8 #[I,I,O,I,I,O,O,I,I,I,O,I,O,I,I,O,I,I,O,O] (fun s_ => [(40, s_), (41, .string (strOfNums y120))]) (fun s_ w' => (w'.cell? ⟨gb114, 0, none⟩ = some (.int .i64 a0_0) ∧ w'.cell? ⟨gb114, 1, none⟩ = some (.int .i64 a0_1) ∧ w'.cell? ⟨gb114, 2, none⟩ = some (.string a0_2) ∧ w'.cell? ⟨gb114, 3, none⟩ = some (.string a0_3) ∧ w'.cell? ⟨gb114, 4, none⟩ = some (.int .i64 a0_4) ∧ w'.cell? ⟨gb114, 5, none⟩ = some (.bool a0_5)) ∧ (Kd.R (Kd.int .u8) 5 w' w.heap.size (fun _ => True) s_ y120) ∧ (w'.heap[gb114]? = some (.cells #[.int .i64 a0_0, .int .i64 a0_1, .string a0_2, .string a0_3, .int .i64 a0_4, .bool a0_5] 25 (0, 0))) ∧ (Below w.heap.size w w')) ?_ ?_
                rotate_left
                ·intro hJ8_9
                 refine join_ (σ := Unit) 9 #[I,I,I,I,I,O,O,I,O,O,O,I,O,I,I,O,I,I,O,O] (fun s_ => [(34, .string t118)]) (fun s_ w' => (w'.cell? ⟨gb114, 0, none⟩ = some (.int .i64 a0_0) ∧ w'.cell? ⟨gb114, 1, none⟩ = some (.int .i64 a0_1) ∧ w'.cell? ⟨gb114, 2, none⟩ = some (.string a0_2) ∧ w'.cell? ⟨gb114, 3, none⟩ = some (.string a0_3) ∧ w'.cell? ⟨gb114, 4, none⟩ = some (.int .i64 a0_4) ∧ w'.cell? ⟨gb114, 5, none⟩ = some (.bool a0_5)) ∧ (w'.heap[gb114]? = some (.cells #[.int .i64 a0_0, .int .i64 a0_1, .string a0_2, .string a0_3, .int .i64 a0_4, .bool a0_5] 25 (0, 0))) ∧ (Below w.heap.size w w')) ?_ ?_
                 rotate_left
                 ·intro hJ2
                  refine join_ (σ := Value) 9 #[I,I,O,I,I,O,O,I,I,O,O,I,O,I,I,O,I,I,O,O] (fun s_ => [(40, s_)]) (fun s_ w' => (w'.cell? ⟨gb114, 0, none⟩ = some (.int .i64 a0_0) ∧ w'.cell? ⟨gb114, 1, none⟩ = some (.int .i64 a0_1) ∧ w'.cell? ⟨gb114, 2, none⟩ = some (.string a0_2) ∧ w'.cell? ⟨gb114, 3, none⟩ = some (.string a0_3) ∧ w'.cell? ⟨gb114, 4, none⟩ = some (.int .i64 a0_4) ∧ w'.cell? ⟨gb114, 5, none⟩ = some (.bool a0_5)) ∧ (Kd.R (Kd.int .u8) 5 w' w.heap.size (fun _ => True) s_ y120) ∧ (w'.heap[gb114]? = some (.cells #[.int .i64 a0_0, .int .i64 a0_1, .string a0_2, .string a0_3, .int .i64 a0_4, .bool a0_5] 25 (0, 0))) ∧ (Below w.heap.size w w')) ?_ ?_
                  rotate_left
                  ·intro hJ8
                   refine two_ (i := 2) (j := 8) (Ni := some 34) (Nj := some 40) #[I,I,I,I,I,O,O,I,O,O,O,I,O,I,I,O,I,I,O,O] #[I,I,O,I,I,O,O,I,I,O,O,I,O,I,I,O,I,I,O,O] rfl rfl rfl rfl (two_of HT_.out (by kernel_rfl)) (by decide) (by decide) (fun K hK => ?_) (fun K hK => ?_)
                   ·skip
                    refine goes_ Try.func61 (by kernel_rfl) rfl #[.int .i64 a0_0] (by rfl) rfl rfl aa ?_
                    with_reducible refine (rec_eight.calls kj3 a0_0 t118 _ A11.out).mono ?_
                    rintro e w27 ⟨rfl, hb⟩
                    refine ⟨_, rfl, ?_⟩
                    replace BK114 := Aside0.mk (bb BK114.out hb)
                    replace HB := Aside0.mk (below_step bo hb)
                    (try clear hb)
                    (try clear hb2)
                    (try clear hk)
                    (try clear hi)
                    refine hK.out _ _ ⟨(blk_cell BK114.out 0).trans rfl, (blk_cell BK114.out 1).trans rfl, (blk_cell BK114.out 2).trans rfl, (blk_cell BK114.out 3).trans rfl, (blk_cell BK114.out 4).trans rfl, (blk_cell BK114.out 5).trans rfl⟩ (fun hHeld => ?_)
                    clear hK K
                    refine norm_ (a' := ?_) ?_ ?_
                    rotate_left
                    ·show Act.put _ (some 34) _ = _
                     simp only [Act.put, List.setIfInBounds_toArray, List.set_cons_zero, List.set_cons_succ, i64_w, i32_w]
                     rfl
                    exact norm_ (by first | (simp only [putAll, Act.put, List.setIfInBounds_toArray, List.set_cons_zero, List.set_cons_succ]; done) | (simp only [putAll, Act.put, List.setIfInBounds_toArray, List.set_cons_zero, List.set_cons_succ]; rfl)) (hJ2 () _ ⟨hHeld, (bk BK114.out), bo⟩)
                   ·skip
                    refine Kd.R_lit_step (Kd.int .u8) _ 5 ?hg (N := 40) ?hd (xs := ([x5_3] : List Int)) (inner := [.int .u8 x5_3]) (ok := fun _ => True) (okp := fun _ => True) ?hr ?hp (fun _ hk => hk) trivial (Below.refl _ _) (Nat.le_refl _) (by simp) ?_; (case hd => rfl); (case hg => rfl); (case hr => first | (go_simp; done) | (go_simp; rfl)); (case hp => exact (Reps.one (show Kd.M (Kd.int .u8) _ _ _ x5_3 [.int .u8 x5_3] from rfl) (Reps.none _ _)))
                    intro v121 w27 ho28 hb hg_ hnew_
                    clear hg_ hnew_
                    (first | rw [← Ny120.out] at ho28 | (simp only [Int.reduceToNat] at ho28; rw [← Ny120.out] at ho28))
                    have HO122 := Aside0.mk (Kd.R_lower ho28 (below_size bo))
                    replace BK114 := Aside0.mk (bb BK114.out hb)
                    replace HB := Aside0.mk (below_step bo hb)
                    clear hb ho28
                    refine hK.out _ _ ⟨(blk_cell BK114.out 0).trans rfl, (blk_cell BK114.out 1).trans rfl, (blk_cell BK114.out 2).trans rfl, (blk_cell BK114.out 3).trans rfl, (blk_cell BK114.out 4).trans rfl, (blk_cell BK114.out 5).trans rfl⟩ (fun hHeld => ?_)
                    clear hK K
                    refine norm_ (a' := ?_) ?_ ?_
                    rotate_left
                    ·show Act.put _ (some 40) _ = _
                     simp only [Act.put, List.setIfInBounds_toArray, List.set_cons_zero, List.set_cons_succ, i64_w, i32_w]
                     rfl
                    exact norm_ (by first | (simp only [putAll, Act.put, List.setIfInBounds_toArray, List.set_cons_zero, List.set_cons_succ]; done) | (simp only [putAll, Act.put, List.setIfInBounds_toArray, List.set_cons_zero, List.set_cons_succ]; rfl)) (hJ8 (v121) _ ⟨hHeld, (rk HO122.out), (bk BK114.out), bo⟩)
                  ·skip
                   rintro v121 w29 ⟨hS_, h0_, h1_, h2_⟩
                   have n0_ : Aside0 (Kd.R (Kd.int .u8) 5 w29 w.heap.size (fun _ => True) v121 y120) := ⟨h0_⟩
                   have n1_ : Aside0 (w29.heap[gb114]? = some (.cells #[.int .i64 a0_0, .int .i64 a0_1, .string a0_2, .string a0_3, .int .i64 a0_4, .bool a0_5] 25 (0, 0))) := ⟨h1_⟩
                   have n2_ : Aside0 (Below w.heap.size w w29) := ⟨h2_⟩
                   clear BK114
                   clear HB
                   clear h0_ h1_ h2_
                   have HO122 := n0_
                   have BK114 := n1_
                   have HB := n2_
                   clear n0_ n1_ n2_
                   have hHeld : w29.cell? ⟨gb114, 0, none⟩ = some (.int .i64 a0_0) ∧ w29.cell? ⟨gb114, 1, none⟩ = some (.int .i64 a0_1) ∧ w29.cell? ⟨gb114, 2, none⟩ = some (.string a0_2) ∧ w29.cell? ⟨gb114, 3, none⟩ = some (.string a0_3) ∧ w29.cell? ⟨gb114, 4, none⟩ = some (.int .i64 a0_4) ∧ w29.cell? ⟨gb114, 5, none⟩ = some (.bool a0_5) := hS_
                   refine norm_ (a' := ?_) ?_ ?_
                   rotate_left
                   ·simp only [putAll, Act.put, List.setIfInBounds_toArray, List.set_cons_zero, List.set_cons_succ]
                    rfl
                   refine two_ (i := 2) (j := 9) (Ni := some 34) (Nj := some 41) #[I,I,I,I,I,O,O,I,I,O,O,I,O,I,I,O,I,I,O,O] #[I,I,O,I,I,O,O,I,I,I,O,I,O,I,I,O,I,I,O,O] rfl rfl rfl rfl (two_of HT_.out (by kernel_rfl)) (by decide) (by decide) (fun K hK => ?_) (fun K hK => ?_)
                   ·skip
                    refine goes_ Try.func61 (by kernel_rfl) rfl #[.int .i64 a0_0] (by rfl) rfl rfl aa ?_
                    with_reducible refine (rec_eight.calls kj3 a0_0 t118 _ A11.out).mono ?_
                    rintro e w30 ⟨rfl, hb⟩
                    refine ⟨_, rfl, ?_⟩
                    replace HO122 := Aside0.mk (Kd.R_below (rk HO122.out) hb)
                    replace BK114 := Aside0.mk (bb BK114.out hb)
                    replace HB := Aside0.mk (below_step bo hb)
                    (try clear hb)
                    (try clear hb2)
                    (try clear hk)
                    (try clear hi)
                    refine hK.out _ _ ⟨(blk_cell BK114.out 0).trans rfl, (blk_cell BK114.out 1).trans rfl, (blk_cell BK114.out 2).trans rfl, (blk_cell BK114.out 3).trans rfl, (blk_cell BK114.out 4).trans rfl, (blk_cell BK114.out 5).trans rfl⟩ (fun hHeld => ?_)
                    clear hK K
                    refine norm_ (a' := ?_) ?_ ?_
                    rotate_left
                    ·show Act.put _ (some 34) _ = _
                     simp only [Act.put, List.setIfInBounds_toArray, List.set_cons_zero, List.set_cons_succ, i64_w, i32_w]
                     rfl
                    exact norm_ (by first | (simp only [putAll, Act.put, List.setIfInBounds_toArray, List.set_cons_zero, List.set_cons_succ]; done) | (simp only [putAll, Act.put, List.setIfInBounds_toArray, List.set_cons_zero, List.set_cons_succ]; rfl)) (hJ2_8 (v121) _ ⟨hHeld, (rk HO122.out), (bk BK114.out), bo⟩)
                   ·skip
                    have hcv30 := own_string (P := Try.prog) Try.underlying23 Try.underlying5 Try.underlying9 (Kd.own_of_R HO122.out)
                    refine value_ (w1 := ?_) (v := ?_) (by rfl) rfl ?_ ?_
                    rotate_left 2
                    ·go_simp
                     constructor
                     ·rfl
                     ·rfl
                    clear hcv30
                    refine hK.out _ _ ⟨(blk_cell BK114.out 0).trans rfl, (blk_cell BK114.out 1).trans rfl, (blk_cell BK114.out 2).trans rfl, (blk_cell BK114.out 3).trans rfl, (blk_cell BK114.out 4).trans rfl, (blk_cell BK114.out 5).trans rfl⟩ (fun hHeld => ?_)
                    clear hK K
                    refine norm_ (a' := ?_) ?_ ?_
                    rotate_left
                    ·show Act.put _ (some 41) _ = _
                     simp only [Act.put, List.setIfInBounds_toArray, List.set_cons_zero, List.set_cons_succ, i64_w, i32_w]
                     rfl
                    exact norm_ (by first | (simp only [putAll, Act.put, List.setIfInBounds_toArray, List.set_cons_zero, List.set_cons_succ]; done) | (simp only [putAll, Act.put, List.setIfInBounds_toArray, List.set_cons_zero, List.set_cons_succ]; rfl)) (hJ8_9 (v121) _ ⟨hHeld, (rk HO122.out), (bk BK114.out), bo⟩)
                 ·skip
                  rintro _ w28 ⟨hS_, h0_, h1_⟩
                  have n0_ : Aside0 (w28.heap[gb114]? = some (.cells #[.int .i64 a0_0, .int .i64 a0_1, .string a0_2, .string a0_3, .int .i64 a0_4, .bool a0_5] 25 (0, 0))) := ⟨h0_⟩
                  have n1_ : Aside0 (Below w.heap.size w w28) := ⟨h1_⟩
                  clear BK114
                  clear HB
                  clear h0_ h1_
                  have BK114 := n0_
                  have HB := n1_
                  clear n0_ n1_
                  have hHeld : w28.cell? ⟨gb114, 0, none⟩ = some (.int .i64 a0_0) ∧ w28.cell? ⟨gb114, 1, none⟩ = some (.int .i64 a0_1) ∧ w28.cell? ⟨gb114, 2, none⟩ = some (.string a0_2) ∧ w28.cell? ⟨gb114, 3, none⟩ = some (.string a0_3) ∧ w28.cell? ⟨gb114, 4, none⟩ = some (.int .i64 a0_4) ∧ w28.cell? ⟨gb114, 5, none⟩ = some (.bool a0_5) := hS_
                  refine norm_ (a' := ?_) ?_ ?_
                  rotate_left
                  ·simp only [putAll, Act.put, List.setIfInBounds_toArray, List.set_cons_zero, List.set_cons_succ]
                   rfl
                  refine two_ (i := 5) (j := 8) (Ni := some 37) (Nj := some 40) #[I,I,I,I,I,I,O,I,O,O,O,I,O,I,I,O,I,I,O,O] #[I,I,I,I,I,O,O,I,I,O,O,I,O,I,I,O,I,I,O,O] rfl rfl rfl rfl (two_of HT_.out (by kernel_rfl)) (by decide) (by decide) (fun K hK => ?_) (fun K hK => ?_)
                  ·skip
                   refine goes_ Try.func61 (by kernel_rfl) rfl #[.int .i64 a0_1] (by rfl) rfl rfl aa ?_
                   with_reducible refine (rec_eight.calls kj3 a0_1 t119 _ A12.out).mono ?_
                   rintro e w29 ⟨rfl, hb⟩
                   refine ⟨_, rfl, ?_⟩
                   replace BK114 := Aside0.mk (bb BK114.out hb)
                   replace HB := Aside0.mk (below_step bo hb)
                   (try clear hb)
                   (try clear hb2)
                   (try clear hk)
                   (try clear hi)
                   refine hK.out _ _ ⟨(blk_cell BK114.out 0).trans rfl, (blk_cell BK114.out 1).trans rfl, (blk_cell BK114.out 2).trans rfl, (blk_cell BK114.out 3).trans rfl, (blk_cell BK114.out 4).trans rfl, (blk_cell BK114.out 5).trans rfl⟩ (fun hHeld => ?_)
                   clear hK K
                   refine norm_ (a' := ?_) ?_ ?_
                   rotate_left
                   ·show Act.put _ (some 37) _ = _
                    simp only [Act.put, List.setIfInBounds_toArray, List.set_cons_zero, List.set_cons_succ, i64_w, i32_w]
                    rfl
                   refine pz (i := 6) (N := some 38) #[I,I,I,I,I,I,I,I,O,O,O,I,O,I,I,O,I,I,O,O] ?_
                   exact norm_ (by first | (simp only [putAll, Act.put, List.setIfInBounds_toArray, List.set_cons_zero, List.set_cons_succ]; done) | (simp only [putAll, Act.put, List.setIfInBounds_toArray, List.set_cons_zero, List.set_cons_succ]; rfl)) (hJ2_5 () _ ⟨hHeld, (bk BK114.out), bo⟩)
                  ·skip
                   refine Kd.R_lit_step (Kd.int .u8) _ 5 ?hg (N := 40) ?hd (xs := ([x5_3] : List Int)) (inner := [.int .u8 x5_3]) (ok := fun _ => True) (okp := fun _ => True) ?hr ?hp (fun _ hk => hk) trivial (Below.refl _ _) (Nat.le_refl _) (by simp) ?_; (case hd => rfl); (case hg => rfl); (case hr => first | (go_simp; done) | (go_simp; rfl)); (case hp => exact (Reps.one (show Kd.M (Kd.int .u8) _ _ _ x5_3 [.int .u8 x5_3] from rfl) (Reps.none _ _)))
                   intro v121 w29 ho30 hb hg_ hnew_
                   clear hg_ hnew_
                   (first | rw [← Ny120.out] at ho30 | (simp only [Int.reduceToNat] at ho30; rw [← Ny120.out] at ho30))
                   have HO122 := Aside0.mk (Kd.R_lower ho30 (below_size bo))
                   replace BK114 := Aside0.mk (bb BK114.out hb)
                   replace HB := Aside0.mk (below_step bo hb)
                   clear hb ho30
                   refine hK.out _ _ ⟨(blk_cell BK114.out 0).trans rfl, (blk_cell BK114.out 1).trans rfl, (blk_cell BK114.out 2).trans rfl, (blk_cell BK114.out 3).trans rfl, (blk_cell BK114.out 4).trans rfl, (blk_cell BK114.out 5).trans rfl⟩ (fun hHeld => ?_)
                   clear hK K
                   refine norm_ (a' := ?_) ?_ ?_
                   rotate_left
                   ·show Act.put _ (some 40) _ = _
                    simp only [Act.put, List.setIfInBounds_toArray, List.set_cons_zero, List.set_cons_succ, i64_w, i32_w]
                    rfl
                   exact norm_ (by first | (simp only [putAll, Act.put, List.setIfInBounds_toArray, List.set_cons_zero, List.set_cons_succ]; done) | (simp only [putAll, Act.put, List.setIfInBounds_toArray, List.set_cons_zero, List.set_cons_succ]; rfl)) (hJ2_8 (v121) _ ⟨hHeld, (rk HO122.out), (bk BK114.out), bo⟩)
                ·skip
                 rintro v121 w30 ⟨hS_, h0_, h1_, h2_⟩
                 have n0_ : Aside0 (Kd.R (Kd.int .u8) 5 w30 w.heap.size (fun _ => True) v121 y120) := ⟨h0_⟩
                 have n1_ : Aside0 (w30.heap[gb114]? = some (.cells #[.int .i64 a0_0, .int .i64 a0_1, .string a0_2, .string a0_3, .int .i64 a0_4, .bool a0_5] 25 (0, 0))) := ⟨h1_⟩
                 have n2_ : Aside0 (Below w.heap.size w w30) := ⟨h2_⟩
                 clear BK114
                 clear HB
                 clear h0_ h1_ h2_
                 have HO122 := n0_
                 have BK114 := n1_
                 have HB := n2_
                 clear n0_ n1_ n2_
                 have hHeld : w30.cell? ⟨gb114, 0, none⟩ = some (.int .i64 a0_0) ∧ w30.cell? ⟨gb114, 1, none⟩ = some (.int .i64 a0_1) ∧ w30.cell? ⟨gb114, 2, none⟩ = some (.string a0_2) ∧ w30.cell? ⟨gb114, 3, none⟩ = some (.string a0_3) ∧ w30.cell? ⟨gb114, 4, none⟩ = some (.int .i64 a0_4) ∧ w30.cell? ⟨gb114, 5, none⟩ = some (.bool a0_5) := hS_
                 refine norm_ (a' := ?_) ?_ ?_
                 rotate_left
                 ·simp only [putAll, Act.put, List.setIfInBounds_toArray, List.set_cons_zero, List.set_cons_succ]
                  rfl
                 refine one_ (i := 2) (N := some 34) #[I,I,I,I,I,O,O,I,I,I,O,I,O,I,I,O,I,I,O,O] rfl rfl (one_of HT_.out (by kernel_rfl)) (by decide) (fun K hK => ?_)
                 refine goes_ Try.func61 (by kernel_rfl) rfl #[.int .i64 a0_0] (by rfl) rfl rfl aa ?_
                 with_reducible refine (rec_eight.calls kj3 a0_0 t118 _ A11.out).mono ?_
                 rintro e w31 ⟨rfl, hb⟩
                 refine ⟨_, rfl, ?_⟩
                 replace HO122 := Aside0.mk (Kd.R_below (rk HO122.out) hb)
                 replace BK114 := Aside0.mk (bb BK114.out hb)
                 replace HB := Aside0.mk (below_step bo hb)
                 (try clear hb)
                 (try clear hb2)
                 (try clear hk)
                 (try clear hi)
                 refine hK.out _ _ ⟨(blk_cell BK114.out 0).trans rfl, (blk_cell BK114.out 1).trans rfl, (blk_cell BK114.out 2).trans rfl, (blk_cell BK114.out 3).trans rfl, (blk_cell BK114.out 4).trans rfl, (blk_cell BK114.out 5).trans rfl⟩ (fun hHeld => ?_)
                 clear hK K
                 refine norm_ (a' := ?_) ?_ ?_
                 rotate_left
                 ·show Act.put _ (some 34) _ = _
                  simp only [Act.put, List.setIfInBounds_toArray, List.set_cons_zero, List.set_cons_succ, i64_w, i32_w]
                  rfl
                 exact norm_ (by first | (simp only [putAll, Act.put, List.setIfInBounds_toArray, List.set_cons_zero, List.set_cons_succ]; done) | (simp only [putAll, Act.put, List.setIfInBounds_toArray, List.set_cons_zero, List.set_cons_succ]; rfl)) (hJ2_8_9 (v121) _ ⟨hHeld, (rk HO122.out), (bk BK114.out), bo⟩)
               ·skip
                rintro v121 w30 ⟨hS_, h0_, h1_, h2_⟩
                have n0_ : Aside0 (Kd.R (Kd.int .u8) 5 w30 w.heap.size (fun _ => True) v121 y120) := ⟨h0_⟩
                have n1_ : Aside0 (w30.heap[gb114]? = some (.cells #[.int .i64 a0_0, .int .i64 a0_1, .string a0_2, .string a0_3, .int .i64 a0_4, .bool a0_5] 25 (0, 0))) := ⟨h1_⟩
                have n2_ : Aside0 (Below w.heap.size w w30) := ⟨h2_⟩
                clear BK114
                clear HB
                clear h0_ h1_ h2_
                have HO122 := n0_
                have BK114 := n1_
                have HB := n2_
                clear n0_ n1_ n2_
                have hHeld : w30.cell? ⟨gb114, 0, none⟩ = some (.int .i64 a0_0) ∧ w30.cell? ⟨gb114, 1, none⟩ = some (.int .i64 a0_1) ∧ w30.cell? ⟨gb114, 2, none⟩ = some (.string a0_2) ∧ w30.cell? ⟨gb114, 3, none⟩ = some (.string a0_3) ∧ w30.cell? ⟨gb114, 4, none⟩ = some (.int .i64 a0_4) ∧ w30.cell? ⟨gb114, 5, none⟩ = some (.bool a0_5) := hS_
                refine norm_ (a' := ?_) ?_ ?_
                rotate_left
                ·simp only [putAll, Act.put, List.setIfInBounds_toArray, List.set_cons_zero, List.set_cons_succ]
                 rfl
                refine two_ (i := 5) (j := 9) (Ni := some 37) (Nj := some 41) #[I,I,I,I,I,I,O,I,I,O,O,I,O,I,I,O,I,I,O,O] #[I,I,I,I,I,O,O,I,I,I,O,I,O,I,I,O,I,I,O,O] rfl rfl rfl rfl (two_of HT_.out (by kernel_rfl)) (by decide) (by decide) (fun K hK => ?_) (fun K hK => ?_)
                ·skip
                 refine goes_ Try.func61 (by kernel_rfl) rfl #[.int .i64 a0_1] (by rfl) rfl rfl aa ?_
                 with_reducible refine (rec_eight.calls kj3 a0_1 t119 _ A12.out).mono ?_
                 rintro e w31 ⟨rfl, hb⟩
                 refine ⟨_, rfl, ?_⟩
                 replace HO122 := Aside0.mk (Kd.R_below (rk HO122.out) hb)
                 replace BK114 := Aside0.mk (bb BK114.out hb)
                 replace HB := Aside0.mk (below_step bo hb)
                 (try clear hb)
                 (try clear hb2)
                 (try clear hk)
                 (try clear hi)
                 refine hK.out _ _ ⟨(blk_cell BK114.out 0).trans rfl, (blk_cell BK114.out 1).trans rfl, (blk_cell BK114.out 2).trans rfl, (blk_cell BK114.out 3).trans rfl, (blk_cell BK114.out 4).trans rfl, (blk_cell BK114.out 5).trans rfl⟩ (fun hHeld => ?_)
                 clear hK K
                 refine norm_ (a' := ?_) ?_ ?_
                 rotate_left
                 ·show Act.put _ (some 37) _ = _
                  simp only [Act.put, List.setIfInBounds_toArray, List.set_cons_zero, List.set_cons_succ, i64_w, i32_w]
                  rfl
                 refine pz (i := 6) (N := some 38) #[I,I,I,I,I,I,I,I,I,O,O,I,O,I,I,O,I,I,O,O] ?_
                 exact norm_ (by first | (simp only [putAll, Act.put, List.setIfInBounds_toArray, List.set_cons_zero, List.set_cons_succ]; done) | (simp only [putAll, Act.put, List.setIfInBounds_toArray, List.set_cons_zero, List.set_cons_succ]; rfl)) (hJ2_5_8 (v121) _ ⟨hHeld, (rk HO122.out), (bk BK114.out), bo⟩)
                ·skip
                 have hcv31 := own_string (P := Try.prog) Try.underlying23 Try.underlying5 Try.underlying9 (Kd.own_of_R HO122.out)
                 refine value_ (w1 := ?_) (v := ?_) (by rfl) rfl ?_ ?_
                 rotate_left 2
                 ·go_simp
                  constructor
                  ·rfl
                  ·rfl
                 clear hcv31
                 refine hK.out _ _ ⟨(blk_cell BK114.out 0).trans rfl, (blk_cell BK114.out 1).trans rfl, (blk_cell BK114.out 2).trans rfl, (blk_cell BK114.out 3).trans rfl, (blk_cell BK114.out 4).trans rfl, (blk_cell BK114.out 5).trans rfl⟩ (fun hHeld => ?_)
                 clear hK K
                 refine norm_ (a' := ?_) ?_ ?_
                 rotate_left
                 ·show Act.put _ (some 41) _ = _
                  simp only [Act.put, List.setIfInBounds_toArray, List.set_cons_zero, List.set_cons_succ, i64_w, i32_w]
                  rfl
                 exact norm_ (by first | (simp only [putAll, Act.put, List.setIfInBounds_toArray, List.set_cons_zero, List.set_cons_succ]; done) | (simp only [putAll, Act.put, List.setIfInBounds_toArray, List.set_cons_zero, List.set_cons_succ]; rfl)) (hJ2_8_9 (v121) _ ⟨hHeld, (rk HO122.out), (bk BK114.out), bo⟩)
              ·skip
               rintro _ w29 ⟨hS_, h0_, h1_⟩
               have n0_ : Aside0 (w29.heap[gb114]? = some (.cells #[.int .i64 a0_0, .int .i64 a0_1, .string a0_2, .string a0_3, .int .i64 a0_4, .bool a0_5] 25 (0, 0))) := ⟨h0_⟩
               have n1_ : Aside0 (Below w.heap.size w w29) := ⟨h1_⟩
               clear BK114
               clear HB
               clear h0_ h1_
               have BK114 := n0_
               have HB := n1_
               clear n0_ n1_
               have hHeld : w29.cell? ⟨gb114, 0, none⟩ = some (.int .i64 a0_0) ∧ w29.cell? ⟨gb114, 1, none⟩ = some (.int .i64 a0_1) ∧ w29.cell? ⟨gb114, 2, none⟩ = some (.string a0_2) ∧ w29.cell? ⟨gb114, 3, none⟩ = some (.string a0_3) ∧ w29.cell? ⟨gb114, 4, none⟩ = some (.int .i64 a0_4) ∧ w29.cell? ⟨gb114, 5, none⟩ = some (.bool a0_5) := hS_
               refine norm_ (a' := ?_) ?_ ?_
               rotate_left
               ·simp only [putAll, Act.put, List.setIfInBounds_toArray, List.set_cons_zero, List.set_cons_succ]
                rfl
               refine one_ (i := 8) (N := some 40) #[I,I,I,I,I,I,I,I,I,O,O,I,O,I,I,O,I,I,O,O] rfl rfl (one_of HT_.out (by kernel_rfl)) (by decide) (fun K hK => ?_)
               refine Kd.R_lit_step (Kd.int .u8) _ 5 ?hg (N := 40) ?hd (xs := ([x5_3] : List Int)) (inner := [.int .u8 x5_3]) (ok := fun _ => True) (okp := fun _ => True) ?hr ?hp (fun _ hk => hk) trivial (Below.refl _ _) (Nat.le_refl _) (by simp) ?_; (case hd => rfl); (case hg => rfl); (case hr => first | (go_simp; done) | (go_simp; rfl)); (case hp => exact (Reps.one (show Kd.M (Kd.int .u8) _ _ _ x5_3 [.int .u8 x5_3] from rfl) (Reps.none _ _)))
               intro v121 w30 ho31 hb hg_ hnew_
               clear hg_ hnew_
               (first | rw [← Ny120.out] at ho31 | (simp only [Int.reduceToNat] at ho31; rw [← Ny120.out] at ho31))
               have HO122 := Aside0.mk (Kd.R_lower ho31 (below_size bo))
               replace BK114 := Aside0.mk (bb BK114.out hb)
               replace HB := Aside0.mk (below_step bo hb)
               clear hb ho31
               refine hK.out _ _ ⟨(blk_cell BK114.out 0).trans rfl, (blk_cell BK114.out 1).trans rfl, (blk_cell BK114.out 2).trans rfl, (blk_cell BK114.out 3).trans rfl, (blk_cell BK114.out 4).trans rfl, (blk_cell BK114.out 5).trans rfl⟩ (fun hHeld => ?_)
               clear hK K
               refine norm_ (a' := ?_) ?_ ?_
               rotate_left
               ·show Act.put _ (some 40) _ = _
                simp only [Act.put, List.setIfInBounds_toArray, List.set_cons_zero, List.set_cons_succ, i64_w, i32_w]
                rfl
               exact norm_ (by first | (simp only [putAll, Act.put, List.setIfInBounds_toArray, List.set_cons_zero, List.set_cons_succ]; done) | (simp only [putAll, Act.put, List.setIfInBounds_toArray, List.set_cons_zero, List.set_cons_succ]; rfl)) (hJ2_5_8 (v121) _ ⟨hHeld, (rk HO122.out), (bk BK114.out), bo⟩)
             ·skip
              rintro v121 w31 ⟨hS_, h0_, h1_, h2_⟩
              have n0_ : Aside0 (Kd.R (Kd.int .u8) 5 w31 w.heap.size (fun _ => True) v121 y120) := ⟨h0_⟩
              have n1_ : Aside0 (w31.heap[gb114]? = some (.cells #[.int .i64 a0_0, .int .i64 a0_1, .string a0_2, .string a0_3, .int .i64 a0_4, .bool a0_5] 25 (0, 0))) := ⟨h1_⟩
              have n2_ : Aside0 (Below w.heap.size w w31) := ⟨h2_⟩
              clear BK114
              clear HB
              clear h0_ h1_ h2_
              have HO122 := n0_
              have BK114 := n1_
              have HB := n2_
              clear n0_ n1_ n2_
              have hHeld : w31.cell? ⟨gb114, 0, none⟩ = some (.int .i64 a0_0) ∧ w31.cell? ⟨gb114, 1, none⟩ = some (.int .i64 a0_1) ∧ w31.cell? ⟨gb114, 2, none⟩ = some (.string a0_2) ∧ w31.cell? ⟨gb114, 3, none⟩ = some (.string a0_3) ∧ w31.cell? ⟨gb114, 4, none⟩ = some (.int .i64 a0_4) ∧ w31.cell? ⟨gb114, 5, none⟩ = some (.bool a0_5) := hS_
              refine norm_ (a' := ?_) ?_ ?_
              rotate_left
              ·simp only [putAll, Act.put, List.setIfInBounds_toArray, List.set_cons_zero, List.set_cons_succ]
               rfl
              refine one_ (i := 5) (N := some 37) #[I,I,I,I,I,I,O,I,I,I,O,I,O,I,I,O,I,I,O,O] rfl rfl (one_of HT_.out (by kernel_rfl)) (by decide) (fun K hK => ?_)
              refine goes_ Try.func61 (by kernel_rfl) rfl #[.int .i64 a0_1] (by rfl) rfl rfl aa ?_
              with_reducible refine (rec_eight.calls kj3 a0_1 t119 _ A12.out).mono ?_
              rintro e w32 ⟨rfl, hb⟩
              refine ⟨_, rfl, ?_⟩
              replace HO122 := Aside0.mk (Kd.R_below (rk HO122.out) hb)
              replace BK114 := Aside0.mk (bb BK114.out hb)
              replace HB := Aside0.mk (below_step bo hb)
              (try clear hb)
              (try clear hb2)
              (try clear hk)
              (try clear hi)
              refine hK.out _ _ ⟨(blk_cell BK114.out 0).trans rfl, (blk_cell BK114.out 1).trans rfl, (blk_cell BK114.out 2).trans rfl, (blk_cell BK114.out 3).trans rfl, (blk_cell BK114.out 4).trans rfl, (blk_cell BK114.out 5).trans rfl⟩ (fun hHeld => ?_)
              clear hK K
              refine norm_ (a' := ?_) ?_ ?_
              rotate_left
              ·show Act.put _ (some 37) _ = _
               simp only [Act.put, List.setIfInBounds_toArray, List.set_cons_zero, List.set_cons_succ, i64_w, i32_w]
               rfl
              refine pz (i := 6) (N := some 38) #[I,I,I,I,I,I,I,I,I,I,O,I,O,I,I,O,I,I,O,O] ?_
              exact norm_ (by first | (simp only [putAll, Act.put, List.setIfInBounds_toArray, List.set_cons_zero, List.set_cons_succ]; done) | (simp only [putAll, Act.put, List.setIfInBounds_toArray, List.set_cons_zero, List.set_cons_succ]; rfl)) (hJ2_5_8_9 (v121) _ ⟨hHeld, (rk HO122.out), (bk BK114.out), bo⟩)
            ·skip
             rintro v121 w31 ⟨hS_, h0_, h1_, h2_⟩
             have n0_ : Aside0 (Kd.R (Kd.int .u8) 5 w31 w.heap.size (fun _ => True) v121 y120) := ⟨h0_⟩
             have n1_ : Aside0 (w31.heap[gb114]? = some (.cells #[.int .i64 a0_0, .int .i64 a0_1, .string a0_2, .string a0_3, .int .i64 a0_4, .bool a0_5] 25 (0, 0))) := ⟨h1_⟩
             have n2_ : Aside0 (Below w.heap.size w w31) := ⟨h2_⟩
             clear BK114
             clear HB
             clear h0_ h1_ h2_
             have HO122 := n0_
             have BK114 := n1_
             have HB := n2_
             clear n0_ n1_ n2_
             have hHeld : w31.cell? ⟨gb114, 0, none⟩ = some (.int .i64 a0_0) ∧ w31.cell? ⟨gb114, 1, none⟩ = some (.int .i64 a0_1) ∧ w31.cell? ⟨gb114, 2, none⟩ = some (.string a0_2) ∧ w31.cell? ⟨gb114, 3, none⟩ = some (.string a0_3) ∧ w31.cell? ⟨gb114, 4, none⟩ = some (.int .i64 a0_4) ∧ w31.cell? ⟨gb114, 5, none⟩ = some (.bool a0_5) := hS_
             refine norm_ (a' := ?_) ?_ ?_
             rotate_left
             ·simp only [putAll, Act.put, List.setIfInBounds_toArray, List.set_cons_zero, List.set_cons_succ]
              rfl
             refine one_ (i := 9) (N := some 41) #[I,I,I,I,I,I,I,I,I,I,O,I,O,I,I,O,I,I,O,O] rfl rfl (one_of HT_.out (by kernel_rfl)) (by decide) (fun K hK => ?_)
             have hcv32 := own_string (P := Try.prog) Try.underlying23 Try.underlying5 Try.underlying9 (Kd.own_of_R HO122.out)
             refine value_ (w1 := ?_) (v := ?_) (by rfl) rfl ?_ ?_
             rotate_left 2
             ·go_simp
              constructor
              ·rfl
              ·rfl
             clear hcv32
             refine hK.out _ _ ⟨(blk_cell BK114.out 0).trans rfl, (blk_cell BK114.out 1).trans rfl, (blk_cell BK114.out 2).trans rfl, (blk_cell BK114.out 3).trans rfl, (blk_cell BK114.out 4).trans rfl, (blk_cell BK114.out 5).trans rfl⟩ (fun hHeld => ?_)
             clear hK K
             refine norm_ (a' := ?_) ?_ ?_
             rotate_left
             ·show Act.put _ (some 41) _ = _
              simp only [Act.put, List.setIfInBounds_toArray, List.set_cons_zero, List.set_cons_succ, i64_w, i32_w]
              rfl
             exact norm_ (by first | (simp only [putAll, Act.put, List.setIfInBounds_toArray, List.set_cons_zero, List.set_cons_succ]; done) | (simp only [putAll, Act.put, List.setIfInBounds_toArray, List.set_cons_zero, List.set_cons_succ]; rfl)) (hJ2_5_8_9 (v121) _ ⟨hHeld, (rk HO122.out), (bk BK114.out), bo⟩)
           rintro v121 w32 ⟨hS_, h0_, h1_, h2_⟩
           have n0_ : Aside0 (Kd.R (Kd.int .u8) 5 w32 w.heap.size (fun _ => True) v121 y120) := ⟨h0_⟩
           have n1_ : Aside0 (w32.heap[gb114]? = some (.cells #[.int .i64 a0_0, .int .i64 a0_1, .string a0_2, .string a0_3, .int .i64 a0_4, .bool a0_5] 25 (0, 0))) := ⟨h1_⟩
           have n2_ : Aside0 (Below w.heap.size w w32) := ⟨h2_⟩
           clear BK114
           clear HB
           clear h0_ h1_ h2_
           have HO122 := n0_
           have BK114 := n1_
           have HB := n2_
           clear n0_ n1_ n2_
           have hHeld : w32.cell? ⟨gb114, 0, none⟩ = some (.int .i64 a0_0) ∧ w32.cell? ⟨gb114, 1, none⟩ = some (.int .i64 a0_1) ∧ w32.cell? ⟨gb114, 2, none⟩ = some (.string a0_2) ∧ w32.cell? ⟨gb114, 3, none⟩ = some (.string a0_3) ∧ w32.cell? ⟨gb114, 4, none⟩ = some (.int .i64 a0_4) ∧ w32.cell? ⟨gb114, 5, none⟩ = some (.bool a0_5) := hS_
           refine norm_ (a' := ?_) ?_ ?_
           rotate_left
           ·simp only [putAll, Act.put, List.setIfInBounds_toArray, List.set_cons_zero, List.set_cons_succ]
            rfl
           refine pz (i := 10) (N := some 42) #[I,I,I,I,I,I,I,I,I,I,I,I,O,I,I,O,I,I,O,O] ?_
           refine pz (i := 12) (N := some 44) #[I,I,I,I,I,I,I,I,I,I,I,I,I,I,I,O,I,I,O,O] ?_
           refine pz (i := 15) (N := some 47) #[I,I,I,I,I,I,I,I,I,I,I,I,I,I,I,I,I,I,O,O] ?_
           refine pz (i := 18) (N := some 50) #[I,I,I,I,I,I,I,I,I,I,I,I,I,I,I,I,I,I,I,O] ?_
           refine pz (i := 19) (N := some 8) #[I,I,I,I,I,I,I,I,I,I,I,I,I,I,I,I,I,I,I,I] ?_
           refine done_ (done_of HT_.out (by kernel_rfl)) ?_
           try go_wp2_with (first | ((with_reducible refine gate_callee (f := 60) rfl ?_); refine goesL_ (some 54) rfl rfl Try.func60 (by kernel_rfl) rfl #[.int .i64 ((((((t118 ++ t119) ++ (strOfNums y120)) ++ t116) ++ a0_2) ++ a0_3).size : Int)] rfl aa ?_; (with_reducible refine (vbi_Two.calls kj3 ((((((t118 ++ t119) ++ (strOfNums y120)) ++ t116) ++ a0_2) ++ a0_3).size : Int) t123 t124 _ A18.out).mono ?_); rintro e w33 ⟨rfl, hb⟩; refine ⟨_, rfl, ?_⟩; replace HO122 := Aside0.mk (Kd.R_below (rk HO122.out) hb); replace BK114 := Aside0.mk (bb BK114.out hb); replace HB := Aside0.mk (below_step bo hb); (try clear hb); (try clear hb2); (try clear hk); (try clear hi)) | ((with_reducible refine gate_callee (f := 63) rfl ?_); refine goesL_ (some 59) rfl rfl Try.func63 (by kernel_rfl) rfl #[.int .u32 0, .string t123] rfl aa ?_; (with_reducible refine (sum_Sum.calls kj3 0 t123 t125 _ A19.out).mono ?_); rintro e w' ⟨rfl, ⟨nd, rfl⟩⟩; refine ⟨_, rfl, ?_⟩) | ((with_reducible refine gate_callee (f := 63) rfl ?_); refine goesL_ (some 61) rfl rfl Try.func63 (by kernel_rfl) rfl #[.int .u32 t125, .string (((((t118 ++ t119) ++ (strOfNums y120)) ++ t116) ++ a0_2) ++ a0_3)] rfl aa ?_; (with_reducible refine (sum_Sum.calls kj3 t125 (((((t118 ++ t119) ++ (strOfNums y120)) ++ t116) ++ a0_2) ++ a0_3) t126 _ A20.out).mono ?_); rintro e w' ⟨rfl, ⟨nd, rfl⟩⟩; refine ⟨_, rfl, ?_⟩) | ((with_reducible refine gate_callee (f := 62) rfl ?_); refine goesL_ (some 63) rfl rfl Try.func62 (by kernel_rfl) rfl #[.int .i64 (wrap64 (t126))] rfl aa ?_; (with_reducible refine (vbi_Four.calls kj3 (wrap64 (t126)) t127 t128 _ A21.out).mono ?_); rintro e w34 ⟨rfl, hb⟩; refine ⟨_, rfl, ?_⟩; replace HO122 := Aside0.mk (Kd.R_below (rk HO122.out) hb); replace BK114 := Aside0.mk (bb BK114.out hb); replace HB := Aside0.mk (below_step bo hb); (try clear hb); (try clear hb2); (try clear hk); (try clear hi)))
           go_ret2
           exact ⟨er, bo⟩
          ·rw [if_neg c23] at H
           exact absurd H (by simp)
         ·rw [if_neg c22] at H
          exact absurd H (by simp)
        ·rw [if_neg c17] at H
         exact absurd H (by simp)
       ·rw [if_neg c16] at H
        exact absurd H (by simp)
      ·rw [if_neg c15] at H
       exact absurd H (by simp)
     ·rw [if_neg c14] at H
      exact absurd H (by simp)
    ·rw [if_neg c13] at H
     exact absurd H (by simp)
 ·rw [if_neg c3] at H
  have c3b0 : (t115 == 0) = false := beq_eq_false_iff_ne.mpr c3
  have c3b1 : (t115 != 0) = true := bne_iff_ne.mpr c3
  simp only [Option.some.injEq, Prod.mk.injEq] at H
  obtain ⟨rfl, rfl⟩ := H
  go_enter Try.func14, Try.ntmps14
  go_wp2_with (first | ((with_reducible refine gate_dst (N := 1) rfl ?_); refine box_event ?hg (N := 1) ?hd (cs := #[.int .i64 a0_0, .int .i64 a0_1, .string a0_2, .string a0_3, .int .i64 a0_4, .bool a0_5]) (t := 25) ?hr ?_; (case hd => rfl); (case hg => rfl); (case hr => first | (go_simp; done) | (go_simp; rfl)); intro gb114 hg w35 hbox hb; have BK114 := Aside0.mk (hbox); have GW114 := Aside0.mk ((by rw [hg]; exact (below_size bo) : w.heap.size ≤ gb114)); have GE114 := Aside0.mk ((by rw [hg]; exact (below_size bo) : w.heap.size ≤ gb114)); replace HB := Aside0.mk (below_step bo hb); clear hb hbox hg; obtain ⟨hcz36_0, hcz36_1, hcz36_2, hcz36_3, hcz36_4, hcz36_5⟩ := cl6 BK114.out; obtain ⟨hfz36_0, hfz36_1, hfz36_2, hfz36_3, hfz36_4, hfz36_5⟩ := fz6 BK114.out) | ((with_reducible refine gate_callee (f := 22) rfl ?_); refine goesL_ (some 14) rfl rfl Try.func22 (by kernel_rfl) rfl #[.agg #[.int .i64 a0_0, .int .i64 a0_1, .string a0_2, .string a0_3, .int .i64 a0_4, .bool a0_5]] rfl aa ?_; (with_reducible refine (rec_Check.calls k a0_0 a0_1 a0_2 a0_3 a0_4 a0_5 t115 _ A2.out).mono ?_); rintro e w37 ⟨rfl, hb⟩; refine ⟨_, rfl, ?_⟩; replace BK114 := Aside0.mk (bb BK114.out hb); replace HB := Aside0.mk (below_step bo hb); (try clear hb); (try clear hb2); (try clear hk); (try clear hi)))
  go_ret2
  exact ⟨er, bo⟩

end Go.Proofs.Ytmabdfdmccbfnaa.P

-- written by a program of the proving session, out of the translation; Lean checks it
namespace Go.Proofs.Ytmabdfdmccbfnaa.P
open Go.RowKit Go.Proofs.Ytmabdfdmccbfnaa.Sq Go.Proofs.YtmabdfdmccbfnaaW.PrintWords Go.Proofs.YtmabdfdmccbfnaaW.PrintLast Go.Proofs.YtmabdfdmccbfnaaW.PrintMore
attribute [local go_sem] max2_int min2_int max_two min_two max_three min_three max_four min_four   -- for this text's walks alone
set_option linter.unusedVariables false
set_option linter.unusedSimpArgs false

open Go.Shelf
def bd_ren : Go.Shelf.Ren := ⟨fun | 169 => 78 | n => n, fun | 70 => 106 | 9 => 9 | 0 => 0 | 72 => 108 | 37 => 23 | 127 => 118 | 3 => 3 | 5 => 5 | n => n, fun | n => n⟩
theorem bd_lays : Lays.n169 Try.prog bd_ren := {
 mixed := by kernel_rfl
 f169 := Try.func78.trans (congrArg some (by kernel_rfl))
 t0 := Try.underlying0
 a0 := Try.isAgg0
 z0 := Try.sizeOf0
 v0 := Try.zeroValue0
 t3 := Try.underlying3
 a3 := Try.isAgg3
 z3 := Try.sizeOf3
 v3 := Try.zeroValue3
 t9 := Try.underlying9
 a9 := Try.isAgg9
 z9 := Try.sizeOf9
 v9 := Try.zeroValue9
 t37 := Try.underlying23
 a37 := Try.isAgg23
 z37 := Try.sizeOf23
 v37 := Try.zeroValue23
 t70 := Try.underlying106
 a70 := Try.isAgg106
 z70 := Try.sizeOf106
 v70 := Try.zeroValue106
 t72 := Try.underlying108
 a72 := Try.isAgg108
 z72 := Try.sizeOf108
 v72 := Try.zeroValue108
 t127 := Try.underlying118
 a127 := Try.isAgg118
 z127 := Try.sizeOf118
 v127 := Try.zeroValue118 }
theorem bd_extra : Builder.Extra Try.prog bd_ren := {
 sizeBuilder := by kernel_rfl
 liesBuilder := by kernel_rfl
 t5 := Try.underlying5
 a5 := Try.isAgg5
 z5 := Try.sizeOf5
 v5 := Try.zeroValue5
 infoByte := by kernel_rfl
 cellsByte := by kernel_rfl
 sizeByte := by kernel_rfl
 neB5 := by decide }
/-! ### the builder -/
set_option maxHeartbeats 1000000 in
set_option maxRecDepth 100000 in
theorem bd_used (b : Nat) (w : World) (h0 : w.cell? ⟨b, 0, none⟩ = some (.pointer (some ⟨b, 0, none⟩))) :
 Calls Try.prog 85 #[.pointer (some ⟨b, 0, none⟩)] w fun e w' => e = .returned (.tuple #[]) ∧ w' = w := by
 obtain ⟨j, hj, _⟩ := Option.map_eq_some_iff.1 (show (Try.prog.info? 108).map (·.size) = some 2 by kernel_rfl)
 go_enter Try.func85, Try.ntmps85
 go_wp2
 rw [Lib.run_neq_ptr_same w _ Try.underlying106 hj]
 go_wp2
 go_end0
 exact ⟨rfl, rfl⟩
set_option maxHeartbeats 1000000 in
set_option maxRecDepth 100000 in
theorem bd_fresh (b : Nat) (w : World) (h0 : w.cell? ⟨b, 0, none⟩ = some (.pointer none)) (hsh : w.shape? b = some (108, 2)) (hfz : w.frozen? ⟨b, 0, none⟩ = false) :
 Calls Try.prog 85 #[.pointer (some ⟨b, 0, none⟩)] w fun e w' => e = .returned (.tuple #[]) ∧ w' = w.setCell ⟨b, 0, none⟩ (.pointer (some ⟨b, 0, none⟩)) := by
 obtain ⟨j, hj, hjs⟩ := Option.map_eq_some_iff.1 (show (Try.prog.info? 108).map (·.size) = some 2 by kernel_rfl)
 have hl : liesAt Try.prog Try.prog.depth 108 (2 / Try.prog.cellsOf 108) 0 108 1 = true := by kernel_rfl
 go_enter Try.func85, Try.ntmps85
 go_wp2
 rw [Lib.run_to_unsafe w ⟨b, 0, none⟩ Try.underlying106 Try.underlying119 hj (by rw [hjs]; decide) hsh (Nat.zero_lt_succ 1)]
 simp only [Result.andThen]
 rw [Oper.upon_value]
 go_wp2
 rw [run_callFunc_extern Try.func86 (by kernel_rfl) (by kernel_rfl) (by kernel_rfl) (e := Extern.AbiNoEscape.same) (by kernel_rfl)]
 rw [Lib.run_noEscape]
 simp only [Result.andThen]
 rw [Oper.upon_value]
 go_wp2
 rw [Lib.run_from_unsafe w ⟨b, 0, none⟩ Try.underlying119 Try.underlying106 hj hsh hl]
 simp only [Result.andThen]
 rw [Oper.upon_value]
 go_wp2
 go_end0
 exact ⟨rfl, rfl⟩
theorem bd_check (B b : Nat) (bs : List Value) (w : World) (h : Lib.IsBuilder 108 5 B b bs w) :
 Calls Try.prog 85 #[.pointer (some ⟨b, 0, none⟩)] w fun e w' => e = .returned (.tuple #[]) ∧ (Lib.BuilderAt 108 5 B b (.pointer (some ⟨b, 0, none⟩)) bs w' ∧ Below B w w') := by
 rcases h with h | h
 ·refine (bd_fresh b w h.cell0 h.shape h.frozen0).mono ?_
  rintro e w' ⟨rfl, rfl⟩
  exact ⟨rfl, h.used _, (Below.refl B w).setCell (p := ⟨b, 0, none⟩) h.1 _⟩
 ·refine (bd_used b w h.cell0).mono ?_
  rintro e w' ⟨rfl, rfl⟩
  exact ⟨rfl, h, Below.refl B _⟩
set_option maxHeartbeats 2000000 in
set_option maxRecDepth 100000 in
theorem bd_write (B b : Nat) (bs : List Value) (s : ByteArray) (w : World) (h : Lib.IsBuilder 108 5 B b bs w) (hlen : bs.length + s.size ≤ 140737488355328) (hBw : B ≤ w.heap.size) :
 Calls Try.prog 77 #[.pointer (some ⟨b, 0, none⟩), .string s] w fun e w' => e = .returned (.tuple #[.int .i64 s.size, .nilIface]) ∧ (Lib.BuilderAt 108 5 B b (.pointer (some ⟨b, 0, none⟩)) (bs ++ Lib.strCells s) w' ∧ Below B w w') := by
 obtain ⟨i0, hi, hz0, hz1, hz2⟩ := info_parts (show (Try.prog.info? 5).map (fun i => (i.zero, i.size, i.bytes)) = some (some (.int .u8 0), 1, 1) by kernel_rfl)
 go_enter Try.func77, Try.ntmps77
 go_wp2_with (go_at_call 85; refine (bd_check B b bs _ h).mono ?_)
 rintro e w1 ⟨rfl, h1, hb1⟩
 obtain ⟨hB, v, hbk, hown, hne⟩ := h1
 have c0 : w1.cell? ⟨b, 0, none⟩ = some (.pointer (some ⟨b, 0, none⟩)) := by rw [Lib.cell_of_heap hbk]; rfl
 have c1 : w1.cell? ⟨b, 1, none⟩ = some v := by rw [Lib.cell_of_heap hbk]; rfl
 go_wp2_with (at_builtin; refine Lib.wpList_append_own_string _ rfl _ _ 23 9 rfl B 5 i0 Try.underlying23 Try.underlying9 hi hz0 hz1 hz2 _ _ _ rfl hown s rfl ?c3 ?c4 ?c5 ?_)
 case c3 => unfold maxLen; omega
 case c4 => omega
 case c5 => have := hb1.size; omega
 intro v' w2 hown' hgrow _
 have hlt : b < w1.heap.size := by
  rcases Nat.lt_or_ge b w1.heap.size with h' | h'
  ·exact h'
  ·simp [Array.getElem?_eq_none h'] at hbk
 have hb2 : w2.heap[b]? = some (.cells #[.pointer (some ⟨b, 0, none⟩), v] 108 (0, 0)) := by
  rw [hgrow.block b hlt (fun e => hne e.symm)]
  exact hbk
 have d0 : w2.cell? ⟨b, 0, none⟩ = some (.pointer (some ⟨b, 0, none⟩)) := by rw [Lib.cell_of_heap hb2]; rfl
 have d1 : w2.cell? ⟨b, 1, none⟩ = some v := by rw [Lib.cell_of_heap hb2]; rfl
 have f1 : w2.frozen? ⟨b, 1, none⟩ = false := Lib.frozen_of_heap hb2 1
 obtain ⟨ao, n', cap, rfl⟩ : ∃ ao n' cap, v' = .slice ao n' cap := by
  rcases hown'.2 with ⟨hv, _⟩ | ⟨g, cap, cur, hv, _⟩
  ·exact ⟨_, _, _, hv⟩
  ·exact ⟨_, _, _, hv⟩
 go_wp2
 go_ret2
 refine ⟨rfl, ?_, ?_⟩
 ·exact Lib.BuilderAt.put (T := 108) (e := 5) hB hb2 (bs' := bs ++ Lib.strCells s) (by simpa [Lib.strCells_length] using hown') (by decide)
 ·exact (hb1.grown hgrow (by have := hb1.size; omega) (fun k hk => (hown.lt k hk).1)).setCell (p := ⟨b, 1, none⟩) hB _
theorem bd_string (B b : Nat) (l : List UInt8) (w : World) (h : Lib.IsBuilder 108 5 B b (Lib.byteCells l) w) (hBw : B ≤ w.heap.size) :
 Calls Try.prog 78 #[.pointer (some ⟨b, 0, none⟩)] w fun e w' => e = .returned (.string ⟨l.toArray⟩) ∧ Below B w w' := Any.Builder_String_any bd_lays bd_extra B b l w h hBw
theorem bd_text (B b : Nat) (s : ByteArray) (w : World) (h : Lib.IsBuilder 108 5 B b (Lib.strCells s) w) (hBw : B ≤ w.heap.size) :
 Calls Try.prog 78 #[.pointer (some ⟨b, 0, none⟩)] w fun e w' => e = .returned (.string s) ∧ Below B w w' := by
 have e : (⟨s.data.toList.toArray⟩ : ByteArray) = s := by simp
 have := bd_string B b s.data.toList w h hBw
 rw [e] at this
 exact this
theorem bd_alloc {B b : Nat} {p : Value} {bs : List Value} {w : World} (h : Lib.BuilderAt 108 5 B b p bs w) (o : Obj) : Lib.BuilderAt 108 5 B b p bs (w.alloc o) := by
 have hlt := h.lt
 obtain ⟨hB, v, hb, hown, hne⟩ := h
 exact ⟨hB, v, (Lib.alloc_old w o b hlt).trans hb, hown.alloc o, hne⟩
theorem bd_below {B b : Nat} {p : Value} {bs : List Value} {w w1 : World} (h : Lib.BuilderAt 108 5 B b p bs w) (hb : Below w.heap.size w w1) : Lib.BuilderAt 108 5 B b p bs w1 := by
 have hlt := h.lt
 obtain ⟨hB, v, hk, hown, hne⟩ := h
 exact ⟨hB, v, (hb.block b hlt).trans hk, pw_own_below hown hb, hne⟩
theorem bi_alloc {B b : Nat} {bs : List Value} {w : World} (h : Lib.IsBuilder 108 5 B b bs w) (o : Obj) : Lib.IsBuilder 108 5 B b bs (w.alloc o) := h.elim (fun x => .inl (bd_alloc x o)) (fun x => .inr (bd_alloc x o))
theorem bi_below {B b : Nat} {bs : List Value} {w w1 : World} (h : Lib.IsBuilder 108 5 B b bs w) (hb : Below w.heap.size w w1) : Lib.IsBuilder 108 5 B b bs w1 := h.elim (fun x => .inl (bd_below x hb)) (fun x => .inr (bd_below x hb))
theorem bi_lt {B b : Nat} {bs : List Value} {w : World} (h : Lib.IsBuilder 108 5 B b bs w) : b < w.heap.size ∧ B ≤ b := h.elim (fun x => ⟨x.lt, x.1⟩) (fun x => ⟨x.lt, x.1⟩)
/-! ### seg_Text: function 45 -/
/-- The records' bytes behind others. -/
def seg_Text.acc (k : Nat) : List (S25) → ByteArray → Option ByteArray
 | [], s => some s
 | r :: l, s => (rec_Bytes.f k r.f0 r.f1 r.f2 r.f3 r.f4 r.f5).bind fun b => (if s.size + b.1.size ≤ 140737488355328 then seg_Text.acc k l (s ++ b.1) else none)
def seg_Text.f (k : Nat) (a0_0 : Int) (l0_1 : List (S25)) : Option (ByteArray × Int) :=
 (seg_Check.f k a0_0 l0_1).bind fun t => (if t = 0 then ((seg_Text.acc k l0_1 (⟨#[]⟩ : ByteArray)).bind fun s => some (s, 0)) else some ((⟨#[]⟩ : ByteArray), t))
theorem seg_Text.mono_acc (k : Nat) : ∀ (l : List (S25)) (s : ByteArray), LeO (seg_Text.acc k l s) (seg_Text.acc (k + 1) l s)
 | [], s => LeO.refl _
 | r :: l, s => by
  unfold seg_Text.acc
  exact LeO.bind (rec_Bytes.mono _ _ _ _ _ _ _) (fun b => LeO.ite (seg_Text.mono_acc k l _) (LeO.refl _))
theorem seg_Text.mono : ∀ a0 a1 k, LeO (seg_Text.f k a0 a1) (seg_Text.f (k + 1) a0 a1) := by
 intro a0 a1 k
 unfold seg_Text.f
 exact LeO.bind (seg_Check.mono _ _ _) (fun _ => LeO.ite (LeO.bind (seg_Text.mono_acc _ _ _) (fun _ => LeO.refl _)) (LeO.refl _))
theorem seg_Text.acc_step (k : Nat) (l : List (S25)) (i : Nat) (s r : ByteArray) (hi : i < l.length) (h : seg_Text.acc k (l.drop i) s = some r) :
 ∃ b1 b2, rec_Bytes.f k (rd_T25 l i).f0 (rd_T25 l i).f1 (rd_T25 l i).f2 (rd_T25 l i).f3 (rd_T25 l i).f4 (rd_T25 l i).f5 = some (b1, b2) ∧ s.size + b1.size ≤ 140737488355328 ∧ seg_Text.acc k (l.drop (i + 1)) (s ++ b1) = some r := by
 have e : rd_T25 l i = l[i] := by unfold rd_T25; simp [List.getD_eq_getElem?_getD, List.getElem?_eq_getElem hi]
 rw [List.drop_eq_getElem_cons hi, seg_Text.acc, ← e] at h
 obtain ⟨⟨b1, b2⟩, hb, h⟩ := Option.bind_eq_some_iff.1 h
 by_cases hs : s.size + b1.size ≤ 140737488355328
 ·rw [if_pos hs] at h
  exact ⟨b1, b2, hb, hs, h⟩
 ·rw [if_neg hs] at h
  cases h
theorem seg_Text.below_cells {W w1 : World} (hb : Below W.heap.size W w1) : (∀ b o, b < W.heap.size → w1.cell? ⟨b, o, none⟩ = W.cell? ⟨b, o, none⟩) ∧ (∀ b o, b < W.heap.size → w1.frozen? ⟨b, o, none⟩ = W.frozen? ⟨b, o, none⟩) :=
 ⟨fun b o h => hb.cell (p := ⟨b, o, none⟩) h, fun b o h => hb.frozen (p := ⟨b, o, none⟩) h⟩
theorem strCells_add (s t : ByteArray) : Lib.strCells s ++ Lib.strCells t = Lib.strCells (s ++ t) := by
 simp [Lib.strCells, ByteArray.data_append]
set_option maxHeartbeats 4000000 in
set_option maxRecDepth 100000 in
theorem seg_Text.calls (k : Nat) (a0_0 : Int) (A0_1 : Option Addr) (c0_1 : Nat) (l0_1 : List (S25)) (r1 : ByteArray) (r2 : Int) (w : World) (hr0_1 : Kd.C k25 w A0_1 l0_1.length l0_1) (hc0_1 : l0_1.length ≤ c0_1)
 (h : seg_Text.f k a0_0 l0_1 = some (r1, r2)) :
 Calls Try.prog 45 #[.agg #[.int .i64 a0_0, .slice A0_1 l0_1.length c0_1]] w fun e w' => e = .returned (.tuple #[.string r1, .int .i64 r2]) ∧ Below w.heap.size w w' := by
 have hu53 := Try.underlying53
 have hu25 := Try.underlying25
 have hm := hr0_1.2.1
 unfold seg_Text.f at h
 obtain ⟨t, ht, h⟩ := Option.bind_eq_some_iff.1 h
 have HT := Aside0.mk ht
 have HR0 := Aside0.mk hr0_1
 have HC0 := Aside0.mk hc0_1
 have HB := Aside0.mk (Below.refl w.heap.size w)
 clear hr0_1 hc0_1 ht
 by_cases h0 : t = 0
 ·subst h0
  rw [if_pos rfl] at h
  obtain ⟨s_, hs_, h⟩ := Option.bind_eq_some_iff.1 h
  simp only [Option.some.injEq, Prod.mk.injEq] at h
  obtain ⟨rfl, rfl⟩ := h
  have HS := Aside0.mk hs_
  clear hs_
  go_enter Try.func45, Try.ntmps45
  go_wp2_with (first | (go_at_call 46; (with_reducible refine (seg_Check.calls k a0_0 _ _ l0_1 _ _ (Kd.C_alloc HR0.out _) HC0.out HT.out).mono ?_); rintro e w2 ⟨rfl, hb⟩; obtain ⟨hc2, hf2⟩ := seg_Text.below_cells hb; have hz2 : w.heap.size < w2.heap.size := (by have := hb.size; simp at this; omega); replace HB := Aside0.mk (below_step ((Below.refl w.heap.size w).alloc (Nat.le_refl _) _) hb); have HX := Aside0.mk hb; clear hb))
  have HI : Aside0 (Lib.IsBuilder 108 5 w2.heap.size w2.heap.size (Lib.strCells ⟨#[]⟩) (w2.alloc (.cells #[.pointer none, .slice none 0 0] 108))) := ⟨Lib.fresh_isBuilder 108 5 w2⟩
  have HZ0 := Aside0.mk hz2
  replace HB := Aside0.mk (HB.out.alloc (Nat.le_of_lt hz2) (.cells #[.pointer none, .slice none 0 0] 108))
  clear HX hc2 hf2 hz2
  go_loopw [18] (fun v18 w' => ∃ (i : Nat) (s : ByteArray), i ≤ l0_1.length ∧ v18 = .int .i64 i ∧ Aside0 (seg_Text.acc k (l0_1.drop i) s = some s_) ∧ Aside0 (Lib.IsBuilder 108 5 w2.heap.size w2.heap.size (Lib.strCells s) w') ∧ Aside0 (Below w.heap.size w w') ∧ Aside0 (w2.heap.size < w'.heap.size)) (fun v18 _ => l0_1.length - (intOf v18).toNat)
  case atStart => exact ⟨0, ⟨#[]⟩, Nat.zero_le _, rfl, ⟨by simpa using HS.out⟩, HI, HB, ⟨by simp⟩⟩
  case round =>
   clear HB HI
   obtain ⟨i, s, hi, rfl, HX, HI, HB, HZ⟩ := hrel
   by_cases hlt : i < l0_1.length
   ·obtain ⟨b1, b2, hb1, hs1, hx1⟩ := seg_Text.acc_step k l0_1 i s s_ hlt HX.out
    have HB1 := Aside0.mk hb1
    have HS1 := Aside0.mk hs1
    have HX1 := Aside0.mk hx1
    clear hb1 hs1 hx1
    obtain ⟨ad, ead, hx0, hx1, hx2, hx3, hx4, hx5⟩ := at_T25 HR0.out (i : Int) (by omega) (by omega)
    cases ead
    simp only [Int.toNat_natCast] at hx0 hx1 hx2 hx3 hx4 hx5
    replace hx0 := cx HB.out hx0
    replace hx1 := cx HB.out hx1
    replace hx2 := cx HB.out hx2
    replace hx3 := cx HB.out hx3
    replace hx4 := cx HB.out hx4
    replace hx5 := cx HB.out hx5
    go_wp2_with (first | (go_at_call 14; (with_reducible refine (rec_Bytes.calls k _ _ _ _ _ _ b1 b2 _ HB1.out).mono ?_); rintro e w5 ⟨rfl, hb⟩; have hz5 : w2.heap.size ≤ w5.heap.size := (by have := hb.size; have := HZ.out; simp at *; omega); replace HI := Aside0.mk (bi_below (bi_alloc HI.out _) hb); replace HB := Aside0.mk (below_step (HB.out.alloc (by have := HB.out.size; omega) _) hb); have HZ5 := Aside0.mk hz5; clear hb hz5) | (go_at_call 77; (with_reducible refine (bd_write w2.heap.size w2.heap.size (Lib.strCells s) b1 _ HI.out (by rw [Lib.strCells_length]; exact HS1.out) HZ5.out).mono ?_); rintro e w6 ⟨rfl, h6, hb6⟩; have H6 := Aside0.mk h6; have HB6 := Aside0.mk (HB.out.trans (hb6.mono (Nat.le_of_lt HZ0.out))); have HZ6 := Aside0.mk (bi_lt (Or.inr h6)).1; clear h6 hb6))
    go_roundw
    case rel => exact ⟨i + 1, s ++ b1, by omega, by go_num, HX1, ⟨by rw [← strCells_add]; exact Or.inr H6.out⟩, HB6, HZ6⟩
    case measure => simp [intOf]; omega
   ·have hi2 : i = l0_1.length := by omega
    have e1 := HX.out
    rw [List.drop_eq_nil_of_le (by omega), seg_Text.acc] at e1
    have e2 := Option.some.inj e1
    subst e2
    clear e1 HX HS
    subst hi2
    go_wp2_with (first | (go_at_call 78; (with_reducible refine (bd_text w2.heap.size w2.heap.size s _ HI.out (Nat.le_of_lt HZ.out)).mono ?_); rintro e w6 ⟨rfl, hb6⟩; replace HB := Aside0.mk (HB.out.trans (hb6.mono (Nat.le_of_lt HZ0.out))); clear hb6))
    go_ret2
    exact ⟨rfl, HB.out⟩
 ·rw [if_neg h0] at h
  simp only [Option.some.injEq, Prod.mk.injEq] at h
  obtain ⟨rfl, rfl⟩ := h
  have b0 : (t == 0) = false := beq_eq_false_iff_ne.mpr h0
  have b1 : (t != 0) = true := bne_iff_ne.mpr h0
  go_enter Try.func45, Try.ntmps45
  go_wp2_with (first | (go_at_call 46; (with_reducible refine (seg_Check.calls k a0_0 _ _ l0_1 _ _ (Kd.C_alloc HR0.out _) HC0.out HT.out).mono ?_); rintro e w2 ⟨rfl, hb⟩; obtain ⟨hc2, hf2⟩ := seg_Text.below_cells hb; have hz2 : w.heap.size < w2.heap.size := (by have := hb.size; simp at this; omega); replace HB := Aside0.mk (below_step ((Below.refl w.heap.size w).alloc (Nat.le_refl _) _) hb); clear hb))
  go_ret2
  exact ⟨rfl, HB.out⟩

end Go.Proofs.Ytmabdfdmccbfnaa.P

