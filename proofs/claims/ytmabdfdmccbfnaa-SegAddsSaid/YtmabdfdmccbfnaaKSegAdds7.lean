/- The law SegAdds: printed functions, their contracts, the plain laws and the row, part 7. -/
import Derived.Test.YtmabdfdmccbfnaaKSegAdds2
import Derived.Test.YtmabdfdmccbfnaaKSegAdds4
import Derived.Test.YtmabdfdmccbfnaaKSegAdds5
import Derived.Test.YtmabdfdmccbfnaaKSegAdds6
import Derived.Test.YtmabdfdmccbfnaaKSegAdds0
import Derived.Test.YtmabdfdmccbfnaaKSegAdds1
import Derived.ProofKit
import Derived.OpenShut
import Derived.SizedLaws
import Derived.Deep.Slices
-- written by a program of the proving session, out of the translation; Lean checks it
namespace Go.Proofs.Ytmabdfdmccbfnaa.P
open Go.RowKit Go.Proofs.Ytmabdfdmccbfnaa.Sq Go.Proofs.YtmabdfdmccbfnaaW.PrintWords Go.Proofs.YtmabdfdmccbfnaaW.PrintLast Go.Proofs.YtmabdfdmccbfnaaW.PrintMore
attribute [local go_sem] max2_int min2_int max_two min_two max_three min_three max_four min_four   -- for this text's walks alone
set_option linter.unusedVariables false
set_option linter.unusedSimpArgs false

/-! ### fairwaylaw11_SegAdds: function 9 -/
mutual
def fairwaylaw11_SegAdds.l0 : Nat → Int → Int → List (S25) → List (S25) → List Int → ByteArray → Int → List (S25) → Option (Bool)
 | 0, _, _, _, _, _, _, _, _ => none
 | k + 1, x4, x538000, x538001, x538002, x538003, x538004, x544000, x544001 => if x4 < (x538002.length : Int) then (fairwaylaw11_SegAdds.j1 k x4 (decide (x4 < 10)) x538000 x538001 x538002 x538003 x538004 x544000 x544001) else (fairwaylaw11_SegAdds.j1 k x4 false x538000 x538001 x538002 x538003 x538004 x544000 x544001)
def fairwaylaw11_SegAdds.j1 : Nat → Int → Bool → Int → List (S25) → List (S25) → List Int → ByteArray → Int → List (S25) → Option (Bool)
 | 0, _, _, _, _, _, _, _, _, _ => none
 | k + 1, x4, x29, x538000, x538001, x538002, x538003, x538004, x544000, x544001 => if x29 = true then ((fairwayref10_Seg.f k x544000 x544001).bind fun t545 => (if t545 = true then ((fairwayref10_Text.f k x544000 x544001).bind fun t546 => (fairwaylaw11_SegAdds.j2 k x4 t545 0 t546 x538000 x538001 x538002 x538003 x538004 x544000 x544001)) else (fairwaylaw11_SegAdds.j2 k x4 t545 1 (⟨#[]⟩ : ByteArray) x538000 x538001 x538002 x538003 x538004 x544000 x544001))) else ((fairwaylaw11_wakes.f k).bind fun t544 => (some t544))
def fairwaylaw11_SegAdds.j2 : Nat → Int → Bool → Int → ByteArray → Int → List (S25) → List (S25) → List Int → ByteArray → Int → List (S25) → Option (Bool)
 | 0, _, _, _, _, _, _, _, _, _, _, _ => none
 | k + 1, x4, x5, x6, x7, x538000, x538001, x538002, x538003, x538004, x544000, x544001 => (seg_Size.f k x544000 x544001).bind fun bt547 => ((seg_Text.f k x544000 x544001).bind fun bt549 => ((seg_Check.f k x544000 x544001).bind fun t551 => ((fairwaylaw11_num.f t551).bind fun t552 => (if t552 = x6 then ((fairwaylaw11_num.f bt547.2).bind fun t553 => (if t553 = x6 then ((fairwaylaw11_num.f bt549.2).bind fun t554 => (if t554 = x6 then (if bt547.1 = (x7.size : Int) then (fairwaylaw11_SegAdds.j3 k x4 x5 (bt549.1.toList != x7.toList) x538000 x538001 x538002 x538003 x538004 x544000 x544001) else (fairwaylaw11_SegAdds.j3 k x4 x5 true x538000 x538001 x538002 x538003 x538004 x544000 x544001)) else (fairwaylaw11_SegAdds.j3 k x4 x5 true x538000 x538001 x538002 x538003 x538004 x544000 x544001))) else (fairwaylaw11_SegAdds.j3 k x4 x5 true x538000 x538001 x538002 x538003 x538004 x544000 x544001))) else (fairwaylaw11_SegAdds.j3 k x4 x5 true x538000 x538001 x538002 x538003 x538004 x544000 x544001)))))
def fairwaylaw11_SegAdds.j3 : Nat → Int → Bool → Bool → Int → List (S25) → List (S25) → List Int → ByteArray → Int → List (S25) → Option (Bool)
 | 0, _, _, _, _, _, _, _, _, _, _ => none
 | k + 1, x4, x5, x74, x538000, x538001, x538002, x538003, x538004, x544000, x544001 => if x74 = true then (some false) else ((fairwayref0_CopySeg.f k x544000 x544001).bind fun bt555 => (if 0 ≤ x4 then (if x4 < (x538002.length : Int) then ((seg_Add.f k bt555.1 bt555.2 ((rd_T25 x538002 x4).f0) ((rd_T25 x538002 x4).f1) ((rd_T25 x538002 x4).f2) ((rd_T25 x538002 x4).f3) ((rd_T25 x538002 x4).f4) ((rd_T25 x538002 x4).f5)).bind fun bt561 => (if x5 = true then ((fairwayref10_With.f k x544000 x544001 ((rd_T25 x538002 x4).f0) ((rd_T25 x538002 x4).f1) ((rd_T25 x538002 x4).f2) ((rd_T25 x538002 x4).f3) ((rd_T25 x538002 x4).f4) ((rd_T25 x538002 x4).f5)).bind fun bt569 => ((fairwayref10_Seg.f k bt569.1 bt569.2).bind fun t573 => (fairwaylaw11_SegAdds.j4 k x4 1 bt561.2.2 t573 x538000 x538001 x538002 x538003 x538004 x544000 x544001 bt555.1 bt555.2 bt561.1 bt561.2.1 0))) else (fairwaylaw11_SegAdds.j4 k x4 1 bt561.2.2 false x538000 x538001 x538002 x538003 x538004 x544000 x544001 bt555.1 bt555.2 bt561.1 bt561.2.1 0))) else (none)) else (none)))
def fairwaylaw11_SegAdds.j4 : Nat → Int → Int → Int → Bool → Int → List (S25) → List (S25) → List Int → ByteArray → Int → List (S25) → Int → List (S25) → Int → List (S25) → Int → Option (Bool)
 | 0, _, _, _, _, _, _, _, _, _, _, _, _, _, _, _, _ => none
 | k + 1, x4, x6, x14, x98, x538000, x538001, x538002, x538003, x538004, x544000, x544001, x560000, x560001, x567000, x567001, x568000 => if x98 = true then (if 0 ≤ x4 then (if x4 < (x538002.length : Int) then ((fairwayref10_With.f k x544000 x544001 ((rd_T25 x538002 x4).f0) ((rd_T25 x538002 x4).f1) ((rd_T25 x538002 x4).f2) ((rd_T25 x538002 x4).f3) ((rd_T25 x538002 x4).f4) ((rd_T25 x538002 x4).f5)).bind fun bt575 => (fairwaylaw11_SegAdds.j5 k x4 0 x14 x538000 x538001 x538002 x538003 x538004 x544000 x544001 x560000 x560001 x567000 x567001 bt575.1 bt575.2)) else (none)) else (none)) else (fairwaylaw11_SegAdds.j5 k x4 x6 x14 x538000 x538001 x538002 x538003 x538004 x544000 x544001 x560000 x560001 x567000 x567001 x568000 ([] : List (S25)))
def fairwaylaw11_SegAdds.j5 : Nat → Int → Int → Int → Int → List (S25) → List (S25) → List Int → ByteArray → Int → List (S25) → Int → List (S25) → Int → List (S25) → Int → List (S25) → Option (Bool)
 | 0, _, _, _, _, _, _, _, _, _, _, _, _, _, _, _, _ => none
 | k + 1, x4, x6, x14, x538000, x538001, x538002, x538003, x538004, x544000, x544001, x560000, x560001, x567000, x567001, x568000, x568001 => (fairwaylaw11_num.f x14).bind fun t579 => (if t579 = x6 then ((fairwayref0_EqSeg.f k x567000 x567001 x568000 x568001).bind fun t580 => (if t580 = true then ((fairwayref0_EqSeg.f k x560000 x560001 x544000 x544001).bind fun t581 => (fairwaylaw11_SegAdds.j6 k x4 x6 (!t581) x538000 x538001 x538002 x538003 x538004 x544000 x544001 x560000 x560001 x567000 x567001 x568000 x568001)) else (fairwaylaw11_SegAdds.j6 k x4 x6 true x538000 x538001 x538002 x538003 x538004 x544000 x544001 x560000 x560001 x567000 x567001 x568000 x568001))) else (fairwaylaw11_SegAdds.j6 k x4 x6 true x538000 x538001 x538002 x538003 x538004 x544000 x544001 x560000 x560001 x567000 x567001 x568000 x568001))
def fairwaylaw11_SegAdds.j6 : Nat → Int → Int → Bool → Int → List (S25) → List (S25) → List Int → ByteArray → Int → List (S25) → Int → List (S25) → Int → List (S25) → Int → List (S25) → Option (Bool)
 | 0, _, _, _, _, _, _, _, _, _, _, _, _, _, _, _, _ => none
 | k + 1, x4, x6, x121, x538000, x538001, x538002, x538003, x538004, x544000, x544001, x560000, x560001, x567000, x567001, x568000, x568001 => if x121 = true then (some false) else ((fairwaylaw0_Recs.f k x567001).bind fun _ => ((fairwayref0_EqSeg.f k x560000 x560001 x544000 x544001).bind fun t582 => (if t582 = true then (if x6 = 0 then ((fairwayref0_CopySeg.f k x568000 x568001).bind fun bt583 => (fairwaylaw11_SegAdds.l0 k (wrap64 (x4 + 1)) x538000 x538001 x538002 x538003 x538004 bt583.1 bt583.2)) else (fairwaylaw11_SegAdds.l0 k (wrap64 (x4 + 1)) x538000 x538001 x538002 x538003 x538004 x544000 x544001)) else (some false))))
end
def fairwaylaw11_SegAdds.f (k : Nat) (a0_0 : Int) (l0_1 : List (S25)) (l0_2 : List (S25)) (l0_3 : List Int) (a0_4 : ByteArray) : Option (Bool) := (fairwaylaw11_Heavy.f k a0_0 l0_1 l0_2 l0_3 a0_4).bind fun t538 => (if t538 = true then (some true) else ((fairwayref0_CopySeg.f k a0_0 l0_1).bind fun bt539 => (fairwaylaw11_SegAdds.l0 k 0 a0_0 l0_1 l0_2 l0_3 a0_4 bt539.1 bt539.2)))
theorem fairwaylaw11_SegAdds.mono_l : ∀ k, (∀ y0 y1 y2 y3 y4 y5 y6 y7, LeO (fairwaylaw11_SegAdds.l0 k y0 y1 y2 y3 y4 y5 y6 y7) (fairwaylaw11_SegAdds.l0 (k + 1) y0 y1 y2 y3 y4 y5 y6 y7)) ∧ (∀ y0 y1 y2 y3 y4 y5 y6 y7 y8, LeO (fairwaylaw11_SegAdds.j1 k y0 y1 y2 y3 y4 y5 y6 y7 y8) (fairwaylaw11_SegAdds.j1 (k + 1) y0 y1 y2 y3 y4 y5 y6 y7 y8)) ∧ (∀ y0 y1 y2 y3 y4 y5 y6 y7 y8 y9 y10, LeO (fairwaylaw11_SegAdds.j2 k y0 y1 y2 y3 y4 y5 y6 y7 y8 y9 y10) (fairwaylaw11_SegAdds.j2 (k + 1) y0 y1 y2 y3 y4 y5 y6 y7 y8 y9 y10)) ∧ (∀ y0 y1 y2 y3 y4 y5 y6 y7 y8 y9, LeO (fairwaylaw11_SegAdds.j3 k y0 y1 y2 y3 y4 y5 y6 y7 y8 y9) (fairwaylaw11_SegAdds.j3 (k + 1) y0 y1 y2 y3 y4 y5 y6 y7 y8 y9)) ∧ (∀ y0 y1 y2 y3 y4 y5 y6 y7 y8 y9 y10 y11 y12 y13 y14 y15, LeO (fairwaylaw11_SegAdds.j4 k y0 y1 y2 y3 y4 y5 y6 y7 y8 y9 y10 y11 y12 y13 y14 y15) (fairwaylaw11_SegAdds.j4 (k + 1) y0 y1 y2 y3 y4 y5 y6 y7 y8 y9 y10 y11 y12 y13 y14 y15)) ∧ (∀ y0 y1 y2 y3 y4 y5 y6 y7 y8 y9 y10 y11 y12 y13 y14 y15, LeO (fairwaylaw11_SegAdds.j5 k y0 y1 y2 y3 y4 y5 y6 y7 y8 y9 y10 y11 y12 y13 y14 y15) (fairwaylaw11_SegAdds.j5 (k + 1) y0 y1 y2 y3 y4 y5 y6 y7 y8 y9 y10 y11 y12 y13 y14 y15)) ∧ (∀ y0 y1 y2 y3 y4 y5 y6 y7 y8 y9 y10 y11 y12 y13 y14 y15, LeO (fairwaylaw11_SegAdds.j6 k y0 y1 y2 y3 y4 y5 y6 y7 y8 y9 y10 y11 y12 y13 y14 y15) (fairwaylaw11_SegAdds.j6 (k + 1) y0 y1 y2 y3 y4 y5 y6 y7 y8 y9 y10 y11 y12 y13 y14 y15))
 | 0 => ⟨fun _ _ _ _ _ _ _ _ r h => by simp [fairwaylaw11_SegAdds.l0] at h, fun _ _ _ _ _ _ _ _ _ r h => by simp [fairwaylaw11_SegAdds.j1] at h, fun _ _ _ _ _ _ _ _ _ _ _ r h => by simp [fairwaylaw11_SegAdds.j2] at h, fun _ _ _ _ _ _ _ _ _ _ r h => by simp [fairwaylaw11_SegAdds.j3] at h, fun _ _ _ _ _ _ _ _ _ _ _ _ _ _ _ _ r h => by simp [fairwaylaw11_SegAdds.j4] at h, fun _ _ _ _ _ _ _ _ _ _ _ _ _ _ _ _ r h => by simp [fairwaylaw11_SegAdds.j5] at h, fun _ _ _ _ _ _ _ _ _ _ _ _ _ _ _ _ r h => by simp [fairwaylaw11_SegAdds.j6] at h⟩
 | k + 1 => by
  obtain ⟨ih0, ih1, ih2, ih3, ih4, ih5, ih6⟩ := fairwaylaw11_SegAdds.mono_l k
  refine ⟨?_, ?_, ?_, ?_, ?_, ?_, ?_⟩
  ·intro y0 y1 y2 y3 y4 y5 y6 y7
   unfold fairwaylaw11_SegAdds.l0
   repeat' first
   | (with_reducible exact ih0 _ _ _ _ _ _ _ _)
   | (with_reducible exact ih1 _ _ _ _ _ _ _ _ _)
   | (with_reducible exact ih2 _ _ _ _ _ _ _ _ _ _ _)
   | (with_reducible exact ih3 _ _ _ _ _ _ _ _ _ _)
   | (with_reducible exact ih4 _ _ _ _ _ _ _ _ _ _ _ _ _ _ _ _)
   | (with_reducible exact ih5 _ _ _ _ _ _ _ _ _ _ _ _ _ _ _ _)
   | (with_reducible exact ih6 _ _ _ _ _ _ _ _ _ _ _ _ _ _ _ _)
   | (with_reducible exact fairwaylaw0_Recs.mono _ _)
   | (with_reducible exact fairwaylaw11_Heavy.mono _ _ _ _ _ _)
   | (with_reducible exact fairwaylaw11_wakes.mono _)
   | (with_reducible exact fairwayref0_CopySeg.mono _ _ _)
   | (with_reducible exact fairwayref0_EqSeg.mono _ _ _ _ _)
   | (with_reducible exact fairwayref10_Seg.mono _ _ _)
   | (with_reducible exact fairwayref10_Text.mono _ _ _)
   | (with_reducible exact fairwayref10_With.mono _ _ _ _ _ _ _ _ _)
   | (with_reducible exact seg_Add.mono _ _ _ _ _ _ _ _ _)
   | (with_reducible exact seg_Check.mono _ _ _)
   | (with_reducible exact seg_Size.mono _ _ _)
   | (with_reducible exact seg_Text.mono _ _ _)
   | (with_reducible exact LeO.refl _)
   | (with_reducible exact LeO.none _)
   | (with_reducible refine LeO.ite ?_ ?_)
   | (with_reducible refine LeO.bind ?_ (fun _ => ?_))
   | exact ih0 _ _ _ _ _ _ _ _
   | exact ih1 _ _ _ _ _ _ _ _ _
   | exact ih2 _ _ _ _ _ _ _ _ _ _ _
   | exact ih3 _ _ _ _ _ _ _ _ _ _
   | exact ih4 _ _ _ _ _ _ _ _ _ _ _ _ _ _ _ _
   | exact ih5 _ _ _ _ _ _ _ _ _ _ _ _ _ _ _ _
   | exact ih6 _ _ _ _ _ _ _ _ _ _ _ _ _ _ _ _
   | exact fairwaylaw0_Recs.mono _ _
   | exact fairwaylaw11_Heavy.mono _ _ _ _ _ _
   | exact fairwaylaw11_wakes.mono _
   | exact fairwayref0_CopySeg.mono _ _ _
   | exact fairwayref0_EqSeg.mono _ _ _ _ _
   | exact fairwayref10_Seg.mono _ _ _
   | exact fairwayref10_Text.mono _ _ _
   | exact fairwayref10_With.mono _ _ _ _ _ _ _ _ _
   | exact seg_Add.mono _ _ _ _ _ _ _ _ _
   | exact seg_Check.mono _ _ _
   | exact seg_Size.mono _ _ _
   | exact seg_Text.mono _ _ _
   | exact LeO.none _
   | refine LeO.ite ?_ ?_
   | refine LeO.bind ?_ (fun _ => ?_)
  ·intro y0 y1 y2 y3 y4 y5 y6 y7 y8
   unfold fairwaylaw11_SegAdds.j1
   repeat' first
   | (with_reducible exact ih0 _ _ _ _ _ _ _ _)
   | (with_reducible exact ih1 _ _ _ _ _ _ _ _ _)
   | (with_reducible exact ih2 _ _ _ _ _ _ _ _ _ _ _)
   | (with_reducible exact ih3 _ _ _ _ _ _ _ _ _ _)
   | (with_reducible exact ih4 _ _ _ _ _ _ _ _ _ _ _ _ _ _ _ _)
   | (with_reducible exact ih5 _ _ _ _ _ _ _ _ _ _ _ _ _ _ _ _)
   | (with_reducible exact ih6 _ _ _ _ _ _ _ _ _ _ _ _ _ _ _ _)
   | (with_reducible exact fairwaylaw0_Recs.mono _ _)
   | (with_reducible exact fairwaylaw11_Heavy.mono _ _ _ _ _ _)
   | (with_reducible exact fairwaylaw11_wakes.mono _)
   | (with_reducible exact fairwayref0_CopySeg.mono _ _ _)
   | (with_reducible exact fairwayref0_EqSeg.mono _ _ _ _ _)
   | (with_reducible exact fairwayref10_Seg.mono _ _ _)
   | (with_reducible exact fairwayref10_Text.mono _ _ _)
   | (with_reducible exact fairwayref10_With.mono _ _ _ _ _ _ _ _ _)
   | (with_reducible exact seg_Add.mono _ _ _ _ _ _ _ _ _)
   | (with_reducible exact seg_Check.mono _ _ _)
   | (with_reducible exact seg_Size.mono _ _ _)
   | (with_reducible exact seg_Text.mono _ _ _)
   | (with_reducible exact LeO.refl _)
   | (with_reducible exact LeO.none _)
   | (with_reducible refine LeO.ite ?_ ?_)
   | (with_reducible refine LeO.bind ?_ (fun _ => ?_))
   | exact ih0 _ _ _ _ _ _ _ _
   | exact ih1 _ _ _ _ _ _ _ _ _
   | exact ih2 _ _ _ _ _ _ _ _ _ _ _
   | exact ih3 _ _ _ _ _ _ _ _ _ _
   | exact ih4 _ _ _ _ _ _ _ _ _ _ _ _ _ _ _ _
   | exact ih5 _ _ _ _ _ _ _ _ _ _ _ _ _ _ _ _
   | exact ih6 _ _ _ _ _ _ _ _ _ _ _ _ _ _ _ _
   | exact fairwaylaw0_Recs.mono _ _
   | exact fairwaylaw11_Heavy.mono _ _ _ _ _ _
   | exact fairwaylaw11_wakes.mono _
   | exact fairwayref0_CopySeg.mono _ _ _
   | exact fairwayref0_EqSeg.mono _ _ _ _ _
   | exact fairwayref10_Seg.mono _ _ _
   | exact fairwayref10_Text.mono _ _ _
   | exact fairwayref10_With.mono _ _ _ _ _ _ _ _ _
   | exact seg_Add.mono _ _ _ _ _ _ _ _ _
   | exact seg_Check.mono _ _ _
   | exact seg_Size.mono _ _ _
   | exact seg_Text.mono _ _ _
   | exact LeO.none _
   | refine LeO.ite ?_ ?_
   | refine LeO.bind ?_ (fun _ => ?_)
  ·intro y0 y1 y2 y3 y4 y5 y6 y7 y8 y9 y10
   unfold fairwaylaw11_SegAdds.j2
   repeat' first
   | (with_reducible exact ih0 _ _ _ _ _ _ _ _)
   | (with_reducible exact ih1 _ _ _ _ _ _ _ _ _)
   | (with_reducible exact ih2 _ _ _ _ _ _ _ _ _ _ _)
   | (with_reducible exact ih3 _ _ _ _ _ _ _ _ _ _)
   | (with_reducible exact ih4 _ _ _ _ _ _ _ _ _ _ _ _ _ _ _ _)
   | (with_reducible exact ih5 _ _ _ _ _ _ _ _ _ _ _ _ _ _ _ _)
   | (with_reducible exact ih6 _ _ _ _ _ _ _ _ _ _ _ _ _ _ _ _)
   | (with_reducible exact fairwaylaw0_Recs.mono _ _)
   | (with_reducible exact fairwaylaw11_Heavy.mono _ _ _ _ _ _)
   | (with_reducible exact fairwaylaw11_wakes.mono _)
   | (with_reducible exact fairwayref0_CopySeg.mono _ _ _)
   | (with_reducible exact fairwayref0_EqSeg.mono _ _ _ _ _)
   | (with_reducible exact fairwayref10_Seg.mono _ _ _)
   | (with_reducible exact fairwayref10_Text.mono _ _ _)
   | (with_reducible exact fairwayref10_With.mono _ _ _ _ _ _ _ _ _)
   | (with_reducible exact seg_Add.mono _ _ _ _ _ _ _ _ _)
   | (with_reducible exact seg_Check.mono _ _ _)
   | (with_reducible exact seg_Size.mono _ _ _)
   | (with_reducible exact seg_Text.mono _ _ _)
   | (with_reducible exact LeO.refl _)
   | (with_reducible exact LeO.none _)
   | (with_reducible refine LeO.ite ?_ ?_)
   | (with_reducible refine LeO.bind ?_ (fun _ => ?_))
   | exact ih0 _ _ _ _ _ _ _ _
   | exact ih1 _ _ _ _ _ _ _ _ _
   | exact ih2 _ _ _ _ _ _ _ _ _ _ _
   | exact ih3 _ _ _ _ _ _ _ _ _ _
   | exact ih4 _ _ _ _ _ _ _ _ _ _ _ _ _ _ _ _
   | exact ih5 _ _ _ _ _ _ _ _ _ _ _ _ _ _ _ _
   | exact ih6 _ _ _ _ _ _ _ _ _ _ _ _ _ _ _ _
   | exact fairwaylaw0_Recs.mono _ _
   | exact fairwaylaw11_Heavy.mono _ _ _ _ _ _
   | exact fairwaylaw11_wakes.mono _
   | exact fairwayref0_CopySeg.mono _ _ _
   | exact fairwayref0_EqSeg.mono _ _ _ _ _
   | exact fairwayref10_Seg.mono _ _ _
   | exact fairwayref10_Text.mono _ _ _
   | exact fairwayref10_With.mono _ _ _ _ _ _ _ _ _
   | exact seg_Add.mono _ _ _ _ _ _ _ _ _
   | exact seg_Check.mono _ _ _
   | exact seg_Size.mono _ _ _
   | exact seg_Text.mono _ _ _
   | exact LeO.none _
   | refine LeO.ite ?_ ?_
   | refine LeO.bind ?_ (fun _ => ?_)
  ·intro y0 y1 y2 y3 y4 y5 y6 y7 y8 y9
   unfold fairwaylaw11_SegAdds.j3
   repeat' first
   | (with_reducible exact ih0 _ _ _ _ _ _ _ _)
   | (with_reducible exact ih1 _ _ _ _ _ _ _ _ _)
   | (with_reducible exact ih2 _ _ _ _ _ _ _ _ _ _ _)
   | (with_reducible exact ih3 _ _ _ _ _ _ _ _ _ _)
   | (with_reducible exact ih4 _ _ _ _ _ _ _ _ _ _ _ _ _ _ _ _)
   | (with_reducible exact ih5 _ _ _ _ _ _ _ _ _ _ _ _ _ _ _ _)
   | (with_reducible exact ih6 _ _ _ _ _ _ _ _ _ _ _ _ _ _ _ _)
   | (with_reducible exact fairwaylaw0_Recs.mono _ _)
   | (with_reducible exact fairwaylaw11_Heavy.mono _ _ _ _ _ _)
   | (with_reducible exact fairwaylaw11_wakes.mono _)
   | (with_reducible exact fairwayref0_CopySeg.mono _ _ _)
   | (with_reducible exact fairwayref0_EqSeg.mono _ _ _ _ _)
   | (with_reducible exact fairwayref10_Seg.mono _ _ _)
   | (with_reducible exact fairwayref10_Text.mono _ _ _)
   | (with_reducible exact fairwayref10_With.mono _ _ _ _ _ _ _ _ _)
   | (with_reducible exact seg_Add.mono _ _ _ _ _ _ _ _ _)
   | (with_reducible exact seg_Check.mono _ _ _)
   | (with_reducible exact seg_Size.mono _ _ _)
   | (with_reducible exact seg_Text.mono _ _ _)
   | (with_reducible exact LeO.refl _)
   | (with_reducible exact LeO.none _)
   | (with_reducible refine LeO.ite ?_ ?_)
   | (with_reducible refine LeO.bind ?_ (fun _ => ?_))
   | exact ih0 _ _ _ _ _ _ _ _
   | exact ih1 _ _ _ _ _ _ _ _ _
   | exact ih2 _ _ _ _ _ _ _ _ _ _ _
   | exact ih3 _ _ _ _ _ _ _ _ _ _
   | exact ih4 _ _ _ _ _ _ _ _ _ _ _ _ _ _ _ _
   | exact ih5 _ _ _ _ _ _ _ _ _ _ _ _ _ _ _ _
   | exact ih6 _ _ _ _ _ _ _ _ _ _ _ _ _ _ _ _
   | exact fairwaylaw0_Recs.mono _ _
   | exact fairwaylaw11_Heavy.mono _ _ _ _ _ _
   | exact fairwaylaw11_wakes.mono _
   | exact fairwayref0_CopySeg.mono _ _ _
   | exact fairwayref0_EqSeg.mono _ _ _ _ _
   | exact fairwayref10_Seg.mono _ _ _
   | exact fairwayref10_Text.mono _ _ _
   | exact fairwayref10_With.mono _ _ _ _ _ _ _ _ _
   | exact seg_Add.mono _ _ _ _ _ _ _ _ _
   | exact seg_Check.mono _ _ _
   | exact seg_Size.mono _ _ _
   | exact seg_Text.mono _ _ _
   | exact LeO.none _
   | refine LeO.ite ?_ ?_
   | refine LeO.bind ?_ (fun _ => ?_)
  ·intro y0 y1 y2 y3 y4 y5 y6 y7 y8 y9 y10 y11 y12 y13 y14 y15
   unfold fairwaylaw11_SegAdds.j4
   repeat' first
   | (with_reducible exact ih0 _ _ _ _ _ _ _ _)
   | (with_reducible exact ih1 _ _ _ _ _ _ _ _ _)
   | (with_reducible exact ih2 _ _ _ _ _ _ _ _ _ _ _)
   | (with_reducible exact ih3 _ _ _ _ _ _ _ _ _ _)
   | (with_reducible exact ih4 _ _ _ _ _ _ _ _ _ _ _ _ _ _ _ _)
   | (with_reducible exact ih5 _ _ _ _ _ _ _ _ _ _ _ _ _ _ _ _)
   | (with_reducible exact ih6 _ _ _ _ _ _ _ _ _ _ _ _ _ _ _ _)
   | (with_reducible exact fairwaylaw0_Recs.mono _ _)
   | (with_reducible exact fairwaylaw11_Heavy.mono _ _ _ _ _ _)
   | (with_reducible exact fairwaylaw11_wakes.mono _)
   | (with_reducible exact fairwayref0_CopySeg.mono _ _ _)
   | (with_reducible exact fairwayref0_EqSeg.mono _ _ _ _ _)
   | (with_reducible exact fairwayref10_Seg.mono _ _ _)
   | (with_reducible exact fairwayref10_Text.mono _ _ _)
   | (with_reducible exact fairwayref10_With.mono _ _ _ _ _ _ _ _ _)
   | (with_reducible exact seg_Add.mono _ _ _ _ _ _ _ _ _)
   | (with_reducible exact seg_Check.mono _ _ _)
   | (with_reducible exact seg_Size.mono _ _ _)
   | (with_reducible exact seg_Text.mono _ _ _)
   | (with_reducible exact LeO.refl _)
   | (with_reducible exact LeO.none _)
   | (with_reducible refine LeO.ite ?_ ?_)
   | (with_reducible refine LeO.bind ?_ (fun _ => ?_))
   | exact ih0 _ _ _ _ _ _ _ _
   | exact ih1 _ _ _ _ _ _ _ _ _
   | exact ih2 _ _ _ _ _ _ _ _ _ _ _
   | exact ih3 _ _ _ _ _ _ _ _ _ _
   | exact ih4 _ _ _ _ _ _ _ _ _ _ _ _ _ _ _ _
   | exact ih5 _ _ _ _ _ _ _ _ _ _ _ _ _ _ _ _
   | exact ih6 _ _ _ _ _ _ _ _ _ _ _ _ _ _ _ _
   | exact fairwaylaw0_Recs.mono _ _
   | exact fairwaylaw11_Heavy.mono _ _ _ _ _ _
   | exact fairwaylaw11_wakes.mono _
   | exact fairwayref0_CopySeg.mono _ _ _
   | exact fairwayref0_EqSeg.mono _ _ _ _ _
   | exact fairwayref10_Seg.mono _ _ _
   | exact fairwayref10_Text.mono _ _ _
   | exact fairwayref10_With.mono _ _ _ _ _ _ _ _ _
   | exact seg_Add.mono _ _ _ _ _ _ _ _ _
   | exact seg_Check.mono _ _ _
   | exact seg_Size.mono _ _ _
   | exact seg_Text.mono _ _ _
   | exact LeO.none _
   | refine LeO.ite ?_ ?_
   | refine LeO.bind ?_ (fun _ => ?_)
  ·intro y0 y1 y2 y3 y4 y5 y6 y7 y8 y9 y10 y11 y12 y13 y14 y15
   unfold fairwaylaw11_SegAdds.j5
   repeat' first
   | (with_reducible exact ih0 _ _ _ _ _ _ _ _)
   | (with_reducible exact ih1 _ _ _ _ _ _ _ _ _)
   | (with_reducible exact ih2 _ _ _ _ _ _ _ _ _ _ _)
   | (with_reducible exact ih3 _ _ _ _ _ _ _ _ _ _)
   | (with_reducible exact ih4 _ _ _ _ _ _ _ _ _ _ _ _ _ _ _ _)
   | (with_reducible exact ih5 _ _ _ _ _ _ _ _ _ _ _ _ _ _ _ _)
   | (with_reducible exact ih6 _ _ _ _ _ _ _ _ _ _ _ _ _ _ _ _)
   | (with_reducible exact fairwaylaw0_Recs.mono _ _)
   | (with_reducible exact fairwaylaw11_Heavy.mono _ _ _ _ _ _)
   | (with_reducible exact fairwaylaw11_wakes.mono _)
   | (with_reducible exact fairwayref0_CopySeg.mono _ _ _)
   | (with_reducible exact fairwayref0_EqSeg.mono _ _ _ _ _)
   | (with_reducible exact fairwayref10_Seg.mono _ _ _)
   | (with_reducible exact fairwayref10_Text.mono _ _ _)
   | (with_reducible exact fairwayref10_With.mono _ _ _ _ _ _ _ _ _)
   | (with_reducible exact seg_Add.mono _ _ _ _ _ _ _ _ _)
   | (with_reducible exact seg_Check.mono _ _ _)
   | (with_reducible exact seg_Size.mono _ _ _)
   | (with_reducible exact seg_Text.mono _ _ _)
   | (with_reducible exact LeO.refl _)
   | (with_reducible exact LeO.none _)
   | (with_reducible refine LeO.ite ?_ ?_)
   | (with_reducible refine LeO.bind ?_ (fun _ => ?_))
   | exact ih0 _ _ _ _ _ _ _ _
   | exact ih1 _ _ _ _ _ _ _ _ _
   | exact ih2 _ _ _ _ _ _ _ _ _ _ _
   | exact ih3 _ _ _ _ _ _ _ _ _ _
   | exact ih4 _ _ _ _ _ _ _ _ _ _ _ _ _ _ _ _
   | exact ih5 _ _ _ _ _ _ _ _ _ _ _ _ _ _ _ _
   | exact ih6 _ _ _ _ _ _ _ _ _ _ _ _ _ _ _ _
   | exact fairwaylaw0_Recs.mono _ _
   | exact fairwaylaw11_Heavy.mono _ _ _ _ _ _
   | exact fairwaylaw11_wakes.mono _
   | exact fairwayref0_CopySeg.mono _ _ _
   | exact fairwayref0_EqSeg.mono _ _ _ _ _
   | exact fairwayref10_Seg.mono _ _ _
   | exact fairwayref10_Text.mono _ _ _
   | exact fairwayref10_With.mono _ _ _ _ _ _ _ _ _
   | exact seg_Add.mono _ _ _ _ _ _ _ _ _
   | exact seg_Check.mono _ _ _
   | exact seg_Size.mono _ _ _
   | exact seg_Text.mono _ _ _
   | exact LeO.none _
   | refine LeO.ite ?_ ?_
   | refine LeO.bind ?_ (fun _ => ?_)
  ·intro y0 y1 y2 y3 y4 y5 y6 y7 y8 y9 y10 y11 y12 y13 y14 y15
   unfold fairwaylaw11_SegAdds.j6
   repeat' first
   | (with_reducible exact ih0 _ _ _ _ _ _ _ _)
   | (with_reducible exact ih1 _ _ _ _ _ _ _ _ _)
   | (with_reducible exact ih2 _ _ _ _ _ _ _ _ _ _ _)
   | (with_reducible exact ih3 _ _ _ _ _ _ _ _ _ _)
   | (with_reducible exact ih4 _ _ _ _ _ _ _ _ _ _ _ _ _ _ _ _)
   | (with_reducible exact ih5 _ _ _ _ _ _ _ _ _ _ _ _ _ _ _ _)
   | (with_reducible exact ih6 _ _ _ _ _ _ _ _ _ _ _ _ _ _ _ _)
   | (with_reducible exact fairwaylaw0_Recs.mono _ _)
   | (with_reducible exact fairwaylaw11_Heavy.mono _ _ _ _ _ _)
   | (with_reducible exact fairwaylaw11_wakes.mono _)
   | (with_reducible exact fairwayref0_CopySeg.mono _ _ _)
   | (with_reducible exact fairwayref0_EqSeg.mono _ _ _ _ _)
   | (with_reducible exact fairwayref10_Seg.mono _ _ _)
   | (with_reducible exact fairwayref10_Text.mono _ _ _)
   | (with_reducible exact fairwayref10_With.mono _ _ _ _ _ _ _ _ _)
   | (with_reducible exact seg_Add.mono _ _ _ _ _ _ _ _ _)
   | (with_reducible exact seg_Check.mono _ _ _)
   | (with_reducible exact seg_Size.mono _ _ _)
   | (with_reducible exact seg_Text.mono _ _ _)
   | (with_reducible exact LeO.refl _)
   | (with_reducible exact LeO.none _)
   | (with_reducible refine LeO.ite ?_ ?_)
   | (with_reducible refine LeO.bind ?_ (fun _ => ?_))
   | exact ih0 _ _ _ _ _ _ _ _
   | exact ih1 _ _ _ _ _ _ _ _ _
   | exact ih2 _ _ _ _ _ _ _ _ _ _ _
   | exact ih3 _ _ _ _ _ _ _ _ _ _
   | exact ih4 _ _ _ _ _ _ _ _ _ _ _ _ _ _ _ _
   | exact ih5 _ _ _ _ _ _ _ _ _ _ _ _ _ _ _ _
   | exact ih6 _ _ _ _ _ _ _ _ _ _ _ _ _ _ _ _
   | exact fairwaylaw0_Recs.mono _ _
   | exact fairwaylaw11_Heavy.mono _ _ _ _ _ _
   | exact fairwaylaw11_wakes.mono _
   | exact fairwayref0_CopySeg.mono _ _ _
   | exact fairwayref0_EqSeg.mono _ _ _ _ _
   | exact fairwayref10_Seg.mono _ _ _
   | exact fairwayref10_Text.mono _ _ _
   | exact fairwayref10_With.mono _ _ _ _ _ _ _ _ _
   | exact seg_Add.mono _ _ _ _ _ _ _ _ _
   | exact seg_Check.mono _ _ _
   | exact seg_Size.mono _ _ _
   | exact seg_Text.mono _ _ _
   | exact LeO.none _
   | refine LeO.ite ?_ ?_
   | refine LeO.bind ?_ (fun _ => ?_)
theorem fairwaylaw11_SegAdds.mono : ∀ a0 a1 a2 a3 a4 k, LeO (fairwaylaw11_SegAdds.f k a0 a1 a2 a3 a4) (fairwaylaw11_SegAdds.f (k + 1) a0 a1 a2 a3 a4) := by
 intro a0 a1 a2 a3 a4 k
 obtain ⟨ih0, ih1, ih2, ih3, ih4, ih5, ih6⟩ := fairwaylaw11_SegAdds.mono_l k
 unfold fairwaylaw11_SegAdds.f
 repeat' first
  | (with_reducible exact ih0 _ _ _ _ _ _ _ _)
  | (with_reducible exact ih1 _ _ _ _ _ _ _ _ _)
  | (with_reducible exact ih2 _ _ _ _ _ _ _ _ _ _ _)
  | (with_reducible exact ih3 _ _ _ _ _ _ _ _ _ _)
  | (with_reducible exact ih4 _ _ _ _ _ _ _ _ _ _ _ _ _ _ _ _)
  | (with_reducible exact ih5 _ _ _ _ _ _ _ _ _ _ _ _ _ _ _ _)
  | (with_reducible exact ih6 _ _ _ _ _ _ _ _ _ _ _ _ _ _ _ _)
  | (with_reducible exact fairwaylaw0_Recs.mono _ _)
  | (with_reducible exact fairwaylaw11_Heavy.mono _ _ _ _ _ _)
  | (with_reducible exact fairwaylaw11_wakes.mono _)
  | (with_reducible exact fairwayref0_CopySeg.mono _ _ _)
  | (with_reducible exact fairwayref0_EqSeg.mono _ _ _ _ _)
  | (with_reducible exact fairwayref10_Seg.mono _ _ _)
  | (with_reducible exact fairwayref10_Text.mono _ _ _)
  | (with_reducible exact fairwayref10_With.mono _ _ _ _ _ _ _ _ _)
  | (with_reducible exact seg_Add.mono _ _ _ _ _ _ _ _ _)
  | (with_reducible exact seg_Check.mono _ _ _)
  | (with_reducible exact seg_Size.mono _ _ _)
  | (with_reducible exact seg_Text.mono _ _ _)
  | (with_reducible exact LeO.refl _)
  | (with_reducible exact LeO.none _)
  | (with_reducible refine LeO.ite ?_ ?_)
  | (with_reducible refine LeO.bind ?_ (fun _ => ?_))
  | exact ih0 _ _ _ _ _ _ _ _
  | exact ih1 _ _ _ _ _ _ _ _ _
  | exact ih2 _ _ _ _ _ _ _ _ _ _ _
  | exact ih3 _ _ _ _ _ _ _ _ _ _
  | exact ih4 _ _ _ _ _ _ _ _ _ _ _ _ _ _ _ _
  | exact ih5 _ _ _ _ _ _ _ _ _ _ _ _ _ _ _ _
  | exact ih6 _ _ _ _ _ _ _ _ _ _ _ _ _ _ _ _
  | exact fairwaylaw0_Recs.mono _ _
  | exact fairwaylaw11_Heavy.mono _ _ _ _ _ _
  | exact fairwaylaw11_wakes.mono _
  | exact fairwayref0_CopySeg.mono _ _ _
  | exact fairwayref0_EqSeg.mono _ _ _ _ _
  | exact fairwayref10_Seg.mono _ _ _
  | exact fairwayref10_Text.mono _ _ _
  | exact fairwayref10_With.mono _ _ _ _ _ _ _ _ _
  | exact seg_Add.mono _ _ _ _ _ _ _ _ _
  | exact seg_Check.mono _ _ _
  | exact seg_Size.mono _ _ _
  | exact seg_Text.mono _ _ _
  | exact LeO.none _
  | refine LeO.ite ?_ ?_
  | refine LeO.bind ?_ (fun _ => ?_)
def fairwaylaw11_SegAdds.T16 : Bool × List (List Nat × List Nat) := (true, [([], []), ([], []), ([1], [1]), ([], []), ([2, 3], [2, 3]), ([4], [4]), ([0, 5], [0, 5]), ([6], [6]), ([7], [7]), ([7], [7]), ([], []), ([10, 8, 6, 0, 1, 2, 3, 4, 5, 6, 7, 8, 10], [8, 10]), ([9, 11, 0, 1, 2, 3, 4, 5, 6, 7, 8, 9, 10, 11], [9])])
def fairwaylaw11_SegAdds.B16 : List Nat := [0, 0, 2, 0, 14, 30, 63, 127, 255, 255, 0, 1535, 4095]
theorem fairwaylaw11_SegAdds.tab16 : rtab .any (opsOf Try.f9 16) = fairwaylaw11_SegAdds.T16 := by kernel_rfl
theorem fairwaylaw11_SegAdds.bits16 : waitsOk fairwaylaw11_SegAdds.T16.2 fairwaylaw11_SegAdds.B16 = true := by kernel_rfl
def fairwaylaw11_SegAdds.T18 : Bool × List (List Nat × List Nat) := (true, [([], []), ([0], [0]), ([1], [1]), ([1], [1]), ([3, 1], [1, 3]), ([1], [1]), ([4, 5, 1], [1, 4, 5]), ([6, 1], [1, 6]), ([2, 7, 1, 1], [1, 2, 7]), ([8, 8, 1], [1, 8]), ([1, 9], [1, 9])])
def fairwaylaw11_SegAdds.B18 : List Nat := [0, 1, 3, 3, 11, 3, 59, 123, 255, 511, 1023]
theorem fairwaylaw11_SegAdds.tab18 : rtab .any (opsOf Try.f9 18) = fairwaylaw11_SegAdds.T18 := by kernel_rfl
theorem fairwaylaw11_SegAdds.bits18 : waitsOk fairwaylaw11_SegAdds.T18.2 fairwaylaw11_SegAdds.B18 = true := by kernel_rfl
def fairwaylaw11_SegAdds.T19 : Bool × List (List Nat × List Nat) := (true, [([], []), ([], []), ([1], [1]), ([], []), ([2, 3], [2, 3]), ([4], [4]), ([0, 5], [0, 5]), ([6], []), ([6, 7, 0, 1, 2, 3, 4, 5, 6, 7], [6])])
def fairwaylaw11_SegAdds.B19 : List Nat := [0, 0, 2, 0, 14, 30, 63, 127, 255]
theorem fairwaylaw11_SegAdds.tab19 : rtab .any (opsOf Try.f9 19) = fairwaylaw11_SegAdds.T19 := by kernel_rfl
theorem fairwaylaw11_SegAdds.bits19 : waitsOk fairwaylaw11_SegAdds.T19.2 fairwaylaw11_SegAdds.B19 = true := by kernel_rfl
set_option maxHeartbeats 8000000 in
set_option maxRecDepth 100000 in
theorem fairwaylaw11_SegAdds.calls (k : Nat) (a0_0 : Int) (A0_1 : Option Addr) (c0_1 : Nat) (l0_1 : List (S25)) (A0_2 : Option Addr) (c0_2 : Nat) (l0_2 : List (S25)) (A0_3 : Option Addr) (c0_3 : Nat) (l0_3 : List Int) (a0_4 : ByteArray) (r : Bool) (w : World) (hr0_1 : Kd.C k25 w A0_1 l0_1.length l0_1) (hc0_1 : l0_1.length ≤ c0_1) (hr0_2 : Kd.C k25 w A0_2 l0_2.length l0_2) (hc0_2 : l0_2.length ≤ c0_2) (hr0_3 : Kd.C (Kd.int .i64) w A0_3 l0_3.length l0_3) (hc0_3 : l0_3.length ≤ c0_3) (h : fairwaylaw11_SegAdds.f k a0_0 l0_1 l0_2 l0_3 a0_4 = some r) :
 Calls Try.prog 9 #[.agg #[.int .i64 a0_0, .slice A0_1 l0_1.length c0_1, .slice A0_2 l0_2.length c0_2, .slice A0_3 l0_3.length c0_3, .string a0_4]] w fun e w' => e = .returned (.bool r) ∧ Below w.heap.size w w' := by
 have hu55 := Try.underlying55
 have hu53 := Try.underlying53
 have hu25 := Try.underlying25
 have HR0_1 := Aside0.mk hr0_1
 have HC0_1 := Aside0.mk hc0_1
 clear hr0_1 hc0_1
 have HR0_2 := Aside0.mk hr0_2
 have HC0_2 := Aside0.mk hc0_2
 clear hr0_2 hc0_2
 have HR0_3 := Aside0.mk hr0_3
 have HC0_3 := Aside0.mk hc0_3
 clear hr0_3 hc0_3
 have HB := Aside0.mk (Below.refl w.heap.size w)
 have H : ((fairwaylaw11_Heavy.f k a0_0 l0_1 l0_2 l0_3 a0_4).bind fun t538 => (if t538 = true then (some true) else ((fairwayref0_CopySeg.f k a0_0 l0_1).bind fun bt539 => (fairwaylaw11_SegAdds.l0 k 0 a0_0 l0_1 l0_2 l0_3 a0_4 bt539.1 bt539.2)))) = some r := h
 clear h
 replace H := Option.bind_eq_some_iff.mp H
 obtain ⟨t538, A20, H⟩ := H
 replace H : (if t538 = true then (some true) else ((fairwayref0_CopySeg.f k a0_0 l0_1).bind fun bt539 => (fairwaylaw11_SegAdds.l0 k 0 a0_0 l0_1 l0_2 l0_3 a0_4 bt539.1 bt539.2))) = some r := H
 have A2 := Aside0.mk A20
 clear A20
 by_cases c3 : t538 = true
 ·subst c3
  have H1 : (some true) = some r := by rw [if_pos rfl] at H; exact H
  clear H
  have H := H1
  clear H1
  obtain rfl := Option.some.inj H
  go_enter Try.func9, Try.ntmps9
  go_wp2_with (first | ((with_reducible refine gate_dst (N := 1) rfl ?_); (try (refine gate_guard (by rfl) ?_; dsimp only)); refine box_event ?hg (N := 1) ?hd (cs := #[.int .i64 a0_0, .slice A0_1 l0_1.length c0_1, .slice A0_2 l0_2.length c0_2, .slice A0_3 l0_3.length c0_3, .string a0_4]) (t := 55) ?hr ?_; (case hd => rfl); (case hg => rfl); (case hr => first | (go_simp; done) | (go_simp; rfl)); intro gb537 hg w4 hbox hb; have BK537 := Aside0.mk (hbox); have GW537 := Aside0.mk ((by rw [hg]; exact (below_size bo) : w.heap.size ≤ gb537)); have GE537 := Aside0.mk ((by rw [hg]; exact (below_size bo) : w.heap.size ≤ gb537)); replace HB := Aside0.mk (below_step bo hb); clear hb hbox hg; obtain ⟨hcz5_0, hcz5_1, hcz5_2, hcz5_3, hcz5_4⟩ := cl5 BK537.out; obtain ⟨hfz5_0, hfz5_1, hfz5_2, hfz5_3, hfz5_4⟩ := fz5 BK537.out) | ((with_reducible refine gate_callee (f := 30) rfl ?_); refine goesL_ (some 17) rfl rfl Try.func30 (by kernel_rfl) rfl #[.agg #[.int .i64 a0_0, .slice A0_1 l0_1.length c0_1, .slice A0_2 l0_2.length c0_2, .slice A0_3 l0_3.length c0_3, .string a0_4]] rfl aa ?_; (with_reducible refine (fairwaylaw11_Heavy.calls k a0_0 _ _ l0_1 _ _ l0_2 _ _ l0_3 a0_4 true _ ?side1 ?side2 ?side3 ?side4 ?side5 ?side6 A2.out).mono ?_); (case side1 => repeat (first | exact (Kd.C_below HR0_1.out HB.out) | (with_reducible refine Kd.C_alloc ?_ _) | (with_reducible refine Kd.C_drewN ?_ _) | (with_reducible refine Kd.C_drew ?_))); (case side2 => exact HC0_1.out); (case side3 => repeat (first | exact (Kd.C_below HR0_2.out HB.out) | (with_reducible refine Kd.C_alloc ?_ _) | (with_reducible refine Kd.C_drewN ?_ _) | (with_reducible refine Kd.C_drew ?_))); (case side4 => exact HC0_2.out); (case side5 => repeat (first | exact (Kd.C_below HR0_3.out HB.out) | (with_reducible refine Kd.C_alloc ?_ _) | (with_reducible refine Kd.C_drewN ?_ _) | (with_reducible refine Kd.C_drew ?_))); (case side6 => exact HC0_3.out); rintro e w6 ⟨rfl, hb⟩; refine ⟨_, rfl, ?_⟩; replace BK537 := Aside0.mk (bb BK537.out hb); replace HB := Aside0.mk (below_step bo hb); (try clear hb); (try clear hb2); (try clear hk); (try clear hi)))
  go_ret
  exact ⟨er, bo⟩
 ·replace c3 := Bool.eq_false_iff.mpr c3
  subst c3
  have H1 : ((fairwayref0_CopySeg.f k a0_0 l0_1).bind fun bt539 => (fairwaylaw11_SegAdds.l0 k 0 a0_0 l0_1 l0_2 l0_3 a0_4 bt539.1 bt539.2)) = some r := by rw [if_neg (show ¬ (false = true) by decide)] at H; exact H
  clear H
  have H := H1
  clear H1
  replace H := Option.bind_eq_some_iff.mp H
  obtain ⟨⟨t539, t540⟩, A70, H⟩ := H
  replace H : (fairwaylaw11_SegAdds.l0 k 0 a0_0 l0_1 l0_2 l0_3 a0_4 t539 t540) = some r := H
  have A7 := Aside0.mk A70
  clear A70
  have H' := Aside0.mk H
  clear H
  go_enter Try.func9, Try.ntmps9
  go_wp2_with (first | ((with_reducible refine gate_dst (N := 1) rfl ?_); (try (refine gate_guard (by rfl) ?_; dsimp only)); refine box_event ?hg (N := 1) ?hd (cs := #[.int .i64 a0_0, .slice A0_1 l0_1.length c0_1, .slice A0_2 l0_2.length c0_2, .slice A0_3 l0_3.length c0_3, .string a0_4]) (t := 55) ?hr ?_; (case hd => rfl); (case hg => rfl); (case hr => first | (go_simp; done) | (go_simp; rfl)); intro gb537 hg w8 hbox hb; have BK537 := Aside0.mk (hbox); have GW537 := Aside0.mk ((by rw [hg]; exact (below_size bo) : w.heap.size ≤ gb537)); have GE537 := Aside0.mk ((by rw [hg]; exact (below_size bo) : w.heap.size ≤ gb537)); replace HB := Aside0.mk (below_step bo hb); clear hb hbox hg; obtain ⟨hcz9_0, hcz9_1, hcz9_2, hcz9_3, hcz9_4⟩ := cl5 BK537.out; obtain ⟨hfz9_0, hfz9_1, hfz9_2, hfz9_3, hfz9_4⟩ := fz5 BK537.out) | ((with_reducible refine gate_callee (f := 30) rfl ?_); refine goesL_ (some 17) rfl rfl Try.func30 (by kernel_rfl) rfl #[.agg #[.int .i64 a0_0, .slice A0_1 l0_1.length c0_1, .slice A0_2 l0_2.length c0_2, .slice A0_3 l0_3.length c0_3, .string a0_4]] rfl aa ?_; (with_reducible refine (fairwaylaw11_Heavy.calls k a0_0 _ _ l0_1 _ _ l0_2 _ _ l0_3 a0_4 false _ ?side1 ?side2 ?side3 ?side4 ?side5 ?side6 A2.out).mono ?_); (case side1 => repeat (first | exact (Kd.C_below HR0_1.out HB.out) | (with_reducible refine Kd.C_alloc ?_ _) | (with_reducible refine Kd.C_drewN ?_ _) | (with_reducible refine Kd.C_drew ?_))); (case side2 => exact HC0_1.out); (case side3 => repeat (first | exact (Kd.C_below HR0_2.out HB.out) | (with_reducible refine Kd.C_alloc ?_ _) | (with_reducible refine Kd.C_drewN ?_ _) | (with_reducible refine Kd.C_drew ?_))); (case side4 => exact HC0_2.out); (case side5 => repeat (first | exact (Kd.C_below HR0_3.out HB.out) | (with_reducible refine Kd.C_alloc ?_ _) | (with_reducible refine Kd.C_drewN ?_ _) | (with_reducible refine Kd.C_drew ?_))); (case side6 => exact HC0_3.out); rintro e w10 ⟨rfl, hb⟩; refine ⟨_, rfl, ?_⟩; replace BK537 := Aside0.mk (bb BK537.out hb); replace HB := Aside0.mk (below_step bo hb); (try clear hb); (try clear hb2); (try clear hk); (try clear hi); obtain ⟨hcz11_0, hcz11_1, hcz11_2, hcz11_3, hcz11_4⟩ := cl5 BK537.out; obtain ⟨hfz11_0, hfz11_1, hfz11_2, hfz11_3, hfz11_4⟩ := fz5 BK537.out) | ((with_reducible refine gate_callee (f := 42) rfl ?_); refine goesL_ (some 20) rfl rfl Try.func42 (by kernel_rfl) rfl #[.agg #[.int .i64 a0_0, .slice A0_1 l0_1.length c0_1]] rfl aa ?_; (with_reducible refine (fairwayref0_CopySeg.calls k a0_0 _ _ l0_1 t539 t540 _ ?side1 ?side2 A7.out).mono ?_); (case side1 => repeat (first | exact (Kd.C_below HR0_1.out HB.out) | (with_reducible refine Kd.C_alloc ?_ _) | (with_reducible refine Kd.C_drewN ?_ _) | (with_reducible refine Kd.C_drew ?_))); (case side2 => exact HC0_1.out); rintro e w12 ⟨v541, rfl, ho0, hb⟩; refine ⟨_, rfl, ?_⟩; have HO542 := Aside0.mk (Kd.R_lower ho0 (below_size bo)); replace BK537 := Aside0.mk (bb BK537.out hb); replace HB := Aside0.mk (below_step bo hb); (try clear hb); (try clear hb2); (try clear hk); (try clear hi); (try clear ho0)) | ((with_reducible refine gate_dst (N := 3) rfl ?_); (try (refine gate_guard (by rfl) ?_; dsimp only)); refine box_event ?hg (N := 3) ?hd (cs := #[.int .i64 0, .slice none 0 0]) (t := 53) ?hr ?_; (case hd => rfl); (case hg => rfl); (case hr => first | (go_simp; done) | (go_simp; rfl)); intro gb543 hg w13 hbox hb; replace HO542 := Aside0.mk (Kd.R_below (rk HO542.out) hb); have BK543 := Aside0.mk (hbox); have GW543 := Aside0.mk ((by rw [hg]; exact (below_size bo) : w.heap.size ≤ gb543)); have GE543 := Aside0.mk ((by rw [hg]; exact (below_size bo) : w.heap.size ≤ gb543)); replace HB := Aside0.mk (below_step bo hb); have NB537_543 := Aside0.mk (nl BK537.out hg); have NB543_537 := Aside0.mk (ng BK537.out hg); replace BK537 := Aside0.mk (bb BK537.out hb); clear hb hbox hg; have hnb14 := NB543_537.out; have hnc14 := NB537_543.out; obtain ⟨hcz15_0, hcz15_1⟩ := cl2 BK543.out; obtain ⟨hfz15_0, hfz15_1⟩ := fz2 BK543.out; obtain ⟨Ao16, co16, eo16⟩ := Kd.R_slice HO542.out; subst eo16))
  go_loopg [4] k (fun kq v4 w' => ∃ (x4_1 : Int) (x544000_1 : Int) (x544001_1 : List (S25)) (u544001 : Value), v4 = .int .i64 x4_1 ∧ Aside0 (fairwaylaw11_SegAdds.l0 kq x4_1 a0_0 l0_1 l0_2 l0_3 a0_4 x544000_1 x544001_1 = some r) ∧ Aside0 (kq ≤ k) ∧ Aside0 (Kd.R k25 25 w' w.heap.size (fun _ => True) u544001 x544001_1) ∧ Aside0 (w'.heap[gb537]? = some (.cells #[.int .i64 a0_0, (.slice A0_1 l0_1.length c0_1), (.slice A0_2 l0_2.length c0_2), (.slice A0_3 l0_3.length c0_3), .string a0_4] 55 (0, 0))) ∧ Aside0 (w'.heap[gb543]? = some (.cells #[.int .i64 x544000_1, u544001] 53 (0, 0))) ∧ Aside0 (Below w.heap.size w w'))
  case atStart => exact ⟨(0), (t539), (t540), (.slice Ao16 t540.length co16), ap, H', ⟨Nat.le_refl _⟩, ⟨by (with_reducible repeat (first | apply Kd.R_alloc | apply Kd.R_drewN | apply Kd.R_drew)); exact Kd.R_mono (Kd.R_far (p := ⟨gb543, 1, none⟩) (Kd.R_far (p := ⟨gb543, 0, none⟩) (Kd.R_types HO542.out BK543.out (by decide)) (fun _ hk => hk.2) (.int .i64 t539)) (fun _ hk => hk.2) (.slice Ao16 t540.length co16)) (fun _ hk => trivial)⟩, ⟨by (with_reducible repeat (first | refine blk_drewN ?_ _ | refine blk_drew ?_ | refine blk_alloc ?_ _)); refine blk_far ?_ NB537_543.out _; (with_reducible repeat (first | refine blk_drewN ?_ _ | refine blk_drew ?_ | refine blk_alloc ?_ _)); refine blk_far ?_ NB537_543.out _; (with_reducible repeat (first | refine blk_drewN ?_ _ | refine blk_drew ?_ | refine blk_alloc ?_ _)); exact BK537.out⟩, ⟨by (with_reducible repeat (first | refine blk_drewN ?_ _ | refine blk_drew ?_ | refine blk_alloc ?_ _)); refine blk_put (cs := #[.int .i64 t539, .slice none 0 0]) ?_ 1 _ rfl; (with_reducible repeat (first | refine blk_drewN ?_ _ | refine blk_drew ?_ | refine blk_alloc ?_ _)); refine blk_put (cs := #[.int .i64 0, .slice none 0 0]) ?_ 0 _ rfl; (with_reducible repeat (first | refine blk_drewN ?_ _ | refine blk_drew ?_ | refine blk_alloc ?_ _)); exact BK543.out⟩, ⟨bo⟩⟩
  case round =>
   clear H'
   try clear c1
   try clear p2
   try clear c3
   try clear c4
   try clear c9
   try clear c14
   try clear hcz11_0
   try clear hcz11_1
   try clear hcz11_2
   try clear hcz11_3
   try clear hcz11_4
   try clear hcz15_0
   try clear hcz15_1
   try clear hcz5_0
   try clear hcz5_1
   try clear hcz5_2
   try clear hcz5_3
   try clear hcz5_4
   try clear hcz9_0
   try clear hcz9_1
   try clear hcz9_2
   try clear hcz9_3
   try clear hcz9_4
   try clear hfz11_0
   try clear hfz11_1
   try clear hfz11_2
   try clear hfz11_3
   try clear hfz11_4
   try clear hfz15_0
   try clear hfz15_1
   try clear hfz5_0
   try clear hfz5_1
   try clear hfz5_2
   try clear hfz5_3
   try clear hfz5_4
   try clear hfz9_0
   try clear hfz9_1
   try clear hfz9_2
   try clear hfz9_3
   try clear hfz9_4
   obtain ⟨x4_1, x544000_1, x544001_1, u544001, rfl, HA, HK1, HO_544001, BK537, BK543, HB⟩ := hrel
   cases gk with
   | zero => exact absurd HA.out (by simp [fairwaylaw11_SegAdds.l0])
   | succ k1 =>
    have H := HA.out
    clear HA
    simp only [fairwaylaw11_SegAdds.l0] at H
    have HC17 := Aside0.mk H
    clear H
    go_upto_region 5 with (fail)
    go_cut [29] (fun v29 wc => ∃ (kq : Nat) (x29_16 : Bool), v29 = .bool x29_16 ∧ Aside0 (fairwaylaw11_SegAdds.j1 kq x4_1 x29_16 a0_0 l0_1 l0_2 l0_3 a0_4 x544000_1 x544001_1 = some r) ∧ Aside0 (kq ≤ k1) ∧ Aside0 (Kd.R k25 25 wc w.heap.size (fun _ => True) u544001 x544001_1) ∧ Aside0 (wc.heap[gb537]? = some (.cells #[.int .i64 a0_0, (.slice A0_1 l0_1.length c0_1), (.slice A0_2 l0_2.length c0_2), (.slice A0_3 l0_3.length c0_3), .string a0_4] 55 (0, 0))) ∧ Aside0 (wc.heap[gb543]? = some (.cells #[.int .i64 x544000_1, u544001] 53 (0, 0))) ∧ Aside0 (Below w.heap.size w wc))
    case first =>
     have H := HC17.out
     clear HC17
     by_cases c18 : x4_1 < (l0_2.length : Int)
     ·rw [if_pos c18] at H
      have c18b0 : decide (x4_1 < (l0_2.length : Int)) = true := decide_eq_true c18
      clear c18
      (first | rw [c18b0] | (simp only [i64_w, i32_w]; rw [c18b0]) | skip)
      have H' := Aside0.mk H
      clear H
      have hnb19 := NB537_543.out
      have hnc19 := NB543_537.out
      have hcz20_0 : wr.cell? ⟨gb537, 0, none⟩ = some (.int .i64 a0_0) := (blk_cell BK537.out 0).trans rfl
      have hcz20_1 : wr.cell? ⟨gb537, 1, none⟩ = some (.slice A0_1 l0_1.length c0_1) := (blk_cell BK537.out 1).trans rfl
      have hcz20_2 : wr.cell? ⟨gb537, 2, none⟩ = some (.slice A0_2 l0_2.length c0_2) := (blk_cell BK537.out 2).trans rfl
      have hcz20_3 : wr.cell? ⟨gb537, 3, none⟩ = some (.slice A0_3 l0_3.length c0_3) := (blk_cell BK537.out 3).trans rfl
      have hcz20_4 : wr.cell? ⟨gb537, 4, none⟩ = some (.string a0_4) := (blk_cell BK537.out 4).trans rfl
      have hfz20_0 := blk_frozen BK537.out 0
      have hfz20_1 := blk_frozen BK537.out 1
      have hfz20_2 := blk_frozen BK537.out 2
      have hfz20_3 := blk_frozen BK537.out 3
      have hfz20_4 := blk_frozen BK537.out 4
      go_wp2
      go_meet
      case rel => exact ⟨_, (decide (x4_1 < 10)), ap, H', ⟨by have := HK1.out; first | omega | exact Nat.le_refl _⟩, ⟨by (with_reducible repeat (first | apply Kd.R_alloc | apply Kd.R_drewN | apply Kd.R_drew)); exact HO_544001.out⟩, ⟨by (with_reducible repeat (first | refine blk_drewN ?_ _ | refine blk_drew ?_ | refine blk_alloc ?_ _)); exact BK537.out⟩, ⟨by (with_reducible repeat (first | refine blk_drewN ?_ _ | refine blk_drew ?_ | refine blk_alloc ?_ _)); exact BK543.out⟩, ⟨bo⟩⟩
     ·rw [if_neg c18] at H
      have c18b0 : decide (x4_1 < (l0_2.length : Int)) = false := decide_eq_false c18
      clear c18
      (first | rw [c18b0] | (simp only [i64_w, i32_w]; rw [c18b0]) | skip)
      have H' := Aside0.mk H
      clear H
      have hnb21 := NB537_543.out
      have hnc21 := NB543_537.out
      have hcz22_0 : wr.cell? ⟨gb537, 0, none⟩ = some (.int .i64 a0_0) := (blk_cell BK537.out 0).trans rfl
      have hcz22_1 : wr.cell? ⟨gb537, 1, none⟩ = some (.slice A0_1 l0_1.length c0_1) := (blk_cell BK537.out 1).trans rfl
      have hcz22_2 : wr.cell? ⟨gb537, 2, none⟩ = some (.slice A0_2 l0_2.length c0_2) := (blk_cell BK537.out 2).trans rfl
      have hcz22_3 : wr.cell? ⟨gb537, 3, none⟩ = some (.slice A0_3 l0_3.length c0_3) := (blk_cell BK537.out 3).trans rfl
      have hcz22_4 : wr.cell? ⟨gb537, 4, none⟩ = some (.string a0_4) := (blk_cell BK537.out 4).trans rfl
      have hfz22_0 := blk_frozen BK537.out 0
      have hfz22_1 := blk_frozen BK537.out 1
      have hfz22_2 := blk_frozen BK537.out 2
      have hfz22_3 := blk_frozen BK537.out 3
      have hfz22_4 := blk_frozen BK537.out 4
      go_wp2
      go_meet
      case rel => exact ⟨_, (false), ap, H', ⟨by have := HK1.out; first | omega | exact Nat.le_refl _⟩, ⟨by (with_reducible repeat (first | apply Kd.R_alloc | apply Kd.R_drewN | apply Kd.R_drew)); exact HO_544001.out⟩, ⟨by (with_reducible repeat (first | refine blk_drewN ?_ _ | refine blk_drew ?_ | refine blk_alloc ?_ _)); exact BK537.out⟩, ⟨by (with_reducible repeat (first | refine blk_drewN ?_ _ | refine blk_drew ?_ | refine blk_alloc ?_ _)); exact BK543.out⟩, ⟨bo⟩⟩
    case rest =>
     clear HC17
     try clear c1
     try clear c2
     try clear p2
     try clear c3
     try clear c4
     try clear c9
     try clear c14
     try clear c18
     try clear c18b0
     try clear c19
     try clear c21
     try clear hcz11_0
     try clear hcz11_1
     try clear hcz11_2
     try clear hcz11_3
     try clear hcz11_4
     try clear hcz15_0
     try clear hcz15_1
     try clear hcz20_0
     try clear hcz20_1
     try clear hcz20_2
     try clear hcz20_3
     try clear hcz20_4
     try clear hcz22_0
     try clear hcz22_1
     try clear hcz22_2
     try clear hcz22_3
     try clear hcz22_4
     try clear hcz5_0
     try clear hcz5_1
     try clear hcz5_2
     try clear hcz5_3
     try clear hcz5_4
     try clear hcz9_0
     try clear hcz9_1
     try clear hcz9_2
     try clear hcz9_3
     try clear hcz9_4
     try clear hfz11_0
     try clear hfz11_1
     try clear hfz11_2
     try clear hfz11_3
     try clear hfz11_4
     try clear hfz15_0
     try clear hfz15_1
     try clear hfz20_0
     try clear hfz20_1
     try clear hfz20_2
     try clear hfz20_3
     try clear hfz20_4
     try clear hfz22_0
     try clear hfz22_1
     try clear hfz22_2
     try clear hfz22_3
     try clear hfz22_4
     try clear hfz5_0
     try clear hfz5_1
     try clear hfz5_2
     try clear hfz5_3
     try clear hfz5_4
     try clear hfz9_0
     try clear hfz9_1
     try clear hfz9_2
     try clear hfz9_3
     try clear hfz9_4
     try clear p2
     obtain ⟨kq, x29_16, rfl, HA, HJ16, HO_544001, BK537, BK543, HB⟩ := hcut
     cases kq with
     | zero => exact absurd HA.out (by simp [fairwaylaw11_SegAdds.j1])
     | succ kj16 =>
      have H := HA.out
      clear HA
      simp only [fairwaylaw11_SegAdds.j1] at H
      by_cases c23 : x29_16 = true
      ·subst c23
       have H1 : ((fairwayref10_Seg.f kj16 x544000_1 x544001_1).bind fun t545 => (if t545 = true then ((fairwayref10_Text.f kj16 x544000_1 x544001_1).bind fun t546 => (fairwaylaw11_SegAdds.j2 kj16 x4_1 t545 0 t546 a0_0 l0_1 l0_2 l0_3 a0_4 x544000_1 x544001_1)) else (fairwaylaw11_SegAdds.j2 kj16 x4_1 t545 1 (⟨#[]⟩ : ByteArray) a0_0 l0_1 l0_2 l0_3 a0_4 x544000_1 x544001_1))) = some r := by rw [if_pos rfl] at H; exact H
       clear H
       have H := H1
       clear H1
       replace H := Option.bind_eq_some_iff.mp H
       obtain ⟨t545, A240, H⟩ := H
       replace H : (if t545 = true then ((fairwayref10_Text.f kj16 x544000_1 x544001_1).bind fun t546 => (fairwaylaw11_SegAdds.j2 kj16 x4_1 t545 0 t546 a0_0 l0_1 l0_2 l0_3 a0_4 x544000_1 x544001_1)) else (fairwaylaw11_SegAdds.j2 kj16 x4_1 t545 1 (⟨#[]⟩ : ByteArray) a0_0 l0_1 l0_2 l0_3 a0_4 x544000_1 x544001_1)) = some r := H
       have A24 := Aside0.mk A240
       clear A240
       have HC25 := Aside0.mk H
       clear H
       have hnb26 := NB543_537.out
       have hnc26 := NB537_543.out
       have hcz27_0 : wc.cell? ⟨gb543, 0, none⟩ = some (.int .i64 x544000_1) := (blk_cell BK543.out 0).trans rfl
       have hcz27_1 : wc.cell? ⟨gb543, 1, none⟩ = some (u544001) := (blk_cell BK543.out 1).trans rfl
       have hfz27_0 := blk_frozen BK543.out 0
       have hfz27_1 := blk_frozen BK543.out 1
       obtain ⟨Ao28, co28, eo28⟩ := Kd.R_slice HO_544001.out
       subst eo28
       go_upto_if 34 with (first | ((with_reducible refine gate_callee (f := 31) rfl ?_); refine goesL_ (some 33) rfl rfl Try.func31 (by kernel_rfl) rfl #[.agg #[.int .i64 x544000_1, .slice Ao28 x544001_1.length co28]] rfl aa ?_; (with_reducible refine (fairwayref10_Seg.calls kj16 x544000_1 _ _ x544001_1 t545 _ ?side1 ?side2 A24.out).mono ?_); (case side1 => repeat (first | exact (Kd.R_reads' HO_544001.out).2.2 | (with_reducible refine Kd.C_alloc ?_ _) | (with_reducible refine Kd.C_drewN ?_ _) | (with_reducible refine Kd.C_drew ?_))); (case side2 => exact (Kd.R_reads' HO_544001.out).2.1); rintro e w29 ⟨rfl, hb⟩; refine ⟨_, rfl, ?_⟩; replace HO_544001 := Aside0.mk (Kd.R_below (rk HO_544001.out) hb); replace BK537 := Aside0.mk (bb BK537.out hb); replace BK543 := Aside0.mk (bb BK543.out hb); replace HB := Aside0.mk (below_step bo hb); (try clear hb); (try clear hb2); (try clear hk); (try clear hi)))
       (try simp only [Act.put, List.setIfInBounds_toArray, List.set_cons_zero, List.set_cons_succ])
       go_cut [6, 7] (fun v6 v7 wc => ∃ (kq : Nat) (x6_24 : Int) (x7_24 : ByteArray), v6 = .int .i64 x6_24 ∧ v7 = .string x7_24 ∧ Aside0 (fairwaylaw11_SegAdds.j2 kq x4_1 t545 x6_24 x7_24 a0_0 l0_1 l0_2 l0_3 a0_4 x544000_1 x544001_1 = some r) ∧ Aside0 (kq ≤ kj16) ∧ Aside0 (Kd.R k25 25 wc w.heap.size (fun _ => True) (.slice Ao28 x544001_1.length co28) x544001_1) ∧ Aside0 (wc.heap[gb537]? = some (.cells #[.int .i64 a0_0, (.slice A0_1 l0_1.length c0_1), (.slice A0_2 l0_2.length c0_2), (.slice A0_3 l0_3.length c0_3), .string a0_4] 55 (0, 0))) ∧ Aside0 (wc.heap[gb543]? = some (.cells #[.int .i64 x544000_1, (.slice Ao28 x544001_1.length co28)] 53 (0, 0))) ∧ Aside0 (Below w.heap.size w wc))
       case first =>
        have H := HC25.out
        clear HC25
        by_cases c30 : t545 = true
        ·subst c30
         have H1 : ((fairwayref10_Text.f kj16 x544000_1 x544001_1).bind fun t546 => (fairwaylaw11_SegAdds.j2 kj16 x4_1 true 0 t546 a0_0 l0_1 l0_2 l0_3 a0_4 x544000_1 x544001_1)) = some r := by rw [if_pos rfl] at H; exact H
         clear H
         have H := H1
         clear H1
         replace H := Option.bind_eq_some_iff.mp H
         obtain ⟨t546, A310, H⟩ := H
         replace H : (fairwaylaw11_SegAdds.j2 kj16 x4_1 true 0 t546 a0_0 l0_1 l0_2 l0_3 a0_4 x544000_1 x544001_1) = some r := H
         have A31 := Aside0.mk A310
         clear A310
         have H' := Aside0.mk H
         clear H
         have hnb32 := NB543_537.out
         have hnc32 := NB537_543.out
         have hcz33_0 : w29.cell? ⟨gb543, 0, none⟩ = some (.int .i64 x544000_1) := (blk_cell BK543.out 0).trans rfl
         have hcz33_1 : w29.cell? ⟨gb543, 1, none⟩ = some (.slice Ao28 x544001_1.length co28) := (blk_cell BK543.out 1).trans rfl
         have hfz33_0 := blk_frozen BK543.out 0
         have hfz33_1 := blk_frozen BK543.out 1
         go_wp2_with (first | ((with_reducible refine gate_callee (f := 43) rfl ?_); refine goesL_ (some 36) rfl rfl Try.func43 (by kernel_rfl) rfl #[.agg #[.int .i64 x544000_1, .slice Ao28 x544001_1.length co28]] rfl aa ?_; (with_reducible refine (fairwayref10_Text.calls kj16 x544000_1 _ _ x544001_1 t546 _ ?side1 ?side2 A31.out).mono ?_); (case side1 => repeat (first | exact (Kd.R_reads' HO_544001.out).2.2 | (with_reducible refine Kd.C_alloc ?_ _) | (with_reducible refine Kd.C_drewN ?_ _) | (with_reducible refine Kd.C_drew ?_))); (case side2 => exact (Kd.R_reads' HO_544001.out).2.1); rintro e w34 ⟨rfl, hb⟩; refine ⟨_, rfl, ?_⟩; replace HO_544001 := Aside0.mk (Kd.R_below (rk HO_544001.out) hb); replace BK537 := Aside0.mk (bb BK537.out hb); replace BK543 := Aside0.mk (bb BK543.out hb); replace HB := Aside0.mk (below_step bo hb); (try clear hb); (try clear hb2); (try clear hk); (try clear hi)))
         go_meet
         case rel => exact ⟨_, (0), (t546), ap, ap, H', ⟨by have := HK1.out; have := HJ16.out; first | omega | exact Nat.le_refl _⟩, ⟨by (with_reducible repeat (first | apply Kd.R_alloc | apply Kd.R_drewN | apply Kd.R_drew)); exact HO_544001.out⟩, ⟨by (with_reducible repeat (first | refine blk_drewN ?_ _ | refine blk_drew ?_ | refine blk_alloc ?_ _)); exact BK537.out⟩, ⟨by (with_reducible repeat (first | refine blk_drewN ?_ _ | refine blk_drew ?_ | refine blk_alloc ?_ _)); exact BK543.out⟩, ⟨bo⟩⟩
        ·replace c30 := Bool.eq_false_iff.mpr c30
         subst c30
         have H1 : (fairwaylaw11_SegAdds.j2 kj16 x4_1 false 1 (⟨#[]⟩ : ByteArray) a0_0 l0_1 l0_2 l0_3 a0_4 x544000_1 x544001_1) = some r := by rw [if_neg (show ¬ (false = true) by decide)] at H; exact H
         clear H
         have H := H1
         clear H1
         have H' := Aside0.mk H
         clear H
         go_wp2
         go_meet
         case rel => exact ⟨_, (1), ((⟨#[]⟩ : ByteArray)), ap, ap, H', ⟨by have := HK1.out; have := HJ16.out; first | omega | exact Nat.le_refl _⟩, ⟨by (with_reducible repeat (first | apply Kd.R_alloc | apply Kd.R_drewN | apply Kd.R_drew)); exact HO_544001.out⟩, ⟨by (with_reducible repeat (first | refine blk_drewN ?_ _ | refine blk_drew ?_ | refine blk_alloc ?_ _)); exact BK537.out⟩, ⟨by (with_reducible repeat (first | refine blk_drewN ?_ _ | refine blk_drew ?_ | refine blk_alloc ?_ _)); exact BK543.out⟩, ⟨bo⟩⟩
       case rest =>
        clear HC25
        try clear c1
        try clear c2
        try clear p2
        try clear c3
        try clear c4
        try clear c9
        try clear c14
        try clear c18
        try clear c18b0
        try clear c19
        try clear c21
        try clear c23
        try clear c26
        try clear c30
        try clear c31
        try clear c32
        try clear hcz11_0
        try clear hcz11_1
        try clear hcz11_2
        try clear hcz11_3
        try clear hcz11_4
        try clear hcz15_0
        try clear hcz15_1
        try clear hcz20_0
        try clear hcz20_1
        try clear hcz20_2
        try clear hcz20_3
        try clear hcz20_4
        try clear hcz22_0
        try clear hcz22_1
        try clear hcz22_2
        try clear hcz22_3
        try clear hcz22_4
        try clear hcz27_0
        try clear hcz27_1
        try clear hcz33_0
        try clear hcz33_1
        try clear hcz5_0
        try clear hcz5_1
        try clear hcz5_2
        try clear hcz5_3
        try clear hcz5_4
        try clear hcz9_0
        try clear hcz9_1
        try clear hcz9_2
        try clear hcz9_3
        try clear hcz9_4
        try clear hfz11_0
        try clear hfz11_1
        try clear hfz11_2
        try clear hfz11_3
        try clear hfz11_4
        try clear hfz15_0
        try clear hfz15_1
        try clear hfz20_0
        try clear hfz20_1
        try clear hfz20_2
        try clear hfz20_3
        try clear hfz20_4
        try clear hfz22_0
        try clear hfz22_1
        try clear hfz22_2
        try clear hfz22_3
        try clear hfz22_4
        try clear hfz27_0
        try clear hfz27_1
        try clear hfz33_0
        try clear hfz33_1
        try clear hfz5_0
        try clear hfz5_1
        try clear hfz5_2
        try clear hfz5_3
        try clear hfz5_4
        try clear hfz9_0
        try clear hfz9_1
        try clear hfz9_2
        try clear hfz9_3
        try clear hfz9_4
        try clear p2
        obtain ⟨kq, x6_24, x7_24, rfl, rfl, HA, HJ24, HO_544001, BK537, BK543, HB⟩ := hcut
        cases kq with
        | zero => exact absurd HA.out (by simp [fairwaylaw11_SegAdds.j2])
        | succ kj24 =>
         have H := HA.out
         clear HA
         simp only [fairwaylaw11_SegAdds.j2] at H
         replace H := Option.bind_eq_some_iff.mp H
         obtain ⟨⟨t547, t548⟩, A350, H⟩ := H
         replace H : ((seg_Text.f kj24 x544000_1 x544001_1).bind fun bt549 => ((seg_Check.f kj24 x544000_1 x544001_1).bind fun t551 => ((fairwaylaw11_num.f t551).bind fun t552 => (if t552 = x6_24 then ((fairwaylaw11_num.f t548).bind fun t553 => (if t553 = x6_24 then ((fairwaylaw11_num.f bt549.2).bind fun t554 => (if t554 = x6_24 then (if t547 = (x7_24.size : Int) then (fairwaylaw11_SegAdds.j3 kj24 x4_1 t545 (bt549.1.toList != x7_24.toList) a0_0 l0_1 l0_2 l0_3 a0_4 x544000_1 x544001_1) else (fairwaylaw11_SegAdds.j3 kj24 x4_1 t545 true a0_0 l0_1 l0_2 l0_3 a0_4 x544000_1 x544001_1)) else (fairwaylaw11_SegAdds.j3 kj24 x4_1 t545 true a0_0 l0_1 l0_2 l0_3 a0_4 x544000_1 x544001_1))) else (fairwaylaw11_SegAdds.j3 kj24 x4_1 t545 true a0_0 l0_1 l0_2 l0_3 a0_4 x544000_1 x544001_1))) else (fairwaylaw11_SegAdds.j3 kj24 x4_1 t545 true a0_0 l0_1 l0_2 l0_3 a0_4 x544000_1 x544001_1))))) = some r := H
         have A35 := Aside0.mk A350
         clear A350
         replace H := Option.bind_eq_some_iff.mp H
         obtain ⟨⟨t549, t550⟩, A360, H⟩ := H
         replace H : ((seg_Check.f kj24 x544000_1 x544001_1).bind fun t551 => ((fairwaylaw11_num.f t551).bind fun t552 => (if t552 = x6_24 then ((fairwaylaw11_num.f t548).bind fun t553 => (if t553 = x6_24 then ((fairwaylaw11_num.f t550).bind fun t554 => (if t554 = x6_24 then (if t547 = (x7_24.size : Int) then (fairwaylaw11_SegAdds.j3 kj24 x4_1 t545 (t549.toList != x7_24.toList) a0_0 l0_1 l0_2 l0_3 a0_4 x544000_1 x544001_1) else (fairwaylaw11_SegAdds.j3 kj24 x4_1 t545 true a0_0 l0_1 l0_2 l0_3 a0_4 x544000_1 x544001_1)) else (fairwaylaw11_SegAdds.j3 kj24 x4_1 t545 true a0_0 l0_1 l0_2 l0_3 a0_4 x544000_1 x544001_1))) else (fairwaylaw11_SegAdds.j3 kj24 x4_1 t545 true a0_0 l0_1 l0_2 l0_3 a0_4 x544000_1 x544001_1))) else (fairwaylaw11_SegAdds.j3 kj24 x4_1 t545 true a0_0 l0_1 l0_2 l0_3 a0_4 x544000_1 x544001_1)))) = some r := H
         have A36 := Aside0.mk A360
         clear A360
         have HC37 := Aside0.mk H
         clear H
         have hnb38 := NB543_537.out
         have hnc38 := NB537_543.out
         have hcz39_0 : wc.cell? ⟨gb543, 0, none⟩ = some (.int .i64 x544000_1) := (blk_cell BK543.out 0).trans rfl
         have hcz39_1 : wc.cell? ⟨gb543, 1, none⟩ = some (.slice Ao28 x544001_1.length co28) := (blk_cell BK543.out 1).trans rfl
         have hfz39_0 := blk_frozen BK543.out 0
         have hfz39_1 := blk_frozen BK543.out 1
         go_upto_region 13 with (first | ((with_reducible refine gate_callee (f := 44) rfl ?_); refine goesL_ (some 39) rfl rfl Try.func44 (by kernel_rfl) rfl #[.agg #[.int .i64 x544000_1, .slice Ao28 x544001_1.length co28]] rfl aa ?_; (with_reducible refine (seg_Size.calls kj24 x544000_1 _ _ x544001_1 t547 t548 _ ?side1 ?side2 A35.out).mono ?_); (case side1 => repeat (first | exact (Kd.R_reads' HO_544001.out).2.2 | (with_reducible refine Kd.C_alloc ?_ _) | (with_reducible refine Kd.C_drewN ?_ _) | (with_reducible refine Kd.C_drew ?_))); (case side2 => exact (Kd.R_reads' HO_544001.out).2.1); rintro e w40 ⟨rfl, hb⟩; refine ⟨_, rfl, ?_⟩; replace HO_544001 := Aside0.mk (Kd.R_below (rk HO_544001.out) hb); replace BK537 := Aside0.mk (bb BK537.out hb); replace BK543 := Aside0.mk (bb BK543.out hb); replace HB := Aside0.mk (below_step bo hb); (try clear hb); (try clear hb2); (try clear hk); (try clear hi); obtain ⟨hcz41_0, hcz41_1⟩ := cl2 BK543.out; obtain ⟨hfz41_0, hfz41_1⟩ := fz2 BK543.out) | ((with_reducible refine gate_callee (f := 45) rfl ?_); refine goesL_ (some 44) rfl rfl Try.func45 (by kernel_rfl) rfl #[.agg #[.int .i64 x544000_1, .slice Ao28 x544001_1.length co28]] rfl aa ?_; (with_reducible refine (seg_Text.calls kj24 x544000_1 _ _ x544001_1 t549 t550 _ ?side1 ?side2 A36.out).mono ?_); (case side1 => repeat (first | exact (Kd.R_reads' HO_544001.out).2.2 | (with_reducible refine Kd.C_alloc ?_ _) | (with_reducible refine Kd.C_drewN ?_ _) | (with_reducible refine Kd.C_drew ?_))); (case side2 => exact (Kd.R_reads' HO_544001.out).2.1); rintro e w42 ⟨rfl, hb⟩; refine ⟨_, rfl, ?_⟩; replace HO_544001 := Aside0.mk (Kd.R_below (rk HO_544001.out) hb); replace BK537 := Aside0.mk (bb BK537.out hb); replace BK543 := Aside0.mk (bb BK543.out hb); replace HB := Aside0.mk (below_step bo hb); (try clear hb); (try clear hb2); (try clear hk); (try clear hi)))
         (try simp only [Act.put, List.setIfInBounds_toArray, List.set_cons_zero, List.set_cons_succ])
         go_cut [74] (fun v74 wc => ∃ (kq : Nat) (x74_36 : Bool), v74 = .bool x74_36 ∧ Aside0 (fairwaylaw11_SegAdds.j3 kq x4_1 t545 x74_36 a0_0 l0_1 l0_2 l0_3 a0_4 x544000_1 x544001_1 = some r) ∧ Aside0 (kq ≤ kj24) ∧ Aside0 (Kd.R k25 25 wc w.heap.size (fun _ => True) (.slice Ao28 x544001_1.length co28) x544001_1) ∧ Aside0 (wc.heap[gb537]? = some (.cells #[.int .i64 a0_0, (.slice A0_1 l0_1.length c0_1), (.slice A0_2 l0_2.length c0_2), (.slice A0_3 l0_3.length c0_3), .string a0_4] 55 (0, 0))) ∧ Aside0 (wc.heap[gb543]? = some (.cells #[.int .i64 x544000_1, (.slice Ao28 x544001_1.length co28)] 53 (0, 0))) ∧ Aside0 (Below w.heap.size w wc))
         case first =>
          have H := HC37.out
          clear HC37
          replace H := Option.bind_eq_some_iff.mp H
          obtain ⟨t551, A430, H⟩ := H
          replace H : ((fairwaylaw11_num.f t551).bind fun t552 => (if t552 = x6_24 then ((fairwaylaw11_num.f t548).bind fun t553 => (if t553 = x6_24 then ((fairwaylaw11_num.f t550).bind fun t554 => (if t554 = x6_24 then (if t547 = (x7_24.size : Int) then (fairwaylaw11_SegAdds.j3 kj24 x4_1 t545 (t549.toList != x7_24.toList) a0_0 l0_1 l0_2 l0_3 a0_4 x544000_1 x544001_1) else (fairwaylaw11_SegAdds.j3 kj24 x4_1 t545 true a0_0 l0_1 l0_2 l0_3 a0_4 x544000_1 x544001_1)) else (fairwaylaw11_SegAdds.j3 kj24 x4_1 t545 true a0_0 l0_1 l0_2 l0_3 a0_4 x544000_1 x544001_1))) else (fairwaylaw11_SegAdds.j3 kj24 x4_1 t545 true a0_0 l0_1 l0_2 l0_3 a0_4 x544000_1 x544001_1))) else (fairwaylaw11_SegAdds.j3 kj24 x4_1 t545 true a0_0 l0_1 l0_2 l0_3 a0_4 x544000_1 x544001_1))) = some r := H
          have A43 := Aside0.mk A430
          clear A430
          replace H := Option.bind_eq_some_iff.mp H
          obtain ⟨t552, A440, H⟩ := H
          replace H : (if t552 = x6_24 then ((fairwaylaw11_num.f t548).bind fun t553 => (if t553 = x6_24 then ((fairwaylaw11_num.f t550).bind fun t554 => (if t554 = x6_24 then (if t547 = (x7_24.size : Int) then (fairwaylaw11_SegAdds.j3 kj24 x4_1 t545 (t549.toList != x7_24.toList) a0_0 l0_1 l0_2 l0_3 a0_4 x544000_1 x544001_1) else (fairwaylaw11_SegAdds.j3 kj24 x4_1 t545 true a0_0 l0_1 l0_2 l0_3 a0_4 x544000_1 x544001_1)) else (fairwaylaw11_SegAdds.j3 kj24 x4_1 t545 true a0_0 l0_1 l0_2 l0_3 a0_4 x544000_1 x544001_1))) else (fairwaylaw11_SegAdds.j3 kj24 x4_1 t545 true a0_0 l0_1 l0_2 l0_3 a0_4 x544000_1 x544001_1))) else (fairwaylaw11_SegAdds.j3 kj24 x4_1 t545 true a0_0 l0_1 l0_2 l0_3 a0_4 x544000_1 x544001_1)) = some r := H
          have A44 := Aside0.mk A440
          clear A440
          by_cases c45 : t552 = x6_24
          ·rw [if_pos c45] at H
           have c45b0 : (t552 == x6_24) = true := beq_iff_eq.mpr c45
           have c45b1 : (t552 != x6_24) = false := bne_eq_false_iff_eq.mpr c45
           clear c45
           (first | rw [c45b0] | (simp only [i64_w, i32_w]; rw [c45b0]) | skip)
           replace H := Option.bind_eq_some_iff.mp H
           obtain ⟨t553, A460, H⟩ := H
           replace H : (if t553 = x6_24 then ((fairwaylaw11_num.f t550).bind fun t554 => (if t554 = x6_24 then (if t547 = (x7_24.size : Int) then (fairwaylaw11_SegAdds.j3 kj24 x4_1 t545 (t549.toList != x7_24.toList) a0_0 l0_1 l0_2 l0_3 a0_4 x544000_1 x544001_1) else (fairwaylaw11_SegAdds.j3 kj24 x4_1 t545 true a0_0 l0_1 l0_2 l0_3 a0_4 x544000_1 x544001_1)) else (fairwaylaw11_SegAdds.j3 kj24 x4_1 t545 true a0_0 l0_1 l0_2 l0_3 a0_4 x544000_1 x544001_1))) else (fairwaylaw11_SegAdds.j3 kj24 x4_1 t545 true a0_0 l0_1 l0_2 l0_3 a0_4 x544000_1 x544001_1)) = some r := H
           have A46 := Aside0.mk A460
           clear A460
           by_cases c47 : t553 = x6_24
           ·rw [if_pos c47] at H
            have c47b0 : (t553 == x6_24) = true := beq_iff_eq.mpr c47
            have c47b1 : (t553 != x6_24) = false := bne_eq_false_iff_eq.mpr c47
            clear c47
            replace H := Option.bind_eq_some_iff.mp H
            obtain ⟨t554, A480, H⟩ := H
            replace H : (if t554 = x6_24 then (if t547 = (x7_24.size : Int) then (fairwaylaw11_SegAdds.j3 kj24 x4_1 t545 (t549.toList != x7_24.toList) a0_0 l0_1 l0_2 l0_3 a0_4 x544000_1 x544001_1) else (fairwaylaw11_SegAdds.j3 kj24 x4_1 t545 true a0_0 l0_1 l0_2 l0_3 a0_4 x544000_1 x544001_1)) else (fairwaylaw11_SegAdds.j3 kj24 x4_1 t545 true a0_0 l0_1 l0_2 l0_3 a0_4 x544000_1 x544001_1)) = some r := H
            have A48 := Aside0.mk A480
            clear A480
            by_cases c49 : t554 = x6_24
            ·rw [if_pos c49] at H
             have c49b0 : (t554 == x6_24) = true := beq_iff_eq.mpr c49
             have c49b1 : (t554 != x6_24) = false := bne_eq_false_iff_eq.mpr c49
             clear c49
             by_cases c50 : t547 = (x7_24.size : Int)
             ·rw [if_pos c50] at H
              have c50b0 : (t547 == (x7_24.size : Int)) = true := beq_iff_eq.mpr c50
              have c50b1 : (t547 != (x7_24.size : Int)) = false := bne_eq_false_iff_eq.mpr c50
              clear c50
              have H' := Aside0.mk H
              clear H
              have hnb51 := NB543_537.out
              have hnc51 := NB537_543.out
              have hcz52_0 : w42.cell? ⟨gb543, 0, none⟩ = some (.int .i64 x544000_1) := (blk_cell BK543.out 0).trans rfl
              have hcz52_1 : w42.cell? ⟨gb543, 1, none⟩ = some (.slice Ao28 x544001_1.length co28) := (blk_cell BK543.out 1).trans rfl
              have hfz52_0 := blk_frozen BK543.out 0
              have hfz52_1 := blk_frozen BK543.out 1
              go_wp2_with (first | ((with_reducible refine gate_callee (f := 46) rfl ?_); refine goesL_ (some 48) rfl rfl Try.func46 (by kernel_rfl) rfl #[.agg #[.int .i64 x544000_1, .slice Ao28 x544001_1.length co28]] rfl aa ?_; (with_reducible refine (seg_Check.calls kj24 x544000_1 _ _ x544001_1 t551 _ ?side1 ?side2 A43.out).mono ?_); (case side1 => repeat (first | exact (Kd.R_reads' HO_544001.out).2.2 | (with_reducible refine Kd.C_alloc ?_ _) | (with_reducible refine Kd.C_drewN ?_ _) | (with_reducible refine Kd.C_drew ?_))); (case side2 => exact (Kd.R_reads' HO_544001.out).2.1); rintro e w53 ⟨rfl, hb⟩; refine ⟨_, rfl, ?_⟩; replace HO_544001 := Aside0.mk (Kd.R_below (rk HO_544001.out) hb); replace BK537 := Aside0.mk (bb BK537.out hb); replace BK543 := Aside0.mk (bb BK543.out hb); replace HB := Aside0.mk (below_step bo hb); (try clear hb); (try clear hb2); (try clear hk); (try clear hi)) | ((with_reducible refine gate_callee (f := 36) rfl ?_); refine goesL_ (some 49) rfl rfl Try.func36 (by kernel_rfl) rfl #[.int .i64 t551] rfl aa ?_; (with_reducible refine (fairwaylaw11_num.calls t551 t552 _ A44.out).mono ?_); rintro e w' ⟨rfl, ⟨nd, rfl⟩⟩; refine ⟨_, rfl, ?_⟩) | (go_at_call 36; (with_reducible refine (fairwaylaw11_num.calls t548 t553 _ A46.out).mono ?_); rintro e w' ⟨rfl, ⟨nd, rfl⟩⟩) | (go_at_call 36; (with_reducible refine (fairwaylaw11_num.calls t550 t554 _ A48.out).mono ?_); rintro e w' ⟨rfl, ⟨nd, rfl⟩⟩))
              go_meet
              case rel => exact ⟨_, ((t549.toList != x7_24.toList)), ap, H', ⟨by have := HK1.out; have := HJ16.out; have := HJ24.out; first | omega | exact Nat.le_refl _⟩, ⟨by (with_reducible repeat (first | apply Kd.R_alloc | apply Kd.R_drewN | apply Kd.R_drew)); exact HO_544001.out⟩, ⟨by (with_reducible repeat (first | refine blk_drewN ?_ _ | refine blk_drew ?_ | refine blk_alloc ?_ _)); exact BK537.out⟩, ⟨by (with_reducible repeat (first | refine blk_drewN ?_ _ | refine blk_drew ?_ | refine blk_alloc ?_ _)); exact BK543.out⟩, ⟨bo⟩⟩
             ·rw [if_neg c50] at H
              have c50b0 : (t547 == (x7_24.size : Int)) = false := beq_eq_false_iff_ne.mpr c50
              have c50b1 : (t547 != (x7_24.size : Int)) = true := bne_iff_ne.mpr c50
              have H' := Aside0.mk H
              clear H
              have hnb54 := NB543_537.out
              have hnc54 := NB537_543.out
              have hcz55_0 : w42.cell? ⟨gb543, 0, none⟩ = some (.int .i64 x544000_1) := (blk_cell BK543.out 0).trans rfl
              have hcz55_1 : w42.cell? ⟨gb543, 1, none⟩ = some (.slice Ao28 x544001_1.length co28) := (blk_cell BK543.out 1).trans rfl
              have hfz55_0 := blk_frozen BK543.out 0
              have hfz55_1 := blk_frozen BK543.out 1
              go_wp2_with (first | ((with_reducible refine gate_callee (f := 46) rfl ?_); refine goesL_ (some 48) rfl rfl Try.func46 (by kernel_rfl) rfl #[.agg #[.int .i64 x544000_1, .slice Ao28 x544001_1.length co28]] rfl aa ?_; (with_reducible refine (seg_Check.calls kj24 x544000_1 _ _ x544001_1 t551 _ ?side1 ?side2 A43.out).mono ?_); (case side1 => repeat (first | exact (Kd.R_reads' HO_544001.out).2.2 | (with_reducible refine Kd.C_alloc ?_ _) | (with_reducible refine Kd.C_drewN ?_ _) | (with_reducible refine Kd.C_drew ?_))); (case side2 => exact (Kd.R_reads' HO_544001.out).2.1); rintro e w56 ⟨rfl, hb⟩; refine ⟨_, rfl, ?_⟩; replace HO_544001 := Aside0.mk (Kd.R_below (rk HO_544001.out) hb); replace BK537 := Aside0.mk (bb BK537.out hb); replace BK543 := Aside0.mk (bb BK543.out hb); replace HB := Aside0.mk (below_step bo hb); (try clear hb); (try clear hb2); (try clear hk); (try clear hi)) | ((with_reducible refine gate_callee (f := 36) rfl ?_); refine goesL_ (some 49) rfl rfl Try.func36 (by kernel_rfl) rfl #[.int .i64 t551] rfl aa ?_; (with_reducible refine (fairwaylaw11_num.calls t551 t552 _ A44.out).mono ?_); rintro e w' ⟨rfl, ⟨nd, rfl⟩⟩; refine ⟨_, rfl, ?_⟩) | (go_at_call 36; (with_reducible refine (fairwaylaw11_num.calls t548 t553 _ A46.out).mono ?_); rintro e w' ⟨rfl, ⟨nd, rfl⟩⟩) | (go_at_call 36; (with_reducible refine (fairwaylaw11_num.calls t550 t554 _ A48.out).mono ?_); rintro e w' ⟨rfl, ⟨nd, rfl⟩⟩))
              go_meet
              case rel => exact ⟨_, (true), ap, H', ⟨by have := HK1.out; have := HJ16.out; have := HJ24.out; first | omega | exact Nat.le_refl _⟩, ⟨by (with_reducible repeat (first | apply Kd.R_alloc | apply Kd.R_drewN | apply Kd.R_drew)); exact HO_544001.out⟩, ⟨by (with_reducible repeat (first | refine blk_drewN ?_ _ | refine blk_drew ?_ | refine blk_alloc ?_ _)); exact BK537.out⟩, ⟨by (with_reducible repeat (first | refine blk_drewN ?_ _ | refine blk_drew ?_ | refine blk_alloc ?_ _)); exact BK543.out⟩, ⟨bo⟩⟩
            ·rw [if_neg c49] at H
             have c49b0 : (t554 == x6_24) = false := beq_eq_false_iff_ne.mpr c49
             have c49b1 : (t554 != x6_24) = true := bne_iff_ne.mpr c49
             have H' := Aside0.mk H
             clear H
             have hnb57 := NB543_537.out
             have hnc57 := NB537_543.out
             have hcz58_0 : w42.cell? ⟨gb543, 0, none⟩ = some (.int .i64 x544000_1) := (blk_cell BK543.out 0).trans rfl
             have hcz58_1 : w42.cell? ⟨gb543, 1, none⟩ = some (.slice Ao28 x544001_1.length co28) := (blk_cell BK543.out 1).trans rfl
             have hfz58_0 := blk_frozen BK543.out 0
             have hfz58_1 := blk_frozen BK543.out 1
             go_wp2_with (first | ((with_reducible refine gate_callee (f := 46) rfl ?_); refine goesL_ (some 48) rfl rfl Try.func46 (by kernel_rfl) rfl #[.agg #[.int .i64 x544000_1, .slice Ao28 x544001_1.length co28]] rfl aa ?_; (with_reducible refine (seg_Check.calls kj24 x544000_1 _ _ x544001_1 t551 _ ?side1 ?side2 A43.out).mono ?_); (case side1 => repeat (first | exact (Kd.R_reads' HO_544001.out).2.2 | (with_reducible refine Kd.C_alloc ?_ _) | (with_reducible refine Kd.C_drewN ?_ _) | (with_reducible refine Kd.C_drew ?_))); (case side2 => exact (Kd.R_reads' HO_544001.out).2.1); rintro e w59 ⟨rfl, hb⟩; refine ⟨_, rfl, ?_⟩; replace HO_544001 := Aside0.mk (Kd.R_below (rk HO_544001.out) hb); replace BK537 := Aside0.mk (bb BK537.out hb); replace BK543 := Aside0.mk (bb BK543.out hb); replace HB := Aside0.mk (below_step bo hb); (try clear hb); (try clear hb2); (try clear hk); (try clear hi)) | ((with_reducible refine gate_callee (f := 36) rfl ?_); refine goesL_ (some 49) rfl rfl Try.func36 (by kernel_rfl) rfl #[.int .i64 t551] rfl aa ?_; (with_reducible refine (fairwaylaw11_num.calls t551 t552 _ A44.out).mono ?_); rintro e w' ⟨rfl, ⟨nd, rfl⟩⟩; refine ⟨_, rfl, ?_⟩) | (go_at_call 36; (with_reducible refine (fairwaylaw11_num.calls t548 t553 _ A46.out).mono ?_); rintro e w' ⟨rfl, ⟨nd, rfl⟩⟩) | (go_at_call 36; (with_reducible refine (fairwaylaw11_num.calls t550 t554 _ A48.out).mono ?_); rintro e w' ⟨rfl, ⟨nd, rfl⟩⟩))
             go_meet
             case rel => exact ⟨_, (true), ap, H', ⟨by have := HK1.out; have := HJ16.out; have := HJ24.out; first | omega | exact Nat.le_refl _⟩, ⟨by (with_reducible repeat (first | apply Kd.R_alloc | apply Kd.R_drewN | apply Kd.R_drew)); exact HO_544001.out⟩, ⟨by (with_reducible repeat (first | refine blk_drewN ?_ _ | refine blk_drew ?_ | refine blk_alloc ?_ _)); exact BK537.out⟩, ⟨by (with_reducible repeat (first | refine blk_drewN ?_ _ | refine blk_drew ?_ | refine blk_alloc ?_ _)); exact BK543.out⟩, ⟨bo⟩⟩
           ·rw [if_neg c47] at H
            have c47b0 : (t553 == x6_24) = false := beq_eq_false_iff_ne.mpr c47
            have c47b1 : (t553 != x6_24) = true := bne_iff_ne.mpr c47
            have H' := Aside0.mk H
            clear H
            have hnb60 := NB543_537.out
            have hnc60 := NB537_543.out
            have hcz61_0 : w42.cell? ⟨gb543, 0, none⟩ = some (.int .i64 x544000_1) := (blk_cell BK543.out 0).trans rfl
            have hcz61_1 : w42.cell? ⟨gb543, 1, none⟩ = some (.slice Ao28 x544001_1.length co28) := (blk_cell BK543.out 1).trans rfl
            have hfz61_0 := blk_frozen BK543.out 0
            have hfz61_1 := blk_frozen BK543.out 1
            go_wp2_with (first | ((with_reducible refine gate_callee (f := 46) rfl ?_); refine goesL_ (some 48) rfl rfl Try.func46 (by kernel_rfl) rfl #[.agg #[.int .i64 x544000_1, .slice Ao28 x544001_1.length co28]] rfl aa ?_; (with_reducible refine (seg_Check.calls kj24 x544000_1 _ _ x544001_1 t551 _ ?side1 ?side2 A43.out).mono ?_); (case side1 => repeat (first | exact (Kd.R_reads' HO_544001.out).2.2 | (with_reducible refine Kd.C_alloc ?_ _) | (with_reducible refine Kd.C_drewN ?_ _) | (with_reducible refine Kd.C_drew ?_))); (case side2 => exact (Kd.R_reads' HO_544001.out).2.1); rintro e w62 ⟨rfl, hb⟩; refine ⟨_, rfl, ?_⟩; replace HO_544001 := Aside0.mk (Kd.R_below (rk HO_544001.out) hb); replace BK537 := Aside0.mk (bb BK537.out hb); replace BK543 := Aside0.mk (bb BK543.out hb); replace HB := Aside0.mk (below_step bo hb); (try clear hb); (try clear hb2); (try clear hk); (try clear hi)) | ((with_reducible refine gate_callee (f := 36) rfl ?_); refine goesL_ (some 49) rfl rfl Try.func36 (by kernel_rfl) rfl #[.int .i64 t551] rfl aa ?_; (with_reducible refine (fairwaylaw11_num.calls t551 t552 _ A44.out).mono ?_); rintro e w' ⟨rfl, ⟨nd, rfl⟩⟩; refine ⟨_, rfl, ?_⟩) | (go_at_call 36; (with_reducible refine (fairwaylaw11_num.calls t548 t553 _ A46.out).mono ?_); rintro e w' ⟨rfl, ⟨nd, rfl⟩⟩))
            go_meet
            case rel => exact ⟨_, (true), ap, H', ⟨by have := HK1.out; have := HJ16.out; have := HJ24.out; first | omega | exact Nat.le_refl _⟩, ⟨by (with_reducible repeat (first | apply Kd.R_alloc | apply Kd.R_drewN | apply Kd.R_drew)); exact HO_544001.out⟩, ⟨by (with_reducible repeat (first | refine blk_drewN ?_ _ | refine blk_drew ?_ | refine blk_alloc ?_ _)); exact BK537.out⟩, ⟨by (with_reducible repeat (first | refine blk_drewN ?_ _ | refine blk_drew ?_ | refine blk_alloc ?_ _)); exact BK543.out⟩, ⟨bo⟩⟩
          ·rw [if_neg c45] at H
           have c45b0 : (t552 == x6_24) = false := beq_eq_false_iff_ne.mpr c45
           have c45b1 : (t552 != x6_24) = true := bne_iff_ne.mpr c45
           (first | rw [c45b0] | (simp only [i64_w, i32_w]; rw [c45b0]) | skip)
           have H' := Aside0.mk H
           clear H
           have hnb63 := NB543_537.out
           have hnc63 := NB537_543.out
           have hcz64_0 : w42.cell? ⟨gb543, 0, none⟩ = some (.int .i64 x544000_1) := (blk_cell BK543.out 0).trans rfl
           have hcz64_1 : w42.cell? ⟨gb543, 1, none⟩ = some (.slice Ao28 x544001_1.length co28) := (blk_cell BK543.out 1).trans rfl
           have hfz64_0 := blk_frozen BK543.out 0
           have hfz64_1 := blk_frozen BK543.out 1
           go_wp2_with (first | ((with_reducible refine gate_callee (f := 46) rfl ?_); refine goesL_ (some 48) rfl rfl Try.func46 (by kernel_rfl) rfl #[.agg #[.int .i64 x544000_1, .slice Ao28 x544001_1.length co28]] rfl aa ?_; (with_reducible refine (seg_Check.calls kj24 x544000_1 _ _ x544001_1 t551 _ ?side1 ?side2 A43.out).mono ?_); (case side1 => repeat (first | exact (Kd.R_reads' HO_544001.out).2.2 | (with_reducible refine Kd.C_alloc ?_ _) | (with_reducible refine Kd.C_drewN ?_ _) | (with_reducible refine Kd.C_drew ?_))); (case side2 => exact (Kd.R_reads' HO_544001.out).2.1); rintro e w65 ⟨rfl, hb⟩; refine ⟨_, rfl, ?_⟩; replace HO_544001 := Aside0.mk (Kd.R_below (rk HO_544001.out) hb); replace BK537 := Aside0.mk (bb BK537.out hb); replace BK543 := Aside0.mk (bb BK543.out hb); replace HB := Aside0.mk (below_step bo hb); (try clear hb); (try clear hb2); (try clear hk); (try clear hi)) | ((with_reducible refine gate_callee (f := 36) rfl ?_); refine goesL_ (some 49) rfl rfl Try.func36 (by kernel_rfl) rfl #[.int .i64 t551] rfl aa ?_; (with_reducible refine (fairwaylaw11_num.calls t551 t552 _ A44.out).mono ?_); rintro e w' ⟨rfl, ⟨nd, rfl⟩⟩; refine ⟨_, rfl, ?_⟩))
           go_meet
           case rel => exact ⟨_, (true), ap, H', ⟨by have := HK1.out; have := HJ16.out; have := HJ24.out; first | omega | exact Nat.le_refl _⟩, ⟨by (with_reducible repeat (first | apply Kd.R_alloc | apply Kd.R_drewN | apply Kd.R_drew)); exact HO_544001.out⟩, ⟨by (with_reducible repeat (first | refine blk_drewN ?_ _ | refine blk_drew ?_ | refine blk_alloc ?_ _)); exact BK537.out⟩, ⟨by (with_reducible repeat (first | refine blk_drewN ?_ _ | refine blk_drew ?_ | refine blk_alloc ?_ _)); exact BK543.out⟩, ⟨bo⟩⟩
         case rest =>
          clear HC37
          try clear c1
          try clear c2
          try clear p2
          try clear c3
          try clear c4
          try clear c5
          try clear c6
          try clear c9
          try clear c14
          try clear c18
          try clear c18b0
          try clear c19
          try clear c21
          try clear c23
          try clear c26
          try clear c30
          try clear c31
          try clear c32
          try clear c36
          try clear c38
          try clear c42
          try clear c43
          try clear c44
          try clear c45
          try clear c45b0
          try clear c45b1
          try clear c46
          try clear c47
          try clear c47b0
          try clear c47b1
          try clear c49
          try clear c49b0
          try clear c49b1
          try clear c50
          try clear c50b0
          try clear c50b1
          try clear c51
          try clear c54
          try clear c57
          try clear c60
          try clear c63
          try clear hcz11_0
          try clear hcz11_1
          try clear hcz11_2
          try clear hcz11_3
          try clear hcz11_4
          try clear hcz15_0
          try clear hcz15_1
          try clear hcz20_0
          try clear hcz20_1
          try clear hcz20_2
          try clear hcz20_3
          try clear hcz20_4
          try clear hcz22_0
          try clear hcz22_1
          try clear hcz22_2
          try clear hcz22_3
          try clear hcz22_4
          try clear hcz27_0
          try clear hcz27_1
          try clear hcz33_0
          try clear hcz33_1
          try clear hcz39_0
          try clear hcz39_1
          try clear hcz41_0
          try clear hcz41_1
          try clear hcz52_0
          try clear hcz52_1
          try clear hcz55_0
          try clear hcz55_1
          try clear hcz58_0
          try clear hcz58_1
          try clear hcz5_0
          try clear hcz5_1
          try clear hcz5_2
          try clear hcz5_3
          try clear hcz5_4
          try clear hcz61_0
          try clear hcz61_1
          try clear hcz64_0
          try clear hcz64_1
          try clear hcz9_0
          try clear hcz9_1
          try clear hcz9_2
          try clear hcz9_3
          try clear hcz9_4
          try clear hfz11_0
          try clear hfz11_1
          try clear hfz11_2
          try clear hfz11_3
          try clear hfz11_4
          try clear hfz15_0
          try clear hfz15_1
          try clear hfz20_0
          try clear hfz20_1
          try clear hfz20_2
          try clear hfz20_3
          try clear hfz20_4
          try clear hfz22_0
          try clear hfz22_1
          try clear hfz22_2
          try clear hfz22_3
          try clear hfz22_4
          try clear hfz27_0
          try clear hfz27_1
          try clear hfz33_0
          try clear hfz33_1
          try clear hfz39_0
          try clear hfz39_1
          try clear hfz41_0
          try clear hfz41_1
          try clear hfz52_0
          try clear hfz52_1
          try clear hfz55_0
          try clear hfz55_1
          try clear hfz58_0
          try clear hfz58_1
          try clear hfz5_0
          try clear hfz5_1
          try clear hfz5_2
          try clear hfz5_3
          try clear hfz5_4
          try clear hfz61_0
          try clear hfz61_1
          try clear hfz64_0
          try clear hfz64_1
          try clear hfz9_0
          try clear hfz9_1
          try clear hfz9_2
          try clear hfz9_3
          try clear hfz9_4
          try clear p2
          obtain ⟨kq, x74_36, rfl, HA, HJ36, HO_544001, BK537, BK543, HB⟩ := hcut
          cases kq with
          | zero => exact absurd HA.out (by simp [fairwaylaw11_SegAdds.j3])
          | succ kj36 =>
           have H := HA.out
           clear HA
           simp only [fairwaylaw11_SegAdds.j3] at H
           by_cases c66 : x74_36 = true
           ·subst c66
            have H1 : (some false) = some r := by rw [if_pos rfl] at H; exact H
            clear H
            have H := H1
            clear H1
            obtain rfl := Option.some.inj H
            go_wp2
            go_ret
            exact ⟨er, bo⟩
           ·replace c66 := Bool.eq_false_iff.mpr c66
            subst c66
            have H1 : ((fairwayref0_CopySeg.f kj36 x544000_1 x544001_1).bind fun bt555 => (if 0 ≤ x4_1 then (if x4_1 < (l0_2.length : Int) then ((seg_Add.f kj36 bt555.1 bt555.2 ((rd_T25 l0_2 x4_1).f0) ((rd_T25 l0_2 x4_1).f1) ((rd_T25 l0_2 x4_1).f2) ((rd_T25 l0_2 x4_1).f3) ((rd_T25 l0_2 x4_1).f4) ((rd_T25 l0_2 x4_1).f5)).bind fun bt561 => (if t545 = true then ((fairwayref10_With.f kj36 x544000_1 x544001_1 ((rd_T25 l0_2 x4_1).f0) ((rd_T25 l0_2 x4_1).f1) ((rd_T25 l0_2 x4_1).f2) ((rd_T25 l0_2 x4_1).f3) ((rd_T25 l0_2 x4_1).f4) ((rd_T25 l0_2 x4_1).f5)).bind fun bt569 => ((fairwayref10_Seg.f kj36 bt569.1 bt569.2).bind fun t573 => (fairwaylaw11_SegAdds.j4 kj36 x4_1 1 bt561.2.2 t573 a0_0 l0_1 l0_2 l0_3 a0_4 x544000_1 x544001_1 bt555.1 bt555.2 bt561.1 bt561.2.1 0))) else (fairwaylaw11_SegAdds.j4 kj36 x4_1 1 bt561.2.2 false a0_0 l0_1 l0_2 l0_3 a0_4 x544000_1 x544001_1 bt555.1 bt555.2 bt561.1 bt561.2.1 0))) else (none)) else (none))) = some r := by rw [if_neg (show ¬ (false = true) by decide)] at H; exact H
            clear H
            have H := H1
            clear H1
            replace H := Option.bind_eq_some_iff.mp H
            obtain ⟨⟨t555, t556⟩, A670, H⟩ := H
            replace H : (if 0 ≤ x4_1 then (if x4_1 < (l0_2.length : Int) then ((seg_Add.f kj36 t555 t556 ((rd_T25 l0_2 x4_1).f0) ((rd_T25 l0_2 x4_1).f1) ((rd_T25 l0_2 x4_1).f2) ((rd_T25 l0_2 x4_1).f3) ((rd_T25 l0_2 x4_1).f4) ((rd_T25 l0_2 x4_1).f5)).bind fun bt561 => (if t545 = true then ((fairwayref10_With.f kj36 x544000_1 x544001_1 ((rd_T25 l0_2 x4_1).f0) ((rd_T25 l0_2 x4_1).f1) ((rd_T25 l0_2 x4_1).f2) ((rd_T25 l0_2 x4_1).f3) ((rd_T25 l0_2 x4_1).f4) ((rd_T25 l0_2 x4_1).f5)).bind fun bt569 => ((fairwayref10_Seg.f kj36 bt569.1 bt569.2).bind fun t573 => (fairwaylaw11_SegAdds.j4 kj36 x4_1 1 bt561.2.2 t573 a0_0 l0_1 l0_2 l0_3 a0_4 x544000_1 x544001_1 t555 t556 bt561.1 bt561.2.1 0))) else (fairwaylaw11_SegAdds.j4 kj36 x4_1 1 bt561.2.2 false a0_0 l0_1 l0_2 l0_3 a0_4 x544000_1 x544001_1 t555 t556 bt561.1 bt561.2.1 0))) else (none)) else (none)) = some r := H
            have A67 := Aside0.mk A670
            clear A670
            by_cases c68 : 0 ≤ x4_1
            ·rw [if_pos c68] at H
             have c68b0 : decide (0 ≤ x4_1) = true := decide_eq_true c68
             clear c68
             by_cases c69 : x4_1 < (l0_2.length : Int)
             ·rw [if_pos c69] at H
              have c69b0 : decide (x4_1 < (l0_2.length : Int)) = true := decide_eq_true c69
              clear c69
              replace H := Option.bind_eq_some_iff.mp H
              obtain ⟨⟨t561, t562, t565⟩, A700, H⟩ := H
              replace H : (if t545 = true then ((fairwayref10_With.f kj36 x544000_1 x544001_1 ((rd_T25 l0_2 x4_1).f0) ((rd_T25 l0_2 x4_1).f1) ((rd_T25 l0_2 x4_1).f2) ((rd_T25 l0_2 x4_1).f3) ((rd_T25 l0_2 x4_1).f4) ((rd_T25 l0_2 x4_1).f5)).bind fun bt569 => ((fairwayref10_Seg.f kj36 bt569.1 bt569.2).bind fun t573 => (fairwaylaw11_SegAdds.j4 kj36 x4_1 1 t565 t573 a0_0 l0_1 l0_2 l0_3 a0_4 x544000_1 x544001_1 t555 t556 t561 t562 0))) else (fairwaylaw11_SegAdds.j4 kj36 x4_1 1 t565 false a0_0 l0_1 l0_2 l0_3 a0_4 x544000_1 x544001_1 t555 t556 t561 t562 0)) = some r := H
              have A70 := Aside0.mk A700
              clear A700
              have HC71 := Aside0.mk H
              clear H
              have hnb72 := NB543_537.out
              have hnc72 := NB537_543.out
              have hcz73_0 : wc.cell? ⟨gb543, 0, none⟩ = some (.int .i64 x544000_1) := (blk_cell BK543.out 0).trans rfl
              have hcz73_1 : wc.cell? ⟨gb543, 1, none⟩ = some (.slice Ao28 x544001_1.length co28) := (blk_cell BK543.out 1).trans rfl
              have hfz73_0 := blk_frozen BK543.out 0
              have hfz73_1 := blk_frozen BK543.out 1
              try go_wp2_with (first | ((with_reducible refine gate_callee (f := 42) rfl ?_); refine goesL_ (some 76) rfl rfl Try.func42 (by kernel_rfl) rfl #[.agg #[.int .i64 x544000_1, .slice Ao28 x544001_1.length co28]] rfl aa ?_; (with_reducible refine (fairwayref0_CopySeg.calls kj36 x544000_1 _ _ x544001_1 t555 t556 _ ?side1 ?side2 A67.out).mono ?_); (case side1 => repeat (first | exact (Kd.R_reads' HO_544001.out).2.2 | (with_reducible refine Kd.C_alloc ?_ _) | (with_reducible refine Kd.C_drewN ?_ _) | (with_reducible refine Kd.C_drew ?_))); (case side2 => exact (Kd.R_reads' HO_544001.out).2.1); rintro e w74 ⟨v557, rfl, ho0, hb⟩; refine ⟨_, rfl, ?_⟩; have HO558 := Aside0.mk (Kd.R_lower (Kd.R_new' ho0 (Kd.R_lt (rk HO_544001.out))) (below_size bo)); replace HO_544001 := Aside0.mk (Kd.R_elder' (rk HO_544001.out) (Kd.R_base ho0) hb); replace BK537 := Aside0.mk (bb BK537.out hb); replace BK543 := Aside0.mk (bb BK543.out hb); replace HB := Aside0.mk (below_step bo hb); (try clear hb); (try clear hb2); (try clear hk); (try clear hi); (try clear ho0)) | ((with_reducible refine gate_dst (N := 12) rfl ?_); (try (refine gate_guard (by rfl) ?_; dsimp only)); refine box_event ?hg (N := 12) ?hd (cs := #[.int .i64 0, .slice none 0 0]) (t := 53) ?hr ?_; (case hd => rfl); (case hg => rfl); (case hr => first | (go_simp; done) | (go_simp; rfl)); intro gb559 hg w75 hbox hb; replace HO_544001 := Aside0.mk (Kd.R_below (rk HO_544001.out) hb); replace HO558 := Aside0.mk (Kd.R_below (rk HO558.out) hb); have BK559 := Aside0.mk (hbox); have GW559 := Aside0.mk ((by rw [hg]; exact (below_size bo) : w.heap.size ≤ gb559)); have GE559 := Aside0.mk ((by rw [hg]; exact (below_size bo) : w.heap.size ≤ gb559)); replace HB := Aside0.mk (below_step bo hb); have NB537_559 := Aside0.mk (nl BK537.out hg); have NB559_537 := Aside0.mk (ng BK537.out hg); replace BK537 := Aside0.mk (bb BK537.out hb); have NB543_559 := Aside0.mk (nl BK543.out hg); have NB559_543 := Aside0.mk (ng BK543.out hg); replace BK543 := Aside0.mk (bb BK543.out hb); clear hb hbox hg; have hnb76 := NB559_537.out; have hnc76 := NB537_559.out; have hnb77 := NB559_543.out; have hnc77 := NB543_559.out; obtain ⟨hcz78_0, hcz78_1⟩ := cl2 BK559.out; obtain ⟨hfz78_0, hfz78_1⟩ := fz2 BK559.out; obtain ⟨Ao79, co79, eo79⟩ := Kd.R_slice HO558.out; subst eo79))
              (try (rw [drewN_self w75]; generalize hq_ : World.drewN w75 _ = w75; have n0_ := Aside0.mk (Kd.R_at hq_ HO_544001.out); have n1_ := Aside0.mk (Kd.R_at hq_ HO558.out); have n2_ := Aside0.mk (blk_at hq_ BK537.out); have n3_ := Aside0.mk (blk_at hq_ BK543.out); have n4_ := Aside0.mk (blk_at hq_ BK559.out); have n5_ := Aside0.mk (below_at hq_ HB.out); clear hq_ HO_544001 HO558 BK537 BK543 BK559 HB; have HO_544001 := n0_; have HO558 := n1_; have BK537 := n2_; have BK543 := n3_; have BK559 := n4_; have HB := n5_; clear n0_ n1_ n2_ n3_ n4_ n5_))
              have n0_ : Aside0 (Kd.R k25 25 ((w75.setCell ⟨gb559, 0, none⟩ (.int .i64 t555)).setCell ⟨gb559, 1, none⟩ (.slice Ao79 t556.length co79)) w.heap.size (fun k_ => some k_ ≠ (.slice Ao79 t556.length co79 : Value).ownBlock) (.slice Ao28 x544001_1.length co28) x544001_1) := ⟨by (with_reducible repeat (first | apply Kd.R_alloc | apply Kd.R_drewN | apply Kd.R_drew)); exact Kd.R_mono (Kd.R_far (p := ⟨gb559, 1, none⟩) (Kd.R_far (p := ⟨gb559, 0, none⟩) (Kd.R_types HO_544001.out BK559.out (by decide)) (fun _ hk => hk.2) (.int .i64 t555)) (fun _ hk => hk.2) (.slice Ao79 t556.length co79)) (fun _ hk => hk.1.2)⟩
              have n1_ : Aside0 (Kd.R k25 25 ((w75.setCell ⟨gb559, 0, none⟩ (.int .i64 t555)).setCell ⟨gb559, 1, none⟩ (.slice Ao79 t556.length co79)) w.heap.size (fun k_ => some k_ ≠ (.slice Ao28 x544001_1.length co28 : Value).ownBlock) (.slice Ao79 t556.length co79) t556) := ⟨by (with_reducible repeat (first | apply Kd.R_alloc | apply Kd.R_drewN | apply Kd.R_drew)); exact Kd.R_mono (Kd.R_far (p := ⟨gb559, 1, none⟩) (Kd.R_far (p := ⟨gb559, 0, none⟩) (Kd.R_types HO558.out BK559.out (by decide)) (fun _ hk => hk.2) (.int .i64 t555)) (fun _ hk => hk.2) (.slice Ao79 t556.length co79)) (fun _ hk => hk.1.2)⟩
              have n2_ : Aside0 (((w75.setCell ⟨gb559, 0, none⟩ (.int .i64 t555)).setCell ⟨gb559, 1, none⟩ (.slice Ao79 t556.length co79)).heap[gb537]? = some (.cells #[.int .i64 a0_0, .slice A0_1 l0_1.length c0_1, .slice A0_2 l0_2.length c0_2, .slice A0_3 l0_3.length c0_3, .string a0_4] 55 (0, 0))) := ⟨by (with_reducible repeat (first | refine blk_drewN ?_ _ | refine blk_drew ?_ | refine blk_alloc ?_ _)); refine blk_far ?_ NB537_559.out _; (with_reducible repeat (first | refine blk_drewN ?_ _ | refine blk_drew ?_ | refine blk_alloc ?_ _)); refine blk_far ?_ NB537_559.out _; (with_reducible repeat (first | refine blk_drewN ?_ _ | refine blk_drew ?_ | refine blk_alloc ?_ _)); exact BK537.out⟩
              have n3_ : Aside0 (((w75.setCell ⟨gb559, 0, none⟩ (.int .i64 t555)).setCell ⟨gb559, 1, none⟩ (.slice Ao79 t556.length co79)).heap[gb543]? = some (.cells #[.int .i64 x544000_1, .slice Ao28 x544001_1.length co28] 53 (0, 0))) := ⟨by (with_reducible repeat (first | refine blk_drewN ?_ _ | refine blk_drew ?_ | refine blk_alloc ?_ _)); refine blk_far ?_ NB543_559.out _; (with_reducible repeat (first | refine blk_drewN ?_ _ | refine blk_drew ?_ | refine blk_alloc ?_ _)); refine blk_far ?_ NB543_559.out _; (with_reducible repeat (first | refine blk_drewN ?_ _ | refine blk_drew ?_ | refine blk_alloc ?_ _)); exact BK543.out⟩
              have n4_ : Aside0 (((w75.setCell ⟨gb559, 0, none⟩ (.int .i64 t555)).setCell ⟨gb559, 1, none⟩ (.slice Ao79 t556.length co79)).heap[gb559]? = some (.cells #[.int .i64 t555, .slice Ao79 t556.length co79] 53 (0, 0))) := ⟨by (with_reducible repeat (first | refine blk_drewN ?_ _ | refine blk_drew ?_ | refine blk_alloc ?_ _)); refine blk_put (cs := #[.int .i64 t555, .slice none 0 0]) ?_ 1 _ rfl; (with_reducible repeat (first | refine blk_drewN ?_ _ | refine blk_drew ?_ | refine blk_alloc ?_ _)); refine blk_put (cs := #[.int .i64 0, .slice none 0 0]) ?_ 0 _ rfl; (with_reducible repeat (first | refine blk_drewN ?_ _ | refine blk_drew ?_ | refine blk_alloc ?_ _)); exact BK559.out⟩
              have n5_ : Aside0 (Below w.heap.size w ((w75.setCell ⟨gb559, 0, none⟩ (.int .i64 t555)).setCell ⟨gb559, 1, none⟩ (.slice Ao79 t556.length co79))) := ⟨bo⟩
              (try clear HO_544001)
              (try clear HO558)
              (try clear BK537)
              (try clear BK543)
              (try clear BK559)
              (try clear HB)
              generalize ((w75.setCell ⟨gb559, 0, none⟩ (.int .i64 t555)).setCell ⟨gb559, 1, none⟩ (.slice Ao79 t556.length co79)) = w80 at n0_ n1_ n2_ n3_ n4_ n5_ ⊢
              have HO_544001 := n0_
              have HO558 := n1_
              have BK537 := n2_
              have BK543 := n3_
              have BK559 := n4_
              have HB := n5_
              clear n0_ n1_ n2_ n3_ n4_ n5_
              replace HO_544001 := Aside0.mk (Kd.R_drew HO_544001.out)
              replace HO558 := Aside0.mk (Kd.R_drew HO558.out)
              replace BK537 := Aside0.mk (blk_drew BK537.out)
              replace BK543 := Aside0.mk (blk_drew BK543.out)
              replace BK559 := Aside0.mk (blk_drew BK559.out)
              replace HB := Aside0.mk (below_drew1 HB.out)
              have p560 : 0 ≤ (x4_1 : Int) := od
              have q560 : x4_1 < (l0_2.length : Int) := od
              obtain ⟨ad560, e560, hx560_0, hx560_1, hx560_2, hx560_3, hx560_4, hx560_5⟩ := at_T25 HR0_2.out x4_1 p560 q560
              have hw560_5 := hx560_5
              have hw560_4 := hx560_4
              have hw560_3 := hx560_3
              have hw560_2 := hx560_2
              have hw560_1 := hx560_1
              have hw560_0 := hx560_0
              cases e560
              replace hx560_0 := cx HB.out hx560_0
              replace hx560_1 := cx HB.out hx560_1
              replace hx560_2 := cx HB.out hx560_2
              replace hx560_3 := cx HB.out hx560_3
              replace hx560_4 := cx HB.out hx560_4
              replace hx560_5 := cx HB.out hx560_5
              replace p560 := eq_true p560
              replace q560 := eq_true q560
              refine start_ (n := 13) (S := fun w' => w'.cell? ⟨gb559, 0, none⟩ = some (.int .i64 t555) ∧ w'.cell? ⟨gb559, 1, none⟩ = some (.slice Ao79 t556.length co79) ∧ w'.cell? ⟨gb537, 0, none⟩ = some (.int .i64 a0_0) ∧ w'.cell? ⟨gb537, 1, none⟩ = some (.slice A0_1 l0_1.length c0_1) ∧ w'.cell? ⟨gb537, 2, none⟩ = some (.slice (some ad560) l0_2.length c0_2) ∧ w'.cell? ⟨gb537, 3, none⟩ = some (.slice A0_3 l0_3.length c0_3) ∧ w'.cell? ⟨gb537, 4, none⟩ = some (.string a0_4) ∧ w'.cell? (ad560.add ((x4_1).toNat * 6)) = some (.int .i64 ((rd_T25 l0_2 x4_1).f0)) ∧ w'.cell? ⟨(ad560.add ((x4_1).toNat * 6)).block, (ad560.add ((x4_1).toNat * 6)).off + 1, none⟩ = some (.int .i64 ((rd_T25 l0_2 x4_1).f1)) ∧ w'.cell? ⟨(ad560.add ((x4_1).toNat * 6)).block, (ad560.add ((x4_1).toNat * 6)).off + 2, none⟩ = some (.string ((rd_T25 l0_2 x4_1).f2)) ∧ w'.cell? ⟨(ad560.add ((x4_1).toNat * 6)).block, (ad560.add ((x4_1).toNat * 6)).off + 3, none⟩ = some (.string ((rd_T25 l0_2 x4_1).f3)) ∧ w'.cell? ⟨(ad560.add ((x4_1).toNat * 6)).block, (ad560.add ((x4_1).toNat * 6)).off + 4, none⟩ = some (.int .i64 ((rd_T25 l0_2 x4_1).f4)) ∧ w'.cell? ⟨(ad560.add ((x4_1).toNat * 6)).block, (ad560.add ((x4_1).toNat * 6)).off + 5, none⟩ = some (.bool ((rd_T25 l0_2 x4_1).f5))) (ds := []) #[O,O,O,O,O,O,O,O,O,O,O,O,O] (by kernel_rfl) rfl rfl ⟨(blk_cell BK559.out 0).trans rfl, (blk_cell BK559.out 1).trans rfl, (blk_cell BK537.out 0).trans rfl, (blk_cell BK537.out 1).trans rfl, (blk_cell BK537.out 2).trans rfl, (blk_cell BK537.out 3).trans rfl, (blk_cell BK537.out 4).trans rfl, (cx HB.out hw560_0), (cx HB.out hw560_1), (cx HB.out hw560_2), (cx HB.out hw560_3), (cx HB.out hw560_4), (cx HB.out hw560_5)⟩ (fun hHeld => ?_); refine with_tabW fairwaylaw11_SegAdds.tab16 fairwaylaw11_SegAdds.bits16 (fun HT_ HW_ => ?_)
              generalize w80.drew = w81 at HO_544001 HO558 BK537 BK543 BK559 HB hx560_0 hx560_1 hx560_2 hx560_3 hx560_4 hx560_5 hHeld ⊢
              refine pz (i := 1) (N := some 79) #[O,I,O,O,O,O,O,O,O,O,O,O,O] ?_
              refine pz (i := 3) (N := some 81) #[O,I,O,I,O,O,O,O,O,O,O,O,O] ?_
              refine tz (i := 0) (N := some 78) #[I,I,O,I,O,O,O,O,O,O,O,O,O] ?_
              refine tz (i := 2) (N := some 80) #[I,I,I,I,O,O,O,O,O,O,O,O,O] ?_
              refine pz (i := 4) (N := some 82) #[I,I,I,I,I,O,O,O,O,O,O,O,O] ?_
              refine tz (i := 5) (N := some 83) #[I,I,I,I,I,I,O,O,O,O,O,O,O] ?_
              refine join_ (σ := Value × Nat) 2 #[I,I,I,I,I,I,I,I,I,I,I,O,O] (fun s_ => [(84, .tuple #[.agg #[.int .i64 t561, s_.1], .int .i64 t565]), (13, .pointer (some ⟨s_.2, 0, none⟩)), (77, .tuple #[.agg #[.int .i64 t561, s_.1], .int .i64 t565]), (85, .agg #[.int .i64 t561, s_.1]), (86, .int .i64 t565)]) (fun s_ w' => (w'.cell? ⟨gb559, 0, none⟩ = some (.int .i64 t555) ∧ w'.cell? ⟨gb559, 1, none⟩ = some (.slice Ao79 t556.length co79) ∧ w'.cell? ⟨gb537, 0, none⟩ = some (.int .i64 a0_0) ∧ w'.cell? ⟨gb537, 1, none⟩ = some (.slice A0_1 l0_1.length c0_1) ∧ w'.cell? ⟨gb537, 2, none⟩ = some (.slice (some ad560) l0_2.length c0_2) ∧ w'.cell? ⟨gb537, 3, none⟩ = some (.slice A0_3 l0_3.length c0_3) ∧ w'.cell? ⟨gb537, 4, none⟩ = some (.string a0_4) ∧ w'.cell? (ad560.add ((x4_1).toNat * 6)) = some (.int .i64 ((rd_T25 l0_2 x4_1).f0)) ∧ w'.cell? ⟨(ad560.add ((x4_1).toNat * 6)).block, (ad560.add ((x4_1).toNat * 6)).off + 1, none⟩ = some (.int .i64 ((rd_T25 l0_2 x4_1).f1)) ∧ w'.cell? ⟨(ad560.add ((x4_1).toNat * 6)).block, (ad560.add ((x4_1).toNat * 6)).off + 2, none⟩ = some (.string ((rd_T25 l0_2 x4_1).f2)) ∧ w'.cell? ⟨(ad560.add ((x4_1).toNat * 6)).block, (ad560.add ((x4_1).toNat * 6)).off + 3, none⟩ = some (.string ((rd_T25 l0_2 x4_1).f3)) ∧ w'.cell? ⟨(ad560.add ((x4_1).toNat * 6)).block, (ad560.add ((x4_1).toNat * 6)).off + 4, none⟩ = some (.int .i64 ((rd_T25 l0_2 x4_1).f4)) ∧ w'.cell? ⟨(ad560.add ((x4_1).toNat * 6)).block, (ad560.add ((x4_1).toNat * 6)).off + 5, none⟩ = some (.bool ((rd_T25 l0_2 x4_1).f5))) ∧ (Kd.R k25 25 w' w.heap.size (fun k_ => some k_ ≠ (s_.1 : Value).ownBlock ∧ some k_ ≠ (.slice Ao28 x544001_1.length co28 : Value).ownBlock) (.slice Ao79 t556.length co79) t556) ∧ (Kd.R k25 25 w' w.heap.size (fun k_ => some k_ ≠ (.slice Ao79 t556.length co79 : Value).ownBlock ∧ some k_ ≠ (.slice Ao28 x544001_1.length co28 : Value).ownBlock) s_.1 t562) ∧ (Kd.R k25 25 w' w.heap.size (fun k_ => some k_ ≠ (.slice Ao79 t556.length co79 : Value).ownBlock ∧ some k_ ≠ (s_.1 : Value).ownBlock) (.slice Ao28 x544001_1.length co28) x544001_1) ∧ (w'.heap[gb537]? = some (.cells #[.int .i64 a0_0, .slice A0_1 l0_1.length c0_1, .slice (some ad560) l0_2.length c0_2, .slice A0_3 l0_3.length c0_3, .string a0_4] 55 (0, 0))) ∧ (w'.heap[gb543]? = some (.cells #[.int .i64 x544000_1, .slice Ao28 x544001_1.length co28] 53 (0, 0))) ∧ (w'.heap[gb559]? = some (.cells #[.int .i64 t555, .slice Ao79 t556.length co79] 53 (0, 0))) ∧ (w'.heap[s_.2]? = some (.cells #[.int .i64 0, .slice none 0 0] 53 (0, 0))) ∧ (w.heap.size ≤ s_.2) ∧ (w.heap.size ≤ s_.2) ∧ (gb537 ≠ s_.2) ∧ (s_.2 ≠ gb537) ∧ (gb543 ≠ s_.2) ∧ (s_.2 ≠ gb543) ∧ (gb559 ≠ s_.2) ∧ (s_.2 ≠ gb559) ∧ (Below w.heap.size w w')) ?_ ?_
              rotate_left
              ·intro hCont
               refine two_ (i := 6) (j := 10) (Ni := some 84) (Nj := some 13) #[I,I,I,I,I,I,I,O,O,O,O,O,O] #[I,I,I,I,I,I,O,O,O,O,I,O,O] rfl rfl rfl rfl (two_of HT_.out (by kernel_rfl)) (by decide) (by decide) (fun K hK => ?_) (fun K hK => ?_)
               ·skip
                refine goes_ Try.func47 (by kernel_rfl) rfl #[.agg #[.int .i64 t555, .slice Ao79 t556.length co79], .agg #[.int .i64 ((rd_T25 l0_2 x4_1).f0), .int .i64 ((rd_T25 l0_2 x4_1).f1), .string ((rd_T25 l0_2 x4_1).f2), .string ((rd_T25 l0_2 x4_1).f3), .int .i64 ((rd_T25 l0_2 x4_1).f4), .bool ((rd_T25 l0_2 x4_1).f5)]] (by rfl) rfl rfl aa ?_
                with_reducible refine (seg_Add.calls kj36 t555 _ _ t556 ((rd_T25 l0_2 x4_1).f0) ((rd_T25 l0_2 x4_1).f1) ((rd_T25 l0_2 x4_1).f2) ((rd_T25 l0_2 x4_1).f3) ((rd_T25 l0_2 x4_1).f4) ((rd_T25 l0_2 x4_1).f5) t561 t562 t565 _ ?side1 ?side2 A70.out).mono ?_
                (case side1 => repeat (first | exact (Kd.R_reads' HO558.out).2.2 | (with_reducible refine Kd.C_alloc ?_ _) | (with_reducible refine Kd.C_drewN ?_ _) | (with_reducible refine Kd.C_drew ?_)))
                (case side2 => exact (Kd.R_reads' HO558.out).2.1)
                rintro e w82 ⟨v563, rfl, ho0, hb⟩
                refine ⟨_, rfl, ?_⟩
                have HO564 := Aside0.mk (Kd.R_lower (Kd.R_new' (Kd.R_new' ho0 (Kd.R_lt (rk HO_544001.out))) (Kd.R_lt (rk HO558.out))) (below_size bo))
                replace HO_544001 := Aside0.mk (Kd.R_elder' (rk HO_544001.out) (Kd.R_base ho0) hb)
                replace HO558 := Aside0.mk (Kd.R_elder' (rk HO558.out) (Kd.R_base ho0) hb)
                replace BK537 := Aside0.mk (bb BK537.out hb)
                replace BK543 := Aside0.mk (bb BK543.out hb)
                replace BK559 := Aside0.mk (bb BK559.out hb)
                replace HB := Aside0.mk (below_step bo hb)
                (try clear hb)
                (try clear hb2)
                (try clear hk)
                (try clear hi)
                (try clear ho0)
                refine hK.out _ _ ⟨(blk_cell BK559.out 0).trans rfl, (blk_cell BK559.out 1).trans rfl, (blk_cell BK537.out 0).trans rfl, (blk_cell BK537.out 1).trans rfl, (blk_cell BK537.out 2).trans rfl, (blk_cell BK537.out 3).trans rfl, (blk_cell BK537.out 4).trans rfl, (cx HB.out hw560_0), (cx HB.out hw560_1), (cx HB.out hw560_2), (cx HB.out hw560_3), (cx HB.out hw560_4), (cx HB.out hw560_5)⟩ (fun hHeld => ?_)
                clear hK K
                refine norm_ (a' := ?_) ?_ ?_
                rotate_left
                ·show Act.put _ (some 84) _ = _
                 simp only [Act.put, List.setIfInBounds_toArray, List.set_cons_zero, List.set_cons_succ, i64_w, i32_w]
                 rfl
                refine pz (i := 7) (N := some 77) #[I,I,I,I,I,I,I,I,O,O,O,O,O] ?_
                refine pz (i := 8) (N := some 85) #[I,I,I,I,I,I,I,I,I,O,O,O,O] ?_
                refine pz (i := 9) (N := some 86) #[I,I,I,I,I,I,I,I,I,I,O,O,O] ?_
                refine one_ (i := 10) (N := some 13) #[I,I,I,I,I,I,I,I,I,I,I,O,O] rfl rfl (one_of HT_.out (by kernel_rfl)) (by decide) (fun K hK => ?_)
                refine box_step ?hg (N := 13) ?hd (cs := #[.int .i64 0, .slice none 0 0]) (t := 53) ?hr ?_; (case hd => rfl); (case hg => rfl); (case hr => first | (go_simp; done) | (go_simp; rfl))
                intro gb566 hg w83 hbox hb
                replace HO_544001 := Aside0.mk (Kd.R_below (rk HO_544001.out) hb)
                replace HO558 := Aside0.mk (Kd.R_below (rk HO558.out) hb)
                replace HO564 := Aside0.mk (Kd.R_below (rk HO564.out) hb)
                have BK566 := Aside0.mk (hbox)
                have GW566 := Aside0.mk ((by rw [hg]; exact (below_size bo) : w.heap.size ≤ gb566))
                have GE566 := Aside0.mk ((by rw [hg]; exact (below_size bo) : w.heap.size ≤ gb566))
                replace HB := Aside0.mk (below_step bo hb)
                have NB537_566 := Aside0.mk (nl BK537.out hg)
                have NB566_537 := Aside0.mk (ng BK537.out hg)
                replace BK537 := Aside0.mk (bb BK537.out hb)
                have NB543_566 := Aside0.mk (nl BK543.out hg)
                have NB566_543 := Aside0.mk (ng BK543.out hg)
                replace BK543 := Aside0.mk (bb BK543.out hb)
                have NB559_566 := Aside0.mk (nl BK559.out hg)
                have NB566_559 := Aside0.mk (ng BK559.out hg)
                replace BK559 := Aside0.mk (bb BK559.out hb)
                clear hb hbox hg
                refine hK.out _ _ ⟨(blk_cell BK559.out 0).trans rfl, (blk_cell BK559.out 1).trans rfl, (blk_cell BK537.out 0).trans rfl, (blk_cell BK537.out 1).trans rfl, (blk_cell BK537.out 2).trans rfl, (blk_cell BK537.out 3).trans rfl, (blk_cell BK537.out 4).trans rfl, (cx HB.out hw560_0), (cx HB.out hw560_1), (cx HB.out hw560_2), (cx HB.out hw560_3), (cx HB.out hw560_4), (cx HB.out hw560_5)⟩ (fun hHeld => ?_)
                clear hK K
                refine norm_ (a' := ?_) ?_ ?_
                rotate_left
                ·show Act.put _ (some 13) _ = _
                 simp only [Act.put, List.setIfInBounds_toArray, List.set_cons_zero, List.set_cons_succ, i64_w, i32_w]
                 rfl
                exact norm_ (by simp only [putAll, Act.put, List.setIfInBounds_toArray, List.set_cons_zero, List.set_cons_succ]) (hCont (v563, gb566) _ ⟨hHeld, (by (with_reducible repeat (first | apply Kd.R_alloc | apply Kd.R_drewN | apply Kd.R_drew)); exact Kd.R_mono HO558.out (fun _ hk => ⟨hk.2, hk.1⟩)), (by (with_reducible repeat (first | apply Kd.R_alloc | apply Kd.R_drewN | apply Kd.R_drew)); exact Kd.R_mono HO564.out (fun _ hk => ⟨hk.2, hk.1.2⟩)), (rk HO_544001.out), (bk BK537.out), (bk BK543.out), (bk BK559.out), (bk BK566.out), GW566.out, GE566.out, NB537_566.out, NB566_537.out, NB543_566.out, NB566_543.out, NB559_566.out, NB566_559.out, bo⟩)
               ·skip
                refine box_step ?hg (N := 13) ?hd (cs := #[.int .i64 0, .slice none 0 0]) (t := 53) ?hr ?_; (case hd => rfl); (case hg => rfl); (case hr => first | (go_simp; done) | (go_simp; rfl))
                intro gb566 hg w82 hbox hb
                replace HO_544001 := Aside0.mk (Kd.R_below (rk HO_544001.out) hb)
                replace HO558 := Aside0.mk (Kd.R_below (rk HO558.out) hb)
                have BK566 := Aside0.mk (hbox)
                have GW566 := Aside0.mk ((by rw [hg]; exact (below_size bo) : w.heap.size ≤ gb566))
                have GE566 := Aside0.mk ((by rw [hg]; exact (below_size bo) : w.heap.size ≤ gb566))
                replace HB := Aside0.mk (below_step bo hb)
                have NB537_566 := Aside0.mk (nl BK537.out hg)
                have NB566_537 := Aside0.mk (ng BK537.out hg)
                replace BK537 := Aside0.mk (bb BK537.out hb)
                have NB543_566 := Aside0.mk (nl BK543.out hg)
                have NB566_543 := Aside0.mk (ng BK543.out hg)
                replace BK543 := Aside0.mk (bb BK543.out hb)
                have NB559_566 := Aside0.mk (nl BK559.out hg)
                have NB566_559 := Aside0.mk (ng BK559.out hg)
                replace BK559 := Aside0.mk (bb BK559.out hb)
                clear hb hbox hg
                refine hK.out _ _ ⟨(blk_cell BK559.out 0).trans rfl, (blk_cell BK559.out 1).trans rfl, (blk_cell BK537.out 0).trans rfl, (blk_cell BK537.out 1).trans rfl, (blk_cell BK537.out 2).trans rfl, (blk_cell BK537.out 3).trans rfl, (blk_cell BK537.out 4).trans rfl, (cx HB.out hw560_0), (cx HB.out hw560_1), (cx HB.out hw560_2), (cx HB.out hw560_3), (cx HB.out hw560_4), (cx HB.out hw560_5)⟩ (fun hHeld => ?_)
                clear hK K
                refine norm_ (a' := ?_) ?_ ?_
                rotate_left
                ·show Act.put _ (some 13) _ = _
                 simp only [Act.put, List.setIfInBounds_toArray, List.set_cons_zero, List.set_cons_succ, i64_w, i32_w]
                 rfl
                refine one_ (i := 6) (N := some 84) #[I,I,I,I,I,I,I,O,O,O,I,O,O] rfl rfl (one_of HT_.out (by kernel_rfl)) (by decide) (fun K hK => ?_)
                refine goes_ Try.func47 (by kernel_rfl) rfl #[.agg #[.int .i64 t555, .slice Ao79 t556.length co79], .agg #[.int .i64 ((rd_T25 l0_2 x4_1).f0), .int .i64 ((rd_T25 l0_2 x4_1).f1), .string ((rd_T25 l0_2 x4_1).f2), .string ((rd_T25 l0_2 x4_1).f3), .int .i64 ((rd_T25 l0_2 x4_1).f4), .bool ((rd_T25 l0_2 x4_1).f5)]] (by rfl) rfl rfl aa ?_
                with_reducible refine (seg_Add.calls kj36 t555 _ _ t556 ((rd_T25 l0_2 x4_1).f0) ((rd_T25 l0_2 x4_1).f1) ((rd_T25 l0_2 x4_1).f2) ((rd_T25 l0_2 x4_1).f3) ((rd_T25 l0_2 x4_1).f4) ((rd_T25 l0_2 x4_1).f5) t561 t562 t565 _ ?side1 ?side2 A70.out).mono ?_
                (case side1 => repeat (first | exact (Kd.R_reads' HO558.out).2.2 | (with_reducible refine Kd.C_alloc ?_ _) | (with_reducible refine Kd.C_drewN ?_ _) | (with_reducible refine Kd.C_drew ?_)))
                (case side2 => exact (Kd.R_reads' HO558.out).2.1)
                rintro e w83 ⟨v563, rfl, ho0, hb⟩
                refine ⟨_, rfl, ?_⟩
                have HO564 := Aside0.mk (Kd.R_lower (Kd.R_new' (Kd.R_new' ho0 (Kd.R_lt (rk HO_544001.out))) (Kd.R_lt (rk HO558.out))) (below_size bo))
                replace HO_544001 := Aside0.mk (Kd.R_elder' (rk HO_544001.out) (Kd.R_base ho0) hb)
                replace HO558 := Aside0.mk (Kd.R_elder' (rk HO558.out) (Kd.R_base ho0) hb)
                replace BK537 := Aside0.mk (bb BK537.out hb)
                replace BK543 := Aside0.mk (bb BK543.out hb)
                replace BK559 := Aside0.mk (bb BK559.out hb)
                replace BK566 := Aside0.mk (bb BK566.out hb)
                replace HB := Aside0.mk (below_step bo hb)
                (try clear hb)
                (try clear hb2)
                (try clear hk)
                (try clear hi)
                (try clear ho0)
                refine hK.out _ _ ⟨(blk_cell BK559.out 0).trans rfl, (blk_cell BK559.out 1).trans rfl, (blk_cell BK537.out 0).trans rfl, (blk_cell BK537.out 1).trans rfl, (blk_cell BK537.out 2).trans rfl, (blk_cell BK537.out 3).trans rfl, (blk_cell BK537.out 4).trans rfl, (cx HB.out hw560_0), (cx HB.out hw560_1), (cx HB.out hw560_2), (cx HB.out hw560_3), (cx HB.out hw560_4), (cx HB.out hw560_5)⟩ (fun hHeld => ?_)
                clear hK K
                refine norm_ (a' := ?_) ?_ ?_
                rotate_left
                ·show Act.put _ (some 84) _ = _
                 simp only [Act.put, List.setIfInBounds_toArray, List.set_cons_zero, List.set_cons_succ, i64_w, i32_w]
                 rfl
                refine pz (i := 7) (N := some 77) #[I,I,I,I,I,I,I,I,O,O,I,O,O] ?_
                refine pz (i := 8) (N := some 85) #[I,I,I,I,I,I,I,I,I,O,I,O,O] ?_
                refine pz (i := 9) (N := some 86) #[I,I,I,I,I,I,I,I,I,I,I,O,O] ?_
                exact norm_ (by simp only [putAll, Act.put, List.setIfInBounds_toArray, List.set_cons_zero, List.set_cons_succ]) (hCont (v563, gb566) _ ⟨hHeld, (by (with_reducible repeat (first | apply Kd.R_alloc | apply Kd.R_drewN | apply Kd.R_drew)); exact Kd.R_mono HO558.out (fun _ hk => ⟨hk.2, hk.1⟩)), (by (with_reducible repeat (first | apply Kd.R_alloc | apply Kd.R_drewN | apply Kd.R_drew)); exact Kd.R_mono HO564.out (fun _ hk => ⟨hk.2, hk.1.2⟩)), (rk HO_544001.out), (bk BK537.out), (bk BK543.out), (bk BK559.out), (bk BK566.out), GW566.out, GE566.out, NB537_566.out, NB566_537.out, NB543_566.out, NB566_543.out, NB559_566.out, NB566_559.out, bo⟩)
              rintro ⟨v563, gb566⟩ w84 ⟨hS_, h0_, h1_, h2_, h3_, h4_, h5_, h6_, h7_, h8_, h9_, h10_, h11_, h12_, h13_, h14_, h15_⟩
              have n0_ : Aside0 (Kd.R k25 25 w84 w.heap.size (fun k_ => some k_ ≠ (v563 : Value).ownBlock ∧ some k_ ≠ (.slice Ao28 x544001_1.length co28 : Value).ownBlock) (.slice Ao79 t556.length co79) t556) := ⟨h0_⟩
              have n1_ : Aside0 (Kd.R k25 25 w84 w.heap.size (fun k_ => some k_ ≠ (.slice Ao79 t556.length co79 : Value).ownBlock ∧ some k_ ≠ (.slice Ao28 x544001_1.length co28 : Value).ownBlock) v563 t562) := ⟨h1_⟩
              have n2_ : Aside0 (Kd.R k25 25 w84 w.heap.size (fun k_ => some k_ ≠ (.slice Ao79 t556.length co79 : Value).ownBlock ∧ some k_ ≠ (v563 : Value).ownBlock) (.slice Ao28 x544001_1.length co28) x544001_1) := ⟨h2_⟩
              have n3_ : Aside0 (w84.heap[gb537]? = some (.cells #[.int .i64 a0_0, .slice A0_1 l0_1.length c0_1, .slice (some ad560) l0_2.length c0_2, .slice A0_3 l0_3.length c0_3, .string a0_4] 55 (0, 0))) := ⟨h3_⟩
              have n4_ : Aside0 (w84.heap[gb543]? = some (.cells #[.int .i64 x544000_1, .slice Ao28 x544001_1.length co28] 53 (0, 0))) := ⟨h4_⟩
              have n5_ : Aside0 (w84.heap[gb559]? = some (.cells #[.int .i64 t555, .slice Ao79 t556.length co79] 53 (0, 0))) := ⟨h5_⟩
              have n6_ : Aside0 (w84.heap[gb566]? = some (.cells #[.int .i64 0, .slice none 0 0] 53 (0, 0))) := ⟨h6_⟩
              have n7_ : Aside0 (w.heap.size ≤ gb566) := ⟨h7_⟩
              have n8_ : Aside0 (w.heap.size ≤ gb566) := ⟨h8_⟩
              have n9_ : Aside0 (gb537 ≠ gb566) := ⟨h9_⟩
              have n10_ : Aside0 (gb566 ≠ gb537) := ⟨h10_⟩
              have n11_ : Aside0 (gb543 ≠ gb566) := ⟨h11_⟩
              have n12_ : Aside0 (gb566 ≠ gb543) := ⟨h12_⟩
              have n13_ : Aside0 (gb559 ≠ gb566) := ⟨h13_⟩
              have n14_ : Aside0 (gb566 ≠ gb559) := ⟨h14_⟩
              have n15_ : Aside0 (Below w.heap.size w w84) := ⟨h15_⟩
              clear HO_544001
              clear HO558
              clear BK537
              clear BK543
              clear BK559
              clear HB
              clear h0_ h1_ h2_ h3_ h4_ h5_ h6_ h7_ h8_ h9_ h10_ h11_ h12_ h13_ h14_ h15_
              have HO558 := n0_
              have HO564 := n1_
              have HO_544001 := n2_
              have BK537 := n3_
              have BK543 := n4_
              have BK559 := n5_
              have BK566 := n6_
              have GW566 := n7_
              have GE566 := n8_
              have NB537_566 := n9_
              have NB566_537 := n10_
              have NB543_566 := n11_
              have NB566_543 := n12_
              have NB559_566 := n13_
              have NB566_559 := n14_
              have HB := n15_
              clear n0_ n1_ n2_ n3_ n4_ n5_ n6_ n7_ n8_ n9_ n10_ n11_ n12_ n13_ n14_ n15_
              have hHeld : w84.cell? ⟨gb559, 0, none⟩ = some (.int .i64 t555) ∧ w84.cell? ⟨gb559, 1, none⟩ = some (.slice Ao79 t556.length co79) ∧ w84.cell? ⟨gb537, 0, none⟩ = some (.int .i64 a0_0) ∧ w84.cell? ⟨gb537, 1, none⟩ = some (.slice A0_1 l0_1.length c0_1) ∧ w84.cell? ⟨gb537, 2, none⟩ = some (.slice (some ad560) l0_2.length c0_2) ∧ w84.cell? ⟨gb537, 3, none⟩ = some (.slice A0_3 l0_3.length c0_3) ∧ w84.cell? ⟨gb537, 4, none⟩ = some (.string a0_4) ∧ w84.cell? (ad560.add ((x4_1).toNat * 6)) = some (.int .i64 ((rd_T25 l0_2 x4_1).f0)) ∧ w84.cell? ⟨(ad560.add ((x4_1).toNat * 6)).block, (ad560.add ((x4_1).toNat * 6)).off + 1, none⟩ = some (.int .i64 ((rd_T25 l0_2 x4_1).f1)) ∧ w84.cell? ⟨(ad560.add ((x4_1).toNat * 6)).block, (ad560.add ((x4_1).toNat * 6)).off + 2, none⟩ = some (.string ((rd_T25 l0_2 x4_1).f2)) ∧ w84.cell? ⟨(ad560.add ((x4_1).toNat * 6)).block, (ad560.add ((x4_1).toNat * 6)).off + 3, none⟩ = some (.string ((rd_T25 l0_2 x4_1).f3)) ∧ w84.cell? ⟨(ad560.add ((x4_1).toNat * 6)).block, (ad560.add ((x4_1).toNat * 6)).off + 4, none⟩ = some (.int .i64 ((rd_T25 l0_2 x4_1).f4)) ∧ w84.cell? ⟨(ad560.add ((x4_1).toNat * 6)).block, (ad560.add ((x4_1).toNat * 6)).off + 5, none⟩ = some (.bool ((rd_T25 l0_2 x4_1).f5)) := hS_
              obtain ⟨Ao86, co86, eo86⟩ := Kd.R_slice HO564.out
              (first | subst eo86 | (injection eo86 with f1_ f2_ f3_; have f4_ := f1_.symm; have f5_ := f3_.symm; clear f1_ f2_ f3_; subst f4_; subst f5_))
              refine norm_ (a' := ?_) ?_ ?_
              rotate_left
              ·simp only [putAll, Act.put, List.setIfInBounds_toArray, List.set_cons_zero, List.set_cons_succ]
               rfl
              refine one_ (i := 11) (N := none) #[I,I,I,I,I,I,I,I,I,I,I,I,O] rfl rfl (one_of HT_.out (by kernel_rfl)) (by decide) (fun K hK => ?_)
              have hs85 : w84.cell? ⟨gb566, 0, none⟩ = some (.int .i64 0) := (blk_cell BK566.out 0).trans rfl
              have hfs85 := blk_frozen BK566.out 0
              have hns85_0 := NB537_566.out
              have hns85_1 := NB543_566.out
              have hns85_2 := NB559_566.out
              have hms85_0 := NB566_537.out
              have hms85_1 := NB566_543.out
              have hms85_2 := NB566_559.out
              have hs87 : w84.cell? ⟨gb566, 1, none⟩ = some (.slice none 0 0) := (blk_cell BK566.out 1).trans rfl
              have hfs87 := blk_frozen BK566.out 1
              have hns87_0 := NB537_566.out
              have hns87_1 := NB543_566.out
              have hns87_2 := NB559_566.out
              have hms87_0 := NB566_537.out
              have hms87_1 := NB566_543.out
              have hms87_2 := NB566_559.out
              refine skip_ (w1 := ?_) (by rfl) rfl ?_ ?_
              rotate_left
              ·go_simp
               rfl
              refine hK.out _ _ ⟨((cell_far (p := ⟨gb566, _, none⟩) NB559_566.out _).trans (((cell_far (p := ⟨gb566, _, none⟩) NB559_566.out _).trans (hHeld.1)))), ((cell_far (p := ⟨gb566, _, none⟩) NB559_566.out _).trans (((cell_far (p := ⟨gb566, _, none⟩) NB559_566.out _).trans (hHeld.2.1)))), ((cell_far (p := ⟨gb566, _, none⟩) NB537_566.out _).trans (((cell_far (p := ⟨gb566, _, none⟩) NB537_566.out _).trans (hHeld.2.2.1)))), ((cell_far (p := ⟨gb566, _, none⟩) NB537_566.out _).trans (((cell_far (p := ⟨gb566, _, none⟩) NB537_566.out _).trans (hHeld.2.2.2.1)))), ((cell_far (p := ⟨gb566, _, none⟩) NB537_566.out _).trans (((cell_far (p := ⟨gb566, _, none⟩) NB537_566.out _).trans (hHeld.2.2.2.2.1)))), ((cell_far (p := ⟨gb566, _, none⟩) NB537_566.out _).trans (((cell_far (p := ⟨gb566, _, none⟩) NB537_566.out _).trans (hHeld.2.2.2.2.2.1)))), ((cell_far (p := ⟨gb566, _, none⟩) NB537_566.out _).trans (((cell_far (p := ⟨gb566, _, none⟩) NB537_566.out _).trans (hHeld.2.2.2.2.2.2.1)))), ((cell_far (p := ⟨gb566, _, none⟩) (by first | exact Nat.ne_of_lt (Nat.lt_of_lt_of_le (by have := World.block_lt_of_cell? _ _ hw560_0; first | rwa [add_block] at this | exact this) GW566.out) | (rw [add_block]; exact Nat.ne_of_lt (Nat.lt_of_lt_of_le (by have := World.block_lt_of_cell? _ _ hw560_0; first | rwa [add_block] at this | exact this) GW566.out)) | (show (Addr.add _ _).block ≠ _; rw [add_block]; exact Nat.ne_of_lt (Nat.lt_of_lt_of_le (by have := World.block_lt_of_cell? _ _ hw560_0; first | rwa [add_block] at this | exact this) GW566.out)) | (dsimp only; exact Nat.ne_of_lt (Nat.lt_of_lt_of_le (by have := World.block_lt_of_cell? _ _ hw560_0; first | rwa [add_block] at this | exact this) GW566.out))) _).trans (((cell_far (p := ⟨gb566, _, none⟩) (by first | exact Nat.ne_of_lt (Nat.lt_of_lt_of_le (by have := World.block_lt_of_cell? _ _ hw560_0; first | rwa [add_block] at this | exact this) GW566.out) | (rw [add_block]; exact Nat.ne_of_lt (Nat.lt_of_lt_of_le (by have := World.block_lt_of_cell? _ _ hw560_0; first | rwa [add_block] at this | exact this) GW566.out)) | (show (Addr.add _ _).block ≠ _; rw [add_block]; exact Nat.ne_of_lt (Nat.lt_of_lt_of_le (by have := World.block_lt_of_cell? _ _ hw560_0; first | rwa [add_block] at this | exact this) GW566.out)) | (dsimp only; exact Nat.ne_of_lt (Nat.lt_of_lt_of_le (by have := World.block_lt_of_cell? _ _ hw560_0; first | rwa [add_block] at this | exact this) GW566.out))) _).trans (hHeld.2.2.2.2.2.2.2.1)))), ((cell_far (p := ⟨gb566, _, none⟩) (by first | exact Nat.ne_of_lt (Nat.lt_of_lt_of_le (by have := World.block_lt_of_cell? _ _ hw560_1; first | rwa [add_block] at this | exact this) GW566.out) | (rw [add_block]; exact Nat.ne_of_lt (Nat.lt_of_lt_of_le (by have := World.block_lt_of_cell? _ _ hw560_1; first | rwa [add_block] at this | exact this) GW566.out)) | (show (Addr.add _ _).block ≠ _; rw [add_block]; exact Nat.ne_of_lt (Nat.lt_of_lt_of_le (by have := World.block_lt_of_cell? _ _ hw560_1; first | rwa [add_block] at this | exact this) GW566.out)) | (dsimp only; exact Nat.ne_of_lt (Nat.lt_of_lt_of_le (by have := World.block_lt_of_cell? _ _ hw560_1; first | rwa [add_block] at this | exact this) GW566.out))) _).trans (((cell_far (p := ⟨gb566, _, none⟩) (by first | exact Nat.ne_of_lt (Nat.lt_of_lt_of_le (by have := World.block_lt_of_cell? _ _ hw560_1; first | rwa [add_block] at this | exact this) GW566.out) | (rw [add_block]; exact Nat.ne_of_lt (Nat.lt_of_lt_of_le (by have := World.block_lt_of_cell? _ _ hw560_1; first | rwa [add_block] at this | exact this) GW566.out)) | (show (Addr.add _ _).block ≠ _; rw [add_block]; exact Nat.ne_of_lt (Nat.lt_of_lt_of_le (by have := World.block_lt_of_cell? _ _ hw560_1; first | rwa [add_block] at this | exact this) GW566.out)) | (dsimp only; exact Nat.ne_of_lt (Nat.lt_of_lt_of_le (by have := World.block_lt_of_cell? _ _ hw560_1; first | rwa [add_block] at this | exact this) GW566.out))) _).trans (hHeld.2.2.2.2.2.2.2.2.1)))), ((cell_far (p := ⟨gb566, _, none⟩) (by first | exact Nat.ne_of_lt (Nat.lt_of_lt_of_le (by have := World.block_lt_of_cell? _ _ hw560_2; first | rwa [add_block] at this | exact this) GW566.out) | (rw [add_block]; exact Nat.ne_of_lt (Nat.lt_of_lt_of_le (by have := World.block_lt_of_cell? _ _ hw560_2; first | rwa [add_block] at this | exact this) GW566.out)) | (show (Addr.add _ _).block ≠ _; rw [add_block]; exact Nat.ne_of_lt (Nat.lt_of_lt_of_le (by have := World.block_lt_of_cell? _ _ hw560_2; first | rwa [add_block] at this | exact this) GW566.out)) | (dsimp only; exact Nat.ne_of_lt (Nat.lt_of_lt_of_le (by have := World.block_lt_of_cell? _ _ hw560_2; first | rwa [add_block] at this | exact this) GW566.out))) _).trans (((cell_far (p := ⟨gb566, _, none⟩) (by first | exact Nat.ne_of_lt (Nat.lt_of_lt_of_le (by have := World.block_lt_of_cell? _ _ hw560_2; first | rwa [add_block] at this | exact this) GW566.out) | (rw [add_block]; exact Nat.ne_of_lt (Nat.lt_of_lt_of_le (by have := World.block_lt_of_cell? _ _ hw560_2; first | rwa [add_block] at this | exact this) GW566.out)) | (show (Addr.add _ _).block ≠ _; rw [add_block]; exact Nat.ne_of_lt (Nat.lt_of_lt_of_le (by have := World.block_lt_of_cell? _ _ hw560_2; first | rwa [add_block] at this | exact this) GW566.out)) | (dsimp only; exact Nat.ne_of_lt (Nat.lt_of_lt_of_le (by have := World.block_lt_of_cell? _ _ hw560_2; first | rwa [add_block] at this | exact this) GW566.out))) _).trans (hHeld.2.2.2.2.2.2.2.2.2.1)))), ((cell_far (p := ⟨gb566, _, none⟩) (by first | exact Nat.ne_of_lt (Nat.lt_of_lt_of_le (by have := World.block_lt_of_cell? _ _ hw560_3; first | rwa [add_block] at this | exact this) GW566.out) | (rw [add_block]; exact Nat.ne_of_lt (Nat.lt_of_lt_of_le (by have := World.block_lt_of_cell? _ _ hw560_3; first | rwa [add_block] at this | exact this) GW566.out)) | (show (Addr.add _ _).block ≠ _; rw [add_block]; exact Nat.ne_of_lt (Nat.lt_of_lt_of_le (by have := World.block_lt_of_cell? _ _ hw560_3; first | rwa [add_block] at this | exact this) GW566.out)) | (dsimp only; exact Nat.ne_of_lt (Nat.lt_of_lt_of_le (by have := World.block_lt_of_cell? _ _ hw560_3; first | rwa [add_block] at this | exact this) GW566.out))) _).trans (((cell_far (p := ⟨gb566, _, none⟩) (by first | exact Nat.ne_of_lt (Nat.lt_of_lt_of_le (by have := World.block_lt_of_cell? _ _ hw560_3; first | rwa [add_block] at this | exact this) GW566.out) | (rw [add_block]; exact Nat.ne_of_lt (Nat.lt_of_lt_of_le (by have := World.block_lt_of_cell? _ _ hw560_3; first | rwa [add_block] at this | exact this) GW566.out)) | (show (Addr.add _ _).block ≠ _; rw [add_block]; exact Nat.ne_of_lt (Nat.lt_of_lt_of_le (by have := World.block_lt_of_cell? _ _ hw560_3; first | rwa [add_block] at this | exact this) GW566.out)) | (dsimp only; exact Nat.ne_of_lt (Nat.lt_of_lt_of_le (by have := World.block_lt_of_cell? _ _ hw560_3; first | rwa [add_block] at this | exact this) GW566.out))) _).trans (hHeld.2.2.2.2.2.2.2.2.2.2.1)))), ((cell_far (p := ⟨gb566, _, none⟩) (by first | exact Nat.ne_of_lt (Nat.lt_of_lt_of_le (by have := World.block_lt_of_cell? _ _ hw560_4; first | rwa [add_block] at this | exact this) GW566.out) | (rw [add_block]; exact Nat.ne_of_lt (Nat.lt_of_lt_of_le (by have := World.block_lt_of_cell? _ _ hw560_4; first | rwa [add_block] at this | exact this) GW566.out)) | (show (Addr.add _ _).block ≠ _; rw [add_block]; exact Nat.ne_of_lt (Nat.lt_of_lt_of_le (by have := World.block_lt_of_cell? _ _ hw560_4; first | rwa [add_block] at this | exact this) GW566.out)) | (dsimp only; exact Nat.ne_of_lt (Nat.lt_of_lt_of_le (by have := World.block_lt_of_cell? _ _ hw560_4; first | rwa [add_block] at this | exact this) GW566.out))) _).trans (((cell_far (p := ⟨gb566, _, none⟩) (by first | exact Nat.ne_of_lt (Nat.lt_of_lt_of_le (by have := World.block_lt_of_cell? _ _ hw560_4; first | rwa [add_block] at this | exact this) GW566.out) | (rw [add_block]; exact Nat.ne_of_lt (Nat.lt_of_lt_of_le (by have := World.block_lt_of_cell? _ _ hw560_4; first | rwa [add_block] at this | exact this) GW566.out)) | (show (Addr.add _ _).block ≠ _; rw [add_block]; exact Nat.ne_of_lt (Nat.lt_of_lt_of_le (by have := World.block_lt_of_cell? _ _ hw560_4; first | rwa [add_block] at this | exact this) GW566.out)) | (dsimp only; exact Nat.ne_of_lt (Nat.lt_of_lt_of_le (by have := World.block_lt_of_cell? _ _ hw560_4; first | rwa [add_block] at this | exact this) GW566.out))) _).trans (hHeld.2.2.2.2.2.2.2.2.2.2.2.1)))), ((cell_far (p := ⟨gb566, _, none⟩) (by first | exact Nat.ne_of_lt (Nat.lt_of_lt_of_le (by have := World.block_lt_of_cell? _ _ hw560_5; first | rwa [add_block] at this | exact this) GW566.out) | (rw [add_block]; exact Nat.ne_of_lt (Nat.lt_of_lt_of_le (by have := World.block_lt_of_cell? _ _ hw560_5; first | rwa [add_block] at this | exact this) GW566.out)) | (show (Addr.add _ _).block ≠ _; rw [add_block]; exact Nat.ne_of_lt (Nat.lt_of_lt_of_le (by have := World.block_lt_of_cell? _ _ hw560_5; first | rwa [add_block] at this | exact this) GW566.out)) | (dsimp only; exact Nat.ne_of_lt (Nat.lt_of_lt_of_le (by have := World.block_lt_of_cell? _ _ hw560_5; first | rwa [add_block] at this | exact this) GW566.out))) _).trans (((cell_far (p := ⟨gb566, _, none⟩) (by first | exact Nat.ne_of_lt (Nat.lt_of_lt_of_le (by have := World.block_lt_of_cell? _ _ hw560_5; first | rwa [add_block] at this | exact this) GW566.out) | (rw [add_block]; exact Nat.ne_of_lt (Nat.lt_of_lt_of_le (by have := World.block_lt_of_cell? _ _ hw560_5; first | rwa [add_block] at this | exact this) GW566.out)) | (show (Addr.add _ _).block ≠ _; rw [add_block]; exact Nat.ne_of_lt (Nat.lt_of_lt_of_le (by have := World.block_lt_of_cell? _ _ hw560_5; first | rwa [add_block] at this | exact this) GW566.out)) | (dsimp only; exact Nat.ne_of_lt (Nat.lt_of_lt_of_le (by have := World.block_lt_of_cell? _ _ hw560_5; first | rwa [add_block] at this | exact this) GW566.out))) _).trans (hHeld.2.2.2.2.2.2.2.2.2.2.2.2))))⟩ (fun hHeld => ?_)
              clear hK K
              refine pz (i := 12) (N := some 14) #[I,I,I,I,I,I,I,I,I,I,I,I,I] ?_
              refine done_ (done_of HT_.out (by kernel_rfl)) ?_
              go_upto_region 18 with (first | ((with_reducible refine gate_dst (N := 15) rfl ?_); (try (refine gate_guard (by rfl) ?_; dsimp only)); refine box_event ?hg (N := 15) ?hd (cs := #[.int .i64 0, .slice none 0 0]) (t := 53) ?hr ?_; (case hd => rfl); (case hg => rfl); (case hr => first | (go_simp; done) | (go_simp; rfl)); intro gb567 hg w88 hbox hb; replace HO_544001 := Aside0.mk (Kd.R_below (by (with_reducible repeat (first | apply Kd.R_alloc | apply Kd.R_drewN | apply Kd.R_drew)); exact (Kd.R_mono (Kd.R_far (p := ⟨gb566, 1, none⟩) (Kd.R_far (p := ⟨gb566, 0, none⟩) (Kd.R_types HO_544001.out BK566.out (by decide)) (fun _ hk => hk.2) (.int .i64 t561)) (fun _ hk => hk.2) (.slice Ao86 t562.length co86)) (fun _ h_ => h_.1))) hb); replace HO558 := Aside0.mk (Kd.R_below (by (with_reducible repeat (first | apply Kd.R_alloc | apply Kd.R_drewN | apply Kd.R_drew)); exact (Kd.R_mono (Kd.R_far (p := ⟨gb566, 1, none⟩) (Kd.R_far (p := ⟨gb566, 0, none⟩) (Kd.R_types HO558.out BK566.out (by decide)) (fun _ hk => hk.2) (.int .i64 t561)) (fun _ hk => hk.2) (.slice Ao86 t562.length co86)) (fun _ h_ => h_.1))) hb); replace HO564 := Aside0.mk (Kd.R_below (by (with_reducible repeat (first | apply Kd.R_alloc | apply Kd.R_drewN | apply Kd.R_drew)); exact (Kd.R_mono (Kd.R_far (p := ⟨gb566, 1, none⟩) (Kd.R_far (p := ⟨gb566, 0, none⟩) (Kd.R_types HO564.out BK566.out (by decide)) (fun _ hk => hk.2) (.int .i64 t561)) (fun _ hk => hk.2) (.slice Ao86 t562.length co86)) (fun _ h_ => h_.1))) hb); have BK567 := Aside0.mk (hbox); have GW567 := Aside0.mk ((by rw [hg]; exact (below_size bo) : w.heap.size ≤ gb567)); have GE567 := Aside0.mk ((by rw [hg]; exact (below_size bo) : w.heap.size ≤ gb567)); replace HB := Aside0.mk (below_step bo hb); have NB537_567 := Aside0.mk ((by rw [hg]; exact Nat.ne_of_lt (blk_lt (g := gb537) (o := .cells #[.int .i64 a0_0, .slice A0_1 l0_1.length c0_1, .slice (some ad560) l0_2.length c0_2, .slice A0_3 l0_3.length c0_3, .string a0_4] 55 (0, 0)) (bf BK537.out)) : gb537 ≠ gb567)); have NB567_537 := Aside0.mk ((by rw [hg]; exact Nat.ne_of_gt (blk_lt (g := gb537) (o := .cells #[.int .i64 a0_0, .slice A0_1 l0_1.length c0_1, .slice (some ad560) l0_2.length c0_2, .slice A0_3 l0_3.length c0_3, .string a0_4] 55 (0, 0)) (bf BK537.out)) : gb567 ≠ gb537)); replace BK537 := Aside0.mk (bB BK537.out hb); have NB543_567 := Aside0.mk ((by rw [hg]; exact Nat.ne_of_lt (blk_lt (g := gb543) (o := .cells #[.int .i64 x544000_1, .slice Ao28 x544001_1.length co28] 53 (0, 0)) (bf BK543.out)) : gb543 ≠ gb567)); have NB567_543 := Aside0.mk ((by rw [hg]; exact Nat.ne_of_gt (blk_lt (g := gb543) (o := .cells #[.int .i64 x544000_1, .slice Ao28 x544001_1.length co28] 53 (0, 0)) (bf BK543.out)) : gb567 ≠ gb543)); replace BK543 := Aside0.mk (bB BK543.out hb); have NB559_567 := Aside0.mk ((by rw [hg]; exact Nat.ne_of_lt (blk_lt (g := gb559) (o := .cells #[.int .i64 t555, .slice Ao79 t556.length co79] 53 (0, 0)) (bf BK559.out)) : gb559 ≠ gb567)); have NB567_559 := Aside0.mk ((by rw [hg]; exact Nat.ne_of_gt (blk_lt (g := gb559) (o := .cells #[.int .i64 t555, .slice Ao79 t556.length co79] 53 (0, 0)) (bf BK559.out)) : gb567 ≠ gb559)); replace BK559 := Aside0.mk (bB BK559.out hb); have NB566_567 := Aside0.mk ((by rw [hg]; exact Nat.ne_of_lt (blk_lt (g := gb566) (o := .cells #[.int .i64 t561, .slice Ao86 t562.length co86] 53 (0, 0)) (by (with_reducible repeat (first | refine blk_drewN ?_ _ | refine blk_drew ?_ | refine blk_alloc ?_ _)); refine blk_put (cs := #[.int .i64 t561, .slice none 0 0]) ?_ 1 _ rfl; (with_reducible repeat (first | refine blk_drewN ?_ _ | refine blk_drew ?_ | refine blk_alloc ?_ _)); refine blk_put (cs := #[.int .i64 0, .slice none 0 0]) ?_ 0 _ rfl; (with_reducible repeat (first | refine blk_drewN ?_ _ | refine blk_drew ?_ | refine blk_alloc ?_ _)); exact BK566.out)) : gb566 ≠ gb567)); have NB567_566 := Aside0.mk ((by rw [hg]; exact Nat.ne_of_gt (blk_lt (g := gb566) (o := .cells #[.int .i64 t561, .slice Ao86 t562.length co86] 53 (0, 0)) (by (with_reducible repeat (first | refine blk_drewN ?_ _ | refine blk_drew ?_ | refine blk_alloc ?_ _)); refine blk_put (cs := #[.int .i64 t561, .slice none 0 0]) ?_ 1 _ rfl; (with_reducible repeat (first | refine blk_drewN ?_ _ | refine blk_drew ?_ | refine blk_alloc ?_ _)); refine blk_put (cs := #[.int .i64 0, .slice none 0 0]) ?_ 0 _ rfl; (with_reducible repeat (first | refine blk_drewN ?_ _ | refine blk_drew ?_ | refine blk_alloc ?_ _)); exact BK566.out)) : gb567 ≠ gb566)); replace BK566 := Aside0.mk (blk_below (g := gb566) (o := .cells #[.int .i64 t561, .slice Ao86 t562.length co86] 53 (0, 0)) (by (with_reducible repeat (first | refine blk_drewN ?_ _ | refine blk_drew ?_ | refine blk_alloc ?_ _)); refine blk_put (cs := #[.int .i64 t561, .slice none 0 0]) ?_ 1 _ rfl; (with_reducible repeat (first | refine blk_drewN ?_ _ | refine blk_drew ?_ | refine blk_alloc ?_ _)); refine blk_put (cs := #[.int .i64 0, .slice none 0 0]) ?_ 0 _ rfl; (with_reducible repeat (first | refine blk_drewN ?_ _ | refine blk_drew ?_ | refine blk_alloc ?_ _)); exact BK566.out) hb); clear hb hbox hg; have hnb89 := NB567_537.out; have hnc89 := NB537_567.out; have hnb90 := NB567_543.out; have hnc90 := NB543_567.out; have hnb91 := NB567_559.out; have hnc91 := NB559_567.out; have hnb92 := NB567_566.out; have hnc92 := NB566_567.out; obtain ⟨hcz93_0, hcz93_1⟩ := cl2 BK567.out; obtain ⟨hfz93_0, hfz93_1⟩ := fz2 BK567.out))
              (try simp only [Act.put, List.setIfInBounds_toArray, List.set_cons_zero, List.set_cons_succ])
              go_cut [98] (fun v98 wc => ∃ (kq : Nat) (x98_70 : Bool), v98 = .bool x98_70 ∧ Aside0 (fairwaylaw11_SegAdds.j4 kq x4_1 1 t565 x98_70 a0_0 l0_1 l0_2 l0_3 a0_4 x544000_1 x544001_1 t555 t556 t561 t562 0 = some r) ∧ Aside0 (kq ≤ kj36) ∧ Aside0 (Kd.R k25 25 wc w.heap.size (fun k_ => some k_ ≠ ((.slice Ao79 t556.length co79) : Value).ownBlock ∧ some k_ ≠ ((.slice Ao86 t562.length co86) : Value).ownBlock) (.slice Ao28 x544001_1.length co28) x544001_1) ∧ Aside0 (Kd.R k25 25 wc w.heap.size (fun k_ => some k_ ≠ ((.slice Ao28 x544001_1.length co28) : Value).ownBlock ∧ some k_ ≠ ((.slice Ao86 t562.length co86) : Value).ownBlock) (.slice Ao79 t556.length co79) t556) ∧ Aside0 (Kd.R k25 25 wc w.heap.size (fun k_ => some k_ ≠ ((.slice Ao28 x544001_1.length co28) : Value).ownBlock ∧ some k_ ≠ ((.slice Ao79 t556.length co79) : Value).ownBlock) (.slice Ao86 t562.length co86) t562) ∧ Aside0 (wc.heap[gb537]? = some (.cells #[.int .i64 a0_0, (.slice A0_1 l0_1.length c0_1), (.slice (some ad560) l0_2.length c0_2), (.slice A0_3 l0_3.length c0_3), .string a0_4] 55 (0, 0))) ∧ Aside0 (wc.heap[gb543]? = some (.cells #[.int .i64 x544000_1, (.slice Ao28 x544001_1.length co28)] 53 (0, 0))) ∧ Aside0 (wc.heap[gb559]? = some (.cells #[.int .i64 t555, (.slice Ao79 t556.length co79)] 53 (0, 0))) ∧ Aside0 (wc.heap[gb566]? = some (.cells #[.int .i64 t561, (.slice Ao86 t562.length co86)] 53 (0, 0))) ∧ Aside0 (wc.heap[gb567]? = some (.cells #[.int .i64 0, (.slice none 0 0)] 53 (0, 0))) ∧ Aside0 (Below w.heap.size w wc))
              case first =>
               have H := HC71.out
               clear HC71
               by_cases c94 : t545 = true
               ·subst c94
                have H1 : ((fairwayref10_With.f kj36 x544000_1 x544001_1 ((rd_T25 l0_2 x4_1).f0) ((rd_T25 l0_2 x4_1).f1) ((rd_T25 l0_2 x4_1).f2) ((rd_T25 l0_2 x4_1).f3) ((rd_T25 l0_2 x4_1).f4) ((rd_T25 l0_2 x4_1).f5)).bind fun bt569 => ((fairwayref10_Seg.f kj36 bt569.1 bt569.2).bind fun t573 => (fairwaylaw11_SegAdds.j4 kj36 x4_1 1 t565 t573 a0_0 l0_1 l0_2 l0_3 a0_4 x544000_1 x544001_1 t555 t556 t561 t562 0))) = some r := by rw [if_pos rfl] at H; exact H
                clear H
                have H := H1
                clear H1
                replace H := Option.bind_eq_some_iff.mp H
                obtain ⟨⟨t569, t570⟩, A950, H⟩ := H
                replace H : ((fairwayref10_Seg.f kj36 t569 t570).bind fun t573 => (fairwaylaw11_SegAdds.j4 kj36 x4_1 1 t565 t573 a0_0 l0_1 l0_2 l0_3 a0_4 x544000_1 x544001_1 t555 t556 t561 t562 0)) = some r := H
                have A95 := Aside0.mk A950
                clear A950
                replace H := Option.bind_eq_some_iff.mp H
                obtain ⟨t573, A960, H⟩ := H
                replace H : (fairwaylaw11_SegAdds.j4 kj36 x4_1 1 t565 t573 a0_0 l0_1 l0_2 l0_3 a0_4 x544000_1 x544001_1 t555 t556 t561 t562 0) = some r := H
                have A96 := Aside0.mk A960
                clear A960
                have H' := Aside0.mk H
                clear H
                try go_wp2
                (try (rw [drewN_self w88]; generalize hq_ : World.drewN w88 _ = w88; have n0_ := Aside0.mk (Kd.R_at hq_ HO_544001.out); have n1_ := Aside0.mk (Kd.R_at hq_ HO558.out); have n2_ := Aside0.mk (Kd.R_at hq_ HO564.out); have n3_ := Aside0.mk (blk_at hq_ BK537.out); have n4_ := Aside0.mk (blk_at hq_ BK543.out); have n5_ := Aside0.mk (blk_at hq_ BK559.out); have n6_ := Aside0.mk (blk_at hq_ BK566.out); have n7_ := Aside0.mk (blk_at hq_ BK567.out); have n8_ := Aside0.mk (below_at hq_ HB.out); clear hq_ HO_544001 HO558 HO564 BK537 BK543 BK559 BK566 BK567 HB; have HO_544001 := n0_; have HO558 := n1_; have HO564 := n2_; have BK537 := n3_; have BK543 := n4_; have BK559 := n5_; have BK566 := n6_; have BK567 := n7_; have HB := n8_; clear n0_ n1_ n2_ n3_ n4_ n5_ n6_ n7_ n8_))
                have n0_ : Aside0 (Kd.R k25 25 ((w88.setCell ⟨gb567, 0, none⟩ (.int .i64 0)).setCell ⟨gb567, 1, none⟩ (.slice none 0 0)) w.heap.size (fun k_ => some k_ ≠ (.slice Ao79 t556.length co79 : Value).ownBlock ∧ some k_ ≠ (.slice Ao86 t562.length co86 : Value).ownBlock) (.slice Ao28 x544001_1.length co28) x544001_1) := ⟨by (with_reducible repeat (first | apply Kd.R_alloc | apply Kd.R_drewN | apply Kd.R_drew)); exact Kd.R_mono (Kd.R_far (p := ⟨gb567, 1, none⟩) (Kd.R_far (p := ⟨gb567, 0, none⟩) (Kd.R_types HO_544001.out BK567.out (by decide)) (fun _ hk => hk.2) (.int .i64 0)) (fun _ hk => hk.2) (.slice none 0 0)) (fun _ hk => ⟨hk.1.1, hk.1.2⟩)⟩
                have n1_ : Aside0 (Kd.R k25 25 ((w88.setCell ⟨gb567, 0, none⟩ (.int .i64 0)).setCell ⟨gb567, 1, none⟩ (.slice none 0 0)) w.heap.size (fun k_ => some k_ ≠ (.slice Ao28 x544001_1.length co28 : Value).ownBlock ∧ some k_ ≠ (.slice Ao86 t562.length co86 : Value).ownBlock) (.slice Ao79 t556.length co79) t556) := ⟨by (with_reducible repeat (first | apply Kd.R_alloc | apply Kd.R_drewN | apply Kd.R_drew)); exact Kd.R_mono (Kd.R_far (p := ⟨gb567, 1, none⟩) (Kd.R_far (p := ⟨gb567, 0, none⟩) (Kd.R_types HO558.out BK567.out (by decide)) (fun _ hk => hk.2) (.int .i64 0)) (fun _ hk => hk.2) (.slice none 0 0)) (fun _ hk => ⟨hk.1.2, hk.1.1⟩)⟩
                have n2_ : Aside0 (Kd.R k25 25 ((w88.setCell ⟨gb567, 0, none⟩ (.int .i64 0)).setCell ⟨gb567, 1, none⟩ (.slice none 0 0)) w.heap.size (fun k_ => some k_ ≠ (.slice Ao28 x544001_1.length co28 : Value).ownBlock ∧ some k_ ≠ (.slice Ao79 t556.length co79 : Value).ownBlock) (.slice Ao86 t562.length co86) t562) := ⟨by (with_reducible repeat (first | apply Kd.R_alloc | apply Kd.R_drewN | apply Kd.R_drew)); exact Kd.R_mono (Kd.R_far (p := ⟨gb567, 1, none⟩) (Kd.R_far (p := ⟨gb567, 0, none⟩) (Kd.R_types HO564.out BK567.out (by decide)) (fun _ hk => hk.2) (.int .i64 0)) (fun _ hk => hk.2) (.slice none 0 0)) (fun _ hk => ⟨hk.1.2, hk.1.1⟩)⟩
                have n3_ : Aside0 (((w88.setCell ⟨gb567, 0, none⟩ (.int .i64 0)).setCell ⟨gb567, 1, none⟩ (.slice none 0 0)).heap[gb537]? = some (.cells #[.int .i64 a0_0, .slice A0_1 l0_1.length c0_1, .slice (some ad560) l0_2.length c0_2, .slice A0_3 l0_3.length c0_3, .string a0_4] 55 (0, 0))) := ⟨by (with_reducible repeat (first | refine blk_drewN ?_ _ | refine blk_drew ?_ | refine blk_alloc ?_ _)); refine blk_far ?_ NB537_567.out _; (with_reducible repeat (first | refine blk_drewN ?_ _ | refine blk_drew ?_ | refine blk_alloc ?_ _)); refine blk_far ?_ NB537_567.out _; (with_reducible repeat (first | refine blk_drewN ?_ _ | refine blk_drew ?_ | refine blk_alloc ?_ _)); exact BK537.out⟩
                have n4_ : Aside0 (((w88.setCell ⟨gb567, 0, none⟩ (.int .i64 0)).setCell ⟨gb567, 1, none⟩ (.slice none 0 0)).heap[gb543]? = some (.cells #[.int .i64 x544000_1, .slice Ao28 x544001_1.length co28] 53 (0, 0))) := ⟨by (with_reducible repeat (first | refine blk_drewN ?_ _ | refine blk_drew ?_ | refine blk_alloc ?_ _)); refine blk_far ?_ NB543_567.out _; (with_reducible repeat (first | refine blk_drewN ?_ _ | refine blk_drew ?_ | refine blk_alloc ?_ _)); refine blk_far ?_ NB543_567.out _; (with_reducible repeat (first | refine blk_drewN ?_ _ | refine blk_drew ?_ | refine blk_alloc ?_ _)); exact BK543.out⟩
                have n5_ : Aside0 (((w88.setCell ⟨gb567, 0, none⟩ (.int .i64 0)).setCell ⟨gb567, 1, none⟩ (.slice none 0 0)).heap[gb559]? = some (.cells #[.int .i64 t555, .slice Ao79 t556.length co79] 53 (0, 0))) := ⟨by (with_reducible repeat (first | refine blk_drewN ?_ _ | refine blk_drew ?_ | refine blk_alloc ?_ _)); refine blk_far ?_ NB559_567.out _; (with_reducible repeat (first | refine blk_drewN ?_ _ | refine blk_drew ?_ | refine blk_alloc ?_ _)); refine blk_far ?_ NB559_567.out _; (with_reducible repeat (first | refine blk_drewN ?_ _ | refine blk_drew ?_ | refine blk_alloc ?_ _)); exact BK559.out⟩
                have n6_ : Aside0 (((w88.setCell ⟨gb567, 0, none⟩ (.int .i64 0)).setCell ⟨gb567, 1, none⟩ (.slice none 0 0)).heap[gb566]? = some (.cells #[.int .i64 t561, .slice Ao86 t562.length co86] 53 (0, 0))) := ⟨by (with_reducible repeat (first | refine blk_drewN ?_ _ | refine blk_drew ?_ | refine blk_alloc ?_ _)); refine blk_far ?_ NB566_567.out _; (with_reducible repeat (first | refine blk_drewN ?_ _ | refine blk_drew ?_ | refine blk_alloc ?_ _)); refine blk_far ?_ NB566_567.out _; (with_reducible repeat (first | refine blk_drewN ?_ _ | refine blk_drew ?_ | refine blk_alloc ?_ _)); exact BK566.out⟩
                have n7_ : Aside0 (((w88.setCell ⟨gb567, 0, none⟩ (.int .i64 0)).setCell ⟨gb567, 1, none⟩ (.slice none 0 0)).heap[gb567]? = some (.cells #[.int .i64 0, .slice none 0 0] 53 (0, 0))) := ⟨by (with_reducible repeat (first | refine blk_drewN ?_ _ | refine blk_drew ?_ | refine blk_alloc ?_ _)); refine blk_put (cs := #[.int .i64 0, .slice none 0 0]) ?_ 1 _ rfl; (with_reducible repeat (first | refine blk_drewN ?_ _ | refine blk_drew ?_ | refine blk_alloc ?_ _)); refine blk_put (cs := #[.int .i64 0, .slice none 0 0]) ?_ 0 _ rfl; (with_reducible repeat (first | refine blk_drewN ?_ _ | refine blk_drew ?_ | refine blk_alloc ?_ _)); exact BK567.out⟩
                have n8_ : Aside0 (Below w.heap.size w ((w88.setCell ⟨gb567, 0, none⟩ (.int .i64 0)).setCell ⟨gb567, 1, none⟩ (.slice none 0 0))) := ⟨bo⟩
                (try clear HO_544001)
                (try clear HO558)
                (try clear HO564)
                (try clear BK537)
                (try clear BK543)
                (try clear BK559)
                (try clear BK566)
                (try clear BK567)
                (try clear HB)
                generalize ((w88.setCell ⟨gb567, 0, none⟩ (.int .i64 0)).setCell ⟨gb567, 1, none⟩ (.slice none 0 0)) = w97 at n0_ n1_ n2_ n3_ n4_ n5_ n6_ n7_ n8_ ⊢
                have HO_544001 := n0_
                have HO558 := n1_
                have HO564 := n2_
                have BK537 := n3_
                have BK543 := n4_
                have BK559 := n5_
                have BK566 := n6_
                have BK567 := n7_
                have HB := n8_
                clear n0_ n1_ n2_ n3_ n4_ n5_ n6_ n7_ n8_
                replace HO_544001 := Aside0.mk (Kd.R_drew HO_544001.out)
                replace HO558 := Aside0.mk (Kd.R_drew HO558.out)
                replace HO564 := Aside0.mk (Kd.R_drew HO564.out)
                replace BK537 := Aside0.mk (blk_drew BK537.out)
                replace BK543 := Aside0.mk (blk_drew BK543.out)
                replace BK559 := Aside0.mk (blk_drew BK559.out)
                replace BK566 := Aside0.mk (blk_drew BK566.out)
                replace BK567 := Aside0.mk (blk_drew BK567.out)
                replace HB := Aside0.mk (below_drew1 HB.out)
                have p568 : 0 ≤ (x4_1 : Int) := od
                have q568 : x4_1 < (l0_2.length : Int) := od
                obtain ⟨ad568, e568, hx568_0, hx568_1, hx568_2, hx568_3, hx568_4, hx568_5⟩ := at_T25 HR0_2.out x4_1 p568 q568
                have hw568_5 := hx568_5
                have hw568_4 := hx568_4
                have hw568_3 := hx568_3
                have hw568_2 := hx568_2
                have hw568_1 := hx568_1
                have hw568_0 := hx568_0
                obtain rfl : ad560 = ad568 := (by injection e568)
                replace hx568_0 := cx HB.out hx568_0
                replace hx568_1 := cx HB.out hx568_1
                replace hx568_2 := cx HB.out hx568_2
                replace hx568_3 := cx HB.out hx568_3
                replace hx568_4 := cx HB.out hx568_4
                replace hx568_5 := cx HB.out hx568_5
                replace p568 := eq_true p568
                replace q568 := eq_true q568
                refine start_ (n := 11) (S := fun w' => w'.cell? ⟨gb543, 0, none⟩ = some (.int .i64 x544000_1) ∧ w'.cell? ⟨gb543, 1, none⟩ = some (.slice Ao28 x544001_1.length co28) ∧ w'.cell? ⟨gb537, 0, none⟩ = some (.int .i64 a0_0) ∧ w'.cell? ⟨gb537, 1, none⟩ = some (.slice A0_1 l0_1.length c0_1) ∧ w'.cell? ⟨gb537, 2, none⟩ = some (.slice (some ad560) l0_2.length c0_2) ∧ w'.cell? ⟨gb537, 3, none⟩ = some (.slice A0_3 l0_3.length c0_3) ∧ w'.cell? ⟨gb537, 4, none⟩ = some (.string a0_4) ∧ w'.cell? (ad560.add ((x4_1).toNat * 6)) = some (.int .i64 ((rd_T25 l0_2 x4_1).f0)) ∧ w'.cell? ⟨(ad560.add ((x4_1).toNat * 6)).block, (ad560.add ((x4_1).toNat * 6)).off + 1, none⟩ = some (.int .i64 ((rd_T25 l0_2 x4_1).f1)) ∧ w'.cell? ⟨(ad560.add ((x4_1).toNat * 6)).block, (ad560.add ((x4_1).toNat * 6)).off + 2, none⟩ = some (.string ((rd_T25 l0_2 x4_1).f2)) ∧ w'.cell? ⟨(ad560.add ((x4_1).toNat * 6)).block, (ad560.add ((x4_1).toNat * 6)).off + 3, none⟩ = some (.string ((rd_T25 l0_2 x4_1).f3)) ∧ w'.cell? ⟨(ad560.add ((x4_1).toNat * 6)).block, (ad560.add ((x4_1).toNat * 6)).off + 4, none⟩ = some (.int .i64 ((rd_T25 l0_2 x4_1).f4)) ∧ w'.cell? ⟨(ad560.add ((x4_1).toNat * 6)).block, (ad560.add ((x4_1).toNat * 6)).off + 5, none⟩ = some (.bool ((rd_T25 l0_2 x4_1).f5))) (ds := []) #[O,O,O,O,O,O,O,O,O,O,O] (by kernel_rfl) rfl rfl ⟨(blk_cell BK543.out 0).trans rfl, (blk_cell BK543.out 1).trans rfl, (blk_cell BK537.out 0).trans rfl, (blk_cell BK537.out 1).trans rfl, (blk_cell BK537.out 2).trans rfl, (blk_cell BK537.out 3).trans rfl, (blk_cell BK537.out 4).trans rfl, (cx HB.out hw568_0), (cx HB.out hw568_1), (cx HB.out hw568_2), (cx HB.out hw568_3), (cx HB.out hw568_4), (cx HB.out hw568_5)⟩ (fun hHeld => ?_); refine with_tabW fairwaylaw11_SegAdds.tab18 fairwaylaw11_SegAdds.bits18 (fun HT_ HW_ => ?_)
                generalize w97.drew = w98 at HO_544001 HO558 HO564 BK537 BK543 BK559 BK566 BK567 HB hx568_0 hx568_1 hx568_2 hx568_3 hx568_4 hx568_5 hHeld ⊢
                refine pz (i := 0) (N := some 88) #[I,O,O,O,O,O,O,O,O,O,O] ?_
                refine pz (i := 1) (N := some 89) #[I,I,O,O,O,O,O,O,O,O,O] ?_
                refine pz (i := 3) (N := some 91) #[I,I,O,I,O,O,O,O,O,O,O] ?_
                refine pz (i := 5) (N := some 93) #[I,I,O,I,O,I,O,O,O,O,O] ?_
                refine tz (i := 2) (N := some 90) #[I,I,I,I,O,I,O,O,O,O,O] ?_
                refine tz (i := 4) (N := some 92) #[I,I,I,I,I,I,O,O,O,O,O] ?_
                refine pz (i := 6) (N := some 94) #[I,I,I,I,I,I,I,O,O,O,O] ?_
                refine tz (i := 7) (N := some 95) #[I,I,I,I,I,I,I,I,O,O,O] ?_
                refine one_ (i := 8) (N := some 96) #[I,I,I,I,I,I,I,I,I,O,O] rfl rfl (one_of HT_.out (by kernel_rfl)) (by decide) (fun K hK => ?_)
                refine goes_ Try.func48 (by kernel_rfl) rfl #[.agg #[.int .i64 x544000_1, .slice Ao28 x544001_1.length co28], .agg #[.int .i64 ((rd_T25 l0_2 x4_1).f0), .int .i64 ((rd_T25 l0_2 x4_1).f1), .string ((rd_T25 l0_2 x4_1).f2), .string ((rd_T25 l0_2 x4_1).f3), .int .i64 ((rd_T25 l0_2 x4_1).f4), .bool ((rd_T25 l0_2 x4_1).f5)]] (by rfl) rfl rfl aa ?_
                with_reducible refine (fairwayref10_With.calls kj36 x544000_1 _ _ x544001_1 ((rd_T25 l0_2 x4_1).f0) ((rd_T25 l0_2 x4_1).f1) ((rd_T25 l0_2 x4_1).f2) ((rd_T25 l0_2 x4_1).f3) ((rd_T25 l0_2 x4_1).f4) ((rd_T25 l0_2 x4_1).f5) t569 t570 _ ?side1 ?side2 A95.out).mono ?_
                (case side1 => repeat (first | exact (Kd.R_reads' HO_544001.out).2.2 | (with_reducible refine Kd.C_alloc ?_ _) | (with_reducible refine Kd.C_drewN ?_ _) | (with_reducible refine Kd.C_drew ?_)))
                (case side2 => exact (Kd.R_reads' HO_544001.out).2.1)
                rintro e w99 ⟨v571, rfl, ho0, hb⟩
                refine ⟨_, rfl, ?_⟩
                have HO572 := Aside0.mk (Kd.R_lower (Kd.R_new' (Kd.R_new' (Kd.R_new' ho0 (Kd.R_lt (rk HO_544001.out))) (Kd.R_lt (rk HO558.out))) (Kd.R_lt (rk HO564.out))) (below_size bo))
                replace HO_544001 := Aside0.mk (Kd.R_elder' (rk HO_544001.out) (Kd.R_base ho0) hb)
                replace HO558 := Aside0.mk (Kd.R_elder' (rk HO558.out) (Kd.R_base ho0) hb)
                replace HO564 := Aside0.mk (Kd.R_elder' (rk HO564.out) (Kd.R_base ho0) hb)
                replace BK537 := Aside0.mk (bb BK537.out hb)
                replace BK543 := Aside0.mk (bb BK543.out hb)
                replace BK559 := Aside0.mk (bb BK559.out hb)
                replace BK566 := Aside0.mk (bb BK566.out hb)
                replace BK567 := Aside0.mk (bb BK567.out hb)
                replace HB := Aside0.mk (below_step bo hb)
                (try clear hb)
                (try clear hb2)
                (try clear hk)
                (try clear hi)
                (try clear ho0)
                obtain ⟨Ao100, co100, eo100⟩ := Kd.R_slice HO572.out
                (first | subst eo100 | (injection eo100 with f1_ f2_ f3_; have f4_ := f1_.symm; have f5_ := f3_.symm; clear f1_ f2_ f3_; subst f4_; subst f5_))
                refine hK.out _ _ ⟨(blk_cell BK543.out 0).trans rfl, (blk_cell BK543.out 1).trans rfl, (blk_cell BK537.out 0).trans rfl, (blk_cell BK537.out 1).trans rfl, (blk_cell BK537.out 2).trans rfl, (blk_cell BK537.out 3).trans rfl, (blk_cell BK537.out 4).trans rfl, (cx HB.out hw568_0), (cx HB.out hw568_1), (cx HB.out hw568_2), (cx HB.out hw568_3), (cx HB.out hw568_4), (cx HB.out hw568_5)⟩ (fun hHeld => ?_)
                clear hK K
                refine norm_ (a' := ?_) ?_ ?_
                rotate_left
                ·show Act.put _ (some 96) _ = _
                 simp only [Act.put, List.setIfInBounds_toArray, List.set_cons_zero, List.set_cons_succ, i64_w, i32_w]
                 rfl
                refine one_ (i := 9) (N := some 97) #[I,I,I,I,I,I,I,I,I,I,O] rfl rfl (one_of HT_.out (by kernel_rfl)) (by decide) (fun K hK => ?_)
                refine goes_ Try.func31 (by kernel_rfl) rfl #[.agg #[.int .i64 t569, .slice Ao100 t570.length co100]] (by rfl) rfl rfl aa ?_
                with_reducible refine (fairwayref10_Seg.calls kj36 t569 _ _ t570 t573 _ ?side1 ?side2 A96.out).mono ?_
                (case side1 => repeat (first | exact (Kd.R_reads' HO572.out).2.2 | (with_reducible refine Kd.C_alloc ?_ _) | (with_reducible refine Kd.C_drewN ?_ _) | (with_reducible refine Kd.C_drew ?_)))
                (case side2 => exact (Kd.R_reads' HO572.out).2.1)
                rintro e w101 ⟨rfl, hb⟩
                refine ⟨_, rfl, ?_⟩
                replace HO_544001 := Aside0.mk (Kd.R_below (rk HO_544001.out) hb)
                replace HO558 := Aside0.mk (Kd.R_below (rk HO558.out) hb)
                replace HO564 := Aside0.mk (Kd.R_below (rk HO564.out) hb)
                replace HO572 := Aside0.mk (Kd.R_below (rk HO572.out) hb)
                replace BK537 := Aside0.mk (bb BK537.out hb)
                replace BK543 := Aside0.mk (bb BK543.out hb)
                replace BK559 := Aside0.mk (bb BK559.out hb)
                replace BK566 := Aside0.mk (bb BK566.out hb)
                replace BK567 := Aside0.mk (bb BK567.out hb)
                replace HB := Aside0.mk (below_step bo hb)
                (try clear hb)
                (try clear hb2)
                (try clear hk)
                (try clear hi)
                refine hK.out _ _ ⟨(blk_cell BK543.out 0).trans rfl, (blk_cell BK543.out 1).trans rfl, (blk_cell BK537.out 0).trans rfl, (blk_cell BK537.out 1).trans rfl, (blk_cell BK537.out 2).trans rfl, (blk_cell BK537.out 3).trans rfl, (blk_cell BK537.out 4).trans rfl, (cx HB.out hw568_0), (cx HB.out hw568_1), (cx HB.out hw568_2), (cx HB.out hw568_3), (cx HB.out hw568_4), (cx HB.out hw568_5)⟩ (fun hHeld => ?_)
                clear hK K
                refine norm_ (a' := ?_) ?_ ?_
                rotate_left
                ·show Act.put _ (some 97) _ = _
                 simp only [Act.put, List.setIfInBounds_toArray, List.set_cons_zero, List.set_cons_succ, i64_w, i32_w]
                 rfl
                refine pz (i := 10) (N := some 98) #[I,I,I,I,I,I,I,I,I,I,I] ?_
                refine done_ (done_of HT_.out (by kernel_rfl)) ?_
                try go_wp2
                go_meet
                case rel => exact ⟨_, (t573), ap, H', ⟨by have := HK1.out; have := HJ16.out; have := HJ24.out; have := HJ36.out; first | omega | exact Nat.le_refl _⟩, ⟨by (with_reducible repeat (first | apply Kd.R_alloc | apply Kd.R_drewN | apply Kd.R_drew)); exact Kd.R_mono HO_544001.out (fun _ hk => ⟨hk.1.1, hk.1.2⟩)⟩, ⟨by (with_reducible repeat (first | apply Kd.R_alloc | apply Kd.R_drewN | apply Kd.R_drew)); exact Kd.R_mono HO558.out (fun _ hk => ⟨hk.1.1, hk.1.2⟩)⟩, ⟨by (with_reducible repeat (first | apply Kd.R_alloc | apply Kd.R_drewN | apply Kd.R_drew)); exact Kd.R_mono HO564.out (fun _ hk => ⟨hk.1.1, hk.1.2⟩)⟩, ⟨by (with_reducible repeat (first | refine blk_drewN ?_ _ | refine blk_drew ?_ | refine blk_alloc ?_ _)); exact BK537.out⟩, ⟨by (with_reducible repeat (first | refine blk_drewN ?_ _ | refine blk_drew ?_ | refine blk_alloc ?_ _)); exact BK543.out⟩, ⟨by (with_reducible repeat (first | refine blk_drewN ?_ _ | refine blk_drew ?_ | refine blk_alloc ?_ _)); exact BK559.out⟩, ⟨by (with_reducible repeat (first | refine blk_drewN ?_ _ | refine blk_drew ?_ | refine blk_alloc ?_ _)); exact BK566.out⟩, ⟨by (with_reducible repeat (first | refine blk_drewN ?_ _ | refine blk_drew ?_ | refine blk_alloc ?_ _)); exact BK567.out⟩, ⟨bo⟩⟩
               ·replace c94 := Bool.eq_false_iff.mpr c94
                subst c94
                have H1 : (fairwaylaw11_SegAdds.j4 kj36 x4_1 1 t565 false a0_0 l0_1 l0_2 l0_3 a0_4 x544000_1 x544001_1 t555 t556 t561 t562 0) = some r := by rw [if_neg (show ¬ (false = true) by decide)] at H; exact H
                clear H
                have H := H1
                clear H1
                have H' := Aside0.mk H
                clear H
                try go_wp2
                (try (rw [drewN_self w88]; generalize hq_ : World.drewN w88 _ = w88; have n0_ := Aside0.mk (Kd.R_at hq_ HO_544001.out); have n1_ := Aside0.mk (Kd.R_at hq_ HO558.out); have n2_ := Aside0.mk (Kd.R_at hq_ HO564.out); have n3_ := Aside0.mk (blk_at hq_ BK537.out); have n4_ := Aside0.mk (blk_at hq_ BK543.out); have n5_ := Aside0.mk (blk_at hq_ BK559.out); have n6_ := Aside0.mk (blk_at hq_ BK566.out); have n7_ := Aside0.mk (blk_at hq_ BK567.out); have n8_ := Aside0.mk (below_at hq_ HB.out); clear hq_ HO_544001 HO558 HO564 BK537 BK543 BK559 BK566 BK567 HB; have HO_544001 := n0_; have HO558 := n1_; have HO564 := n2_; have BK537 := n3_; have BK543 := n4_; have BK559 := n5_; have BK566 := n6_; have BK567 := n7_; have HB := n8_; clear n0_ n1_ n2_ n3_ n4_ n5_ n6_ n7_ n8_))
                have n0_ : Aside0 (Kd.R k25 25 ((w88.setCell ⟨gb567, 0, none⟩ (.int .i64 0)).setCell ⟨gb567, 1, none⟩ (.slice none 0 0)) w.heap.size (fun k_ => some k_ ≠ (.slice Ao79 t556.length co79 : Value).ownBlock ∧ some k_ ≠ (.slice Ao86 t562.length co86 : Value).ownBlock) (.slice Ao28 x544001_1.length co28) x544001_1) := ⟨by (with_reducible repeat (first | apply Kd.R_alloc | apply Kd.R_drewN | apply Kd.R_drew)); exact Kd.R_mono (Kd.R_far (p := ⟨gb567, 1, none⟩) (Kd.R_far (p := ⟨gb567, 0, none⟩) (Kd.R_types HO_544001.out BK567.out (by decide)) (fun _ hk => hk.2) (.int .i64 0)) (fun _ hk => hk.2) (.slice none 0 0)) (fun _ hk => ⟨hk.1.1, hk.1.2⟩)⟩
                have n1_ : Aside0 (Kd.R k25 25 ((w88.setCell ⟨gb567, 0, none⟩ (.int .i64 0)).setCell ⟨gb567, 1, none⟩ (.slice none 0 0)) w.heap.size (fun k_ => some k_ ≠ (.slice Ao28 x544001_1.length co28 : Value).ownBlock ∧ some k_ ≠ (.slice Ao86 t562.length co86 : Value).ownBlock) (.slice Ao79 t556.length co79) t556) := ⟨by (with_reducible repeat (first | apply Kd.R_alloc | apply Kd.R_drewN | apply Kd.R_drew)); exact Kd.R_mono (Kd.R_far (p := ⟨gb567, 1, none⟩) (Kd.R_far (p := ⟨gb567, 0, none⟩) (Kd.R_types HO558.out BK567.out (by decide)) (fun _ hk => hk.2) (.int .i64 0)) (fun _ hk => hk.2) (.slice none 0 0)) (fun _ hk => ⟨hk.1.2, hk.1.1⟩)⟩
                have n2_ : Aside0 (Kd.R k25 25 ((w88.setCell ⟨gb567, 0, none⟩ (.int .i64 0)).setCell ⟨gb567, 1, none⟩ (.slice none 0 0)) w.heap.size (fun k_ => some k_ ≠ (.slice Ao28 x544001_1.length co28 : Value).ownBlock ∧ some k_ ≠ (.slice Ao79 t556.length co79 : Value).ownBlock) (.slice Ao86 t562.length co86) t562) := ⟨by (with_reducible repeat (first | apply Kd.R_alloc | apply Kd.R_drewN | apply Kd.R_drew)); exact Kd.R_mono (Kd.R_far (p := ⟨gb567, 1, none⟩) (Kd.R_far (p := ⟨gb567, 0, none⟩) (Kd.R_types HO564.out BK567.out (by decide)) (fun _ hk => hk.2) (.int .i64 0)) (fun _ hk => hk.2) (.slice none 0 0)) (fun _ hk => ⟨hk.1.2, hk.1.1⟩)⟩
                have n3_ : Aside0 (((w88.setCell ⟨gb567, 0, none⟩ (.int .i64 0)).setCell ⟨gb567, 1, none⟩ (.slice none 0 0)).heap[gb537]? = some (.cells #[.int .i64 a0_0, .slice A0_1 l0_1.length c0_1, .slice (some ad560) l0_2.length c0_2, .slice A0_3 l0_3.length c0_3, .string a0_4] 55 (0, 0))) := ⟨by (with_reducible repeat (first | refine blk_drewN ?_ _ | refine blk_drew ?_ | refine blk_alloc ?_ _)); refine blk_far ?_ NB537_567.out _; (with_reducible repeat (first | refine blk_drewN ?_ _ | refine blk_drew ?_ | refine blk_alloc ?_ _)); refine blk_far ?_ NB537_567.out _; (with_reducible repeat (first | refine blk_drewN ?_ _ | refine blk_drew ?_ | refine blk_alloc ?_ _)); exact BK537.out⟩
                have n4_ : Aside0 (((w88.setCell ⟨gb567, 0, none⟩ (.int .i64 0)).setCell ⟨gb567, 1, none⟩ (.slice none 0 0)).heap[gb543]? = some (.cells #[.int .i64 x544000_1, .slice Ao28 x544001_1.length co28] 53 (0, 0))) := ⟨by (with_reducible repeat (first | refine blk_drewN ?_ _ | refine blk_drew ?_ | refine blk_alloc ?_ _)); refine blk_far ?_ NB543_567.out _; (with_reducible repeat (first | refine blk_drewN ?_ _ | refine blk_drew ?_ | refine blk_alloc ?_ _)); refine blk_far ?_ NB543_567.out _; (with_reducible repeat (first | refine blk_drewN ?_ _ | refine blk_drew ?_ | refine blk_alloc ?_ _)); exact BK543.out⟩
                have n5_ : Aside0 (((w88.setCell ⟨gb567, 0, none⟩ (.int .i64 0)).setCell ⟨gb567, 1, none⟩ (.slice none 0 0)).heap[gb559]? = some (.cells #[.int .i64 t555, .slice Ao79 t556.length co79] 53 (0, 0))) := ⟨by (with_reducible repeat (first | refine blk_drewN ?_ _ | refine blk_drew ?_ | refine blk_alloc ?_ _)); refine blk_far ?_ NB559_567.out _; (with_reducible repeat (first | refine blk_drewN ?_ _ | refine blk_drew ?_ | refine blk_alloc ?_ _)); refine blk_far ?_ NB559_567.out _; (with_reducible repeat (first | refine blk_drewN ?_ _ | refine blk_drew ?_ | refine blk_alloc ?_ _)); exact BK559.out⟩
                have n6_ : Aside0 (((w88.setCell ⟨gb567, 0, none⟩ (.int .i64 0)).setCell ⟨gb567, 1, none⟩ (.slice none 0 0)).heap[gb566]? = some (.cells #[.int .i64 t561, .slice Ao86 t562.length co86] 53 (0, 0))) := ⟨by (with_reducible repeat (first | refine blk_drewN ?_ _ | refine blk_drew ?_ | refine blk_alloc ?_ _)); refine blk_far ?_ NB566_567.out _; (with_reducible repeat (first | refine blk_drewN ?_ _ | refine blk_drew ?_ | refine blk_alloc ?_ _)); refine blk_far ?_ NB566_567.out _; (with_reducible repeat (first | refine blk_drewN ?_ _ | refine blk_drew ?_ | refine blk_alloc ?_ _)); exact BK566.out⟩
                have n7_ : Aside0 (((w88.setCell ⟨gb567, 0, none⟩ (.int .i64 0)).setCell ⟨gb567, 1, none⟩ (.slice none 0 0)).heap[gb567]? = some (.cells #[.int .i64 0, .slice none 0 0] 53 (0, 0))) := ⟨by (with_reducible repeat (first | refine blk_drewN ?_ _ | refine blk_drew ?_ | refine blk_alloc ?_ _)); refine blk_put (cs := #[.int .i64 0, .slice none 0 0]) ?_ 1 _ rfl; (with_reducible repeat (first | refine blk_drewN ?_ _ | refine blk_drew ?_ | refine blk_alloc ?_ _)); refine blk_put (cs := #[.int .i64 0, .slice none 0 0]) ?_ 0 _ rfl; (with_reducible repeat (first | refine blk_drewN ?_ _ | refine blk_drew ?_ | refine blk_alloc ?_ _)); exact BK567.out⟩
                have n8_ : Aside0 (Below w.heap.size w ((w88.setCell ⟨gb567, 0, none⟩ (.int .i64 0)).setCell ⟨gb567, 1, none⟩ (.slice none 0 0))) := ⟨bo⟩
                (try clear HO_544001)
                (try clear HO558)
                (try clear HO564)
                (try clear BK537)
                (try clear BK543)
                (try clear BK559)
                (try clear BK566)
                (try clear BK567)
                (try clear HB)
                generalize ((w88.setCell ⟨gb567, 0, none⟩ (.int .i64 0)).setCell ⟨gb567, 1, none⟩ (.slice none 0 0)) = w102 at n0_ n1_ n2_ n3_ n4_ n5_ n6_ n7_ n8_ ⊢
                have HO_544001 := n0_
                have HO558 := n1_
                have HO564 := n2_
                have BK537 := n3_
                have BK543 := n4_
                have BK559 := n5_
                have BK566 := n6_
                have BK567 := n7_
                have HB := n8_
                clear n0_ n1_ n2_ n3_ n4_ n5_ n6_ n7_ n8_
                replace HO_544001 := Aside0.mk (Kd.R_drew HO_544001.out)
                replace HO558 := Aside0.mk (Kd.R_drew HO558.out)
                replace HO564 := Aside0.mk (Kd.R_drew HO564.out)
                replace BK537 := Aside0.mk (blk_drew BK537.out)
                replace BK543 := Aside0.mk (blk_drew BK543.out)
                replace BK559 := Aside0.mk (blk_drew BK559.out)
                replace BK566 := Aside0.mk (blk_drew BK566.out)
                replace BK567 := Aside0.mk (blk_drew BK567.out)
                replace HB := Aside0.mk (below_drew1 HB.out)
                refine start_ (n := 11) (S := fun w' => True) (ds := []) #[O,O,O,O,O,O,O,O,O,O,O] (by kernel_rfl) rfl rfl trivial (fun hHeld => ?_); refine with_tabW fairwaylaw11_SegAdds.tab18 fairwaylaw11_SegAdds.bits18 (fun HT_ HW_ => ?_)
                generalize w102.drew = w103 at HO_544001 HO558 HO564 BK537 BK543 BK559 BK566 BK567 HB hHeld ⊢
                refine pz (i := 0) (N := some 88) #[I,O,O,O,O,O,O,O,O,O,O] ?_
                refine pz (i := 1) (N := some 89) #[I,I,O,O,O,O,O,O,O,O,O] ?_
                refine pu (i := 2) (N := some 90) #[I,I,I,O,O,O,O,O,O,O,O] ?_
                refine pu (i := 3) (N := some 91) #[I,I,I,I,O,O,O,O,O,O,O] ?_
                refine pu (i := 4) (N := some 92) #[I,I,I,I,I,O,O,O,O,O,O] ?_
                refine pu (i := 5) (N := some 93) #[I,I,I,I,I,I,O,O,O,O,O] ?_
                refine pu (i := 6) (N := some 94) #[I,I,I,I,I,I,I,O,O,O,O] ?_
                refine pu (i := 7) (N := some 95) #[I,I,I,I,I,I,I,I,O,O,O] ?_
                refine pu (i := 8) (N := some 96) #[I,I,I,I,I,I,I,I,I,O,O] ?_
                refine pu (i := 9) (N := some 97) #[I,I,I,I,I,I,I,I,I,I,O] ?_
                refine pz (i := 10) (N := some 98) #[I,I,I,I,I,I,I,I,I,I,I] ?_
                refine done_ (done_of HT_.out (by kernel_rfl)) ?_
                try go_wp2
                go_meet
                case rel => exact ⟨_, (false), ap, H', ⟨by have := HK1.out; have := HJ16.out; have := HJ24.out; have := HJ36.out; first | omega | exact Nat.le_refl _⟩, ⟨by (with_reducible repeat (first | apply Kd.R_alloc | apply Kd.R_drewN | apply Kd.R_drew)); exact HO_544001.out⟩, ⟨by (with_reducible repeat (first | apply Kd.R_alloc | apply Kd.R_drewN | apply Kd.R_drew)); exact HO558.out⟩, ⟨by (with_reducible repeat (first | apply Kd.R_alloc | apply Kd.R_drewN | apply Kd.R_drew)); exact HO564.out⟩, ⟨by (with_reducible repeat (first | refine blk_drewN ?_ _ | refine blk_drew ?_ | refine blk_alloc ?_ _)); exact BK537.out⟩, ⟨by (with_reducible repeat (first | refine blk_drewN ?_ _ | refine blk_drew ?_ | refine blk_alloc ?_ _)); exact BK543.out⟩, ⟨by (with_reducible repeat (first | refine blk_drewN ?_ _ | refine blk_drew ?_ | refine blk_alloc ?_ _)); exact BK559.out⟩, ⟨by (with_reducible repeat (first | refine blk_drewN ?_ _ | refine blk_drew ?_ | refine blk_alloc ?_ _)); exact BK566.out⟩, ⟨by (with_reducible repeat (first | refine blk_drewN ?_ _ | refine blk_drew ?_ | refine blk_alloc ?_ _)); exact BK567.out⟩, ⟨bo⟩⟩
              case rest =>
               clear HC71
               try clear p2
               try clear c3
               try clear c4
               try clear p5
               try clear q5
               try clear hx5
               try clear c8
               try clear c9
               try clear c31
               try clear c47
               try clear c48
               try clear p56
               try clear q56
               try clear hx56
               try clear c89
               try clear c90
               try clear c91
               try clear c92
               try clear c94
               try clear hcz93_0
               try clear hcz93_1
               try clear hfz93_0
               try clear hfz93_1
               try clear hx568_0
               try clear hx568_1
               try clear hx568_2
               try clear hx568_3
               try clear hx568_4
               try clear hx568_5
               try clear p568
               try clear q568
               obtain ⟨kq, x98_70, rfl, HA, HJ70, HO_544001, HO_560001, HO_567001, BK537, BK543, BK559, BK566, BK567, HB⟩ := hcut
               cases kq with
               | zero => exact absurd HA.out (by simp [fairwaylaw11_SegAdds.j4])
               | succ kj70 =>
                have H := HA.out
                clear HA
                simp only [fairwaylaw11_SegAdds.j4] at H
                have HC104 := Aside0.mk H
                clear H
                go_upto_if 98 with (fail)
                go_cut [6] (fun v6 wc => ∃ (kq : Nat) (x6_103 : Int) (x568000_103 : Int) (x568001_103 : List (S25)) (u568001 : Value), v6 = .int .i64 x6_103 ∧ Aside0 (fairwaylaw11_SegAdds.j5 kq x4_1 x6_103 t565 a0_0 l0_1 l0_2 l0_3 a0_4 x544000_1 x544001_1 t555 t556 t561 t562 x568000_103 x568001_103 = some r) ∧ Aside0 (kq ≤ kj70) ∧ Aside0 (Kd.R k25 25 wc w.heap.size (fun k_ => some k_ ≠ ((.slice Ao79 t556.length co79) : Value).ownBlock ∧ some k_ ≠ ((.slice Ao86 t562.length co86) : Value).ownBlock ∧ some k_ ≠ (u568001 : Value).ownBlock) (.slice Ao28 x544001_1.length co28) x544001_1) ∧ Aside0 (Kd.R k25 25 wc w.heap.size (fun k_ => some k_ ≠ ((.slice Ao28 x544001_1.length co28) : Value).ownBlock ∧ some k_ ≠ ((.slice Ao86 t562.length co86) : Value).ownBlock ∧ some k_ ≠ (u568001 : Value).ownBlock) (.slice Ao79 t556.length co79) t556) ∧ Aside0 (Kd.R k25 25 wc w.heap.size (fun k_ => some k_ ≠ ((.slice Ao28 x544001_1.length co28) : Value).ownBlock ∧ some k_ ≠ ((.slice Ao79 t556.length co79) : Value).ownBlock ∧ some k_ ≠ (u568001 : Value).ownBlock) (.slice Ao86 t562.length co86) t562) ∧ Aside0 (Kd.R k25 25 wc w.heap.size (fun k_ => some k_ ≠ ((.slice Ao28 x544001_1.length co28) : Value).ownBlock ∧ some k_ ≠ ((.slice Ao79 t556.length co79) : Value).ownBlock ∧ some k_ ≠ ((.slice Ao86 t562.length co86) : Value).ownBlock) u568001 x568001_103) ∧ Aside0 (wc.heap[gb537]? = some (.cells #[.int .i64 a0_0, (.slice A0_1 l0_1.length c0_1), (.slice (some ad560) l0_2.length c0_2), (.slice A0_3 l0_3.length c0_3), .string a0_4] 55 (0, 0))) ∧ Aside0 (wc.heap[gb543]? = some (.cells #[.int .i64 x544000_1, (.slice Ao28 x544001_1.length co28)] 53 (0, 0))) ∧ Aside0 (wc.heap[gb559]? = some (.cells #[.int .i64 t555, (.slice Ao79 t556.length co79)] 53 (0, 0))) ∧ Aside0 (wc.heap[gb566]? = some (.cells #[.int .i64 t561, (.slice Ao86 t562.length co86)] 53 (0, 0))) ∧ Aside0 (wc.heap[gb567]? = some (.cells #[.int .i64 x568000_103, u568001] 53 (0, 0))) ∧ Aside0 (Below w.heap.size w wc))
                case first =>
                 have H := HC104.out
                 clear HC104
                 by_cases c105 : x98_70 = true
                 ·subst c105
                  have H1 : (if 0 ≤ x4_1 then (if x4_1 < (l0_2.length : Int) then ((fairwayref10_With.f kj70 x544000_1 x544001_1 ((rd_T25 l0_2 x4_1).f0) ((rd_T25 l0_2 x4_1).f1) ((rd_T25 l0_2 x4_1).f2) ((rd_T25 l0_2 x4_1).f3) ((rd_T25 l0_2 x4_1).f4) ((rd_T25 l0_2 x4_1).f5)).bind fun bt575 => (fairwaylaw11_SegAdds.j5 kj70 x4_1 0 t565 a0_0 l0_1 l0_2 l0_3 a0_4 x544000_1 x544001_1 t555 t556 t561 t562 bt575.1 bt575.2)) else (none)) else (none)) = some r := by rw [if_pos rfl] at H; exact H
                  clear H
                  have H := H1
                  clear H1
                  by_cases c106 : 0 ≤ x4_1
                  ·rw [if_pos c106] at H
                   have c106b0 : decide (0 ≤ x4_1) = true := decide_eq_true c106
                   clear c106
                   (first | rw [c106b0] | (simp only [i64_w, i32_w]; rw [c106b0]) | skip)
                   by_cases c107 : x4_1 < (l0_2.length : Int)
                   ·rw [if_pos c107] at H
                    have c107b0 : decide (x4_1 < (l0_2.length : Int)) = true := decide_eq_true c107
                    clear c107
                    replace H := Option.bind_eq_some_iff.mp H
                    obtain ⟨⟨t575, t576⟩, A1080, H⟩ := H
                    replace H : (fairwaylaw11_SegAdds.j5 kj70 x4_1 0 t565 a0_0 l0_1 l0_2 l0_3 a0_4 x544000_1 x544001_1 t555 t556 t561 t562 t575 t576) = some r := H
                    have A108 := Aside0.mk A1080
                    clear A1080
                    have H' := Aside0.mk H
                    clear H
                    try go_wp2
                    replace HO_544001 := Aside0.mk (Kd.R_drew HO_544001.out)
                    replace HO_560001 := Aside0.mk (Kd.R_drew HO_560001.out)
                    replace HO_567001 := Aside0.mk (Kd.R_drew HO_567001.out)
                    replace BK537 := Aside0.mk (blk_drew BK537.out)
                    replace BK543 := Aside0.mk (blk_drew BK543.out)
                    replace BK559 := Aside0.mk (blk_drew BK559.out)
                    replace BK566 := Aside0.mk (blk_drew BK566.out)
                    replace BK567 := Aside0.mk (blk_drew BK567.out)
                    replace HB := Aside0.mk (below_drew1 HB.out)
                    have p574 : 0 ≤ (x4_1 : Int) := od
                    have q574 : x4_1 < (l0_2.length : Int) := od
                    obtain ⟨ad574, e574, hx574_0, hx574_1, hx574_2, hx574_3, hx574_4, hx574_5⟩ := at_T25 HR0_2.out x4_1 p574 q574
                    have hw574_5 := hx574_5
                    have hw574_4 := hx574_4
                    have hw574_3 := hx574_3
                    have hw574_2 := hx574_2
                    have hw574_1 := hx574_1
                    have hw574_0 := hx574_0
                    obtain rfl : ad560 = ad574 := (by injection e574)
                    replace hx574_0 := cx HB.out hx574_0
                    replace hx574_1 := cx HB.out hx574_1
                    replace hx574_2 := cx HB.out hx574_2
                    replace hx574_3 := cx HB.out hx574_3
                    replace hx574_4 := cx HB.out hx574_4
                    replace hx574_5 := cx HB.out hx574_5
                    replace p574 := eq_true p574
                    replace q574 := eq_true q574
                    refine start_ (n := 9) (S := fun w' => w'.cell? ⟨gb543, 0, none⟩ = some (.int .i64 x544000_1) ∧ w'.cell? ⟨gb543, 1, none⟩ = some (.slice Ao28 x544001_1.length co28) ∧ w'.cell? ⟨gb537, 0, none⟩ = some (.int .i64 a0_0) ∧ w'.cell? ⟨gb537, 1, none⟩ = some (.slice A0_1 l0_1.length c0_1) ∧ w'.cell? ⟨gb537, 2, none⟩ = some (.slice (some ad560) l0_2.length c0_2) ∧ w'.cell? ⟨gb537, 3, none⟩ = some (.slice A0_3 l0_3.length c0_3) ∧ w'.cell? ⟨gb537, 4, none⟩ = some (.string a0_4) ∧ w'.cell? (ad560.add ((x4_1).toNat * 6)) = some (.int .i64 ((rd_T25 l0_2 x4_1).f0)) ∧ w'.cell? ⟨(ad560.add ((x4_1).toNat * 6)).block, (ad560.add ((x4_1).toNat * 6)).off + 1, none⟩ = some (.int .i64 ((rd_T25 l0_2 x4_1).f1)) ∧ w'.cell? ⟨(ad560.add ((x4_1).toNat * 6)).block, (ad560.add ((x4_1).toNat * 6)).off + 2, none⟩ = some (.string ((rd_T25 l0_2 x4_1).f2)) ∧ w'.cell? ⟨(ad560.add ((x4_1).toNat * 6)).block, (ad560.add ((x4_1).toNat * 6)).off + 3, none⟩ = some (.string ((rd_T25 l0_2 x4_1).f3)) ∧ w'.cell? ⟨(ad560.add ((x4_1).toNat * 6)).block, (ad560.add ((x4_1).toNat * 6)).off + 4, none⟩ = some (.int .i64 ((rd_T25 l0_2 x4_1).f4)) ∧ w'.cell? ⟨(ad560.add ((x4_1).toNat * 6)).block, (ad560.add ((x4_1).toNat * 6)).off + 5, none⟩ = some (.bool ((rd_T25 l0_2 x4_1).f5))) (ds := []) #[O,O,O,O,O,O,O,O,O] (by kernel_rfl) rfl rfl ⟨(blk_cell BK543.out 0).trans rfl, (blk_cell BK543.out 1).trans rfl, (blk_cell BK537.out 0).trans rfl, (blk_cell BK537.out 1).trans rfl, (blk_cell BK537.out 2).trans rfl, (blk_cell BK537.out 3).trans rfl, (blk_cell BK537.out 4).trans rfl, (cx HB.out hw574_0), (cx HB.out hw574_1), (cx HB.out hw574_2), (cx HB.out hw574_3), (cx HB.out hw574_4), (cx HB.out hw574_5)⟩ (fun hHeld => ?_); refine with_tabW fairwaylaw11_SegAdds.tab19 fairwaylaw11_SegAdds.bits19 (fun HT_ HW_ => ?_)
                    generalize wc.drew = w109 at HO_544001 HO_560001 HO_567001 BK537 BK543 BK559 BK566 BK567 HB hx574_0 hx574_1 hx574_2 hx574_3 hx574_4 hx574_5 hHeld ⊢
                    refine pz (i := 1) (N := some 100) #[O,I,O,O,O,O,O,O,O] ?_
                    refine pz (i := 3) (N := some 102) #[O,I,O,I,O,O,O,O,O] ?_
                    refine tz (i := 0) (N := some 99) #[I,I,O,I,O,O,O,O,O] ?_
                    refine tz (i := 2) (N := some 101) #[I,I,I,I,O,O,O,O,O] ?_
                    refine pz (i := 4) (N := some 103) #[I,I,I,I,I,O,O,O,O] ?_
                    refine tz (i := 5) (N := some 104) #[I,I,I,I,I,I,O,O,O] ?_
                    refine one_ (i := 6) (N := some 105) #[I,I,I,I,I,I,I,O,O] rfl rfl (one_of HT_.out (by kernel_rfl)) (by decide) (fun K hK => ?_)
                    refine goes_ Try.func48 (by kernel_rfl) rfl #[.agg #[.int .i64 x544000_1, .slice Ao28 x544001_1.length co28], .agg #[.int .i64 ((rd_T25 l0_2 x4_1).f0), .int .i64 ((rd_T25 l0_2 x4_1).f1), .string ((rd_T25 l0_2 x4_1).f2), .string ((rd_T25 l0_2 x4_1).f3), .int .i64 ((rd_T25 l0_2 x4_1).f4), .bool ((rd_T25 l0_2 x4_1).f5)]] (by rfl) rfl rfl aa ?_
                    with_reducible refine (fairwayref10_With.calls kj70 x544000_1 _ _ x544001_1 ((rd_T25 l0_2 x4_1).f0) ((rd_T25 l0_2 x4_1).f1) ((rd_T25 l0_2 x4_1).f2) ((rd_T25 l0_2 x4_1).f3) ((rd_T25 l0_2 x4_1).f4) ((rd_T25 l0_2 x4_1).f5) t575 t576 _ ?side1 ?side2 A108.out).mono ?_
                    (case side1 => repeat (first | exact (Kd.R_reads' HO_544001.out).2.2 | (with_reducible refine Kd.C_alloc ?_ _) | (with_reducible refine Kd.C_drewN ?_ _) | (with_reducible refine Kd.C_drew ?_)))
                    (case side2 => exact (Kd.R_reads' HO_544001.out).2.1)
                    rintro e w110 ⟨v577, rfl, ho0, hb⟩
                    refine ⟨_, rfl, ?_⟩
                    have HO578 := Aside0.mk (Kd.R_lower (Kd.R_new' (Kd.R_new' (Kd.R_new' ho0 (Kd.R_lt (rk HO_544001.out))) (Kd.R_lt (rk HO_560001.out))) (Kd.R_lt (rk HO_567001.out))) (below_size bo))
                    replace HO_544001 := Aside0.mk (Kd.R_elder' (rk HO_544001.out) (Kd.R_base ho0) hb)
                    replace HO_560001 := Aside0.mk (Kd.R_elder' (rk HO_560001.out) (Kd.R_base ho0) hb)
                    replace HO_567001 := Aside0.mk (Kd.R_elder' (rk HO_567001.out) (Kd.R_base ho0) hb)
                    replace BK537 := Aside0.mk (bb BK537.out hb)
                    replace BK543 := Aside0.mk (bb BK543.out hb)
                    replace BK559 := Aside0.mk (bb BK559.out hb)
                    replace BK566 := Aside0.mk (bb BK566.out hb)
                    replace BK567 := Aside0.mk (bb BK567.out hb)
                    replace HB := Aside0.mk (below_step bo hb)
                    (try clear hb)
                    (try clear hb2)
                    (try clear hk)
                    (try clear hi)
                    (try clear ho0)
                    obtain ⟨Ao112, co112, eo112⟩ := Kd.R_slice HO578.out
                    (first | subst eo112 | (injection eo112 with f1_ f2_ f3_; have f4_ := f1_.symm; have f5_ := f3_.symm; clear f1_ f2_ f3_; subst f4_; subst f5_))
                    refine hK.out _ _ ⟨(blk_cell BK543.out 0).trans rfl, (blk_cell BK543.out 1).trans rfl, (blk_cell BK537.out 0).trans rfl, (blk_cell BK537.out 1).trans rfl, (blk_cell BK537.out 2).trans rfl, (blk_cell BK537.out 3).trans rfl, (blk_cell BK537.out 4).trans rfl, (cx HB.out hw574_0), (cx HB.out hw574_1), (cx HB.out hw574_2), (cx HB.out hw574_3), (cx HB.out hw574_4), (cx HB.out hw574_5)⟩ (fun hHeld => ?_)
                    clear hK K
                    refine norm_ (a' := ?_) ?_ ?_
                    rotate_left
                    ·show Act.put _ (some 105) _ = _
                     simp only [Act.put, List.setIfInBounds_toArray, List.set_cons_zero, List.set_cons_succ, i64_w, i32_w]
                     rfl
                    refine pz (i := 7) (N := some 6) #[I,I,I,I,I,I,I,I,O] ?_
                    refine one_ (i := 8) (N := none) #[I,I,I,I,I,I,I,I,I] rfl rfl (one_of HT_.out (by kernel_rfl)) (by decide) (fun K hK => ?_)
                    have hs111 : w110.cell? ⟨gb567, 0, none⟩ = some (.int .i64 0) := (blk_cell BK567.out 0).trans rfl
                    have hfs111 := blk_frozen BK567.out 0
                    have hns111_0 := NB537_567.out
                    have hns111_1 := NB543_567.out
                    have hns111_2 := NB559_567.out
                    have hns111_3 := NB566_567.out
                    have hms111_0 := NB567_537.out
                    have hms111_1 := NB567_543.out
                    have hms111_2 := NB567_559.out
                    have hms111_3 := NB567_566.out
                    have hs113 : w110.cell? ⟨gb567, 1, none⟩ = some (.slice none 0 0) := (blk_cell BK567.out 1).trans rfl
                    have hfs113 := blk_frozen BK567.out 1
                    have hns113_0 := NB537_567.out
                    have hns113_1 := NB543_567.out
                    have hns113_2 := NB559_567.out
                    have hns113_3 := NB566_567.out
                    have hms113_0 := NB567_537.out
                    have hms113_1 := NB567_543.out
                    have hms113_2 := NB567_559.out
                    have hms113_3 := NB567_566.out
                    refine skip_ (w1 := ?_) (by rfl) rfl ?_ ?_
                    rotate_left
                    ·go_simp
                     rfl
                    refine hK.out _ _ ⟨((cell_far (p := ⟨gb567, _, none⟩) NB543_567.out _).trans (((cell_far (p := ⟨gb567, _, none⟩) NB543_567.out _).trans (hHeld.1)))), ((cell_far (p := ⟨gb567, _, none⟩) NB543_567.out _).trans (((cell_far (p := ⟨gb567, _, none⟩) NB543_567.out _).trans (hHeld.2.1)))), ((cell_far (p := ⟨gb567, _, none⟩) NB537_567.out _).trans (((cell_far (p := ⟨gb567, _, none⟩) NB537_567.out _).trans (hHeld.2.2.1)))), ((cell_far (p := ⟨gb567, _, none⟩) NB537_567.out _).trans (((cell_far (p := ⟨gb567, _, none⟩) NB537_567.out _).trans (hHeld.2.2.2.1)))), ((cell_far (p := ⟨gb567, _, none⟩) NB537_567.out _).trans (((cell_far (p := ⟨gb567, _, none⟩) NB537_567.out _).trans (hHeld.2.2.2.2.1)))), ((cell_far (p := ⟨gb567, _, none⟩) NB537_567.out _).trans (((cell_far (p := ⟨gb567, _, none⟩) NB537_567.out _).trans (hHeld.2.2.2.2.2.1)))), ((cell_far (p := ⟨gb567, _, none⟩) NB537_567.out _).trans (((cell_far (p := ⟨gb567, _, none⟩) NB537_567.out _).trans (hHeld.2.2.2.2.2.2.1)))), ((cell_far (p := ⟨gb567, _, none⟩) (by first | exact Nat.ne_of_lt (Nat.lt_of_lt_of_le (by have := World.block_lt_of_cell? _ _ hw574_0; first | rwa [add_block] at this | exact this) GW567.out) | (rw [add_block]; exact Nat.ne_of_lt (Nat.lt_of_lt_of_le (by have := World.block_lt_of_cell? _ _ hw574_0; first | rwa [add_block] at this | exact this) GW567.out)) | (show (Addr.add _ _).block ≠ _; rw [add_block]; exact Nat.ne_of_lt (Nat.lt_of_lt_of_le (by have := World.block_lt_of_cell? _ _ hw574_0; first | rwa [add_block] at this | exact this) GW567.out)) | (dsimp only; exact Nat.ne_of_lt (Nat.lt_of_lt_of_le (by have := World.block_lt_of_cell? _ _ hw574_0; first | rwa [add_block] at this | exact this) GW567.out))) _).trans (((cell_far (p := ⟨gb567, _, none⟩) (by first | exact Nat.ne_of_lt (Nat.lt_of_lt_of_le (by have := World.block_lt_of_cell? _ _ hw574_0; first | rwa [add_block] at this | exact this) GW567.out) | (rw [add_block]; exact Nat.ne_of_lt (Nat.lt_of_lt_of_le (by have := World.block_lt_of_cell? _ _ hw574_0; first | rwa [add_block] at this | exact this) GW567.out)) | (show (Addr.add _ _).block ≠ _; rw [add_block]; exact Nat.ne_of_lt (Nat.lt_of_lt_of_le (by have := World.block_lt_of_cell? _ _ hw574_0; first | rwa [add_block] at this | exact this) GW567.out)) | (dsimp only; exact Nat.ne_of_lt (Nat.lt_of_lt_of_le (by have := World.block_lt_of_cell? _ _ hw574_0; first | rwa [add_block] at this | exact this) GW567.out))) _).trans (hHeld.2.2.2.2.2.2.2.1)))), ((cell_far (p := ⟨gb567, _, none⟩) (by first | exact Nat.ne_of_lt (Nat.lt_of_lt_of_le (by have := World.block_lt_of_cell? _ _ hw574_1; first | rwa [add_block] at this | exact this) GW567.out) | (rw [add_block]; exact Nat.ne_of_lt (Nat.lt_of_lt_of_le (by have := World.block_lt_of_cell? _ _ hw574_1; first | rwa [add_block] at this | exact this) GW567.out)) | (show (Addr.add _ _).block ≠ _; rw [add_block]; exact Nat.ne_of_lt (Nat.lt_of_lt_of_le (by have := World.block_lt_of_cell? _ _ hw574_1; first | rwa [add_block] at this | exact this) GW567.out)) | (dsimp only; exact Nat.ne_of_lt (Nat.lt_of_lt_of_le (by have := World.block_lt_of_cell? _ _ hw574_1; first | rwa [add_block] at this | exact this) GW567.out))) _).trans (((cell_far (p := ⟨gb567, _, none⟩) (by first | exact Nat.ne_of_lt (Nat.lt_of_lt_of_le (by have := World.block_lt_of_cell? _ _ hw574_1; first | rwa [add_block] at this | exact this) GW567.out) | (rw [add_block]; exact Nat.ne_of_lt (Nat.lt_of_lt_of_le (by have := World.block_lt_of_cell? _ _ hw574_1; first | rwa [add_block] at this | exact this) GW567.out)) | (show (Addr.add _ _).block ≠ _; rw [add_block]; exact Nat.ne_of_lt (Nat.lt_of_lt_of_le (by have := World.block_lt_of_cell? _ _ hw574_1; first | rwa [add_block] at this | exact this) GW567.out)) | (dsimp only; exact Nat.ne_of_lt (Nat.lt_of_lt_of_le (by have := World.block_lt_of_cell? _ _ hw574_1; first | rwa [add_block] at this | exact this) GW567.out))) _).trans (hHeld.2.2.2.2.2.2.2.2.1)))), ((cell_far (p := ⟨gb567, _, none⟩) (by first | exact Nat.ne_of_lt (Nat.lt_of_lt_of_le (by have := World.block_lt_of_cell? _ _ hw574_2; first | rwa [add_block] at this | exact this) GW567.out) | (rw [add_block]; exact Nat.ne_of_lt (Nat.lt_of_lt_of_le (by have := World.block_lt_of_cell? _ _ hw574_2; first | rwa [add_block] at this | exact this) GW567.out)) | (show (Addr.add _ _).block ≠ _; rw [add_block]; exact Nat.ne_of_lt (Nat.lt_of_lt_of_le (by have := World.block_lt_of_cell? _ _ hw574_2; first | rwa [add_block] at this | exact this) GW567.out)) | (dsimp only; exact Nat.ne_of_lt (Nat.lt_of_lt_of_le (by have := World.block_lt_of_cell? _ _ hw574_2; first | rwa [add_block] at this | exact this) GW567.out))) _).trans (((cell_far (p := ⟨gb567, _, none⟩) (by first | exact Nat.ne_of_lt (Nat.lt_of_lt_of_le (by have := World.block_lt_of_cell? _ _ hw574_2; first | rwa [add_block] at this | exact this) GW567.out) | (rw [add_block]; exact Nat.ne_of_lt (Nat.lt_of_lt_of_le (by have := World.block_lt_of_cell? _ _ hw574_2; first | rwa [add_block] at this | exact this) GW567.out)) | (show (Addr.add _ _).block ≠ _; rw [add_block]; exact Nat.ne_of_lt (Nat.lt_of_lt_of_le (by have := World.block_lt_of_cell? _ _ hw574_2; first | rwa [add_block] at this | exact this) GW567.out)) | (dsimp only; exact Nat.ne_of_lt (Nat.lt_of_lt_of_le (by have := World.block_lt_of_cell? _ _ hw574_2; first | rwa [add_block] at this | exact this) GW567.out))) _).trans (hHeld.2.2.2.2.2.2.2.2.2.1)))), ((cell_far (p := ⟨gb567, _, none⟩) (by first | exact Nat.ne_of_lt (Nat.lt_of_lt_of_le (by have := World.block_lt_of_cell? _ _ hw574_3; first | rwa [add_block] at this | exact this) GW567.out) | (rw [add_block]; exact Nat.ne_of_lt (Nat.lt_of_lt_of_le (by have := World.block_lt_of_cell? _ _ hw574_3; first | rwa [add_block] at this | exact this) GW567.out)) | (show (Addr.add _ _).block ≠ _; rw [add_block]; exact Nat.ne_of_lt (Nat.lt_of_lt_of_le (by have := World.block_lt_of_cell? _ _ hw574_3; first | rwa [add_block] at this | exact this) GW567.out)) | (dsimp only; exact Nat.ne_of_lt (Nat.lt_of_lt_of_le (by have := World.block_lt_of_cell? _ _ hw574_3; first | rwa [add_block] at this | exact this) GW567.out))) _).trans (((cell_far (p := ⟨gb567, _, none⟩) (by first | exact Nat.ne_of_lt (Nat.lt_of_lt_of_le (by have := World.block_lt_of_cell? _ _ hw574_3; first | rwa [add_block] at this | exact this) GW567.out) | (rw [add_block]; exact Nat.ne_of_lt (Nat.lt_of_lt_of_le (by have := World.block_lt_of_cell? _ _ hw574_3; first | rwa [add_block] at this | exact this) GW567.out)) | (show (Addr.add _ _).block ≠ _; rw [add_block]; exact Nat.ne_of_lt (Nat.lt_of_lt_of_le (by have := World.block_lt_of_cell? _ _ hw574_3; first | rwa [add_block] at this | exact this) GW567.out)) | (dsimp only; exact Nat.ne_of_lt (Nat.lt_of_lt_of_le (by have := World.block_lt_of_cell? _ _ hw574_3; first | rwa [add_block] at this | exact this) GW567.out))) _).trans (hHeld.2.2.2.2.2.2.2.2.2.2.1)))), ((cell_far (p := ⟨gb567, _, none⟩) (by first | exact Nat.ne_of_lt (Nat.lt_of_lt_of_le (by have := World.block_lt_of_cell? _ _ hw574_4; first | rwa [add_block] at this | exact this) GW567.out) | (rw [add_block]; exact Nat.ne_of_lt (Nat.lt_of_lt_of_le (by have := World.block_lt_of_cell? _ _ hw574_4; first | rwa [add_block] at this | exact this) GW567.out)) | (show (Addr.add _ _).block ≠ _; rw [add_block]; exact Nat.ne_of_lt (Nat.lt_of_lt_of_le (by have := World.block_lt_of_cell? _ _ hw574_4; first | rwa [add_block] at this | exact this) GW567.out)) | (dsimp only; exact Nat.ne_of_lt (Nat.lt_of_lt_of_le (by have := World.block_lt_of_cell? _ _ hw574_4; first | rwa [add_block] at this | exact this) GW567.out))) _).trans (((cell_far (p := ⟨gb567, _, none⟩) (by first | exact Nat.ne_of_lt (Nat.lt_of_lt_of_le (by have := World.block_lt_of_cell? _ _ hw574_4; first | rwa [add_block] at this | exact this) GW567.out) | (rw [add_block]; exact Nat.ne_of_lt (Nat.lt_of_lt_of_le (by have := World.block_lt_of_cell? _ _ hw574_4; first | rwa [add_block] at this | exact this) GW567.out)) | (show (Addr.add _ _).block ≠ _; rw [add_block]; exact Nat.ne_of_lt (Nat.lt_of_lt_of_le (by have := World.block_lt_of_cell? _ _ hw574_4; first | rwa [add_block] at this | exact this) GW567.out)) | (dsimp only; exact Nat.ne_of_lt (Nat.lt_of_lt_of_le (by have := World.block_lt_of_cell? _ _ hw574_4; first | rwa [add_block] at this | exact this) GW567.out))) _).trans (hHeld.2.2.2.2.2.2.2.2.2.2.2.1)))), ((cell_far (p := ⟨gb567, _, none⟩) (by first | exact Nat.ne_of_lt (Nat.lt_of_lt_of_le (by have := World.block_lt_of_cell? _ _ hw574_5; first | rwa [add_block] at this | exact this) GW567.out) | (rw [add_block]; exact Nat.ne_of_lt (Nat.lt_of_lt_of_le (by have := World.block_lt_of_cell? _ _ hw574_5; first | rwa [add_block] at this | exact this) GW567.out)) | (show (Addr.add _ _).block ≠ _; rw [add_block]; exact Nat.ne_of_lt (Nat.lt_of_lt_of_le (by have := World.block_lt_of_cell? _ _ hw574_5; first | rwa [add_block] at this | exact this) GW567.out)) | (dsimp only; exact Nat.ne_of_lt (Nat.lt_of_lt_of_le (by have := World.block_lt_of_cell? _ _ hw574_5; first | rwa [add_block] at this | exact this) GW567.out))) _).trans (((cell_far (p := ⟨gb567, _, none⟩) (by first | exact Nat.ne_of_lt (Nat.lt_of_lt_of_le (by have := World.block_lt_of_cell? _ _ hw574_5; first | rwa [add_block] at this | exact this) GW567.out) | (rw [add_block]; exact Nat.ne_of_lt (Nat.lt_of_lt_of_le (by have := World.block_lt_of_cell? _ _ hw574_5; first | rwa [add_block] at this | exact this) GW567.out)) | (show (Addr.add _ _).block ≠ _; rw [add_block]; exact Nat.ne_of_lt (Nat.lt_of_lt_of_le (by have := World.block_lt_of_cell? _ _ hw574_5; first | rwa [add_block] at this | exact this) GW567.out)) | (dsimp only; exact Nat.ne_of_lt (Nat.lt_of_lt_of_le (by have := World.block_lt_of_cell? _ _ hw574_5; first | rwa [add_block] at this | exact this) GW567.out))) _).trans (hHeld.2.2.2.2.2.2.2.2.2.2.2.2))))⟩ (fun hHeld => ?_)
                    clear hK K
                    refine done_ (done_of HT_.out (by kernel_rfl)) ?_
                    try go_wp2
                    go_meet
                    case rel => exact ⟨_, (0), (t575), (t576), (.slice Ao112 t576.length co112), ap, H', ⟨by have := HK1.out; have := HJ16.out; have := HJ24.out; have := HJ36.out; have := HJ70.out; first | omega | exact Nat.le_refl _⟩, ⟨by (with_reducible repeat (first | apply Kd.R_alloc | apply Kd.R_drewN | apply Kd.R_drew)); exact Kd.R_mono (Kd.R_far (p := ⟨gb567, 1, none⟩) (Kd.R_far (p := ⟨gb567, 0, none⟩) (Kd.R_types HO_544001.out BK567.out (by decide)) (fun _ hk => hk.2) (.int .i64 t575)) (fun _ hk => hk.2) (.slice Ao112 t576.length co112)) (fun _ hk => ⟨hk.1.1.1, ⟨hk.1.1.2, hk.1.2⟩⟩)⟩, ⟨by (with_reducible repeat (first | apply Kd.R_alloc | apply Kd.R_drewN | apply Kd.R_drew)); exact Kd.R_mono (Kd.R_far (p := ⟨gb567, 1, none⟩) (Kd.R_far (p := ⟨gb567, 0, none⟩) (Kd.R_types HO_560001.out BK567.out (by decide)) (fun _ hk => hk.2) (.int .i64 t575)) (fun _ hk => hk.2) (.slice Ao112 t576.length co112)) (fun _ hk => ⟨hk.1.1.1, ⟨hk.1.1.2, hk.1.2⟩⟩)⟩, ⟨by (with_reducible repeat (first | apply Kd.R_alloc | apply Kd.R_drewN | apply Kd.R_drew)); exact Kd.R_mono (Kd.R_far (p := ⟨gb567, 1, none⟩) (Kd.R_far (p := ⟨gb567, 0, none⟩) (Kd.R_types HO_567001.out BK567.out (by decide)) (fun _ hk => hk.2) (.int .i64 t575)) (fun _ hk => hk.2) (.slice Ao112 t576.length co112)) (fun _ hk => ⟨hk.1.1.1, ⟨hk.1.1.2, hk.1.2⟩⟩)⟩, ⟨by (with_reducible repeat (first | apply Kd.R_alloc | apply Kd.R_drewN | apply Kd.R_drew)); exact Kd.R_mono (Kd.R_far (p := ⟨gb567, 1, none⟩) (Kd.R_far (p := ⟨gb567, 0, none⟩) (Kd.R_types HO578.out BK567.out (by decide)) (fun _ hk => hk.2) (.int .i64 t575)) (fun _ hk => hk.2) (.slice Ao112 t576.length co112)) (fun _ hk => ⟨hk.1.1.1.2, ⟨hk.1.1.2, hk.1.2⟩⟩)⟩, ⟨by (with_reducible repeat (first | refine blk_drewN ?_ _ | refine blk_drew ?_ | refine blk_alloc ?_ _)); refine blk_far ?_ NB537_567.out _; (with_reducible repeat (first | refine blk_drewN ?_ _ | refine blk_drew ?_ | refine blk_alloc ?_ _)); refine blk_far ?_ NB537_567.out _; (with_reducible repeat (first | refine blk_drewN ?_ _ | refine blk_drew ?_ | refine blk_alloc ?_ _)); exact BK537.out⟩, ⟨by (with_reducible repeat (first | refine blk_drewN ?_ _ | refine blk_drew ?_ | refine blk_alloc ?_ _)); refine blk_far ?_ NB543_567.out _; (with_reducible repeat (first | refine blk_drewN ?_ _ | refine blk_drew ?_ | refine blk_alloc ?_ _)); refine blk_far ?_ NB543_567.out _; (with_reducible repeat (first | refine blk_drewN ?_ _ | refine blk_drew ?_ | refine blk_alloc ?_ _)); exact BK543.out⟩, ⟨by (with_reducible repeat (first | refine blk_drewN ?_ _ | refine blk_drew ?_ | refine blk_alloc ?_ _)); refine blk_far ?_ NB559_567.out _; (with_reducible repeat (first | refine blk_drewN ?_ _ | refine blk_drew ?_ | refine blk_alloc ?_ _)); refine blk_far ?_ NB559_567.out _; (with_reducible repeat (first | refine blk_drewN ?_ _ | refine blk_drew ?_ | refine blk_alloc ?_ _)); exact BK559.out⟩, ⟨by (with_reducible repeat (first | refine blk_drewN ?_ _ | refine blk_drew ?_ | refine blk_alloc ?_ _)); refine blk_far ?_ NB566_567.out _; (with_reducible repeat (first | refine blk_drewN ?_ _ | refine blk_drew ?_ | refine blk_alloc ?_ _)); refine blk_far ?_ NB566_567.out _; (with_reducible repeat (first | refine blk_drewN ?_ _ | refine blk_drew ?_ | refine blk_alloc ?_ _)); exact BK566.out⟩, ⟨by (with_reducible repeat (first | refine blk_drewN ?_ _ | refine blk_drew ?_ | refine blk_alloc ?_ _)); refine blk_put (cs := #[.int .i64 t575, .slice none 0 0]) ?_ 1 _ rfl; (with_reducible repeat (first | refine blk_drewN ?_ _ | refine blk_drew ?_ | refine blk_alloc ?_ _)); refine blk_put (cs := #[.int .i64 0, .slice none 0 0]) ?_ 0 _ rfl; (with_reducible repeat (first | refine blk_drewN ?_ _ | refine blk_drew ?_ | refine blk_alloc ?_ _)); exact BK567.out⟩, ⟨bo⟩⟩
                   ·rw [if_neg c107] at H
                    exact absurd H (by simp)
                  ·rw [if_neg c106] at H
                   exact absurd H (by simp)
                 ·replace c105 := Bool.eq_false_iff.mpr c105
                  subst c105
                  have H1 : (fairwaylaw11_SegAdds.j5 kj70 x4_1 1 t565 a0_0 l0_1 l0_2 l0_3 a0_4 x544000_1 x544001_1 t555 t556 t561 t562 0 ([] : List (S25))) = some r := by rw [if_neg (show ¬ (false = true) by decide)] at H; exact H
                  clear H
                  have H := H1
                  clear H1
                  have H' := Aside0.mk H
                  clear H
                  go_wp2
                  go_meet
                  case rel => exact ⟨_, (1), (0), (([] : List (S25))), (.slice none 0 0), ap, H', ⟨by have := HK1.out; have := HJ16.out; have := HJ24.out; have := HJ36.out; have := HJ70.out; first | omega | exact Nat.le_refl _⟩, ⟨by (with_reducible repeat (first | apply Kd.R_alloc | apply Kd.R_drewN | apply Kd.R_drew)); exact Kd.R_mono HO_544001.out (fun _ hk => ⟨hk.1, ⟨hk.2, (by simp [Value.ownBlock])⟩⟩)⟩, ⟨by (with_reducible repeat (first | apply Kd.R_alloc | apply Kd.R_drewN | apply Kd.R_drew)); exact Kd.R_mono HO_560001.out (fun _ hk => ⟨hk.1, ⟨hk.2, (by simp [Value.ownBlock])⟩⟩)⟩, ⟨by (with_reducible repeat (first | apply Kd.R_alloc | apply Kd.R_drewN | apply Kd.R_drew)); exact Kd.R_mono HO_567001.out (fun _ hk => ⟨hk.1, ⟨hk.2, (by simp [Value.ownBlock])⟩⟩)⟩, ⟨by first | exact Kd.R_nil _ _ _ _ _ | exact Kd.N_nil _ _ _ _ _ | exact Kd.V_nil _ _ _ _ _ | exact Kd.Q_nil _ _ _ _ _ | exact Kd.S_nil _ _ _ _ _⟩, ⟨by (with_reducible repeat (first | refine blk_drewN ?_ _ | refine blk_drew ?_ | refine blk_alloc ?_ _)); exact BK537.out⟩, ⟨by (with_reducible repeat (first | refine blk_drewN ?_ _ | refine blk_drew ?_ | refine blk_alloc ?_ _)); exact BK543.out⟩, ⟨by (with_reducible repeat (first | refine blk_drewN ?_ _ | refine blk_drew ?_ | refine blk_alloc ?_ _)); exact BK559.out⟩, ⟨by (with_reducible repeat (first | refine blk_drewN ?_ _ | refine blk_drew ?_ | refine blk_alloc ?_ _)); exact BK566.out⟩, ⟨by (with_reducible repeat (first | refine blk_drewN ?_ _ | refine blk_drew ?_ | refine blk_alloc ?_ _)); exact BK567.out⟩, ⟨bo⟩⟩
                case rest =>
                 clear HC104
                 try clear c1
                 try clear p2
                 try clear c3
                 try clear c4
                 try clear p5
                 try clear q5
                 try clear hx5
                 try clear c8
                 try clear c9
                 try clear c10
                 try clear c31
                 try clear c47
                 try clear c48
                 try clear p56
                 try clear q56
                 try clear hx56
                 try clear p57
                 try clear q57
                 try clear hx57
                 try clear c89
                 try clear c90
                 try clear c91
                 try clear c92
                 try clear c94
                 try clear c105
                 try clear c106
                 try clear c106b0
                 try clear c107
                 try clear c107b0
                 try clear hcz93_0
                 try clear hcz93_1
                 try clear hfz93_0
                 try clear hfz93_1
                 try clear hx568_0
                 try clear hx568_1
                 try clear hx568_2
                 try clear hx568_3
                 try clear hx568_4
                 try clear hx568_5
                 try clear hx574_0
                 try clear hx574_1
                 try clear hx574_2
                 try clear hx574_3
                 try clear hx574_4
                 try clear hx574_5
                 try clear p2
                 try clear p5
                 try clear p56
                 try clear p568
                 try clear p574
                 try clear q5
                 try clear q56
                 try clear q568
                 try clear q574
                 obtain ⟨kq, x6_103, x568000_103, x568001_103, u568001, rfl, HA, HJ103, HO_544001, HO_560001, HO_567001, HO_568001, BK537, BK543, BK559, BK566, BK567, HB⟩ := hcut
                 cases kq with
                 | zero => exact absurd HA.out (by simp [fairwaylaw11_SegAdds.j5])
                 | succ kj103 =>
                  have H := HA.out
                  clear HA
                  simp only [fairwaylaw11_SegAdds.j5] at H
                  have HC114 := Aside0.mk H
                  clear H
                  go_upto_region 20 with (fail)
                  go_cut [121] (fun v121 wc => ∃ (kq : Nat) (x121_113 : Bool), v121 = .bool x121_113 ∧ Aside0 (fairwaylaw11_SegAdds.j6 kq x4_1 x6_103 x121_113 a0_0 l0_1 l0_2 l0_3 a0_4 x544000_1 x544001_1 t555 t556 t561 t562 x568000_103 x568001_103 = some r) ∧ Aside0 (kq ≤ kj103) ∧ Aside0 (Kd.R k25 25 wc w.heap.size (fun k_ => some k_ ≠ ((.slice Ao79 t556.length co79) : Value).ownBlock ∧ some k_ ≠ ((.slice Ao86 t562.length co86) : Value).ownBlock ∧ some k_ ≠ (u568001 : Value).ownBlock) (.slice Ao28 x544001_1.length co28) x544001_1) ∧ Aside0 (Kd.R k25 25 wc w.heap.size (fun k_ => some k_ ≠ ((.slice Ao28 x544001_1.length co28) : Value).ownBlock ∧ some k_ ≠ ((.slice Ao86 t562.length co86) : Value).ownBlock ∧ some k_ ≠ (u568001 : Value).ownBlock) (.slice Ao79 t556.length co79) t556) ∧ Aside0 (Kd.R k25 25 wc w.heap.size (fun k_ => some k_ ≠ ((.slice Ao28 x544001_1.length co28) : Value).ownBlock ∧ some k_ ≠ ((.slice Ao79 t556.length co79) : Value).ownBlock ∧ some k_ ≠ (u568001 : Value).ownBlock) (.slice Ao86 t562.length co86) t562) ∧ Aside0 (Kd.R k25 25 wc w.heap.size (fun k_ => some k_ ≠ ((.slice Ao28 x544001_1.length co28) : Value).ownBlock ∧ some k_ ≠ ((.slice Ao79 t556.length co79) : Value).ownBlock ∧ some k_ ≠ ((.slice Ao86 t562.length co86) : Value).ownBlock) u568001 x568001_103) ∧ Aside0 (wc.heap[gb537]? = some (.cells #[.int .i64 a0_0, (.slice A0_1 l0_1.length c0_1), (.slice (some ad560) l0_2.length c0_2), (.slice A0_3 l0_3.length c0_3), .string a0_4] 55 (0, 0))) ∧ Aside0 (wc.heap[gb543]? = some (.cells #[.int .i64 x544000_1, (.slice Ao28 x544001_1.length co28)] 53 (0, 0))) ∧ Aside0 (wc.heap[gb559]? = some (.cells #[.int .i64 t555, (.slice Ao79 t556.length co79)] 53 (0, 0))) ∧ Aside0 (wc.heap[gb566]? = some (.cells #[.int .i64 t561, (.slice Ao86 t562.length co86)] 53 (0, 0))) ∧ Aside0 (wc.heap[gb567]? = some (.cells #[.int .i64 x568000_103, u568001] 53 (0, 0))) ∧ Aside0 (Below w.heap.size w wc))
                  case first =>
                   have H := HC114.out
                   clear HC114
                   replace H := Option.bind_eq_some_iff.mp H
                   obtain ⟨t579, A1150, H⟩ := H
                   replace H : (if t579 = x6_103 then ((fairwayref0_EqSeg.f kj103 t561 t562 x568000_103 x568001_103).bind fun t580 => (if t580 = true then ((fairwayref0_EqSeg.f kj103 t555 t556 x544000_1 x544001_1).bind fun t581 => (fairwaylaw11_SegAdds.j6 kj103 x4_1 x6_103 (!t581) a0_0 l0_1 l0_2 l0_3 a0_4 x544000_1 x544001_1 t555 t556 t561 t562 x568000_103 x568001_103)) else (fairwaylaw11_SegAdds.j6 kj103 x4_1 x6_103 true a0_0 l0_1 l0_2 l0_3 a0_4 x544000_1 x544001_1 t555 t556 t561 t562 x568000_103 x568001_103))) else (fairwaylaw11_SegAdds.j6 kj103 x4_1 x6_103 true a0_0 l0_1 l0_2 l0_3 a0_4 x544000_1 x544001_1 t555 t556 t561 t562 x568000_103 x568001_103)) = some r := H
                   have A115 := Aside0.mk A1150
                   clear A1150
                   by_cases c116 : t579 = x6_103
                   ·rw [if_pos c116] at H
                    have c116b0 : (t579 == x6_103) = true := beq_iff_eq.mpr c116
                    have c116b1 : (t579 != x6_103) = false := bne_eq_false_iff_eq.mpr c116
                    clear c116
                    (first | rw [c116b0] | (simp only [i64_w, i32_w]; rw [c116b0]) | skip)
                    replace H := Option.bind_eq_some_iff.mp H
                    obtain ⟨t580, A1170, H⟩ := H
                    replace H : (if t580 = true then ((fairwayref0_EqSeg.f kj103 t555 t556 x544000_1 x544001_1).bind fun t581 => (fairwaylaw11_SegAdds.j6 kj103 x4_1 x6_103 (!t581) a0_0 l0_1 l0_2 l0_3 a0_4 x544000_1 x544001_1 t555 t556 t561 t562 x568000_103 x568001_103)) else (fairwaylaw11_SegAdds.j6 kj103 x4_1 x6_103 true a0_0 l0_1 l0_2 l0_3 a0_4 x544000_1 x544001_1 t555 t556 t561 t562 x568000_103 x568001_103)) = some r := H
                    have A117 := Aside0.mk A1170
                    clear A1170
                    by_cases c118 : t580 = true
                    ·subst c118
                     have H1 : ((fairwayref0_EqSeg.f kj103 t555 t556 x544000_1 x544001_1).bind fun t581 => (fairwaylaw11_SegAdds.j6 kj103 x4_1 x6_103 (!t581) a0_0 l0_1 l0_2 l0_3 a0_4 x544000_1 x544001_1 t555 t556 t561 t562 x568000_103 x568001_103)) = some r := by rw [if_pos rfl] at H; exact H
                     clear H
                     have H := H1
                     clear H1
                     replace H := Option.bind_eq_some_iff.mp H
                     obtain ⟨t581, A1190, H⟩ := H
                     replace H : (fairwaylaw11_SegAdds.j6 kj103 x4_1 x6_103 (!t581) a0_0 l0_1 l0_2 l0_3 a0_4 x544000_1 x544001_1 t555 t556 t561 t562 x568000_103 x568001_103) = some r := H
                     have A119 := Aside0.mk A1190
                     clear A1190
                     have H' := Aside0.mk H
                     clear H
                     go_wp2_with (first | ((with_reducible refine gate_callee (f := 36) rfl ?_); refine goesL_ (some 107) rfl rfl Try.func36 (by kernel_rfl) rfl #[.int .i64 t565] rfl aa ?_; (with_reducible refine (fairwaylaw11_num.calls t565 t579 _ A115.out).mono ?_); rintro e w' ⟨rfl, ⟨nd, rfl⟩⟩; refine ⟨_, rfl, ?_⟩; have hnb120 := NB566_537.out; have hnc120 := NB537_566.out; have hnb121 := NB566_543.out; have hnc121 := NB543_566.out; have hnb122 := NB566_559.out; have hnc122 := NB559_566.out; have hnb123 := NB566_567.out; have hnc123 := NB567_566.out; obtain ⟨hcz124_0, hcz124_1⟩ := cl2 BK566.out; obtain ⟨hfz124_0, hfz124_1⟩ := fz2 BK566.out; have hnb125 := NB567_537.out; have hnc125 := NB537_567.out; have hnb126 := NB567_543.out; have hnc126 := NB543_567.out; have hnb127 := NB567_559.out; have hnc127 := NB559_567.out; obtain ⟨hcz128_0, hcz128_1⟩ := cl2 BK567.out; obtain ⟨hfz128_0, hfz128_1⟩ := fz2 BK567.out; obtain ⟨Ao129, co129, eo129⟩ := Kd.R_slice HO_568001.out; subst eo129) | (go_at_call 41; (with_reducible refine (fairwayref0_EqSeg.calls kj103 t561 _ _ t562 x568000_103 _ _ x568001_103 true _ ?side1 ?side2 ?side3 ?side4 A117.out).mono ?_); (case side1 => repeat (first | exact (Kd.R_reads' HO_567001.out).2.2 | (with_reducible refine Kd.C_alloc ?_ _) | (with_reducible refine Kd.C_drewN ?_ _) | (with_reducible refine Kd.C_drew ?_))); (case side2 => exact (Kd.R_reads' HO_567001.out).2.1); (case side3 => repeat (first | exact (Kd.R_reads' HO_568001.out).2.2 | (with_reducible refine Kd.C_alloc ?_ _) | (with_reducible refine Kd.C_drewN ?_ _) | (with_reducible refine Kd.C_drew ?_))); (case side4 => exact (Kd.R_reads' HO_568001.out).2.1); rintro e w130 ⟨rfl, hb⟩; replace HO_544001 := Aside0.mk (Kd.R_below (rk HO_544001.out) hb); replace HO_560001 := Aside0.mk (Kd.R_below (rk HO_560001.out) hb); replace HO_567001 := Aside0.mk (Kd.R_below (rk HO_567001.out) hb); replace HO_568001 := Aside0.mk (Kd.R_below (rk HO_568001.out) hb); replace BK537 := Aside0.mk (bb BK537.out hb); replace BK543 := Aside0.mk (bb BK543.out hb); replace BK559 := Aside0.mk (bb BK559.out hb); replace BK566 := Aside0.mk (bb BK566.out hb); replace BK567 := Aside0.mk (bb BK567.out hb); replace HB := Aside0.mk (below_step bo hb); (try clear hb); (try clear hb2); (try clear hk); (try clear hi); have hnb131 := NB559_537.out; have hnc131 := NB537_559.out; have hnb132 := NB559_543.out; have hnc132 := NB543_559.out; obtain ⟨hcz133_0, hcz133_1⟩ := cl2 BK559.out; obtain ⟨hfz133_0, hfz133_1⟩ := fz2 BK559.out; have hnb134 := NB543_537.out; have hnc134 := NB537_543.out; obtain ⟨hcz135_0, hcz135_1⟩ := cl2 BK543.out; obtain ⟨hfz135_0, hfz135_1⟩ := fz2 BK543.out) | (go_at_call 41; (with_reducible refine (fairwayref0_EqSeg.calls kj103 t555 _ _ t556 x544000_1 _ _ x544001_1 t581 _ ?side1 ?side2 ?side3 ?side4 A119.out).mono ?_); (case side1 => repeat (first | exact (Kd.R_reads' HO_560001.out).2.2 | (with_reducible refine Kd.C_alloc ?_ _) | (with_reducible refine Kd.C_drewN ?_ _) | (with_reducible refine Kd.C_drew ?_))); (case side2 => exact (Kd.R_reads' HO_560001.out).2.1); (case side3 => repeat (first | exact (Kd.R_reads' HO_544001.out).2.2 | (with_reducible refine Kd.C_alloc ?_ _) | (with_reducible refine Kd.C_drewN ?_ _) | (with_reducible refine Kd.C_drew ?_))); (case side4 => exact (Kd.R_reads' HO_544001.out).2.1); rintro e w136 ⟨rfl, hb⟩; replace HO_544001 := Aside0.mk (Kd.R_below (rk HO_544001.out) hb); replace HO_560001 := Aside0.mk (Kd.R_below (rk HO_560001.out) hb); replace HO_567001 := Aside0.mk (Kd.R_below (rk HO_567001.out) hb); replace HO_568001 := Aside0.mk (Kd.R_below (rk HO_568001.out) hb); replace BK537 := Aside0.mk (bb BK537.out hb); replace BK543 := Aside0.mk (bb BK543.out hb); replace BK559 := Aside0.mk (bb BK559.out hb); replace BK566 := Aside0.mk (bb BK566.out hb); replace BK567 := Aside0.mk (bb BK567.out hb); replace HB := Aside0.mk (below_step bo hb); (try clear hb); (try clear hb2); (try clear hk); (try clear hi)))
                     go_meet
                     case rel => exact ⟨_, (!t581), ap, H', ⟨by have := HK1.out; have := HJ16.out; have := HJ24.out; have := HJ36.out; have := HJ70.out; have := HJ103.out; first | omega | exact Nat.le_refl _⟩, ⟨by (with_reducible repeat (first | apply Kd.R_alloc | apply Kd.R_drewN | apply Kd.R_drew)); exact HO_544001.out⟩, ⟨by (with_reducible repeat (first | apply Kd.R_alloc | apply Kd.R_drewN | apply Kd.R_drew)); exact HO_560001.out⟩, ⟨by (with_reducible repeat (first | apply Kd.R_alloc | apply Kd.R_drewN | apply Kd.R_drew)); exact HO_567001.out⟩, ⟨by (with_reducible repeat (first | apply Kd.R_alloc | apply Kd.R_drewN | apply Kd.R_drew)); exact HO_568001.out⟩, ⟨by (with_reducible repeat (first | refine blk_drewN ?_ _ | refine blk_drew ?_ | refine blk_alloc ?_ _)); exact BK537.out⟩, ⟨by (with_reducible repeat (first | refine blk_drewN ?_ _ | refine blk_drew ?_ | refine blk_alloc ?_ _)); exact BK543.out⟩, ⟨by (with_reducible repeat (first | refine blk_drewN ?_ _ | refine blk_drew ?_ | refine blk_alloc ?_ _)); exact BK559.out⟩, ⟨by (with_reducible repeat (first | refine blk_drewN ?_ _ | refine blk_drew ?_ | refine blk_alloc ?_ _)); exact BK566.out⟩, ⟨by (with_reducible repeat (first | refine blk_drewN ?_ _ | refine blk_drew ?_ | refine blk_alloc ?_ _)); exact BK567.out⟩, ⟨bo⟩⟩
                    ·replace c118 := Bool.eq_false_iff.mpr c118
                     subst c118
                     have H1 : (fairwaylaw11_SegAdds.j6 kj103 x4_1 x6_103 true a0_0 l0_1 l0_2 l0_3 a0_4 x544000_1 x544001_1 t555 t556 t561 t562 x568000_103 x568001_103) = some r := by rw [if_neg (show ¬ (false = true) by decide)] at H; exact H
                     clear H
                     have H := H1
                     clear H1
                     have H' := Aside0.mk H
                     clear H
                     go_wp2_with (first | ((with_reducible refine gate_callee (f := 36) rfl ?_); refine goesL_ (some 107) rfl rfl Try.func36 (by kernel_rfl) rfl #[.int .i64 t565] rfl aa ?_; (with_reducible refine (fairwaylaw11_num.calls t565 t579 _ A115.out).mono ?_); rintro e w' ⟨rfl, ⟨nd, rfl⟩⟩; refine ⟨_, rfl, ?_⟩; have hnb137 := NB566_537.out; have hnc137 := NB537_566.out; have hnb138 := NB566_543.out; have hnc138 := NB543_566.out; have hnb139 := NB566_559.out; have hnc139 := NB559_566.out; have hnb140 := NB566_567.out; have hnc140 := NB567_566.out; obtain ⟨hcz141_0, hcz141_1⟩ := cl2 BK566.out; obtain ⟨hfz141_0, hfz141_1⟩ := fz2 BK566.out; have hnb142 := NB567_537.out; have hnc142 := NB537_567.out; have hnb143 := NB567_543.out; have hnc143 := NB543_567.out; have hnb144 := NB567_559.out; have hnc144 := NB559_567.out; obtain ⟨hcz145_0, hcz145_1⟩ := cl2 BK567.out; obtain ⟨hfz145_0, hfz145_1⟩ := fz2 BK567.out; obtain ⟨Ao146, co146, eo146⟩ := Kd.R_slice HO_568001.out; subst eo146) | (go_at_call 41; (with_reducible refine (fairwayref0_EqSeg.calls kj103 t561 _ _ t562 x568000_103 _ _ x568001_103 false _ ?side1 ?side2 ?side3 ?side4 A117.out).mono ?_); (case side1 => repeat (first | exact (Kd.R_reads' HO_567001.out).2.2 | (with_reducible refine Kd.C_alloc ?_ _) | (with_reducible refine Kd.C_drewN ?_ _) | (with_reducible refine Kd.C_drew ?_))); (case side2 => exact (Kd.R_reads' HO_567001.out).2.1); (case side3 => repeat (first | exact (Kd.R_reads' HO_568001.out).2.2 | (with_reducible refine Kd.C_alloc ?_ _) | (with_reducible refine Kd.C_drewN ?_ _) | (with_reducible refine Kd.C_drew ?_))); (case side4 => exact (Kd.R_reads' HO_568001.out).2.1); rintro e w147 ⟨rfl, hb⟩; replace HO_544001 := Aside0.mk (Kd.R_below (rk HO_544001.out) hb); replace HO_560001 := Aside0.mk (Kd.R_below (rk HO_560001.out) hb); replace HO_567001 := Aside0.mk (Kd.R_below (rk HO_567001.out) hb); replace HO_568001 := Aside0.mk (Kd.R_below (rk HO_568001.out) hb); replace BK537 := Aside0.mk (bb BK537.out hb); replace BK543 := Aside0.mk (bb BK543.out hb); replace BK559 := Aside0.mk (bb BK559.out hb); replace BK566 := Aside0.mk (bb BK566.out hb); replace BK567 := Aside0.mk (bb BK567.out hb); replace HB := Aside0.mk (below_step bo hb); (try clear hb); (try clear hb2); (try clear hk); (try clear hi)))
                     go_meet
                     case rel => exact ⟨_, (true), ap, H', ⟨by have := HK1.out; have := HJ16.out; have := HJ24.out; have := HJ36.out; have := HJ70.out; have := HJ103.out; first | omega | exact Nat.le_refl _⟩, ⟨by (with_reducible repeat (first | apply Kd.R_alloc | apply Kd.R_drewN | apply Kd.R_drew)); exact HO_544001.out⟩, ⟨by (with_reducible repeat (first | apply Kd.R_alloc | apply Kd.R_drewN | apply Kd.R_drew)); exact HO_560001.out⟩, ⟨by (with_reducible repeat (first | apply Kd.R_alloc | apply Kd.R_drewN | apply Kd.R_drew)); exact HO_567001.out⟩, ⟨by (with_reducible repeat (first | apply Kd.R_alloc | apply Kd.R_drewN | apply Kd.R_drew)); exact HO_568001.out⟩, ⟨by (with_reducible repeat (first | refine blk_drewN ?_ _ | refine blk_drew ?_ | refine blk_alloc ?_ _)); exact BK537.out⟩, ⟨by (with_reducible repeat (first | refine blk_drewN ?_ _ | refine blk_drew ?_ | refine blk_alloc ?_ _)); exact BK543.out⟩, ⟨by (with_reducible repeat (first | refine blk_drewN ?_ _ | refine blk_drew ?_ | refine blk_alloc ?_ _)); exact BK559.out⟩, ⟨by (with_reducible repeat (first | refine blk_drewN ?_ _ | refine blk_drew ?_ | refine blk_alloc ?_ _)); exact BK566.out⟩, ⟨by (with_reducible repeat (first | refine blk_drewN ?_ _ | refine blk_drew ?_ | refine blk_alloc ?_ _)); exact BK567.out⟩, ⟨bo⟩⟩
                   ·rw [if_neg c116] at H
                    have c116b0 : (t579 == x6_103) = false := beq_eq_false_iff_ne.mpr c116
                    have c116b1 : (t579 != x6_103) = true := bne_iff_ne.mpr c116
                    (first | rw [c116b0] | (simp only [i64_w, i32_w]; rw [c116b0]) | skip)
                    have H' := Aside0.mk H
                    clear H
                    go_wp2_with (first | ((with_reducible refine gate_callee (f := 36) rfl ?_); refine goesL_ (some 107) rfl rfl Try.func36 (by kernel_rfl) rfl #[.int .i64 t565] rfl aa ?_; (with_reducible refine (fairwaylaw11_num.calls t565 t579 _ A115.out).mono ?_); rintro e w' ⟨rfl, ⟨nd, rfl⟩⟩; refine ⟨_, rfl, ?_⟩))
                    go_meet
                    case rel => exact ⟨_, (true), ap, H', ⟨by have := HK1.out; have := HJ16.out; have := HJ24.out; have := HJ36.out; have := HJ70.out; have := HJ103.out; first | omega | exact Nat.le_refl _⟩, ⟨by (with_reducible repeat (first | apply Kd.R_alloc | apply Kd.R_drewN | apply Kd.R_drew)); exact HO_544001.out⟩, ⟨by (with_reducible repeat (first | apply Kd.R_alloc | apply Kd.R_drewN | apply Kd.R_drew)); exact HO_560001.out⟩, ⟨by (with_reducible repeat (first | apply Kd.R_alloc | apply Kd.R_drewN | apply Kd.R_drew)); exact HO_567001.out⟩, ⟨by (with_reducible repeat (first | apply Kd.R_alloc | apply Kd.R_drewN | apply Kd.R_drew)); exact HO_568001.out⟩, ⟨by (with_reducible repeat (first | refine blk_drewN ?_ _ | refine blk_drew ?_ | refine blk_alloc ?_ _)); exact BK537.out⟩, ⟨by (with_reducible repeat (first | refine blk_drewN ?_ _ | refine blk_drew ?_ | refine blk_alloc ?_ _)); exact BK543.out⟩, ⟨by (with_reducible repeat (first | refine blk_drewN ?_ _ | refine blk_drew ?_ | refine blk_alloc ?_ _)); exact BK559.out⟩, ⟨by (with_reducible repeat (first | refine blk_drewN ?_ _ | refine blk_drew ?_ | refine blk_alloc ?_ _)); exact BK566.out⟩, ⟨by (with_reducible repeat (first | refine blk_drewN ?_ _ | refine blk_drew ?_ | refine blk_alloc ?_ _)); exact BK567.out⟩, ⟨bo⟩⟩
                  case rest =>
                   clear HC114
                   try clear c1
                   try clear p2
                   try clear c3
                   try clear c4
                   try clear p5
                   try clear q5
                   try clear hx5
                   try clear c8
                   try clear c9
                   try clear c10
                   try clear c11
                   try clear c12
                   try clear c13
                   try clear c14
                   try clear c31
                   try clear c36
                   try clear c47
                   try clear c48
                   try clear p56
                   try clear q56
                   try clear hx56
                   try clear p57
                   try clear q57
                   try clear hx57
                   try clear c89
                   try clear c90
                   try clear c91
                   try clear c92
                   try clear c94
                   try clear c105
                   try clear c106
                   try clear c106b0
                   try clear c107
                   try clear c107b0
                   try clear c116
                   try clear c116b0
                   try clear c116b1
                   try clear c118
                   try clear c120
                   try clear c121
                   try clear c122
                   try clear c123
                   try clear c125
                   try clear c126
                   try clear c127
                   try clear c131
                   try clear c132
                   try clear c134
                   try clear c137
                   try clear c138
                   try clear c139
                   try clear c140
                   try clear c142
                   try clear c143
                   try clear c144
                   try clear hcz124_0
                   try clear hcz124_1
                   try clear hcz128_0
                   try clear hcz128_1
                   try clear hcz133_0
                   try clear hcz133_1
                   try clear hcz135_0
                   try clear hcz135_1
                   try clear hcz141_0
                   try clear hcz141_1
                   try clear hcz145_0
                   try clear hcz145_1
                   try clear hcz93_0
                   try clear hcz93_1
                   try clear hfz124_0
                   try clear hfz124_1
                   try clear hfz128_0
                   try clear hfz128_1
                   try clear hfz133_0
                   try clear hfz133_1
                   try clear hfz135_0
                   try clear hfz135_1
                   try clear hfz141_0
                   try clear hfz141_1
                   try clear hfz145_0
                   try clear hfz145_1
                   try clear hfz93_0
                   try clear hfz93_1
                   try clear hx568_0
                   try clear hx568_1
                   try clear hx568_2
                   try clear hx568_3
                   try clear hx568_4
                   try clear hx568_5
                   try clear hx574_0
                   try clear hx574_1
                   try clear hx574_2
                   try clear hx574_3
                   try clear hx574_4
                   try clear hx574_5
                   try clear p2
                   try clear p5
                   try clear p56
                   try clear p568
                   try clear p57
                   try clear p574
                   try clear q5
                   try clear q56
                   try clear q568
                   try clear q57
                   try clear q574
                   obtain ⟨kq, x121_113, rfl, HA, HJ113, HO_544001, HO_560001, HO_567001, HO_568001, BK537, BK543, BK559, BK566, BK567, HB⟩ := hcut
                   cases kq with
                   | zero => exact absurd HA.out (by simp [fairwaylaw11_SegAdds.j6])
                   | succ kj113 =>
                    have H := HA.out
                    clear HA
                    simp only [fairwaylaw11_SegAdds.j6] at H
                    by_cases c148 : x121_113 = true
                    ·subst c148
                     have H1 : (some false) = some r := by rw [if_pos rfl] at H; exact H
                     clear H
                     have H := H1
                     clear H1
                     obtain rfl := Option.some.inj H
                     go_wp2
                     go_ret
                     exact ⟨er, bo⟩
                    ·replace c148 := Bool.eq_false_iff.mpr c148
                     subst c148
                     have H1 : ((fairwaylaw0_Recs.f kj113 t562).bind fun _ => ((fairwayref0_EqSeg.f kj113 t555 t556 x544000_1 x544001_1).bind fun t582 => (if t582 = true then (if x6_103 = 0 then ((fairwayref0_CopySeg.f kj113 x568000_103 x568001_103).bind fun bt583 => (fairwaylaw11_SegAdds.l0 kj113 (wrap64 (x4_1 + 1)) a0_0 l0_1 l0_2 l0_3 a0_4 bt583.1 bt583.2)) else (fairwaylaw11_SegAdds.l0 kj113 (wrap64 (x4_1 + 1)) a0_0 l0_1 l0_2 l0_3 a0_4 x544000_1 x544001_1)) else (some false)))) = some r := by rw [if_neg (show ¬ (false = true) by decide)] at H; exact H
                     clear H
                     have H := H1
                     clear H1
                     replace H := Option.bind_eq_some_iff.mp H
                     obtain ⟨_, A1490, H⟩ := H
                     replace H : ((fairwayref0_EqSeg.f kj113 t555 t556 x544000_1 x544001_1).bind fun t582 => (if t582 = true then (if x6_103 = 0 then ((fairwayref0_CopySeg.f kj113 x568000_103 x568001_103).bind fun bt583 => (fairwaylaw11_SegAdds.l0 kj113 (wrap64 (x4_1 + 1)) a0_0 l0_1 l0_2 l0_3 a0_4 bt583.1 bt583.2)) else (fairwaylaw11_SegAdds.l0 kj113 (wrap64 (x4_1 + 1)) a0_0 l0_1 l0_2 l0_3 a0_4 x544000_1 x544001_1)) else (some false))) = some r := H
                     have A149 := Aside0.mk A1490
                     clear A1490
                     replace H := Option.bind_eq_some_iff.mp H
                     obtain ⟨t582, A1500, H⟩ := H
                     replace H : (if t582 = true then (if x6_103 = 0 then ((fairwayref0_CopySeg.f kj113 x568000_103 x568001_103).bind fun bt583 => (fairwaylaw11_SegAdds.l0 kj113 (wrap64 (x4_1 + 1)) a0_0 l0_1 l0_2 l0_3 a0_4 bt583.1 bt583.2)) else (fairwaylaw11_SegAdds.l0 kj113 (wrap64 (x4_1 + 1)) a0_0 l0_1 l0_2 l0_3 a0_4 x544000_1 x544001_1)) else (some false)) = some r := H
                     have A150 := Aside0.mk A1500
                     clear A1500
                     by_cases c151 : t582 = true
                     ·subst c151
                      have H1 : (if x6_103 = 0 then ((fairwayref0_CopySeg.f kj113 x568000_103 x568001_103).bind fun bt583 => (fairwaylaw11_SegAdds.l0 kj113 (wrap64 (x4_1 + 1)) a0_0 l0_1 l0_2 l0_3 a0_4 bt583.1 bt583.2)) else (fairwaylaw11_SegAdds.l0 kj113 (wrap64 (x4_1 + 1)) a0_0 l0_1 l0_2 l0_3 a0_4 x544000_1 x544001_1)) = some r := by rw [if_pos rfl] at H; exact H
                      clear H
                      have H := H1
                      clear H1
                      by_cases c152 : x6_103 = 0
                      ·rw [if_pos c152] at H
                       have c152b0 : (x6_103 == 0) = true := beq_iff_eq.mpr c152
                       have c152b1 : (x6_103 != 0) = false := bne_eq_false_iff_eq.mpr c152
                       clear c152
                       replace H := Option.bind_eq_some_iff.mp H
                       obtain ⟨⟨t583, t584⟩, A1530, H⟩ := H
                       replace H : (fairwaylaw11_SegAdds.l0 kj113 (wrap64 (x4_1 + 1)) a0_0 l0_1 l0_2 l0_3 a0_4 t583 t584) = some r := H
                       have A153 := Aside0.mk A1530
                       clear A1530
                       have H' := Aside0.mk H
                       clear H
                       have hnb154 := NB566_537.out
                       have hnc154 := NB537_566.out
                       have hnb155 := NB566_543.out
                       have hnc155 := NB543_566.out
                       have hnb156 := NB566_559.out
                       have hnc156 := NB559_566.out
                       have hnb157 := NB566_567.out
                       have hnc157 := NB567_566.out
                       have hcz158_0 : wc.cell? ⟨gb566, 0, none⟩ = some (.int .i64 t561) := (blk_cell BK566.out 0).trans rfl
                       have hcz158_1 : wc.cell? ⟨gb566, 1, none⟩ = some (.slice Ao86 t562.length co86) := (blk_cell BK566.out 1).trans rfl
                       have hfz158_0 := blk_frozen BK566.out 0
                       have hfz158_1 := blk_frozen BK566.out 1
                       go_wp2_with (first | ((with_reducible refine gate_callee (f := 28) rfl ?_); refine goesL_ (some 124) rfl rfl Try.func28 (by kernel_rfl) rfl #[.slice Ao86 t562.length co86] rfl aa ?_; (with_reducible refine (fairwaylaw0_Recs.calls kj113 (fun k_ => some k_ = (.slice Ao86 t562.length co86 : Value).ownBlock) (.slice Ao86 t562.length co86) t562  w _ ?side1 ?side2 A149.out).mono ?_); (case side1 => repeat (first | (with_reducible first | exact HB.out | apply below_alloc | apply pw_below_drewN | apply below_drew1 | refine below_set ?_ GE537.out | refine below_set ?_ GE543.out | refine below_set ?_ GE559.out | refine below_set ?_ GE566.out | refine below_set ?_ GE567.out) | exact HB.out)); (case side2 => exact Kd.R_tight rfl HO_567001.out); rintro e w159 ⟨rfl, hb, hkp⟩; refine ⟨_, rfl, ?_⟩; have n0_ := Aside0.mk (Kd.R_mono (ok' := fun k_ => some k_ ≠ (.slice Ao79 t556.length co79 : Value).ownBlock ∧ some k_ ≠ (u568001 : Value).ownBlock) (Kd.R_keptB (HO_544001.out) hkp (fun k_ hk_ hs_ => (hk_.2.1) hs_)) (fun k_ hk_ => ⟨hk_.1.1, hk_.1.2.2⟩)); have n1_ := Aside0.mk (Kd.R_mono (ok' := fun k_ => some k_ ≠ (.slice Ao28 x544001_1.length co28 : Value).ownBlock ∧ some k_ ≠ (u568001 : Value).ownBlock) (Kd.R_keptB (HO_560001.out) hkp (fun k_ hk_ hs_ => (hk_.2.1) hs_)) (fun k_ hk_ => ⟨hk_.1.1, hk_.1.2.2⟩)); have n2_ := Aside0.mk (Kd.R_mono (ok' := fun k_ => some k_ ≠ (.slice Ao28 x544001_1.length co28 : Value).ownBlock ∧ some k_ ≠ (.slice Ao79 t556.length co79 : Value).ownBlock) (Kd.R_keptB (HO_568001.out) hkp (fun k_ hk_ hs_ => (hk_.2.2) hs_)) (fun k_ hk_ => ⟨hk_.1.1, hk_.1.2.1⟩)); have n3_ := Aside0.mk (blk_kept (bk BK537.out) hkp (fun hs_ => (fun e_ => (Kd.R_ne HO_567001.out BK537.out (by decide)) e_) hs_)); have n4_ := Aside0.mk (blk_kept (bk BK543.out) hkp (fun hs_ => (fun e_ => (Kd.R_ne HO_567001.out BK543.out (by decide)) e_) hs_)); have n5_ := Aside0.mk (blk_kept (bk BK559.out) hkp (fun hs_ => (fun e_ => (Kd.R_ne HO_567001.out BK559.out (by decide)) e_) hs_)); have n6_ := Aside0.mk (blk_kept (bk BK566.out) hkp (fun hs_ => (fun e_ => (Kd.R_ne HO_567001.out BK566.out (by decide)) e_) hs_)); have n7_ := Aside0.mk (blk_kept (bk BK567.out) hkp (fun hs_ => (fun e_ => (Kd.R_ne HO_567001.out BK567.out (by decide)) e_) hs_)); have n8_ := Aside0.mk (hb); clear HO_544001; clear HO_560001; clear HO_568001; clear BK537; clear BK543; clear BK559; clear BK566; clear BK567; clear HB; clear HO_567001; have HO_544001 := n0_; have HO_560001 := n1_; have HO_568001 := n2_; have BK537 := n3_; have BK543 := n4_; have BK559 := n5_; have BK566 := n6_; have BK567 := n7_; have HB := n8_; clear n0_ n1_ n2_ n3_ n4_ n5_ n6_ n7_ n8_; (try clear hb); (try clear hkp); have hnb160 := NB559_537.out; have hnc160 := NB537_559.out; have hnb161 := NB559_543.out; have hnc161 := NB543_559.out; have hnb162 := NB559_567.out; have hnc162 := NB567_559.out; obtain ⟨hcz163_0, hcz163_1⟩ := cl2 BK559.out; obtain ⟨hfz163_0, hfz163_1⟩ := fz2 BK559.out; have hnb164 := NB543_537.out; have hnc164 := NB537_543.out; have hnb165 := NB543_567.out; have hnc165 := NB567_543.out; obtain ⟨hcz166_0, hcz166_1⟩ := cl2 BK543.out; obtain ⟨hfz166_0, hfz166_1⟩ := fz2 BK543.out) | ((with_reducible refine gate_callee (f := 41) rfl ?_); refine goesL_ (some 127) rfl rfl Try.func41 (by kernel_rfl) rfl #[.agg #[.int .i64 t555, .slice Ao79 t556.length co79], .agg #[.int .i64 x544000_1, .slice Ao28 x544001_1.length co28]] rfl aa ?_; (with_reducible refine (fairwayref0_EqSeg.calls kj113 t555 _ _ t556 x544000_1 _ _ x544001_1 true _ ?side1 ?side2 ?side3 ?side4 A150.out).mono ?_); (case side1 => repeat (first | exact (Kd.R_reads' HO_560001.out).2.2 | (with_reducible refine Kd.C_alloc ?_ _) | (with_reducible refine Kd.C_drewN ?_ _) | (with_reducible refine Kd.C_drew ?_))); (case side2 => exact (Kd.R_reads' HO_560001.out).2.1); (case side3 => repeat (first | exact (Kd.R_reads' HO_544001.out).2.2 | (with_reducible refine Kd.C_alloc ?_ _) | (with_reducible refine Kd.C_drewN ?_ _) | (with_reducible refine Kd.C_drew ?_))); (case side4 => exact (Kd.R_reads' HO_544001.out).2.1); rintro e w167 ⟨rfl, hb⟩; refine ⟨_, rfl, ?_⟩; replace HO_544001 := Aside0.mk (Kd.R_below (rk HO_544001.out) hb); replace HO_560001 := Aside0.mk (Kd.R_below (rk HO_560001.out) hb); replace HO_568001 := Aside0.mk (Kd.R_below (rk HO_568001.out) hb); replace BK537 := Aside0.mk (bb BK537.out hb); replace BK543 := Aside0.mk (bb BK543.out hb); replace BK559 := Aside0.mk (bb BK559.out hb); replace BK566 := Aside0.mk (bb BK566.out hb); replace BK567 := Aside0.mk (bb BK567.out hb); replace HB := Aside0.mk (below_step bo hb); (try clear hb); (try clear hb2); (try clear hk); (try clear hi); have hnb168 := NB567_537.out; have hnc168 := NB537_567.out; obtain ⟨hcz169_0, hcz169_1⟩ := cl2 BK567.out; obtain ⟨hfz169_0, hfz169_1⟩ := fz2 BK567.out; obtain ⟨Ao170, co170, eo170⟩ := Kd.R_slice HO_568001.out; subst eo170) | ((with_reducible refine gate_callee (f := 42) rfl ?_); refine goesL_ (some 132) rfl rfl Try.func42 (by kernel_rfl) rfl #[.agg #[.int .i64 x568000_103, .slice Ao170 x568001_103.length co170]] rfl aa ?_; (with_reducible refine (fairwayref0_CopySeg.calls kj113 x568000_103 _ _ x568001_103 t583 t584 _ ?side1 ?side2 A153.out).mono ?_); (case side1 => repeat (first | exact (Kd.R_reads' HO_568001.out).2.2 | (with_reducible refine Kd.C_alloc ?_ _) | (with_reducible refine Kd.C_drewN ?_ _) | (with_reducible refine Kd.C_drew ?_))); (case side2 => exact (Kd.R_reads' HO_568001.out).2.1); rintro e w171 ⟨v585, rfl, ho0, hb⟩; refine ⟨_, rfl, ?_⟩; have HO586 := Aside0.mk (Kd.R_lower (Kd.R_new' (Kd.R_new' (Kd.R_new' ho0 (Kd.R_lt (rk HO_544001.out))) (Kd.R_lt (rk HO_560001.out))) (Kd.R_lt (rk HO_568001.out))) (below_size bo)); replace HO_544001 := Aside0.mk (Kd.R_elder' (rk HO_544001.out) (Kd.R_base ho0) hb); replace HO_560001 := Aside0.mk (Kd.R_elder' (rk HO_560001.out) (Kd.R_base ho0) hb); replace HO_568001 := Aside0.mk (Kd.R_elder' (rk HO_568001.out) (Kd.R_base ho0) hb); replace BK537 := Aside0.mk (bb BK537.out hb); replace BK543 := Aside0.mk (bb BK543.out hb); replace BK559 := Aside0.mk (bb BK559.out hb); replace BK566 := Aside0.mk (bb BK566.out hb); replace BK567 := Aside0.mk (bb BK567.out hb); replace HB := Aside0.mk (below_step bo hb); (try clear hb); (try clear hb2); (try clear hk); (try clear hi); (try clear ho0); obtain ⟨hcz172_0, hcz172_1⟩ := cl2 BK543.out; obtain ⟨hfz172_0, hfz172_1⟩ := fz2 BK543.out; obtain ⟨Ao173, co173, eo173⟩ := Kd.R_slice HO586.out; subst eo173))
                       go_roundg kj113
                       case measure => have := HK1.out; have := HJ16.out; have := HJ24.out; have := HJ36.out; have := HJ70.out; have := HJ103.out; have := HJ113.out; omega
                       case rel => exact ⟨(wrap64 (x4_1 + 1)), (t583), (t584), (.slice Ao173 t584.length co173), ap, H', ⟨by have := HK1.out; have := HJ16.out; have := HJ24.out; have := HJ36.out; have := HJ70.out; have := HJ103.out; have := HJ113.out; omega⟩, ⟨by (with_reducible repeat (first | apply Kd.R_alloc | apply Kd.R_drewN | apply Kd.R_drew)); exact Kd.R_mono (Kd.R_far (p := ⟨gb543, 1, none⟩) (Kd.R_far (p := ⟨gb543, 0, none⟩) (Kd.R_types HO586.out BK543.out (by decide)) (fun _ hk => hk.2) (.int .i64 t583)) (fun _ hk => hk.2) (.slice Ao173 t584.length co173)) (fun _ hk => trivial)⟩, ⟨by (with_reducible repeat (first | refine blk_drewN ?_ _ | refine blk_drew ?_ | refine blk_alloc ?_ _)); refine blk_far ?_ NB537_543.out _; (with_reducible repeat (first | refine blk_drewN ?_ _ | refine blk_drew ?_ | refine blk_alloc ?_ _)); refine blk_far ?_ NB537_543.out _; (with_reducible repeat (first | refine blk_drewN ?_ _ | refine blk_drew ?_ | refine blk_alloc ?_ _)); exact BK537.out⟩, ⟨by (with_reducible repeat (first | refine blk_drewN ?_ _ | refine blk_drew ?_ | refine blk_alloc ?_ _)); refine blk_put (cs := #[.int .i64 t583, .slice Ao28 x544001_1.length co28]) ?_ 1 _ rfl; (with_reducible repeat (first | refine blk_drewN ?_ _ | refine blk_drew ?_ | refine blk_alloc ?_ _)); refine blk_put (cs := #[.int .i64 x544000_1, .slice Ao28 x544001_1.length co28]) ?_ 0 _ rfl; (with_reducible repeat (first | refine blk_drewN ?_ _ | refine blk_drew ?_ | refine blk_alloc ?_ _)); exact BK543.out⟩, ⟨bo⟩⟩
                      ·rw [if_neg c152] at H
                       have c152b0 : (x6_103 == 0) = false := beq_eq_false_iff_ne.mpr c152
                       have c152b1 : (x6_103 != 0) = true := bne_iff_ne.mpr c152
                       have H' := Aside0.mk H
                       clear H
                       have hnb174 := NB566_537.out
                       have hnc174 := NB537_566.out
                       have hnb175 := NB566_543.out
                       have hnc175 := NB543_566.out
                       have hnb176 := NB566_559.out
                       have hnc176 := NB559_566.out
                       have hnb177 := NB566_567.out
                       have hnc177 := NB567_566.out
                       have hcz178_0 : wc.cell? ⟨gb566, 0, none⟩ = some (.int .i64 t561) := (blk_cell BK566.out 0).trans rfl
                       have hcz178_1 : wc.cell? ⟨gb566, 1, none⟩ = some (.slice Ao86 t562.length co86) := (blk_cell BK566.out 1).trans rfl
                       have hfz178_0 := blk_frozen BK566.out 0
                       have hfz178_1 := blk_frozen BK566.out 1
                       go_wp2_with (first | ((with_reducible refine gate_callee (f := 28) rfl ?_); refine goesL_ (some 124) rfl rfl Try.func28 (by kernel_rfl) rfl #[.slice Ao86 t562.length co86] rfl aa ?_; (with_reducible refine (fairwaylaw0_Recs.calls kj113 (fun k_ => some k_ = (.slice Ao86 t562.length co86 : Value).ownBlock) (.slice Ao86 t562.length co86) t562  w _ ?side1 ?side2 A149.out).mono ?_); (case side1 => repeat (first | (with_reducible first | exact HB.out | apply below_alloc | apply pw_below_drewN | apply below_drew1 | refine below_set ?_ GE537.out | refine below_set ?_ GE543.out | refine below_set ?_ GE559.out | refine below_set ?_ GE566.out | refine below_set ?_ GE567.out) | exact HB.out)); (case side2 => exact Kd.R_tight rfl HO_567001.out); rintro e w179 ⟨rfl, hb, hkp⟩; refine ⟨_, rfl, ?_⟩; have n0_ := Aside0.mk (Kd.R_mono (ok' := fun k_ => some k_ ≠ (.slice Ao79 t556.length co79 : Value).ownBlock ∧ some k_ ≠ (u568001 : Value).ownBlock) (Kd.R_keptB (HO_544001.out) hkp (fun k_ hk_ hs_ => (hk_.2.1) hs_)) (fun k_ hk_ => ⟨hk_.1.1, hk_.1.2.2⟩)); have n1_ := Aside0.mk (Kd.R_mono (ok' := fun k_ => some k_ ≠ (.slice Ao28 x544001_1.length co28 : Value).ownBlock ∧ some k_ ≠ (u568001 : Value).ownBlock) (Kd.R_keptB (HO_560001.out) hkp (fun k_ hk_ hs_ => (hk_.2.1) hs_)) (fun k_ hk_ => ⟨hk_.1.1, hk_.1.2.2⟩)); have n2_ := Aside0.mk (Kd.R_mono (ok' := fun k_ => some k_ ≠ (.slice Ao28 x544001_1.length co28 : Value).ownBlock ∧ some k_ ≠ (.slice Ao79 t556.length co79 : Value).ownBlock) (Kd.R_keptB (HO_568001.out) hkp (fun k_ hk_ hs_ => (hk_.2.2) hs_)) (fun k_ hk_ => ⟨hk_.1.1, hk_.1.2.1⟩)); have n3_ := Aside0.mk (blk_kept (bk BK537.out) hkp (fun hs_ => (fun e_ => (Kd.R_ne HO_567001.out BK537.out (by decide)) e_) hs_)); have n4_ := Aside0.mk (blk_kept (bk BK543.out) hkp (fun hs_ => (fun e_ => (Kd.R_ne HO_567001.out BK543.out (by decide)) e_) hs_)); have n5_ := Aside0.mk (blk_kept (bk BK559.out) hkp (fun hs_ => (fun e_ => (Kd.R_ne HO_567001.out BK559.out (by decide)) e_) hs_)); have n6_ := Aside0.mk (blk_kept (bk BK566.out) hkp (fun hs_ => (fun e_ => (Kd.R_ne HO_567001.out BK566.out (by decide)) e_) hs_)); have n7_ := Aside0.mk (blk_kept (bk BK567.out) hkp (fun hs_ => (fun e_ => (Kd.R_ne HO_567001.out BK567.out (by decide)) e_) hs_)); have n8_ := Aside0.mk (hb); clear HO_544001; clear HO_560001; clear HO_568001; clear BK537; clear BK543; clear BK559; clear BK566; clear BK567; clear HB; clear HO_567001; have HO_544001 := n0_; have HO_560001 := n1_; have HO_568001 := n2_; have BK537 := n3_; have BK543 := n4_; have BK559 := n5_; have BK566 := n6_; have BK567 := n7_; have HB := n8_; clear n0_ n1_ n2_ n3_ n4_ n5_ n6_ n7_ n8_; (try clear hb); (try clear hkp); have hnb180 := NB559_537.out; have hnc180 := NB537_559.out; have hnb181 := NB559_543.out; have hnc181 := NB543_559.out; have hnb182 := NB559_567.out; have hnc182 := NB567_559.out; obtain ⟨hcz183_0, hcz183_1⟩ := cl2 BK559.out; obtain ⟨hfz183_0, hfz183_1⟩ := fz2 BK559.out; have hnb184 := NB543_537.out; have hnc184 := NB537_543.out; have hnb185 := NB543_567.out; have hnc185 := NB567_543.out; obtain ⟨hcz186_0, hcz186_1⟩ := cl2 BK543.out; obtain ⟨hfz186_0, hfz186_1⟩ := fz2 BK543.out) | ((with_reducible refine gate_callee (f := 41) rfl ?_); refine goesL_ (some 127) rfl rfl Try.func41 (by kernel_rfl) rfl #[.agg #[.int .i64 t555, .slice Ao79 t556.length co79], .agg #[.int .i64 x544000_1, .slice Ao28 x544001_1.length co28]] rfl aa ?_; (with_reducible refine (fairwayref0_EqSeg.calls kj113 t555 _ _ t556 x544000_1 _ _ x544001_1 true _ ?side1 ?side2 ?side3 ?side4 A150.out).mono ?_); (case side1 => repeat (first | exact (Kd.R_reads' HO_560001.out).2.2 | (with_reducible refine Kd.C_alloc ?_ _) | (with_reducible refine Kd.C_drewN ?_ _) | (with_reducible refine Kd.C_drew ?_))); (case side2 => exact (Kd.R_reads' HO_560001.out).2.1); (case side3 => repeat (first | exact (Kd.R_reads' HO_544001.out).2.2 | (with_reducible refine Kd.C_alloc ?_ _) | (with_reducible refine Kd.C_drewN ?_ _) | (with_reducible refine Kd.C_drew ?_))); (case side4 => exact (Kd.R_reads' HO_544001.out).2.1); rintro e w187 ⟨rfl, hb⟩; refine ⟨_, rfl, ?_⟩; replace HO_544001 := Aside0.mk (Kd.R_below (rk HO_544001.out) hb); replace HO_560001 := Aside0.mk (Kd.R_below (rk HO_560001.out) hb); replace HO_568001 := Aside0.mk (Kd.R_below (rk HO_568001.out) hb); replace BK537 := Aside0.mk (bb BK537.out hb); replace BK543 := Aside0.mk (bb BK543.out hb); replace BK559 := Aside0.mk (bb BK559.out hb); replace BK566 := Aside0.mk (bb BK566.out hb); replace BK567 := Aside0.mk (bb BK567.out hb); replace HB := Aside0.mk (below_step bo hb); (try clear hb); (try clear hb2); (try clear hk); (try clear hi)))
                       go_roundg kj113
                       case measure => have := HK1.out; have := HJ16.out; have := HJ24.out; have := HJ36.out; have := HJ70.out; have := HJ103.out; have := HJ113.out; omega
                       case rel => exact ⟨(wrap64 (x4_1 + 1)), (x544000_1), (x544001_1), (.slice Ao28 x544001_1.length co28), ap, H', ⟨by have := HK1.out; have := HJ16.out; have := HJ24.out; have := HJ36.out; have := HJ70.out; have := HJ103.out; have := HJ113.out; omega⟩, ⟨by (with_reducible repeat (first | apply Kd.R_alloc | apply Kd.R_drewN | apply Kd.R_drew)); exact Kd.R_mono HO_544001.out (fun _ hk => trivial)⟩, ⟨by (with_reducible repeat (first | refine blk_drewN ?_ _ | refine blk_drew ?_ | refine blk_alloc ?_ _)); exact BK537.out⟩, ⟨by (with_reducible repeat (first | refine blk_drewN ?_ _ | refine blk_drew ?_ | refine blk_alloc ?_ _)); exact BK543.out⟩, ⟨bo⟩⟩
                     ·replace c151 := Bool.eq_false_iff.mpr c151
                      subst c151
                      have H1 : (some false) = some r := by rw [if_neg (show ¬ (false = true) by decide)] at H; exact H
                      clear H
                      have H := H1
                      clear H1
                      obtain rfl := Option.some.inj H
                      have hnb188 := NB566_537.out
                      have hnc188 := NB537_566.out
                      have hnb189 := NB566_543.out
                      have hnc189 := NB543_566.out
                      have hnb190 := NB566_559.out
                      have hnc190 := NB559_566.out
                      have hnb191 := NB566_567.out
                      have hnc191 := NB567_566.out
                      have hcz192_0 : wc.cell? ⟨gb566, 0, none⟩ = some (.int .i64 t561) := (blk_cell BK566.out 0).trans rfl
                      have hcz192_1 : wc.cell? ⟨gb566, 1, none⟩ = some (.slice Ao86 t562.length co86) := (blk_cell BK566.out 1).trans rfl
                      have hfz192_0 := blk_frozen BK566.out 0
                      have hfz192_1 := blk_frozen BK566.out 1
                      go_wp2_with (first | ((with_reducible refine gate_callee (f := 28) rfl ?_); refine goesL_ (some 124) rfl rfl Try.func28 (by kernel_rfl) rfl #[.slice Ao86 t562.length co86] rfl aa ?_; (with_reducible refine (fairwaylaw0_Recs.calls kj113 (fun k_ => some k_ = (.slice Ao86 t562.length co86 : Value).ownBlock) (.slice Ao86 t562.length co86) t562  w _ ?side1 ?side2 A149.out).mono ?_); (case side1 => repeat (first | (with_reducible first | exact HB.out | apply below_alloc | apply pw_below_drewN | apply below_drew1 | refine below_set ?_ GE537.out | refine below_set ?_ GE543.out | refine below_set ?_ GE559.out | refine below_set ?_ GE566.out | refine below_set ?_ GE567.out) | exact HB.out)); (case side2 => exact Kd.R_tight rfl HO_567001.out); rintro e w193 ⟨rfl, hb, hkp⟩; refine ⟨_, rfl, ?_⟩; have n0_ := Aside0.mk (Kd.R_mono (ok' := fun k_ => some k_ ≠ (.slice Ao79 t556.length co79 : Value).ownBlock ∧ some k_ ≠ (u568001 : Value).ownBlock) (Kd.R_keptB (HO_544001.out) hkp (fun k_ hk_ hs_ => (hk_.2.1) hs_)) (fun k_ hk_ => ⟨hk_.1.1, hk_.1.2.2⟩)); have n1_ := Aside0.mk (Kd.R_mono (ok' := fun k_ => some k_ ≠ (.slice Ao28 x544001_1.length co28 : Value).ownBlock ∧ some k_ ≠ (u568001 : Value).ownBlock) (Kd.R_keptB (HO_560001.out) hkp (fun k_ hk_ hs_ => (hk_.2.1) hs_)) (fun k_ hk_ => ⟨hk_.1.1, hk_.1.2.2⟩)); have n2_ := Aside0.mk (Kd.R_mono (ok' := fun k_ => some k_ ≠ (.slice Ao28 x544001_1.length co28 : Value).ownBlock ∧ some k_ ≠ (.slice Ao79 t556.length co79 : Value).ownBlock) (Kd.R_keptB (HO_568001.out) hkp (fun k_ hk_ hs_ => (hk_.2.2) hs_)) (fun k_ hk_ => ⟨hk_.1.1, hk_.1.2.1⟩)); have n3_ := Aside0.mk (blk_kept (bk BK537.out) hkp (fun hs_ => (fun e_ => (Kd.R_ne HO_567001.out BK537.out (by decide)) e_) hs_)); have n4_ := Aside0.mk (blk_kept (bk BK543.out) hkp (fun hs_ => (fun e_ => (Kd.R_ne HO_567001.out BK543.out (by decide)) e_) hs_)); have n5_ := Aside0.mk (blk_kept (bk BK559.out) hkp (fun hs_ => (fun e_ => (Kd.R_ne HO_567001.out BK559.out (by decide)) e_) hs_)); have n6_ := Aside0.mk (blk_kept (bk BK566.out) hkp (fun hs_ => (fun e_ => (Kd.R_ne HO_567001.out BK566.out (by decide)) e_) hs_)); have n7_ := Aside0.mk (blk_kept (bk BK567.out) hkp (fun hs_ => (fun e_ => (Kd.R_ne HO_567001.out BK567.out (by decide)) e_) hs_)); have n8_ := Aside0.mk (hb); clear HO_544001; clear HO_560001; clear HO_568001; clear BK537; clear BK543; clear BK559; clear BK566; clear BK567; clear HB; clear HO_567001; have HO_544001 := n0_; have HO_560001 := n1_; have HO_568001 := n2_; have BK537 := n3_; have BK543 := n4_; have BK559 := n5_; have BK566 := n6_; have BK567 := n7_; have HB := n8_; clear n0_ n1_ n2_ n3_ n4_ n5_ n6_ n7_ n8_; (try clear hb); (try clear hkp); have hnb194 := NB559_537.out; have hnc194 := NB537_559.out; have hnb195 := NB559_543.out; have hnc195 := NB543_559.out; have hnb196 := NB559_567.out; have hnc196 := NB567_559.out; obtain ⟨hcz197_0, hcz197_1⟩ := cl2 BK559.out; obtain ⟨hfz197_0, hfz197_1⟩ := fz2 BK559.out; have hnb198 := NB543_537.out; have hnc198 := NB537_543.out; have hnb199 := NB543_567.out; have hnc199 := NB567_543.out; obtain ⟨hcz200_0, hcz200_1⟩ := cl2 BK543.out; obtain ⟨hfz200_0, hfz200_1⟩ := fz2 BK543.out) | ((with_reducible refine gate_callee (f := 41) rfl ?_); refine goesL_ (some 127) rfl rfl Try.func41 (by kernel_rfl) rfl #[.agg #[.int .i64 t555, .slice Ao79 t556.length co79], .agg #[.int .i64 x544000_1, .slice Ao28 x544001_1.length co28]] rfl aa ?_; (with_reducible refine (fairwayref0_EqSeg.calls kj113 t555 _ _ t556 x544000_1 _ _ x544001_1 false _ ?side1 ?side2 ?side3 ?side4 A150.out).mono ?_); (case side1 => repeat (first | exact (Kd.R_reads' HO_560001.out).2.2 | (with_reducible refine Kd.C_alloc ?_ _) | (with_reducible refine Kd.C_drewN ?_ _) | (with_reducible refine Kd.C_drew ?_))); (case side2 => exact (Kd.R_reads' HO_560001.out).2.1); (case side3 => repeat (first | exact (Kd.R_reads' HO_544001.out).2.2 | (with_reducible refine Kd.C_alloc ?_ _) | (with_reducible refine Kd.C_drewN ?_ _) | (with_reducible refine Kd.C_drew ?_))); (case side4 => exact (Kd.R_reads' HO_544001.out).2.1); rintro e w201 ⟨rfl, hb⟩; refine ⟨_, rfl, ?_⟩; replace HO_544001 := Aside0.mk (Kd.R_below (rk HO_544001.out) hb); replace HO_560001 := Aside0.mk (Kd.R_below (rk HO_560001.out) hb); replace HO_568001 := Aside0.mk (Kd.R_below (rk HO_568001.out) hb); replace BK537 := Aside0.mk (bb BK537.out hb); replace BK543 := Aside0.mk (bb BK543.out hb); replace BK559 := Aside0.mk (bb BK559.out hb); replace BK566 := Aside0.mk (bb BK566.out hb); replace BK567 := Aside0.mk (bb BK567.out hb); replace HB := Aside0.mk (below_step bo hb); (try clear hb); (try clear hb2); (try clear hk); (try clear hi)))
                      go_ret
                      exact ⟨er, bo⟩
             ·rw [if_neg c69] at H
              exact absurd H (by simp)
            ·rw [if_neg c68] at H
             exact absurd H (by simp)
      ·replace c23 := Bool.eq_false_iff.mpr c23
       subst c23
       have H1 : ((fairwaylaw11_wakes.f kj16).bind fun t544 => (some t544)) = some r := by rw [if_neg (show ¬ (false = true) by decide)] at H; exact H
       clear H
       have H := H1
       clear H1
       replace H := Option.bind_eq_some_iff.mp H
       obtain ⟨t544, A2020, H⟩ := H
       replace H : (some t544) = some r := H
       have A202 := Aside0.mk A2020
       clear A2020
       obtain rfl := Option.some.inj H
       go_wp2_with (first | ((with_reducible refine gate_callee (f := 37) rfl ?_); refine goesL_ (some 133) rfl rfl Try.func37 (by kernel_rfl) rfl #[] rfl aa ?_; (with_reducible refine (fairwaylaw11_wakes.calls kj16  t544 _ A202.out).mono ?_); rintro e w203 ⟨rfl, hb⟩; refine ⟨_, rfl, ?_⟩; replace HO_544001 := Aside0.mk (Kd.R_below (rk HO_544001.out) hb); replace BK537 := Aside0.mk (bb BK537.out hb); replace BK543 := Aside0.mk (bb BK543.out hb); replace HB := Aside0.mk (below_step bo hb); (try clear hb); (try clear hb2); (try clear hk); (try clear hi)))
       go_ret
       exact ⟨er, bo⟩

end Go.Proofs.Ytmabdfdmccbfnaa.P

/- From data to typed values: whatever the claim's reader reads at a type is told by the print's kinds, with the bounds of the reach. -/
namespace Go.Proofs.Ytmabdfdmccbfnaa.Open
open Go.RowKit Go.Proofs.YtmabdfdmccbfnaaW.PrintWords Go.Proofs.YtmabdfdmccbfnaaW.PrintLast
set_option linter.unusedVariables false

/-- What is read at type t is told by kind k, and is good. -/
structure Rd {α : Type} (P : Program) (t : TypeId) (k : Kd α) (good : α → Prop) : Prop where
  sz : P.cellsOf t = k.sz
  rd : ∀ {H : Type} (enc : TypeId × Value → H) (w : World) (fuel : Nat) (cs : List Value) (d : DataW H) (ps : List MemPlace),
    DataW.trod enc P w 0 (fun _ => true) true fuel t cs = some (d, ps) → (∀ n ∈ d.weights P t, n ≤ reachBytes) → ∃ x, k.K w x cs ∧ good x

theorem rd_int {P : Program} {t : TypeId} {k : IntKind} (hu : P.underlying t = some (.int k)) (hc : P.cellsOf t = 1) : Rd P t (Kd.int k) (fun n => (Lit.int k n).wf = true) where
  sz := hc
  rd := by
    intro H enc w fuel cs d ps h _
    obtain ⟨n, rfl, _, hw⟩ := DataW.trod_int hu h
    exact ⟨n, rfl, hw⟩

theorem rd_bool {P : Program} {t : TypeId} (hu : P.underlying t = some .bool) (hc : P.cellsOf t = 1) : Rd P t Kd.bool (fun _ => True) where
  sz := hc
  rd := by
    intro H enc w fuel cs d ps h _
    obtain ⟨b, rfl, _⟩ := DataW.trod_bool hu h
    exact ⟨b, rfl, trivial⟩

theorem rd_string {P : Program} {t : TypeId} (hu : P.underlying t = some .string) (hc : P.cellsOf t = 1) : Rd P t Kd.string (fun s => s.size ≤ 140737488351232) where
  sz := hc
  rd := by
    intro H enc w fuel cs d ps h hw
    obtain ⟨s, rfl, hx, _⟩ := DataW.trod_string hu h
    obtain ⟨rfl, rfl⟩ := Prod.mk.inj hx
    refine ⟨s, rfl, ?_⟩
    have := hw s.data.toList.length (by simp [DataW.weights])
    simpa [reachBytes] using this

/-- A struct's fields, from one on: their cells in line. -/
structure Fs {α : Type} (P : Program) (fs : List Field) (off : Nat) (k : Kd α) (good : α → Prop) : Prop where
  rd : ∀ {H : Type} (enc : TypeId × Value → H) (w : World) (fuel : Nat) (cs : List Value) (ds : List (DataW H × List MemPlace)),
    ds.length = fs.length → (∀ (i : Nat) f, fs[i]? = some f → DataW.trod enc P w 0 (fun _ => true) true fuel f.type ((cs.drop f.offset).take (P.cellsOf f.type)) = ds[i]?) →
    (∀ n ∈ DataW.weightsEach P (fs.map (·.type)) (ds.map (·.1)), n ≤ reachBytes) → cs.length = off + k.sz → ∃ x, k.K w x (cs.drop off) ∧ good x

theorem fs_last {α : Type} {P : Program} {f : Field} {k : Kd α} {good : α → Prop} (h : Rd P f.type k good) : Fs P [f] f.offset k good where
  rd := by
    intro H enc w fuel cs ds hl hd hw hc
    match ds, hl with
    | [y], _ =>
      have h0 := hd 0 f rfl
      simp only [List.getElem?_cons_zero] at h0
      obtain ⟨x, hk, hg⟩ := h.rd enc w fuel _ y.1 y.2 h0 (fun n hn => hw n (by simp [DataW.weightsEach]; exact hn))
      rw [h.sz, List.take_of_length_le (by rw [List.length_drop]; omega)] at hk
      exact ⟨x, hk, hg⟩

theorem fs_cons {α β : Type} {P : Program} {f : Field} {fs : List Field} {off : Nat} {k : Kd α} {k' : Kd β} {good : α → Prop} {good' : β → Prop} (h : Rd P f.type k good) (hs : Fs P fs off k' good')
    (ho : f.offset + k.sz = off) : Fs P (f :: fs) f.offset (Kd.pair k k') (fun x => good x.1 ∧ good' x.2) where
  rd := by
    intro H enc w fuel cs ds hl hd hw hc
    match ds, hl with
    | y :: ys, hl =>
      have hsz : (Kd.pair k k').sz = k.sz + k'.sz := rfl
      rw [hsz] at hc
      have h0 := hd 0 f rfl
      simp only [List.getElem?_cons_zero] at h0
      obtain ⟨x, hk, hg⟩ := h.rd enc w fuel _ y.1 y.2 h0 (fun n hn => hw n (by simp only [List.map_cons, DataW.weightsEach, List.mem_append]; exact .inl hn))
      obtain ⟨x', hk', hg'⟩ := hs.rd enc w fuel cs ys (by simpa using hl) (fun i g hi => by simpa using hd (i + 1) g (by simpa using hi))
        (fun n hn => hw n (by simp only [List.map_cons, DataW.weightsEach, List.mem_append]; exact .inr hn)) (by omega)
      rw [h.sz] at hk
      refine ⟨(x, x'), ⟨_, _, ?_, hk, hk'⟩, hg, hg'⟩
      rw [← ho, ← List.drop_drop, List.take_append_drop]

theorem rd_struct {α β : Type} {P : Program} {t : TypeId} {fs : Array Field} {k : Kd β} {good : β → Prop} {fw : α → β} {back : β → α} (hu : P.underlying t = some (.struct fs)) (h : Fs P fs.toList 0 k good)
    (hc : P.cellsOf t = k.sz) (hb : ∀ y, fw (back y) = y) : Rd P t (Kd.iso k fw) (fun x => good (fw x)) where
  sz := hc
  rd := by
    intro H enc w fuel cs d ps hr hw
    obtain ⟨xs, n, _, hx, hl, hlen, hf⟩ := DataW.trod_struct hu hr
    obtain ⟨rfl, rfl⟩ := Prod.mk.inj hx
    obtain ⟨x, hk, hg⟩ := h.rd enc w n cs xs (by simpa using hlen) (fun i f hi => by simpa using hf i f (by simpa using hi))
      (fun m hm => hw m (by simp only [DataW.weights, hu]; exact hm)) (by rw [hl, hc]; omega)
    refine ⟨back x, ?_, ?_⟩
    · show k.K w (fw (back x)) cs
      rw [hb]
      simpa using hk
    · show good (fw (back x))
      rw [hb]; exact hg

theorem list_of {α : Type} {p : Nat → α → Prop} : ∀ n, (∀ i, i < n → ∃ x, p i x) → ∃ xs : List α, xs.length = n ∧ ∀ i x, xs[i]? = some x → p i x
  | 0, _ => ⟨[], rfl, fun i x h => by simp at h⟩
  | n + 1, h => by
    obtain ⟨xs, hl, hx⟩ := list_of n (fun i hi => h i (by omega))
    obtain ⟨y, hy⟩ := h n (by omega)
    refine ⟨xs ++ [y], by simp [hl], fun i x hi => ?_⟩
    by_cases hin : i < xs.length
    · rw [List.getElem?_append_left hin] at hi
      exact hx i x hi
    · rw [List.getElem?_append_right (by omega)] at hi
      have : i = xs.length := by
        by_cases e : i - xs.length = 0
        · omega
        · rw [List.getElem?_eq_none (by simp; omega)] at hi
          exact absurd hi (by simp)
      subst this
      simp at hi
      rw [hl, ← hi]
      exact hy

theorem weights_all {H : Type} {P : Program} {e : TypeId} : ∀ {l : List (DataW H)} {d : DataW H}, d ∈ l → ∀ n ∈ d.weights P e, n ∈ DataW.weightsAll P e l
  | [], _, h, _, _ => by simp at h
  | x :: l, d, h, n, hn => by
    simp only [DataW.weightsAll, List.mem_append]
    rcases List.mem_cons.1 h with rfl | h
    · exact .inl hn
    · exact .inr (weights_all h n hn)

theorem rd_slice {α : Type} {P : Program} {t e : TypeId} {k : Kd α} {good : α → Prop} (B : Nat) (hu : P.underlying t = some (.slice e)) (hc : P.cellsOf t = 1) (hB : P.bytesOf e = B) (h : Rd P e k good) :
    Rd P t (Kd.slice e k) (fun xs => (∀ x ∈ xs, good x) ∧ xs.length * B ≤ 140737488351232) where
  sz := hc
  rd := by
    intro H enc w fuel cs d ps hr hw
    rcases DataW.trod_slice hu hr with ⟨rfl, hx⟩ | ⟨a, len, cap, elems, rest, n, _, rfl, hx, _, hl, hm, hlen, hel, _, _⟩
    · exact ⟨[], ⟨none, 0, rfl, Nat.le_refl 0, Kd.C_nil k w⟩, by simp, by simp⟩
    · obtain ⟨rfl, rfl⟩ := Prod.mk.inj hx
      have hw1 : ∀ x ∈ elems, ∀ n ∈ x.1.weights P e, n ≤ reachBytes := fun x hx n hn =>
        hw n (by simp only [DataW.weights, hu, List.mem_cons, List.mem_append]; exact .inr (.inl (weights_all (List.mem_map_of_mem hx) n hn)))
      have hw2 : (elems.length + rest.length) * P.bytesOf e ≤ reachBytes := hw _ (by simp only [DataW.weights, hu, List.mem_cons, List.length_map]; simp)
      have key : ∀ i, i < len → ∃ x, good x ∧ ∃ c, c.length = k.sz ∧ k.K w x c ∧ ∀ j u, c[j]? = some u → w.cell? (a.add (i * k.sz + j)) = some u := by
        intro i hi
        have h1 := hel i hi
        rw [List.getElem?_eq_getElem (by omega)] at h1
        obtain ⟨c, hcs, htr⟩ := Option.bind_eq_some_iff.1 h1
        obtain ⟨x, hk, hg⟩ := h.rd enc w n c _ _ htr (hw1 _ (List.getElem_mem _))
        obtain ⟨_, hcl, hcell⟩ := World.cells?_some hcs
        rw [h.sz] at hcl hcell
        refine ⟨x, hg, c, hcl, hk, fun j u hu => ?_⟩
        have hj : j < k.sz := by
          rw [← hcl]
          exact (List.getElem?_eq_some_iff.1 hu).1
        rw [← Go.Deep.add_add, hcell j hj, hu]
      obtain ⟨xs, hxl, hxs⟩ := list_of (α := α) len key
      subst hxl
      refine ⟨xs, ⟨some a, cap, rfl, hl, rfl, by unfold maxLen at hm; omega, fun _ => ⟨a, rfl, fun j p hp => ?_⟩⟩, fun x hx => ?_, ?_⟩
      · obtain ⟨_, c, h1, h2, h3⟩ := hxs j p hp
        exact ⟨c, h1, h2, h3⟩
      · obtain ⟨i, hi, rfl⟩ := List.mem_iff_getElem.1 hx
        exact (hxs i _ (List.getElem?_eq_getElem hi)).1
      · have : xs.length * P.bytesOf e ≤ (elems.length + rest.length) * P.bytesOf e := Nat.mul_le_mul_right _ (by omega)
        unfold reachBytes at hw2
        rw [hB] at hw2 this
        omega
end Go.Proofs.Ytmabdfdmccbfnaa.Open

/- Readers of the types that this seat's laws take. -/
namespace Go.Proofs.Ytmabdfdmccbfnaa.P
open Go.RowKit Go.Proofs.YtmabdfdmccbfnaaW.PrintWords Go.Proofs.YtmabdfdmccbfnaaW.PrintLast Go.Proofs.Ytmabdfdmccbfnaa.Open
set_option linter.unusedVariables false
def good25 (x : S25) : Prop := (Lit.int .i64 x.f0).wf = true ∧ (Lit.int .i64 x.f1).wf = true ∧ x.f2.size ≤ 140737488351232 ∧ x.f3.size ≤ 140737488351232 ∧ (Lit.int .i64 x.f4).wf = true ∧ True
theorem rd25 : Rd Try.prog 25 k25 good25 := rd_struct (back := fun y => ⟨y.1, y.2.1, y.2.2.1, y.2.2.2.1, y.2.2.2.2.1, y.2.2.2.2.2⟩) Try.underlying25 (fs_cons (rd_int Try.underlying3 (by kernel_rfl)) (fs_cons (rd_int Try.underlying3 (by kernel_rfl)) (fs_cons (rd_string Try.underlying9 (by kernel_rfl)) (fs_cons (rd_string Try.underlying9 (by kernel_rfl)) (fs_cons (rd_int Try.underlying3 (by kernel_rfl)) (fs_last (rd_bool Try.underlying4 (by kernel_rfl))) rfl) rfl) rfl) rfl) rfl) (by kernel_rfl) (fun _ => rfl)
def good38 (x : S38) : Prop := ((∀ z ∈ x.f0, good25 z) ∧ x.f0.length * 64 ≤ 140737488351232) ∧ x.f1.size ≤ 140737488351232
theorem rd38 : Rd Try.prog 38 k38 good38 := rd_struct (back := fun y => ⟨y.1, y.2⟩) Try.underlying38 (fs_cons (rd_slice 64 Try.underlying36 (by kernel_rfl) (by kernel_rfl) rd25) (fs_last (rd_string Try.underlying9 (by kernel_rfl))) rfl) (by kernel_rfl) (fun _ => rfl)
def good53 (x : S53) : Prop := (Lit.int .i64 x.f0).wf = true ∧ ((∀ z ∈ x.f1, good25 z) ∧ x.f1.length * 64 ≤ 140737488351232)
theorem rd53 : Rd Try.prog 53 k53 good53 := rd_struct (back := fun y => ⟨y.1, y.2⟩) Try.underlying53 (fs_cons (rd_int Try.underlying3 (by kernel_rfl)) (fs_last (rd_slice 64 Try.underlying36 (by kernel_rfl) (by kernel_rfl) rd25)) rfl) (by kernel_rfl) (fun _ => rfl)
structure S55 where
  f0 : S53
  f1 : List (S25)
  f2 : List (Int)
  f3 : ByteArray
def k55 : Kd S55 := Kd.iso (Kd.pair k53 (Kd.pair (Kd.slice 25 k25) (Kd.pair (Kd.slice 3 (Kd.int .i64)) Kd.string))) (fun x : S55 => (x.f0, x.f1, x.f2, x.f3))
def good55 (x : S55) : Prop := good53 x.f0 ∧ ((∀ z ∈ x.f1, good25 z) ∧ x.f1.length * 64 ≤ 140737488351232) ∧ ((∀ z ∈ x.f2, (Lit.int .i64 z).wf = true) ∧ x.f2.length * 8 ≤ 140737488351232) ∧ x.f3.size ≤ 140737488351232
theorem rd55 : Rd Try.prog 55 k55 good55 := rd_struct (back := fun y => ⟨y.1, y.2.1, y.2.2.1, y.2.2.2⟩) Try.underlying55 (fs_cons rd53 (fs_cons (rd_slice 64 Try.underlying36 (by kernel_rfl) (by kernel_rfl) rd25) (fs_cons (rd_slice 8 Try.underlying50 (by kernel_rfl) (by kernel_rfl) (rd_int Try.underlying3 (by kernel_rfl))) (fs_last (rd_string Try.underlying9 (by kernel_rfl))) rfl) rfl) rfl) (by kernel_rfl) (fun _ => rfl)
end Go.Proofs.Ytmabdfdmccbfnaa.P

/- Records: which may be, how many bytes they have. -/
namespace Go.Proofs.Ytmabdfdmccbfnaa.URec
open Go Go.RowKit Go.Proofs.Ytmabdfdmccbfnaa.P Go.Proofs.YtmabdfdmccbfnaaW.PrintWords Go.Proofs.YtmabdfdmccbfnaaW.PrintLast
set_option linter.unusedVariables false
set_option linter.unusedSimpArgs false

abbrev R := S25
/-- A record that may be. -/
def recOk (r : R) : Prop := 0 ≤ r.f0 ∧ r.f0 < 1099511627776 ∧ 0 ≤ r.f1 ∧ r.f1 ≤ 1099511627776 ∧ r.f2.size ≤ 1024 ∧ r.f3.size ≤ 1024 ∧ 0 ≤ r.f4 ∧ r.f4 ≤ 2 ∧ (r.f5 = true → r.f3.toList = [])

theorem check_yes (r : R) (h : recOk r) : Ev (fun k => rec_Check.f k r.f0 r.f1 r.f2 r.f3 r.f4 r.f5) 0 := by
  obtain ⟨h0, h1, h2, h3, h4, h5, h6, h7, h8⟩ := h
  refine Ev.step (f := fun _ => some 0) (fun k => ?_) (Ev.now _)
  simp only [rec_Check.f, rec_Check.j0]
  rw [if_neg (by omega), if_neg (by omega), if_neg (by omega), if_neg (by omega), if_neg (by omega), if_neg (by simp; omega), if_neg (by omega), if_neg (by omega)]
  split
  · rename_i hg
    rw [if_pos (h8 hg)]
  · rfl
theorem check_no (r : R) (h : ¬ recOk r) : Ev (fun k => rec_Check.f k r.f0 r.f1 r.f2 r.f3 r.f4 r.f5) 1 := by
  refine Ev.step (f := fun _ => some 1) (fun k => ?_) (Ev.now _)
  simp only [rec_Check.f, rec_Check.j0]
  by_cases h0 : r.f0 < 0
  · rw [if_pos h0]; rfl
  rw [if_neg h0]
  by_cases h1 : r.f0 ≥ 1099511627776
  · rw [if_pos h1]; rfl
  rw [if_neg h1]
  by_cases h2 : r.f1 < 0
  · rw [if_pos h2]; rfl
  rw [if_neg h2]
  by_cases h3 : r.f1 > 1099511627776
  · rw [if_pos h3]; rfl
  rw [if_neg h3]
  by_cases h4 : r.f4 < 0
  · rw [if_pos h4]; rfl
  rw [if_neg h4]
  by_cases h5 : r.f4 > 2
  · rw [if_pos (by simpa using h5)]
  rw [if_neg (by simpa using h5)]
  by_cases h6 : (r.f2.size : Int) > 1024
  · rw [if_pos h6]
  rw [if_neg h6]
  by_cases h7 : (r.f3.size : Int) > 1024
  · rw [if_pos h7]
  rw [if_neg h7]
  by_cases h8 : r.f5 = true
  · rw [if_pos h8]
    by_cases h9 : r.f3.toList = []
    · exact absurd ⟨by omega, by omega, by omega, by omega, by omega, by omega, by omega, by omega, fun _ => h9⟩ h
    · rw [if_neg h9]
  · exact absurd ⟨by omega, by omega, by omega, by omega, by omega, by omega, by omega, by omega, fun g => absurd g h8⟩ h

theorem num_f (a b : Int) : fairwayref0_Num.f a b = some (decide (0 ≤ a ∧ a ≤ b)) := by
  unfold fairwayref0_Num.f
  by_cases h : a ≥ 0
  · rw [if_pos h]; congr 1; simp; omega
  · rw [if_neg h]; congr 1; symm; simp; omega

theorem rec_yes (r : R) (h : recOk r) : fairwayref10_Rec.f r.f0 r.f1 r.f2 r.f3 r.f4 r.f5 = some true := by
  obtain ⟨h0, h1, h2, h3, h4, h5, h6, h7, h8⟩ := h
  unfold fairwayref10_Rec.f
  simp only [num_f, Option.bind_some]
  rw [if_pos (by simp; omega), if_pos (by simp; omega), if_pos (by omega), if_pos (by omega), if_pos (by simp; omega)]
  split
  · rename_i hg
    rw [h8 hg]; rfl
  · rfl
theorem rec_no (r : R) (h : ¬ recOk r) : fairwayref10_Rec.f r.f0 r.f1 r.f2 r.f3 r.f4 r.f5 = some false := by
  unfold fairwayref10_Rec.f
  simp only [num_f, Option.bind_some]
  by_cases h0 : 0 ≤ r.f0 ∧ r.f0 ≤ 1099511627775
  · rw [if_pos (by simpa using h0)]
    by_cases h1 : 0 ≤ r.f1 ∧ r.f1 ≤ 1099511627776
    · rw [if_pos (by simpa using h1)]
      by_cases h2 : (r.f2.size : Int) ≤ 1024
      · rw [if_pos h2]
        by_cases h3 : (r.f3.size : Int) ≤ 1024
        · rw [if_pos h3]
          by_cases h4 : 0 ≤ r.f4 ∧ r.f4 ≤ 2
          · rw [if_pos (by simpa using h4)]
            by_cases h8 : r.f5 = true
            · rw [if_pos h8]
              by_cases h9 : r.f3.toList = []
              · exact absurd ⟨by omega, by omega, by omega, by omega, by omega, by omega, by omega, by omega, fun _ => h9⟩ h
              · simpa using h9
            · exact absurd ⟨by omega, by omega, by omega, by omega, by omega, by omega, by omega, by omega, fun g => absurd g h8⟩ h
          · rw [if_neg (by simpa using h4)]
        · rw [if_neg h3]
      · rw [if_neg h2]
    · rw [if_neg (by simpa using h1)]
  · rw [if_neg (by simpa using h0)]

/-- How many bytes a record has. -/
def recLen (r : R) : Nat := 25 + r.f2.size + r.f3.size
theorem wrap_in {x : Int} (h0 : -9223372036854775808 ≤ x) (h1 : x ≤ 9223372036854775807) : wrap64 x = x := by
  unfold wrap64; omega
theorem size_yes (r : R) (h : recOk r) : Ev (fun k => rec_Size.f k r.f0 r.f1 r.f2 r.f3 r.f4 r.f5) ((recLen r : Int), 0) := by
  obtain ⟨h0, h1, h2, h3, h4, h5, h6, h7, h8⟩ := id h
  refine Ev.bind (check_yes r h) (Ev.congr (f := fun _ => some ((recLen r : Int), 0)) (fun k => ?_) (Ev.now _))
  simp only [if_pos]
  rw [wrap_in (x := 25 + (r.f2.size : Int)) (by omega) (by omega), wrap_in (by omega) (by omega)]
  simp [recLen]
theorem size_no (r : R) (h : ¬ recOk r) : Ev (fun k => rec_Size.f k r.f0 r.f1 r.f2 r.f3 r.f4 r.f5) (0, 1) := by
  refine Ev.bind (check_no r h) (Ev.congr (f := fun _ => some (0, 1)) (fun k => ?_) (Ev.now _))
  rw [if_neg (by decide)]

theorem rd_take (l : List R) (n i : Nat) (h : i < n) : rd_T25 (l.take n) i = rd_T25 l i := by
  unfold rd_T25
  simp [List.getD_eq_getElem?_getD, List.getElem?_take, h]
theorem rd_mem {l : List R} {i : Nat} (h : i < l.length) : rd_T25 l i ∈ l := by
  unfold rd_T25
  simp [List.getD_eq_getElem?_getD, List.getElem?_eq_getElem h]
theorem rd_get {l : List R} {i : Nat} (h : i < l.length) : rd_T25 l i = l[i] := by
  unfold rd_T25
  simp [List.getD_eq_getElem?_getD, List.getElem?_eq_getElem h]
end Go.Proofs.Ytmabdfdmccbfnaa.URec

/- Weights: how much of a script is played. -/
namespace Go.Proofs.Ytmabdfdmccbfnaa.UHeavy
open Go Go.RowKit Go.Proofs.Ytmabdfdmccbfnaa.P Go.Proofs.Ytmabdfdmccbfnaa.URec Go.Proofs.YtmabdfdmccbfnaaW.PrintWords Go.Proofs.YtmabdfdmccbfnaaW.PrintLast
set_option linter.unusedVariables false
set_option linter.unusedSimpArgs false

/-- The letters of records. -/
def letters : List R → Nat
  | [] => 0
  | r :: l => r.f2.size + r.f3.size + letters l
theorem letters_take (l : List R) (i : Nat) (h : i < l.length) : letters (l.take (i + 1)) = letters (l.take i) + (rd_T25 l i).f2.size + (rd_T25 l i).f3.size := by
  rw [rd_get h]
  induction l generalizing i with
  | nil => simp at h
  | cons r l ih =>
    cases i with
    | zero => simp [letters]
    | succ i =>
      have := ih i (by simpa using h)
      simp [letters, this]; omega
theorem letters_mem {l : List R} {r : R} (h : r ∈ l) : r.f2.size + r.f3.size ≤ letters l := by
  induction l with
  | nil => simp at h
  | cons x l ih =>
    simp only [letters]
    rcases List.mem_cons.1 h with rfl | h
    · omega
    · have := ih h; omega

theorem weight_loop (l : List R) (hl : l.length * 64 ≤ 140737488351232) (hg : ∀ x ∈ l, good25 x) : ∀ (d i : Nat) (x : Nat), l.length = i + d → x = l.length + letters (l.take i) → x ≤ 562949953421312 →
    ∃ n : Nat, Ev (fun k => fairwaylaw0_RecsWeight.l0 k l x i) (n : Int) ∧ n ≤ 562949953421312 ∧ (n < 1048576 → n = l.length + letters l)
  | 0, i, x, h, hx, hm => by
    refine ⟨x, Ev.step (f := fun _ => some _) (fun k => ?_) (Ev.now _), hm, fun _ => ?_⟩
    · simp only [fairwaylaw0_RecsWeight.l0]
      rw [if_neg (by omega)]
    · rw [hx, List.take_of_length_le (by omega)]
  | d + 1, i, x, h, hx, hm => by
    have hi : i < l.length := by omega
    by_cases hs : x < 1048576
    · have hgi := hg _ (rd_mem hi)
      obtain ⟨g0, g1, g2, g3, g4⟩ := hgi
      obtain ⟨n, hn, h1, h2⟩ := weight_loop l hl hg d (i + 1) (x + (rd_T25 l i).f2.size + (rd_T25 l i).f3.size) (by omega) (by rw [letters_take l i hi]; omega) (by omega)
      refine ⟨n, Ev.step (fun k => ?_) hn, h1, h2⟩
      simp only [fairwaylaw0_RecsWeight.l0]
      rw [if_pos (by omega), if_pos (by omega), if_pos (by omega), wrap_in (x := (x : Int) + ((rd_T25 l i).f2.size : Int)) (by omega) (by omega), wrap_in (by omega) (by omega), wrap_in (by omega) (by omega)]
      rfl
    · refine ⟨x, Ev.step (f := fun _ => some _) (fun k => ?_) (Ev.now _), hm, fun h => absurd h hs⟩
      simp only [fairwaylaw0_RecsWeight.l0]
      rw [if_pos (by omega), if_neg (by omega)]
theorem weight_ev (l : List R) (hl : l.length * 64 ≤ 140737488351232) (hg : ∀ x ∈ l, good25 x) :
    ∃ n : Nat, Ev (fun k => fairwaylaw0_RecsWeight.f k l) (n : Int) ∧ n ≤ 562949953421312 ∧ (n < 1048576 → n = l.length + letters l) :=
  weight_loop l hl hg l.length 0 l.length (by omega) (by simp [letters]) (by omega)

theorem heavy_ev (base : Int) (g l : List R) (ns : List Int) (s : ByteArray) (hg : ∀ x ∈ g, good25 x) (hg2 : g.length * 64 ≤ 140737488351232) (hl : ∀ x ∈ l, good25 x) (hl2 : l.length * 64 ≤ 140737488351232) :
    ∃ b, Ev (fun k => fairwaylaw11_Heavy.f k base g l ns s) b ∧ (b = false → g.length + letters g + (l.length + letters l) ≤ 8000 ∧ s.size ≤ 8000 ∧ ns.length ≤ 500) := by
  obtain ⟨n, h1, h2, h3⟩ := weight_ev g hg2 hg
  obtain ⟨m, k1, k2, k3⟩ := weight_ev l hl2 hl
  by_cases a : wrap64 ((n : Int) + (m : Int)) > 8000
  · exact ⟨true, Ev.bind h1 (Ev.bind k1 (Ev.congr (fun k => if_pos a) (Ev.now _))), fun e => by cases e⟩
  · have hw : (n : Int) + m ≤ 8000 := by rw [wrap_in (by omega) (by omega)] at a; omega
    by_cases b : (s.size : Int) > 8000
    · exact ⟨true, Ev.bind h1 (Ev.bind k1 (Ev.congr (fun k => if_neg a) (Ev.congr (fun k => if_pos b) (Ev.now _)))), fun e => by cases e⟩
    · refine ⟨_, Ev.bind h1 (Ev.bind k1 (Ev.congr (fun k => if_neg a) (Ev.congr (fun k => if_neg b) (Ev.now _)))), fun e => ?_⟩
      have := of_decide_eq_false e
      exact ⟨by rw [← h3 (by omega), ← k3 (by omega)]; omega, by omega, by omega⟩
end Go.Proofs.Ytmabdfdmccbfnaa.UHeavy

