/- The law SegFinds: printed functions, their contracts, the plain laws and the row, part 2. -/
import Derived.Test.YtmabdfdmccbfnaaKSegFinds0
import Derived.Test.YtmabdfdmccbfnaaKSegFinds1
import Derived.Test.YtmabdfdmccbfnaaWWords
import Derived.Test.YtmabdfdmccbfnaaWLast
import Derived.Test.YtmabdfdmccbfnaaWMore
import Derived.ProofKit
import Derived.OpenShut
import Derived.SizedLaws
import Derived.Deep.Slices
-- written by a program of the proving session, out of the translation; Lean checks it
namespace Go.Proofs.Ytmabdfdmccbfnaa.P
open Go.RowKit Go.Proofs.Ytmabdfdmccbfnaa.Sq Go.Proofs.YtmabdfdmccbfnaaW.PrintWords Go.Proofs.YtmabdfdmccbfnaaW.PrintLast Go.Proofs.YtmabdfdmccbfnaaW.PrintMore
attribute [local go_sem] max2_int min2_int max_two min_two max_three min_three max_four min_four   -- for this text's walks alone
set_option linter.unusedVariables false
set_option linter.unusedSimpArgs false

attribute [local go_sem high] eqA25
/-! ### fairwaylaw11_SegFinds: function 7 -/
mutual
def fairwaylaw11_SegFinds.j0 : Nat → Int → List (S25) → List (S25) → List Int → ByteArray → Option (Bool)
 | 0, _, _, _, _, _ => none
 | k + 1, x410000, x410001, x410002, x410003, x410004 => (fairwayref10_Seg.f k x410000 x410001).bind fun t411 => (fairwaylaw11_SegFinds.l0 k t411 0 x410000 x410001 x410002 x410003 x410004)
def fairwaylaw11_SegFinds.l0 : Nat → Bool → Int → Int → List (S25) → List (S25) → List Int → ByteArray → Option (Bool)
 | 0, _, _, _, _, _, _, _ => none
 | k + 1, x3, x4, x410000, x410001, x410002, x410003, x410004 => if x4 < (x410003.length : Int) then (fairwaylaw11_SegFinds.j2 k x3 x4 (decide (x4 < 30)) x410000 x410001 x410002 x410003 x410004) else (fairwaylaw11_SegFinds.j2 k x3 x4 false x410000 x410001 x410002 x410003 x410004)
def fairwaylaw11_SegFinds.j2 : Nat → Bool → Int → Bool → Int → List (S25) → List (S25) → List Int → ByteArray → Option (Bool)
 | 0, _, _, _, _, _, _, _, _ => none
 | k + 1, x3, x4, x27, x410000, x410001, x410002, x410003, x410004 => if x27 = true then (fairwaylaw11_SegFinds.j3 k x3 x4 x410000 x410001 x410002 x410003 x410004) else ((fairwaylaw11_wakes.f k).bind fun t412 => (some t412))
def fairwaylaw11_SegFinds.j3 : Nat → Bool → Int → Int → List (S25) → List (S25) → List Int → ByteArray → Option (Bool)
 | 0, _, _, _, _, _, _, _ => none
 | k + 1, x3, x4, x410000, x410001, x410002, x410003, x410004 => if 0 ≤ x4 then (if x4 < (x410003.length : Int) then ((seg_Find.f k x410000 x410001 (rd x410003 x4)).bind fun bt414 => ((seg_Since.f k x410000 x410001 (rd x410003 x4)).bind fun bt423 => (if x3 = true then ((fairwayref10_Find.f k x410001 (rd x410003 x4)).bind fun t434 => (if t434 ≥ 0 then (if 0 ≤ t434 then (if t434 < (x410001.length : Int) then (fairwaylaw11_SegFinds.j4 k x3 x4 bt414.2.2.2.2.2.2 bt423.2.2.2.2.2.2 0 3 x410000 x410001 x410002 x410003 x410004 bt414.1 bt414.2.1 bt414.2.2.1 bt414.2.2.2.1 bt414.2.2.2.2.1 bt414.2.2.2.2.2.1 bt423.1 bt423.2.1 bt423.2.2.1 bt423.2.2.2.1 bt423.2.2.2.2.1 bt423.2.2.2.2.2.1 ((rd_T25 x410001 t434).f0) ((rd_T25 x410001 t434).f1) ((rd_T25 x410001 t434).f2) ((rd_T25 x410001 t434).f3) ((rd_T25 x410001 t434).f4) ((rd_T25 x410001 t434).f5) 0 0 (⟨#[]⟩ : ByteArray) (⟨#[]⟩ : ByteArray) 0 false) else (none)) else (none)) else (fairwaylaw11_SegFinds.j4 k x3 x4 bt414.2.2.2.2.2.2 bt423.2.2.2.2.2.2 3 3 x410000 x410001 x410002 x410003 x410004 bt414.1 bt414.2.1 bt414.2.2.1 bt414.2.2.2.1 bt414.2.2.2.2.1 bt414.2.2.2.2.2.1 bt423.1 bt423.2.1 bt423.2.2.1 bt423.2.2.2.1 bt423.2.2.2.2.1 bt423.2.2.2.2.2.1 0 0 (⟨#[]⟩ : ByteArray) (⟨#[]⟩ : ByteArray) 0 false 0 0 (⟨#[]⟩ : ByteArray) (⟨#[]⟩ : ByteArray) 0 false))) else (fairwaylaw11_SegFinds.j5 k x3 x4 bt414.2.2.2.2.2.2 bt423.2.2.2.2.2.2 1 1 x410000 x410001 x410002 x410003 x410004 bt414.1 bt414.2.1 bt414.2.2.1 bt414.2.2.2.1 bt414.2.2.2.2.1 bt414.2.2.2.2.2.1 bt423.1 bt423.2.1 bt423.2.2.1 bt423.2.2.2.1 bt423.2.2.2.2.1 bt423.2.2.2.2.2.1 0 0 (⟨#[]⟩ : ByteArray) (⟨#[]⟩ : ByteArray) 0 false 0 0 (⟨#[]⟩ : ByteArray) (⟨#[]⟩ : ByteArray) 0 false)))) else (none)) else (none)
def fairwaylaw11_SegFinds.j5 : Nat → Bool → Int → Int → Int → Int → Int → Int → List (S25) → List (S25) → List Int → ByteArray → Int → Int → ByteArray → ByteArray → Int → Bool → Int → Int → ByteArray → ByteArray → Int → Bool → Int → Int → ByteArray → ByteArray → Int → Bool → Int → Int → ByteArray → ByteArray → Int → Bool → Option (Bool)
 | 0, _, _, _, _, _, _, _, _, _, _, _, _, _, _, _, _, _, _, _, _, _, _, _, _, _, _, _, _, _, _, _, _, _, _, _ => none
 | k + 1, x3, x4, x6, x8, x9, x10, x410000, x410001, x410002, x410003, x410004, x422000, x422001, x422002, x422003, x422004, x422005, x431000, x431001, x431002, x431003, x431004, x431005, x432000, x432001, x432002, x432003, x432004, x432005, x433000, x433001, x433002, x433003, x433004, x433005 => (fairwaylaw11_num.f x6).bind fun t439 => (if t439 = x9 then (if (!(x422000 == x432000) || (!(x422001 == x432001) || (!(x422002.toList == x432002.toList) || (!(x422003.toList == x432003.toList) || (!(x422004 == x432004) || (!(x422005 == x432005))))))) = true then (some false) else ((fairwaylaw11_num.f x8).bind fun t440 => (if t440 = x10 then (if (!(x431000 == x433000) || (!(x431001 == x433001) || (!(x431002.toList == x433002.toList) || (!(x431003.toList == x433003.toList) || (!(x431004 == x433004) || (!(x431005 == x433005))))))) = true then (some false) else (fairwaylaw11_SegFinds.l0 k x3 (wrap64 (x4 + 1)) x410000 x410001 x410002 x410003 x410004)) else (some false)))) else (some false))
def fairwaylaw11_SegFinds.j4 : Nat → Bool → Int → Int → Int → Int → Int → Int → List (S25) → List (S25) → List Int → ByteArray → Int → Int → ByteArray → ByteArray → Int → Bool → Int → Int → ByteArray → ByteArray → Int → Bool → Int → Int → ByteArray → ByteArray → Int → Bool → Int → Int → ByteArray → ByteArray → Int → Bool → Option (Bool)
 | 0, _, _, _, _, _, _, _, _, _, _, _, _, _, _, _, _, _, _, _, _, _, _, _, _, _, _, _, _, _, _, _, _, _, _, _ => none
 | k + 1, x3, x4, x6, x8, x9, x10, x410000, x410001, x410002, x410003, x410004, x422000, x422001, x422002, x422003, x422004, x422005, x431000, x431001, x431002, x431003, x431004, x431005, x432000, x432001, x432002, x432003, x432004, x432005, x433000, x433001, x433002, x433003, x433004, x433005 => if 0 ≤ x4 then (if x4 < (x410003.length : Int) then ((fairwayref10_Since.f k x410001 (rd x410003 x4)).bind fun t437 => (if t437 ≥ 0 then (if 0 ≤ t437 then (if t437 < (x410001.length : Int) then (fairwaylaw11_SegFinds.j5 k x3 x4 x6 x8 x9 0 x410000 x410001 x410002 x410003 x410004 x422000 x422001 x422002 x422003 x422004 x422005 x431000 x431001 x431002 x431003 x431004 x431005 x432000 x432001 x432002 x432003 x432004 x432005 ((rd_T25 x410001 t437).f0) ((rd_T25 x410001 t437).f1) ((rd_T25 x410001 t437).f2) ((rd_T25 x410001 t437).f3) ((rd_T25 x410001 t437).f4) ((rd_T25 x410001 t437).f5)) else (none)) else (none)) else (fairwaylaw11_SegFinds.j5 k x3 x4 x6 x8 x9 x10 x410000 x410001 x410002 x410003 x410004 x422000 x422001 x422002 x422003 x422004 x422005 x431000 x431001 x431002 x431003 x431004 x431005 x432000 x432001 x432002 x432003 x432004 x432005 x433000 x433001 x433002 x433003 x433004 x433005))) else (none)) else (none)
end
def fairwaylaw11_SegFinds.f (k : Nat) (a0_0 : Int) (l0_1 : List (S25)) (l0_2 : List (S25)) (l0_3 : List Int) (a0_4 : ByteArray) : Option (Bool) := (fairwaylaw11_Heavy.f k a0_0 l0_1 l0_2 l0_3 a0_4).bind fun t410 => (if t410 = true then (some true) else (fairwaylaw11_SegFinds.j0 k a0_0 l0_1 l0_2 l0_3 a0_4))
theorem fairwaylaw11_SegFinds.mono_l : ∀ k, (∀ y0 y1 y2 y3 y4, LeO (fairwaylaw11_SegFinds.j0 k y0 y1 y2 y3 y4) (fairwaylaw11_SegFinds.j0 (k + 1) y0 y1 y2 y3 y4)) ∧ (∀ y0 y1 y2 y3 y4 y5 y6, LeO (fairwaylaw11_SegFinds.l0 k y0 y1 y2 y3 y4 y5 y6) (fairwaylaw11_SegFinds.l0 (k + 1) y0 y1 y2 y3 y4 y5 y6)) ∧ (∀ y0 y1 y2 y3 y4 y5 y6 y7, LeO (fairwaylaw11_SegFinds.j2 k y0 y1 y2 y3 y4 y5 y6 y7) (fairwaylaw11_SegFinds.j2 (k + 1) y0 y1 y2 y3 y4 y5 y6 y7)) ∧ (∀ y0 y1 y2 y3 y4 y5 y6, LeO (fairwaylaw11_SegFinds.j3 k y0 y1 y2 y3 y4 y5 y6) (fairwaylaw11_SegFinds.j3 (k + 1) y0 y1 y2 y3 y4 y5 y6)) ∧ (∀ y0 y1 y2 y3 y4 y5 y6 y7 y8 y9 y10 y11 y12 y13 y14 y15 y16 y17 y18 y19 y20 y21 y22 y23 y24 y25 y26 y27 y28 y29 y30 y31 y32 y33 y34, LeO (fairwaylaw11_SegFinds.j5 k y0 y1 y2 y3 y4 y5 y6 y7 y8 y9 y10 y11 y12 y13 y14 y15 y16 y17 y18 y19 y20 y21 y22 y23 y24 y25 y26 y27 y28 y29 y30 y31 y32 y33 y34) (fairwaylaw11_SegFinds.j5 (k + 1) y0 y1 y2 y3 y4 y5 y6 y7 y8 y9 y10 y11 y12 y13 y14 y15 y16 y17 y18 y19 y20 y21 y22 y23 y24 y25 y26 y27 y28 y29 y30 y31 y32 y33 y34)) ∧ (∀ y0 y1 y2 y3 y4 y5 y6 y7 y8 y9 y10 y11 y12 y13 y14 y15 y16 y17 y18 y19 y20 y21 y22 y23 y24 y25 y26 y27 y28 y29 y30 y31 y32 y33 y34, LeO (fairwaylaw11_SegFinds.j4 k y0 y1 y2 y3 y4 y5 y6 y7 y8 y9 y10 y11 y12 y13 y14 y15 y16 y17 y18 y19 y20 y21 y22 y23 y24 y25 y26 y27 y28 y29 y30 y31 y32 y33 y34) (fairwaylaw11_SegFinds.j4 (k + 1) y0 y1 y2 y3 y4 y5 y6 y7 y8 y9 y10 y11 y12 y13 y14 y15 y16 y17 y18 y19 y20 y21 y22 y23 y24 y25 y26 y27 y28 y29 y30 y31 y32 y33 y34))
 | 0 => ⟨fun _ _ _ _ _ r h => by simp [fairwaylaw11_SegFinds.j0] at h, fun _ _ _ _ _ _ _ r h => by simp [fairwaylaw11_SegFinds.l0] at h, fun _ _ _ _ _ _ _ _ r h => by simp [fairwaylaw11_SegFinds.j2] at h, fun _ _ _ _ _ _ _ r h => by simp [fairwaylaw11_SegFinds.j3] at h, fun _ _ _ _ _ _ _ _ _ _ _ _ _ _ _ _ _ _ _ _ _ _ _ _ _ _ _ _ _ _ _ _ _ _ _ r h => by simp [fairwaylaw11_SegFinds.j5] at h, fun _ _ _ _ _ _ _ _ _ _ _ _ _ _ _ _ _ _ _ _ _ _ _ _ _ _ _ _ _ _ _ _ _ _ _ r h => by simp [fairwaylaw11_SegFinds.j4] at h⟩
 | k + 1 => by
  obtain ⟨ih0, ih1, ih2, ih3, ih4, ih5⟩ := fairwaylaw11_SegFinds.mono_l k
  refine ⟨?_, ?_, ?_, ?_, ?_, ?_⟩
  ·intro y0 y1 y2 y3 y4
   unfold fairwaylaw11_SegFinds.j0
   repeat' first
   | (with_reducible exact ih0 _ _ _ _ _)
   | (with_reducible exact ih1 _ _ _ _ _ _ _)
   | (with_reducible exact ih2 _ _ _ _ _ _ _ _)
   | (with_reducible exact ih3 _ _ _ _ _ _ _)
   | (with_reducible exact ih4 _ _ _ _ _ _ _ _ _ _ _ _ _ _ _ _ _ _ _ _ _ _ _ _ _ _ _ _ _ _ _ _ _ _ _)
   | (with_reducible exact ih5 _ _ _ _ _ _ _ _ _ _ _ _ _ _ _ _ _ _ _ _ _ _ _ _ _ _ _ _ _ _ _ _ _ _ _)
   | (with_reducible exact fairwaylaw11_Heavy.mono _ _ _ _ _ _)
   | (with_reducible exact fairwaylaw11_wakes.mono _)
   | (with_reducible exact fairwayref10_Find.mono _ _ _)
   | (with_reducible exact fairwayref10_Seg.mono _ _ _)
   | (with_reducible exact fairwayref10_Since.mono _ _ _)
   | (with_reducible exact seg_Find.mono _ _ _ _)
   | (with_reducible exact seg_Since.mono _ _ _ _)
   | (with_reducible exact LeO.refl _)
   | (with_reducible exact LeO.none _)
   | (with_reducible refine LeO.ite ?_ ?_)
   | (with_reducible refine LeO.bind ?_ (fun _ => ?_))
   | exact ih0 _ _ _ _ _
   | exact ih1 _ _ _ _ _ _ _
   | exact ih2 _ _ _ _ _ _ _ _
   | exact ih3 _ _ _ _ _ _ _
   | exact ih4 _ _ _ _ _ _ _ _ _ _ _ _ _ _ _ _ _ _ _ _ _ _ _ _ _ _ _ _ _ _ _ _ _ _ _
   | exact ih5 _ _ _ _ _ _ _ _ _ _ _ _ _ _ _ _ _ _ _ _ _ _ _ _ _ _ _ _ _ _ _ _ _ _ _
   | exact fairwaylaw11_Heavy.mono _ _ _ _ _ _
   | exact fairwaylaw11_wakes.mono _
   | exact fairwayref10_Find.mono _ _ _
   | exact fairwayref10_Seg.mono _ _ _
   | exact fairwayref10_Since.mono _ _ _
   | exact seg_Find.mono _ _ _ _
   | exact seg_Since.mono _ _ _ _
   | exact LeO.none _
   | refine LeO.ite ?_ ?_
   | refine LeO.bind ?_ (fun _ => ?_)
  ·intro y0 y1 y2 y3 y4 y5 y6
   unfold fairwaylaw11_SegFinds.l0
   repeat' first
   | (with_reducible exact ih0 _ _ _ _ _)
   | (with_reducible exact ih1 _ _ _ _ _ _ _)
   | (with_reducible exact ih2 _ _ _ _ _ _ _ _)
   | (with_reducible exact ih3 _ _ _ _ _ _ _)
   | (with_reducible exact ih4 _ _ _ _ _ _ _ _ _ _ _ _ _ _ _ _ _ _ _ _ _ _ _ _ _ _ _ _ _ _ _ _ _ _ _)
   | (with_reducible exact ih5 _ _ _ _ _ _ _ _ _ _ _ _ _ _ _ _ _ _ _ _ _ _ _ _ _ _ _ _ _ _ _ _ _ _ _)
   | (with_reducible exact fairwaylaw11_Heavy.mono _ _ _ _ _ _)
   | (with_reducible exact fairwaylaw11_wakes.mono _)
   | (with_reducible exact fairwayref10_Find.mono _ _ _)
   | (with_reducible exact fairwayref10_Seg.mono _ _ _)
   | (with_reducible exact fairwayref10_Since.mono _ _ _)
   | (with_reducible exact seg_Find.mono _ _ _ _)
   | (with_reducible exact seg_Since.mono _ _ _ _)
   | (with_reducible exact LeO.refl _)
   | (with_reducible exact LeO.none _)
   | (with_reducible refine LeO.ite ?_ ?_)
   | (with_reducible refine LeO.bind ?_ (fun _ => ?_))
   | exact ih0 _ _ _ _ _
   | exact ih1 _ _ _ _ _ _ _
   | exact ih2 _ _ _ _ _ _ _ _
   | exact ih3 _ _ _ _ _ _ _
   | exact ih4 _ _ _ _ _ _ _ _ _ _ _ _ _ _ _ _ _ _ _ _ _ _ _ _ _ _ _ _ _ _ _ _ _ _ _
   | exact ih5 _ _ _ _ _ _ _ _ _ _ _ _ _ _ _ _ _ _ _ _ _ _ _ _ _ _ _ _ _ _ _ _ _ _ _
   | exact fairwaylaw11_Heavy.mono _ _ _ _ _ _
   | exact fairwaylaw11_wakes.mono _
   | exact fairwayref10_Find.mono _ _ _
   | exact fairwayref10_Seg.mono _ _ _
   | exact fairwayref10_Since.mono _ _ _
   | exact seg_Find.mono _ _ _ _
   | exact seg_Since.mono _ _ _ _
   | exact LeO.none _
   | refine LeO.ite ?_ ?_
   | refine LeO.bind ?_ (fun _ => ?_)
  ·intro y0 y1 y2 y3 y4 y5 y6 y7
   unfold fairwaylaw11_SegFinds.j2
   repeat' first
   | (with_reducible exact ih0 _ _ _ _ _)
   | (with_reducible exact ih1 _ _ _ _ _ _ _)
   | (with_reducible exact ih2 _ _ _ _ _ _ _ _)
   | (with_reducible exact ih3 _ _ _ _ _ _ _)
   | (with_reducible exact ih4 _ _ _ _ _ _ _ _ _ _ _ _ _ _ _ _ _ _ _ _ _ _ _ _ _ _ _ _ _ _ _ _ _ _ _)
   | (with_reducible exact ih5 _ _ _ _ _ _ _ _ _ _ _ _ _ _ _ _ _ _ _ _ _ _ _ _ _ _ _ _ _ _ _ _ _ _ _)
   | (with_reducible exact fairwaylaw11_Heavy.mono _ _ _ _ _ _)
   | (with_reducible exact fairwaylaw11_wakes.mono _)
   | (with_reducible exact fairwayref10_Find.mono _ _ _)
   | (with_reducible exact fairwayref10_Seg.mono _ _ _)
   | (with_reducible exact fairwayref10_Since.mono _ _ _)
   | (with_reducible exact seg_Find.mono _ _ _ _)
   | (with_reducible exact seg_Since.mono _ _ _ _)
   | (with_reducible exact LeO.refl _)
   | (with_reducible exact LeO.none _)
   | (with_reducible refine LeO.ite ?_ ?_)
   | (with_reducible refine LeO.bind ?_ (fun _ => ?_))
   | exact ih0 _ _ _ _ _
   | exact ih1 _ _ _ _ _ _ _
   | exact ih2 _ _ _ _ _ _ _ _
   | exact ih3 _ _ _ _ _ _ _
   | exact ih4 _ _ _ _ _ _ _ _ _ _ _ _ _ _ _ _ _ _ _ _ _ _ _ _ _ _ _ _ _ _ _ _ _ _ _
   | exact ih5 _ _ _ _ _ _ _ _ _ _ _ _ _ _ _ _ _ _ _ _ _ _ _ _ _ _ _ _ _ _ _ _ _ _ _
   | exact fairwaylaw11_Heavy.mono _ _ _ _ _ _
   | exact fairwaylaw11_wakes.mono _
   | exact fairwayref10_Find.mono _ _ _
   | exact fairwayref10_Seg.mono _ _ _
   | exact fairwayref10_Since.mono _ _ _
   | exact seg_Find.mono _ _ _ _
   | exact seg_Since.mono _ _ _ _
   | exact LeO.none _
   | refine LeO.ite ?_ ?_
   | refine LeO.bind ?_ (fun _ => ?_)
  ·intro y0 y1 y2 y3 y4 y5 y6
   unfold fairwaylaw11_SegFinds.j3
   repeat' first
   | (with_reducible exact ih0 _ _ _ _ _)
   | (with_reducible exact ih1 _ _ _ _ _ _ _)
   | (with_reducible exact ih2 _ _ _ _ _ _ _ _)
   | (with_reducible exact ih3 _ _ _ _ _ _ _)
   | (with_reducible exact ih4 _ _ _ _ _ _ _ _ _ _ _ _ _ _ _ _ _ _ _ _ _ _ _ _ _ _ _ _ _ _ _ _ _ _ _)
   | (with_reducible exact ih5 _ _ _ _ _ _ _ _ _ _ _ _ _ _ _ _ _ _ _ _ _ _ _ _ _ _ _ _ _ _ _ _ _ _ _)
   | (with_reducible exact fairwaylaw11_Heavy.mono _ _ _ _ _ _)
   | (with_reducible exact fairwaylaw11_wakes.mono _)
   | (with_reducible exact fairwayref10_Find.mono _ _ _)
   | (with_reducible exact fairwayref10_Seg.mono _ _ _)
   | (with_reducible exact fairwayref10_Since.mono _ _ _)
   | (with_reducible exact seg_Find.mono _ _ _ _)
   | (with_reducible exact seg_Since.mono _ _ _ _)
   | (with_reducible exact LeO.refl _)
   | (with_reducible exact LeO.none _)
   | (with_reducible refine LeO.ite ?_ ?_)
   | (with_reducible refine LeO.bind ?_ (fun _ => ?_))
   | exact ih0 _ _ _ _ _
   | exact ih1 _ _ _ _ _ _ _
   | exact ih2 _ _ _ _ _ _ _ _
   | exact ih3 _ _ _ _ _ _ _
   | exact ih4 _ _ _ _ _ _ _ _ _ _ _ _ _ _ _ _ _ _ _ _ _ _ _ _ _ _ _ _ _ _ _ _ _ _ _
   | exact ih5 _ _ _ _ _ _ _ _ _ _ _ _ _ _ _ _ _ _ _ _ _ _ _ _ _ _ _ _ _ _ _ _ _ _ _
   | exact fairwaylaw11_Heavy.mono _ _ _ _ _ _
   | exact fairwaylaw11_wakes.mono _
   | exact fairwayref10_Find.mono _ _ _
   | exact fairwayref10_Seg.mono _ _ _
   | exact fairwayref10_Since.mono _ _ _
   | exact seg_Find.mono _ _ _ _
   | exact seg_Since.mono _ _ _ _
   | exact LeO.none _
   | refine LeO.ite ?_ ?_
   | refine LeO.bind ?_ (fun _ => ?_)
  ·intro y0 y1 y2 y3 y4 y5 y6 y7 y8 y9 y10 y11 y12 y13 y14 y15 y16 y17 y18 y19 y20 y21 y22 y23 y24 y25 y26 y27 y28 y29 y30 y31 y32 y33 y34
   unfold fairwaylaw11_SegFinds.j5
   repeat' first
   | (with_reducible exact ih0 _ _ _ _ _)
   | (with_reducible exact ih1 _ _ _ _ _ _ _)
   | (with_reducible exact ih2 _ _ _ _ _ _ _ _)
   | (with_reducible exact ih3 _ _ _ _ _ _ _)
   | (with_reducible exact ih4 _ _ _ _ _ _ _ _ _ _ _ _ _ _ _ _ _ _ _ _ _ _ _ _ _ _ _ _ _ _ _ _ _ _ _)
   | (with_reducible exact ih5 _ _ _ _ _ _ _ _ _ _ _ _ _ _ _ _ _ _ _ _ _ _ _ _ _ _ _ _ _ _ _ _ _ _ _)
   | (with_reducible exact fairwaylaw11_Heavy.mono _ _ _ _ _ _)
   | (with_reducible exact fairwaylaw11_wakes.mono _)
   | (with_reducible exact fairwayref10_Find.mono _ _ _)
   | (with_reducible exact fairwayref10_Seg.mono _ _ _)
   | (with_reducible exact fairwayref10_Since.mono _ _ _)
   | (with_reducible exact seg_Find.mono _ _ _ _)
   | (with_reducible exact seg_Since.mono _ _ _ _)
   | (with_reducible exact LeO.refl _)
   | (with_reducible exact LeO.none _)
   | (with_reducible refine LeO.ite ?_ ?_)
   | (with_reducible refine LeO.bind ?_ (fun _ => ?_))
   | exact ih0 _ _ _ _ _
   | exact ih1 _ _ _ _ _ _ _
   | exact ih2 _ _ _ _ _ _ _ _
   | exact ih3 _ _ _ _ _ _ _
   | exact ih4 _ _ _ _ _ _ _ _ _ _ _ _ _ _ _ _ _ _ _ _ _ _ _ _ _ _ _ _ _ _ _ _ _ _ _
   | exact ih5 _ _ _ _ _ _ _ _ _ _ _ _ _ _ _ _ _ _ _ _ _ _ _ _ _ _ _ _ _ _ _ _ _ _ _
   | exact fairwaylaw11_Heavy.mono _ _ _ _ _ _
   | exact fairwaylaw11_wakes.mono _
   | exact fairwayref10_Find.mono _ _ _
   | exact fairwayref10_Seg.mono _ _ _
   | exact fairwayref10_Since.mono _ _ _
   | exact seg_Find.mono _ _ _ _
   | exact seg_Since.mono _ _ _ _
   | exact LeO.none _
   | refine LeO.ite ?_ ?_
   | refine LeO.bind ?_ (fun _ => ?_)
  ·intro y0 y1 y2 y3 y4 y5 y6 y7 y8 y9 y10 y11 y12 y13 y14 y15 y16 y17 y18 y19 y20 y21 y22 y23 y24 y25 y26 y27 y28 y29 y30 y31 y32 y33 y34
   unfold fairwaylaw11_SegFinds.j4
   repeat' first
   | (with_reducible exact ih0 _ _ _ _ _)
   | (with_reducible exact ih1 _ _ _ _ _ _ _)
   | (with_reducible exact ih2 _ _ _ _ _ _ _ _)
   | (with_reducible exact ih3 _ _ _ _ _ _ _)
   | (with_reducible exact ih4 _ _ _ _ _ _ _ _ _ _ _ _ _ _ _ _ _ _ _ _ _ _ _ _ _ _ _ _ _ _ _ _ _ _ _)
   | (with_reducible exact ih5 _ _ _ _ _ _ _ _ _ _ _ _ _ _ _ _ _ _ _ _ _ _ _ _ _ _ _ _ _ _ _ _ _ _ _)
   | (with_reducible exact fairwaylaw11_Heavy.mono _ _ _ _ _ _)
   | (with_reducible exact fairwaylaw11_wakes.mono _)
   | (with_reducible exact fairwayref10_Find.mono _ _ _)
   | (with_reducible exact fairwayref10_Seg.mono _ _ _)
   | (with_reducible exact fairwayref10_Since.mono _ _ _)
   | (with_reducible exact seg_Find.mono _ _ _ _)
   | (with_reducible exact seg_Since.mono _ _ _ _)
   | (with_reducible exact LeO.refl _)
   | (with_reducible exact LeO.none _)
   | (with_reducible refine LeO.ite ?_ ?_)
   | (with_reducible refine LeO.bind ?_ (fun _ => ?_))
   | exact ih0 _ _ _ _ _
   | exact ih1 _ _ _ _ _ _ _
   | exact ih2 _ _ _ _ _ _ _ _
   | exact ih3 _ _ _ _ _ _ _
   | exact ih4 _ _ _ _ _ _ _ _ _ _ _ _ _ _ _ _ _ _ _ _ _ _ _ _ _ _ _ _ _ _ _ _ _ _ _
   | exact ih5 _ _ _ _ _ _ _ _ _ _ _ _ _ _ _ _ _ _ _ _ _ _ _ _ _ _ _ _ _ _ _ _ _ _ _
   | exact fairwaylaw11_Heavy.mono _ _ _ _ _ _
   | exact fairwaylaw11_wakes.mono _
   | exact fairwayref10_Find.mono _ _ _
   | exact fairwayref10_Seg.mono _ _ _
   | exact fairwayref10_Since.mono _ _ _
   | exact seg_Find.mono _ _ _ _
   | exact seg_Since.mono _ _ _ _
   | exact LeO.none _
   | refine LeO.ite ?_ ?_
   | refine LeO.bind ?_ (fun _ => ?_)
theorem fairwaylaw11_SegFinds.mono : ∀ a0 a1 a2 a3 a4 k, LeO (fairwaylaw11_SegFinds.f k a0 a1 a2 a3 a4) (fairwaylaw11_SegFinds.f (k + 1) a0 a1 a2 a3 a4) := by
 intro a0 a1 a2 a3 a4 k
 obtain ⟨ih0, ih1, ih2, ih3, ih4, ih5⟩ := fairwaylaw11_SegFinds.mono_l k
 unfold fairwaylaw11_SegFinds.f
 repeat' first
  | (with_reducible exact ih0 _ _ _ _ _)
  | (with_reducible exact ih1 _ _ _ _ _ _ _)
  | (with_reducible exact ih2 _ _ _ _ _ _ _ _)
  | (with_reducible exact ih3 _ _ _ _ _ _ _)
  | (with_reducible exact ih4 _ _ _ _ _ _ _ _ _ _ _ _ _ _ _ _ _ _ _ _ _ _ _ _ _ _ _ _ _ _ _ _ _ _ _)
  | (with_reducible exact ih5 _ _ _ _ _ _ _ _ _ _ _ _ _ _ _ _ _ _ _ _ _ _ _ _ _ _ _ _ _ _ _ _ _ _ _)
  | (with_reducible exact fairwaylaw11_Heavy.mono _ _ _ _ _ _)
  | (with_reducible exact fairwaylaw11_wakes.mono _)
  | (with_reducible exact fairwayref10_Find.mono _ _ _)
  | (with_reducible exact fairwayref10_Seg.mono _ _ _)
  | (with_reducible exact fairwayref10_Since.mono _ _ _)
  | (with_reducible exact seg_Find.mono _ _ _ _)
  | (with_reducible exact seg_Since.mono _ _ _ _)
  | (with_reducible exact LeO.refl _)
  | (with_reducible exact LeO.none _)
  | (with_reducible refine LeO.ite ?_ ?_)
  | (with_reducible refine LeO.bind ?_ (fun _ => ?_))
  | exact ih0 _ _ _ _ _
  | exact ih1 _ _ _ _ _ _ _
  | exact ih2 _ _ _ _ _ _ _ _
  | exact ih3 _ _ _ _ _ _ _
  | exact ih4 _ _ _ _ _ _ _ _ _ _ _ _ _ _ _ _ _ _ _ _ _ _ _ _ _ _ _ _ _ _ _ _ _ _ _
  | exact ih5 _ _ _ _ _ _ _ _ _ _ _ _ _ _ _ _ _ _ _ _ _ _ _ _ _ _ _ _ _ _ _ _ _ _ _
  | exact fairwaylaw11_Heavy.mono _ _ _ _ _ _
  | exact fairwaylaw11_wakes.mono _
  | exact fairwayref10_Find.mono _ _ _
  | exact fairwayref10_Seg.mono _ _ _
  | exact fairwayref10_Since.mono _ _ _
  | exact seg_Find.mono _ _ _ _
  | exact seg_Since.mono _ _ _ _
  | exact LeO.none _
  | refine LeO.ite ?_ ?_
  | refine LeO.bind ?_ (fun _ => ?_)
def fairwaylaw11_SegFinds.T7 : Bool × List (List Nat × List Nat) := (true, [([], []), ([0], [0]), ([], []), ([2], [2]), ([], []), ([3, 4], [3, 4]), ([5], [5]), ([1, 6], [1, 6]), ([7], [7]), ([8], [8]), ([8], [8]), ([], []), ([11, 9, 7, 0, 1, 2, 3, 4, 5, 6, 7, 8, 9, 11], [9, 11]), ([10, 12, 0, 1, 2, 3, 4, 5, 6, 7, 8, 9, 10, 11, 12], [10])])
def fairwaylaw11_SegFinds.B7 : List Nat := [0, 1, 0, 4, 0, 28, 60, 127, 255, 511, 511, 0, 3071, 8191]
theorem fairwaylaw11_SegFinds.tab7 : rtab .any (opsOf Try.f7 7) = fairwaylaw11_SegFinds.T7 := by kernel_rfl
theorem fairwaylaw11_SegFinds.bits7 : waitsOk fairwaylaw11_SegFinds.T7.2 fairwaylaw11_SegFinds.B7 = true := by kernel_rfl
def fairwaylaw11_SegFinds.T8 : Bool × List (List Nat × List Nat) := (true, [([], []), ([0], [0]), ([], []), ([2], [2]), ([], []), ([3, 4], [3, 4]), ([5], [5]), ([1, 6], [1, 6]), ([7], [7]), ([8], [8]), ([8], [8]), ([], []), ([11, 9, 7, 0, 1, 2, 3, 4, 5, 6, 7, 8, 9, 11], [9, 11]), ([10, 12, 0, 1, 2, 3, 4, 5, 6, 7, 8, 9, 10, 11, 12], [10])])
def fairwaylaw11_SegFinds.B8 : List Nat := [0, 1, 0, 4, 0, 28, 60, 127, 255, 511, 511, 0, 3071, 8191]
theorem fairwaylaw11_SegFinds.tab8 : rtab .any (opsOf Try.f7 8) = fairwaylaw11_SegFinds.T8 := by kernel_rfl
theorem fairwaylaw11_SegFinds.bits8 : waitsOk fairwaylaw11_SegFinds.T8.2 fairwaylaw11_SegFinds.B8 = true := by kernel_rfl
def fairwaylaw11_SegFinds.T13 : Bool × List (List Nat × List Nat) := (true, [([], []), ([0], [0]), ([1], [1]), ([], []), ([3], [3]), ([], []), ([4, 5], [4, 5]), ([6], [6]), ([2, 7], [2, 7]), ([8, 8, 0, 1, 2, 3, 4, 5, 6, 7, 8], [8])])
def fairwaylaw11_SegFinds.B13 : List Nat := [0, 1, 3, 0, 8, 0, 56, 120, 255, 511]
theorem fairwaylaw11_SegFinds.tab13 : rtab .any (opsOf Try.f7 13) = fairwaylaw11_SegFinds.T13 := by kernel_rfl
theorem fairwaylaw11_SegFinds.bits13 : waitsOk fairwaylaw11_SegFinds.T13.2 fairwaylaw11_SegFinds.B13 = true := by kernel_rfl
def fairwaylaw11_SegFinds.T15 : Bool × List (List Nat × List Nat) := (true, [([], []), ([0], [0]), ([1], [1]), ([], []), ([2, 3], [2, 3]), ([4], [4]), ([], []), ([5, 6, 0, 1, 2, 3, 4, 5, 6], [5])])
def fairwaylaw11_SegFinds.B15 : List Nat := [0, 1, 3, 0, 15, 31, 0, 127]
theorem fairwaylaw11_SegFinds.tab15 : rtab .any (opsOf Try.f7 15) = fairwaylaw11_SegFinds.T15 := by kernel_rfl
theorem fairwaylaw11_SegFinds.bits15 : waitsOk fairwaylaw11_SegFinds.T15.2 fairwaylaw11_SegFinds.B15 = true := by kernel_rfl
def fairwaylaw11_SegFinds.T16 : Bool × List (List Nat × List Nat) := (true, [([], []), ([0], [0]), ([1], [1]), ([], []), ([3], [3]), ([], []), ([4, 5], [4, 5]), ([6], [6]), ([2, 7], [2, 7]), ([8, 8, 0, 1, 2, 3, 4, 5, 6, 7, 8], [8])])
def fairwaylaw11_SegFinds.B16 : List Nat := [0, 1, 3, 0, 8, 0, 56, 120, 255, 511]
theorem fairwaylaw11_SegFinds.tab16 : rtab .any (opsOf Try.f7 16) = fairwaylaw11_SegFinds.T16 := by kernel_rfl
theorem fairwaylaw11_SegFinds.bits16 : waitsOk fairwaylaw11_SegFinds.T16.2 fairwaylaw11_SegFinds.B16 = true := by kernel_rfl
def fairwaylaw11_SegFinds.T18 : Bool × List (List Nat × List Nat) := (true, [([], []), ([0], [0]), ([1], [1]), ([], []), ([2, 3], [2, 3]), ([4], [4]), ([], []), ([5, 6, 0, 1, 2, 3, 4, 5, 6], [5])])
def fairwaylaw11_SegFinds.B18 : List Nat := [0, 1, 3, 0, 15, 31, 0, 127]
theorem fairwaylaw11_SegFinds.tab18 : rtab .any (opsOf Try.f7 18) = fairwaylaw11_SegFinds.T18 := by kernel_rfl
theorem fairwaylaw11_SegFinds.bits18 : waitsOk fairwaylaw11_SegFinds.T18.2 fairwaylaw11_SegFinds.B18 = true := by kernel_rfl
set_option maxHeartbeats 8000000 in
set_option maxRecDepth 100000 in
theorem fairwaylaw11_SegFinds.calls (k : Nat) (a0_0 : Int) (A0_1 : Option Addr) (c0_1 : Nat) (l0_1 : List (S25)) (A0_2 : Option Addr) (c0_2 : Nat) (l0_2 : List (S25)) (A0_3 : Option Addr) (c0_3 : Nat) (l0_3 : List Int) (a0_4 : ByteArray) (r : Bool) (w : World) (hr0_1 : Kd.C k25 w A0_1 l0_1.length l0_1) (hc0_1 : l0_1.length ≤ c0_1) (hr0_2 : Kd.C k25 w A0_2 l0_2.length l0_2) (hc0_2 : l0_2.length ≤ c0_2) (hr0_3 : Kd.C (Kd.int .i64) w A0_3 l0_3.length l0_3) (hc0_3 : l0_3.length ≤ c0_3) (h : fairwaylaw11_SegFinds.f k a0_0 l0_1 l0_2 l0_3 a0_4 = some r) :
 Calls Try.prog 7 #[.agg #[.int .i64 a0_0, .slice A0_1 l0_1.length c0_1, .slice A0_2 l0_2.length c0_2, .slice A0_3 l0_3.length c0_3, .string a0_4]] w fun e w' => e = .returned (.bool r) ∧ Below w.heap.size w w' := by
 have hu55 := Try.underlying55
 have hu53 := Try.underlying53
 have hu25 := Try.underlying25
 have HR0_1 := Aside0.mk hr0_1
 have HC0_1 := Aside0.mk hc0_1
 clear hr0_1 hc0_1
 have HR0_2 := Aside0.mk hr0_2
 have HC0_2 := Aside0.mk hc0_2
 clear hr0_2 hc0_2
 have HR0_3 := Aside0.mk hr0_3
 have HC0_3 := Aside0.mk hc0_3
 clear hr0_3 hc0_3
 have HB := Aside0.mk (Below.refl w.heap.size w)
 have H : ((fairwaylaw11_Heavy.f k a0_0 l0_1 l0_2 l0_3 a0_4).bind fun t410 => (if t410 = true then (some true) else (fairwaylaw11_SegFinds.j0 k a0_0 l0_1 l0_2 l0_3 a0_4))) = some r := h
 clear h
 replace H := Option.bind_eq_some_iff.mp H
 obtain ⟨t410, A20, H⟩ := H
 replace H : (if t410 = true then (some true) else (fairwaylaw11_SegFinds.j0 k a0_0 l0_1 l0_2 l0_3 a0_4)) = some r := H
 have A2 := Aside0.mk A20
 clear A20
 have HC3 := Aside0.mk H
 clear H
 go_enter Try.func7, Try.ntmps7
 go_upto_if 15 with (first | ((with_reducible refine gate_dst (N := 1) rfl ?_); refine box_event ?hg (N := 1) ?hd (cs := #[.int .i64 a0_0, .slice A0_1 l0_1.length c0_1, .slice A0_2 l0_2.length c0_2, .slice A0_3 l0_3.length c0_3, .string a0_4]) (t := 55) ?hr ?_; (case hd => rfl); (case hg => rfl); (case hr => first | (go_simp; done) | (go_simp; rfl)); intro gb409 hg w4 hbox hb; have BK409 := Aside0.mk (hbox); have GW409 := Aside0.mk ((by rw [hg]; exact (below_size bo) : w.heap.size ≤ gb409)); have GE409 := Aside0.mk ((by rw [hg]; exact (below_size bo) : w.heap.size ≤ gb409)); replace HB := Aside0.mk (below_step bo hb); clear hb hbox hg; obtain ⟨hcz5_0, hcz5_1, hcz5_2, hcz5_3, hcz5_4⟩ := cl5 BK409.out; obtain ⟨hfz5_0, hfz5_1, hfz5_2, hfz5_3, hfz5_4⟩ := fz5 BK409.out) | ((with_reducible refine gate_callee (f := 30) rfl ?_); refine goesL_ (some 15) rfl rfl Try.func30 (by kernel_rfl) rfl #[.agg #[.int .i64 a0_0, .slice A0_1 l0_1.length c0_1, .slice A0_2 l0_2.length c0_2, .slice A0_3 l0_3.length c0_3, .string a0_4]] rfl aa ?_; (with_reducible refine (fairwaylaw11_Heavy.calls k a0_0 _ _ l0_1 _ _ l0_2 _ _ l0_3 a0_4 t410 _ ?side1 ?side2 ?side3 ?side4 ?side5 ?side6 A2.out).mono ?_); (case side1 => repeat (first | exact (Kd.C_below HR0_1.out HB.out) | (with_reducible refine Kd.C_alloc ?_ _) | (with_reducible refine Kd.C_drewN ?_ _) | (with_reducible refine Kd.C_drew ?_))); (case side2 => exact HC0_1.out); (case side3 => repeat (first | exact (Kd.C_below HR0_2.out HB.out) | (with_reducible refine Kd.C_alloc ?_ _) | (with_reducible refine Kd.C_drewN ?_ _) | (with_reducible refine Kd.C_drew ?_))); (case side4 => exact HC0_2.out); (case side5 => repeat (first | exact (Kd.C_below HR0_3.out HB.out) | (with_reducible refine Kd.C_alloc ?_ _) | (with_reducible refine Kd.C_drewN ?_ _) | (with_reducible refine Kd.C_drew ?_))); (case side6 => exact HC0_3.out); rintro e w6 ⟨rfl, hb⟩; refine ⟨_, rfl, ?_⟩; replace BK409 := Aside0.mk (blk_below (g := gb409) (o := .cells #[.int .i64 a0_0, .slice A0_1 l0_1.length c0_1, .slice A0_2 l0_2.length c0_2, .slice A0_3 l0_3.length c0_3, .string a0_4] 55 (0, 0)) (bk BK409.out) hb); replace HB := Aside0.mk (below_step bo hb); (try clear hb); (try clear hb2); (try clear hk); (try clear hi)))
 (try simp only [Act.put, List.setIfInBounds_toArray, List.set_cons_zero, List.set_cons_succ])
 go_cut [] (fun wc => ∃ (kq : Nat), Aside0 (fairwaylaw11_SegFinds.j0 kq a0_0 l0_1 l0_2 l0_3 a0_4 = some r) ∧ Aside0 (kq ≤ k) ∧ Aside0 (wc.heap[gb409]? = some (.cells #[.int .i64 a0_0, (.slice A0_1 l0_1.length c0_1), (.slice A0_2 l0_2.length c0_2), (.slice A0_3 l0_3.length c0_3), .string a0_4] 55 (0, 0))) ∧ Aside0 (Below w.heap.size w wc))
 case first =>
  have H := HC3.out
  clear HC3
  by_cases c7 : t410 = true
  ·subst c7
   have H1 : (some true) = some r := by rw [if_pos rfl] at H; exact H
   clear H
   have H := H1
   clear H1
   obtain rfl := Option.some.inj H
   go_wp2
   go_ret
   exact ⟨er, bo⟩
  ·replace c7 := Bool.eq_false_iff.mpr c7
   subst c7
   have H1 : (fairwaylaw11_SegFinds.j0 k a0_0 l0_1 l0_2 l0_3 a0_4) = some r := by rw [if_neg (show ¬ (false = true) by decide)] at H; exact H
   clear H
   have H := H1
   clear H1
   have H' := Aside0.mk H
   clear H
   go_wp2
   go_meet
   case rel => exact ⟨_, H', ⟨by first | omega | exact Nat.le_refl _⟩, ⟨by (with_reducible repeat (first | refine blk_drewN ?_ _ | refine blk_drew ?_ | refine blk_alloc ?_ _)); exact BK409.out⟩, ⟨bo⟩⟩
 case rest =>
  clear HC3
  try clear p2
  try clear c3
  try clear c7
  try clear hcz5_0
  try clear hcz5_1
  try clear hcz5_2
  try clear hcz5_3
  try clear hcz5_4
  try clear hfz5_0
  try clear hfz5_1
  try clear hfz5_2
  try clear hfz5_3
  try clear hfz5_4
  obtain ⟨kq, HA, HJ2, BK409, HB⟩ := hcut
  cases kq with
  | zero => exact absurd HA.out (by simp [fairwaylaw11_SegFinds.j0])
  | succ kj2 =>
   have H := HA.out
   clear HA
   simp only [fairwaylaw11_SegFinds.j0] at H
   replace H := Option.bind_eq_some_iff.mp H
   obtain ⟨t411, A80, H⟩ := H
   replace H : (fairwaylaw11_SegFinds.l0 kj2 t411 0 a0_0 l0_1 l0_2 l0_3 a0_4) = some r := H
   have A8 := Aside0.mk A80
   clear A80
   have H' := Aside0.mk H
   clear H
   have hcz9_0 : wc.cell? ⟨gb409, 0, none⟩ = some (.int .i64 a0_0) := (blk_cell BK409.out 0).trans rfl
   have hcz9_1 : wc.cell? ⟨gb409, 1, none⟩ = some (.slice A0_1 l0_1.length c0_1) := (blk_cell BK409.out 1).trans rfl
   have hcz9_2 : wc.cell? ⟨gb409, 2, none⟩ = some (.slice A0_2 l0_2.length c0_2) := (blk_cell BK409.out 2).trans rfl
   have hcz9_3 : wc.cell? ⟨gb409, 3, none⟩ = some (.slice A0_3 l0_3.length c0_3) := (blk_cell BK409.out 3).trans rfl
   have hcz9_4 : wc.cell? ⟨gb409, 4, none⟩ = some (.string a0_4) := (blk_cell BK409.out 4).trans rfl
   have hfz9_0 := blk_frozen BK409.out 0
   have hfz9_1 := blk_frozen BK409.out 1
   have hfz9_2 := blk_frozen BK409.out 2
   have hfz9_3 := blk_frozen BK409.out 3
   have hfz9_4 := blk_frozen BK409.out 4
   go_wp2_with (first | ((with_reducible refine gate_callee (f := 31) rfl ?_); refine goesL_ (some 18) rfl rfl Try.func31 (by kernel_rfl) rfl #[.agg #[.int .i64 a0_0, .slice A0_1 l0_1.length c0_1]] rfl aa ?_; (with_reducible refine (fairwayref10_Seg.calls kj2 a0_0 _ _ l0_1 t411 _ ?side1 ?side2 A8.out).mono ?_); (case side1 => repeat (first | exact (Kd.C_below HR0_1.out HB.out) | (with_reducible refine Kd.C_alloc ?_ _) | (with_reducible refine Kd.C_drewN ?_ _) | (with_reducible refine Kd.C_drew ?_))); (case side2 => exact HC0_1.out); rintro e w10 ⟨rfl, hb⟩; refine ⟨_, rfl, ?_⟩; replace BK409 := Aside0.mk (blk_below (g := gb409) (o := .cells #[.int .i64 a0_0, .slice A0_1 l0_1.length c0_1, .slice A0_2 l0_2.length c0_2, .slice A0_3 l0_3.length c0_3, .string a0_4] 55 (0, 0)) (bk BK409.out) hb); replace HB := Aside0.mk (below_step bo hb); (try clear hb); (try clear hb2); (try clear hk); (try clear hi)))
   go_loopg [4] kj2 (fun kq v4 w' => ∃ (x4_2 : Int), v4 = .int .i64 x4_2 ∧ Aside0 (fairwaylaw11_SegFinds.l0 kq t411 x4_2 a0_0 l0_1 l0_2 l0_3 a0_4 = some r) ∧ Aside0 (kq ≤ kj2) ∧ Aside0 (w'.heap[gb409]? = some (.cells #[.int .i64 a0_0, (.slice A0_1 l0_1.length c0_1), (.slice A0_2 l0_2.length c0_2), (.slice A0_3 l0_3.length c0_3), .string a0_4] 55 (0, 0))) ∧ Aside0 (Below w.heap.size w w'))
   case atStart => exact ⟨(0), ap, H', ⟨Nat.le_refl _⟩, ⟨by (with_reducible repeat (first | refine blk_drewN ?_ _ | refine blk_drew ?_ | refine blk_alloc ?_ _)); exact BK409.out⟩, ⟨bo⟩⟩
   case round =>
    clear H'
    try clear p2
    try clear c3
    try clear c7
    try clear hcz5_0
    try clear hcz5_1
    try clear hcz5_2
    try clear hcz5_3
    try clear hcz5_4
    try clear hcz9_0
    try clear hcz9_1
    try clear hcz9_2
    try clear hcz9_3
    try clear hcz9_4
    try clear hfz5_0
    try clear hfz5_1
    try clear hfz5_2
    try clear hfz5_3
    try clear hfz5_4
    try clear hfz9_0
    try clear hfz9_1
    try clear hfz9_2
    try clear hfz9_3
    try clear hfz9_4
    try clear p2
    obtain ⟨x4_2, rfl, HA, HK2, BK409, HB⟩ := hrel
    cases gk with
    | zero => exact absurd HA.out (by simp [fairwaylaw11_SegFinds.l0])
    | succ k2 =>
     have H := HA.out
     clear HA
     simp only [fairwaylaw11_SegFinds.l0] at H
     have HC11 := Aside0.mk H
     clear H
     go_upto_region 5 with (fail)
     go_cut [27] (fun v27 wc => ∃ (kq : Nat) (x27_10 : Bool), v27 = .bool x27_10 ∧ Aside0 (fairwaylaw11_SegFinds.j2 kq t411 x4_2 x27_10 a0_0 l0_1 l0_2 l0_3 a0_4 = some r) ∧ Aside0 (kq ≤ k2) ∧ Aside0 (wc.heap[gb409]? = some (.cells #[.int .i64 a0_0, (.slice A0_1 l0_1.length c0_1), (.slice A0_2 l0_2.length c0_2), (.slice A0_3 l0_3.length c0_3), .string a0_4] 55 (0, 0))) ∧ Aside0 (Below w.heap.size w wc))
     case first =>
      have H := HC11.out
      clear HC11
      by_cases c12 : x4_2 < (l0_3.length : Int)
      ·rw [if_pos c12] at H
       have c12b0 : decide (x4_2 < (l0_3.length : Int)) = true := decide_eq_true c12
       clear c12
       (first | rw [c12b0] | (simp only [i64_w, i32_w]; rw [c12b0]) | skip)
       have H' := Aside0.mk H
       clear H
       have hcz13_0 : wr.cell? ⟨gb409, 0, none⟩ = some (.int .i64 a0_0) := (blk_cell BK409.out 0).trans rfl
       have hcz13_1 : wr.cell? ⟨gb409, 1, none⟩ = some (.slice A0_1 l0_1.length c0_1) := (blk_cell BK409.out 1).trans rfl
       have hcz13_2 : wr.cell? ⟨gb409, 2, none⟩ = some (.slice A0_2 l0_2.length c0_2) := (blk_cell BK409.out 2).trans rfl
       have hcz13_3 : wr.cell? ⟨gb409, 3, none⟩ = some (.slice A0_3 l0_3.length c0_3) := (blk_cell BK409.out 3).trans rfl
       have hcz13_4 : wr.cell? ⟨gb409, 4, none⟩ = some (.string a0_4) := (blk_cell BK409.out 4).trans rfl
       have hfz13_0 := blk_frozen BK409.out 0
       have hfz13_1 := blk_frozen BK409.out 1
       have hfz13_2 := blk_frozen BK409.out 2
       have hfz13_3 := blk_frozen BK409.out 3
       have hfz13_4 := blk_frozen BK409.out 4
       go_wp2
       go_meet
       case rel => exact ⟨_, (decide (x4_2 < 30)), ap, H', ⟨by have := HJ2.out; have := HK2.out; first | omega | exact Nat.le_refl _⟩, ⟨by (with_reducible repeat (first | refine blk_drewN ?_ _ | refine blk_drew ?_ | refine blk_alloc ?_ _)); exact BK409.out⟩, ⟨bo⟩⟩
      ·rw [if_neg c12] at H
       have c12b0 : decide (x4_2 < (l0_3.length : Int)) = false := decide_eq_false c12
       clear c12
       (first | rw [c12b0] | (simp only [i64_w, i32_w]; rw [c12b0]) | skip)
       have H' := Aside0.mk H
       clear H
       have hcz14_0 : wr.cell? ⟨gb409, 0, none⟩ = some (.int .i64 a0_0) := (blk_cell BK409.out 0).trans rfl
       have hcz14_1 : wr.cell? ⟨gb409, 1, none⟩ = some (.slice A0_1 l0_1.length c0_1) := (blk_cell BK409.out 1).trans rfl
       have hcz14_2 : wr.cell? ⟨gb409, 2, none⟩ = some (.slice A0_2 l0_2.length c0_2) := (blk_cell BK409.out 2).trans rfl
       have hcz14_3 : wr.cell? ⟨gb409, 3, none⟩ = some (.slice A0_3 l0_3.length c0_3) := (blk_cell BK409.out 3).trans rfl
       have hcz14_4 : wr.cell? ⟨gb409, 4, none⟩ = some (.string a0_4) := (blk_cell BK409.out 4).trans rfl
       have hfz14_0 := blk_frozen BK409.out 0
       have hfz14_1 := blk_frozen BK409.out 1
       have hfz14_2 := blk_frozen BK409.out 2
       have hfz14_3 := blk_frozen BK409.out 3
       have hfz14_4 := blk_frozen BK409.out 4
       go_wp2
       go_meet
       case rel => exact ⟨_, (false), ap, H', ⟨by have := HJ2.out; have := HK2.out; first | omega | exact Nat.le_refl _⟩, ⟨by (with_reducible repeat (first | refine blk_drewN ?_ _ | refine blk_drew ?_ | refine blk_alloc ?_ _)); exact BK409.out⟩, ⟨bo⟩⟩
     case rest =>
      clear HC11
      try clear c1
      try clear p2
      try clear c3
      try clear c7
      try clear c12
      try clear c12b0
      try clear hcz13_0
      try clear hcz13_1
      try clear hcz13_2
      try clear hcz13_3
      try clear hcz13_4
      try clear hcz14_0
      try clear hcz14_1
      try clear hcz14_2
      try clear hcz14_3
      try clear hcz14_4
      try clear hcz5_0
      try clear hcz5_1
      try clear hcz5_2
      try clear hcz5_3
      try clear hcz5_4
      try clear hcz9_0
      try clear hcz9_1
      try clear hcz9_2
      try clear hcz9_3
      try clear hcz9_4
      try clear hfz13_0
      try clear hfz13_1
      try clear hfz13_2
      try clear hfz13_3
      try clear hfz13_4
      try clear hfz14_0
      try clear hfz14_1
      try clear hfz14_2
      try clear hfz14_3
      try clear hfz14_4
      try clear hfz5_0
      try clear hfz5_1
      try clear hfz5_2
      try clear hfz5_3
      try clear hfz5_4
      try clear hfz9_0
      try clear hfz9_1
      try clear hfz9_2
      try clear hfz9_3
      try clear hfz9_4
      try clear p2
      obtain ⟨kq, x27_10, rfl, HA, HJ10, BK409, HB⟩ := hcut
      cases kq with
      | zero => exact absurd HA.out (by simp [fairwaylaw11_SegFinds.j2])
      | succ kj10 =>
       have H := HA.out
       clear HA
       simp only [fairwaylaw11_SegFinds.j2] at H
       have HC15 := Aside0.mk H
       clear H
       go_upto_if 27 with (fail)
       go_cut [] (fun wc => ∃ (kq : Nat), Aside0 (fairwaylaw11_SegFinds.j3 kq t411 x4_2 a0_0 l0_1 l0_2 l0_3 a0_4 = some r) ∧ Aside0 (kq ≤ kj10) ∧ Aside0 (wc.heap[gb409]? = some (.cells #[.int .i64 a0_0, (.slice A0_1 l0_1.length c0_1), (.slice A0_2 l0_2.length c0_2), (.slice A0_3 l0_3.length c0_3), .string a0_4] 55 (0, 0))) ∧ Aside0 (Below w.heap.size w wc))
       case first =>
        have H := HC15.out
        clear HC15
        by_cases c16 : x27_10 = true
        ·subst c16
         have H1 : (fairwaylaw11_SegFinds.j3 kj10 t411 x4_2 a0_0 l0_1 l0_2 l0_3 a0_4) = some r := by rw [if_pos rfl] at H; exact H
         clear H
         have H := H1
         clear H1
         have H' := Aside0.mk H
         clear H
         go_wp2
         go_meet
         case rel => exact ⟨_, H', ⟨by have := HJ2.out; have := HK2.out; have := HJ10.out; first | omega | exact Nat.le_refl _⟩, ⟨by (with_reducible repeat (first | refine blk_drewN ?_ _ | refine blk_drew ?_ | refine blk_alloc ?_ _)); exact BK409.out⟩, ⟨bo⟩⟩
        ·replace c16 := Bool.eq_false_iff.mpr c16
         subst c16
         have H1 : ((fairwaylaw11_wakes.f kj10).bind fun t412 => (some t412)) = some r := by rw [if_neg (show ¬ (false = true) by decide)] at H; exact H
         clear H
         have H := H1
         clear H1
         replace H := Option.bind_eq_some_iff.mp H
         obtain ⟨t412, A170, H⟩ := H
         replace H : (some t412) = some r := H
         have A17 := Aside0.mk A170
         clear A170
         obtain rfl := Option.some.inj H
         go_wp2_with (first | ((with_reducible refine gate_callee (f := 37) rfl ?_); refine goesL_ (some 107) rfl rfl Try.func37 (by kernel_rfl) rfl #[] rfl aa ?_; (with_reducible refine (fairwaylaw11_wakes.calls kj10  t412 _ A17.out).mono ?_); rintro e w18 ⟨rfl, hb⟩; refine ⟨_, rfl, ?_⟩; replace BK409 := Aside0.mk (blk_below (g := gb409) (o := .cells #[.int .i64 a0_0, .slice A0_1 l0_1.length c0_1, .slice A0_2 l0_2.length c0_2, .slice A0_3 l0_3.length c0_3, .string a0_4] 55 (0, 0)) (bk BK409.out) hb); replace HB := Aside0.mk (below_step bo hb); (try clear hb); (try clear hb2); (try clear hk); (try clear hi)))
         go_ret
         exact ⟨er, bo⟩
       case rest =>
        clear HC15
        try clear c1
        try clear p2
        try clear c3
        try clear c7
        try clear c12
        try clear c12b0
        try clear c16
        try clear hcz13_0
        try clear hcz13_1
        try clear hcz13_2
        try clear hcz13_3
        try clear hcz13_4
        try clear hcz14_0
        try clear hcz14_1
        try clear hcz14_2
        try clear hcz14_3
        try clear hcz14_4
        try clear hcz5_0
        try clear hcz5_1
        try clear hcz5_2
        try clear hcz5_3
        try clear hcz5_4
        try clear hcz9_0
        try clear hcz9_1
        try clear hcz9_2
        try clear hcz9_3
        try clear hcz9_4
        try clear hfz13_0
        try clear hfz13_1
        try clear hfz13_2
        try clear hfz13_3
        try clear hfz13_4
        try clear hfz14_0
        try clear hfz14_1
        try clear hfz14_2
        try clear hfz14_3
        try clear hfz14_4
        try clear hfz5_0
        try clear hfz5_1
        try clear hfz5_2
        try clear hfz5_3
        try clear hfz5_4
        try clear hfz9_0
        try clear hfz9_1
        try clear hfz9_2
        try clear hfz9_3
        try clear hfz9_4
        try clear p2
        obtain ⟨kq, HA, HJ14, BK409, HB⟩ := hcut
        cases kq with
        | zero => exact absurd HA.out (by simp [fairwaylaw11_SegFinds.j3])
        | succ kj14 =>
         have H := HA.out
         clear HA
         simp only [fairwaylaw11_SegFinds.j3] at H
         by_cases c19 : 0 ≤ x4_2
         ·rw [if_pos c19] at H
          have c19b0 : decide (0 ≤ x4_2) = true := decide_eq_true c19
          clear c19
          by_cases c20 : x4_2 < (l0_3.length : Int)
          ·rw [if_pos c20] at H
           have c20b0 : decide (x4_2 < (l0_3.length : Int)) = true := decide_eq_true c20
           clear c20
           replace H := Option.bind_eq_some_iff.mp H
           obtain ⟨⟨t414, t415, t416, t417, t418, t419, t420⟩, A210, H⟩ := H
           replace H : ((seg_Since.f kj14 a0_0 l0_1 (rd l0_3 x4_2)).bind fun bt423 => (if t411 = true then ((fairwayref10_Find.f kj14 l0_1 (rd l0_3 x4_2)).bind fun t434 => (if t434 ≥ 0 then (if 0 ≤ t434 then (if t434 < (l0_1.length : Int) then (fairwaylaw11_SegFinds.j4 kj14 t411 x4_2 t420 bt423.2.2.2.2.2.2 0 3 a0_0 l0_1 l0_2 l0_3 a0_4 t414 t415 t416 t417 t418 t419 bt423.1 bt423.2.1 bt423.2.2.1 bt423.2.2.2.1 bt423.2.2.2.2.1 bt423.2.2.2.2.2.1 ((rd_T25 l0_1 t434).f0) ((rd_T25 l0_1 t434).f1) ((rd_T25 l0_1 t434).f2) ((rd_T25 l0_1 t434).f3) ((rd_T25 l0_1 t434).f4) ((rd_T25 l0_1 t434).f5) 0 0 (⟨#[]⟩ : ByteArray) (⟨#[]⟩ : ByteArray) 0 false) else (none)) else (none)) else (fairwaylaw11_SegFinds.j4 kj14 t411 x4_2 t420 bt423.2.2.2.2.2.2 3 3 a0_0 l0_1 l0_2 l0_3 a0_4 t414 t415 t416 t417 t418 t419 bt423.1 bt423.2.1 bt423.2.2.1 bt423.2.2.2.1 bt423.2.2.2.2.1 bt423.2.2.2.2.2.1 0 0 (⟨#[]⟩ : ByteArray) (⟨#[]⟩ : ByteArray) 0 false 0 0 (⟨#[]⟩ : ByteArray) (⟨#[]⟩ : ByteArray) 0 false))) else (fairwaylaw11_SegFinds.j5 kj14 t411 x4_2 t420 bt423.2.2.2.2.2.2 1 1 a0_0 l0_1 l0_2 l0_3 a0_4 t414 t415 t416 t417 t418 t419 bt423.1 bt423.2.1 bt423.2.2.1 bt423.2.2.2.1 bt423.2.2.2.2.1 bt423.2.2.2.2.2.1 0 0 (⟨#[]⟩ : ByteArray) (⟨#[]⟩ : ByteArray) 0 false 0 0 (⟨#[]⟩ : ByteArray) (⟨#[]⟩ : ByteArray) 0 false))) = some r := H
           have A21 := Aside0.mk A210
           clear A210
           replace H := Option.bind_eq_some_iff.mp H
           obtain ⟨⟨t423, t424, t425, t426, t427, t428, t429⟩, A220, H⟩ := H
           replace H : (if t411 = true then ((fairwayref10_Find.f kj14 l0_1 (rd l0_3 x4_2)).bind fun t434 => (if t434 ≥ 0 then (if 0 ≤ t434 then (if t434 < (l0_1.length : Int) then (fairwaylaw11_SegFinds.j4 kj14 t411 x4_2 t420 t429 0 3 a0_0 l0_1 l0_2 l0_3 a0_4 t414 t415 t416 t417 t418 t419 t423 t424 t425 t426 t427 t428 ((rd_T25 l0_1 t434).f0) ((rd_T25 l0_1 t434).f1) ((rd_T25 l0_1 t434).f2) ((rd_T25 l0_1 t434).f3) ((rd_T25 l0_1 t434).f4) ((rd_T25 l0_1 t434).f5) 0 0 (⟨#[]⟩ : ByteArray) (⟨#[]⟩ : ByteArray) 0 false) else (none)) else (none)) else (fairwaylaw11_SegFinds.j4 kj14 t411 x4_2 t420 t429 3 3 a0_0 l0_1 l0_2 l0_3 a0_4 t414 t415 t416 t417 t418 t419 t423 t424 t425 t426 t427 t428 0 0 (⟨#[]⟩ : ByteArray) (⟨#[]⟩ : ByteArray) 0 false 0 0 (⟨#[]⟩ : ByteArray) (⟨#[]⟩ : ByteArray) 0 false))) else (fairwaylaw11_SegFinds.j5 kj14 t411 x4_2 t420 t429 1 1 a0_0 l0_1 l0_2 l0_3 a0_4 t414 t415 t416 t417 t418 t419 t423 t424 t425 t426 t427 t428 0 0 (⟨#[]⟩ : ByteArray) (⟨#[]⟩ : ByteArray) 0 false 0 0 (⟨#[]⟩ : ByteArray) (⟨#[]⟩ : ByteArray) 0 false)) = some r := H
           have A22 := Aside0.mk A220
           clear A220
           have HC23 := Aside0.mk H
           clear H
           try go_wp2
           replace BK409 := Aside0.mk (blk_drew BK409.out)
           replace HB := Aside0.mk (below_drew1 HB.out)
           have p413 : 0 ≤ (x4_2 : Int) := od
           have q413 : x4_2 < (l0_3.length : Int) := od
           obtain ⟨ad413, e413, hx413_0⟩ := Kd.at_int HR0_3.out x4_2 p413 q413
           have hw413_0 := hx413_0
           cases e413
           replace hx413_0 := cx HB.out hx413_0
           replace p413 := eq_true p413
           replace q413 := eq_true q413
           refine start_ (n := 14) (S := fun w' => w'.cell? ⟨gb409, 0, none⟩ = some (.int .i64 a0_0) ∧ w'.cell? ⟨gb409, 1, none⟩ = some (.slice A0_1 l0_1.length c0_1) ∧ w'.cell? ⟨gb409, 2, none⟩ = some (.slice A0_2 l0_2.length c0_2) ∧ w'.cell? ⟨gb409, 3, none⟩ = some (.slice (some ad413) l0_3.length c0_3) ∧ w'.cell? ⟨gb409, 4, none⟩ = some (.string a0_4) ∧ w'.cell? (ad413.add (x4_2).toNat) = some (.int .i64 (rd l0_3 x4_2))) (ds := []) #[O,O,O,O,O,O,O,O,O,O,O,O,O,O] (by kernel_rfl) rfl rfl ⟨(blk_cell BK409.out 0).trans rfl, (blk_cell BK409.out 1).trans rfl, (blk_cell BK409.out 2).trans rfl, (blk_cell BK409.out 3).trans rfl, (blk_cell BK409.out 4).trans rfl, ((HB.out.cell (World.block_lt_of_cell? w _ hw413_0)).trans hw413_0)⟩ (fun hHeld => ?_); refine with_tabW fairwaylaw11_SegFinds.tab7 fairwaylaw11_SegFinds.bits7 (fun HT_ HW_ => ?_)
           generalize wc.drew = w24 at BK409 HB hx413_0 hHeld ⊢
           refine pz (i := 0) (N := some 31) #[I,O,O,O,O,O,O,O,O,O,O,O,O,O] ?_
           refine pz (i := 2) (N := some 33) #[I,O,I,O,O,O,O,O,O,O,O,O,O,O] ?_
           refine pz (i := 4) (N := some 35) #[I,O,I,O,I,O,O,O,O,O,O,O,O,O] ?_
           refine tz (i := 1) (N := some 32) #[I,I,I,O,I,O,O,O,O,O,O,O,O,O] ?_
           refine tz (i := 3) (N := some 34) #[I,I,I,I,I,O,O,O,O,O,O,O,O,O] ?_
           refine pz (i := 5) (N := some 36) #[I,I,I,I,I,I,O,O,O,O,O,O,O,O] ?_
           refine tz (i := 6) (N := some 37) #[I,I,I,I,I,I,I,O,O,O,O,O,O,O] ?_
           refine join_ (σ := Nat) 2 #[I,I,I,I,I,I,I,I,I,I,I,I,O,O] (fun s_ => [(38, .tuple #[.agg #[.int .i64 t414, .int .i64 t415, .string t416, .string t417, .int .i64 t418, .bool t419], .int .i64 t420]), (5, .pointer (some ⟨s_, 0, none⟩)), (30, .tuple #[.agg #[.int .i64 t414, .int .i64 t415, .string t416, .string t417, .int .i64 t418, .bool t419], .int .i64 t420]), (39, .agg #[.int .i64 t414, .int .i64 t415, .string t416, .string t417, .int .i64 t418, .bool t419]), (40, .int .i64 t420)]) (fun s_ w' => (w'.cell? ⟨gb409, 0, none⟩ = some (.int .i64 a0_0) ∧ w'.cell? ⟨gb409, 1, none⟩ = some (.slice A0_1 l0_1.length c0_1) ∧ w'.cell? ⟨gb409, 2, none⟩ = some (.slice A0_2 l0_2.length c0_2) ∧ w'.cell? ⟨gb409, 3, none⟩ = some (.slice (some ad413) l0_3.length c0_3) ∧ w'.cell? ⟨gb409, 4, none⟩ = some (.string a0_4) ∧ w'.cell? (ad413.add (x4_2).toNat) = some (.int .i64 (rd l0_3 x4_2))) ∧ (w'.heap[gb409]? = some (.cells #[.int .i64 a0_0, .slice A0_1 l0_1.length c0_1, .slice A0_2 l0_2.length c0_2, .slice (some ad413) l0_3.length c0_3, .string a0_4] 55 (0, 0))) ∧ (w'.heap[s_]? = some (.cells #[.int .i64 0, .int .i64 0, .string (⟨#[]⟩ : ByteArray), .string (⟨#[]⟩ : ByteArray), .int .i64 0, .bool false] 25 (0, 0))) ∧ (w.heap.size ≤ s_) ∧ (w.heap.size ≤ s_) ∧ (gb409 ≠ s_) ∧ (s_ ≠ gb409) ∧ (Below w.heap.size w w')) ?_ ?_
           rotate_left
           ·intro hCont
            refine two_ (i := 7) (j := 11) (Ni := some 38) (Nj := some 5) #[I,I,I,I,I,I,I,I,O,O,O,O,O,O] #[I,I,I,I,I,I,I,O,O,O,O,I,O,O] rfl rfl rfl rfl (two_of HT_.out (by kernel_rfl)) (by decide) (by decide) (fun K hK => ?_) (fun K hK => ?_)
            ·skip
             refine goes_ Try.func32 (by kernel_rfl) rfl #[.agg #[.int .i64 a0_0, .slice A0_1 l0_1.length c0_1], .int .i64 (rd l0_3 x4_2)] (by rfl) rfl rfl aa ?_
             with_reducible refine (seg_Find.calls kj14 a0_0 _ _ l0_1 (rd l0_3 x4_2) t414 t415 t416 t417 t418 t419 t420 _ ?side1 ?side2 A21.out).mono ?_
             (case side1 => repeat (first | exact (Kd.C_below HR0_1.out HB.out) | (with_reducible refine Kd.C_alloc ?_ _) | (with_reducible refine Kd.C_drewN ?_ _) | (with_reducible refine Kd.C_drew ?_)))
             (case side2 => exact HC0_1.out)
             rintro e w25 ⟨rfl, hb⟩
             refine ⟨_, rfl, ?_⟩
             replace BK409 := Aside0.mk (blk_below (g := gb409) (o := .cells #[.int .i64 a0_0, .slice A0_1 l0_1.length c0_1, .slice A0_2 l0_2.length c0_2, .slice (some ad413) l0_3.length c0_3, .string a0_4] 55 (0, 0)) (bk BK409.out) hb)
             replace HB := Aside0.mk (below_step bo hb)
             (try clear hb)
             (try clear hb2)
             (try clear hk)
             (try clear hi)
             refine hK.out _ _ ⟨(blk_cell BK409.out 0).trans rfl, (blk_cell BK409.out 1).trans rfl, (blk_cell BK409.out 2).trans rfl, (blk_cell BK409.out 3).trans rfl, (blk_cell BK409.out 4).trans rfl, ((HB.out.cell (World.block_lt_of_cell? w _ hw413_0)).trans hw413_0)⟩ (fun hHeld => ?_)
             clear hK K
             refine norm_ (a' := ?_) ?_ ?_
             rotate_left
             ·show Act.put _ (some 38) _ = _
              simp only [Act.put, List.setIfInBounds_toArray, List.set_cons_zero, List.set_cons_succ, i64_w, i32_w]
              rfl
             refine pz (i := 8) (N := some 30) #[I,I,I,I,I,I,I,I,I,O,O,O,O,O] ?_
             refine pz (i := 9) (N := some 39) #[I,I,I,I,I,I,I,I,I,I,O,O,O,O] ?_
             refine pz (i := 10) (N := some 40) #[I,I,I,I,I,I,I,I,I,I,I,O,O,O] ?_
             refine one_ (i := 11) (N := some 5) #[I,I,I,I,I,I,I,I,I,I,I,I,O,O] rfl rfl (one_of HT_.out (by kernel_rfl)) (by decide) (fun K hK => ?_)
             refine box_step ?hg (N := 5) ?hd (cs := #[.int .i64 0, .int .i64 0, .string (⟨#[]⟩ : ByteArray), .string (⟨#[]⟩ : ByteArray), .int .i64 0, .bool false]) (t := 25) ?hr ?_; (case hd => rfl); (case hg => rfl); (case hr => first | (go_simp; done) | (go_simp; rfl))
             intro gb421 hg w26 hbox hb
             have BK421 := Aside0.mk (hbox)
             have GW421 := Aside0.mk ((by rw [hg]; exact (below_size bo) : w.heap.size ≤ gb421))
             have GE421 := Aside0.mk ((by rw [hg]; exact (below_size bo) : w.heap.size ≤ gb421))
             replace HB := Aside0.mk (below_step bo hb)
             have NB409_421 := Aside0.mk ((by rw [hg]; exact Nat.ne_of_lt (blk_lt (g := gb409) (o := .cells #[.int .i64 a0_0, .slice A0_1 l0_1.length c0_1, .slice A0_2 l0_2.length c0_2, .slice (some ad413) l0_3.length c0_3, .string a0_4] 55 (0, 0)) (bk BK409.out)) : gb409 ≠ gb421))
             have NB421_409 := Aside0.mk ((by rw [hg]; exact Nat.ne_of_gt (blk_lt (g := gb409) (o := .cells #[.int .i64 a0_0, .slice A0_1 l0_1.length c0_1, .slice A0_2 l0_2.length c0_2, .slice (some ad413) l0_3.length c0_3, .string a0_4] 55 (0, 0)) (bk BK409.out)) : gb421 ≠ gb409))
             replace BK409 := Aside0.mk (blk_below (g := gb409) (o := .cells #[.int .i64 a0_0, .slice A0_1 l0_1.length c0_1, .slice A0_2 l0_2.length c0_2, .slice (some ad413) l0_3.length c0_3, .string a0_4] 55 (0, 0)) (bk BK409.out) hb)
             clear hb hbox hg
             refine hK.out _ _ ⟨(blk_cell BK409.out 0).trans rfl, (blk_cell BK409.out 1).trans rfl, (blk_cell BK409.out 2).trans rfl, (blk_cell BK409.out 3).trans rfl, (blk_cell BK409.out 4).trans rfl, ((HB.out.cell (World.block_lt_of_cell? w _ hw413_0)).trans hw413_0)⟩ (fun hHeld => ?_)
             clear hK K
             refine norm_ (a' := ?_) ?_ ?_
             rotate_left
             ·show Act.put _ (some 5) _ = _
              simp only [Act.put, List.setIfInBounds_toArray, List.set_cons_zero, List.set_cons_succ, i64_w, i32_w]
              rfl
             exact norm_ (by simp only [putAll, Act.put, List.setIfInBounds_toArray, List.set_cons_zero, List.set_cons_succ]) (hCont (gb421) _ ⟨hHeld, (bk BK409.out), (bk BK421.out), GW421.out, GE421.out, NB409_421.out, NB421_409.out, bo⟩)
            ·skip
             refine box_step ?hg (N := 5) ?hd (cs := #[.int .i64 0, .int .i64 0, .string (⟨#[]⟩ : ByteArray), .string (⟨#[]⟩ : ByteArray), .int .i64 0, .bool false]) (t := 25) ?hr ?_; (case hd => rfl); (case hg => rfl); (case hr => first | (go_simp; done) | (go_simp; rfl))
             intro gb421 hg w25 hbox hb
             have BK421 := Aside0.mk (hbox)
             have GW421 := Aside0.mk ((by rw [hg]; exact (below_size bo) : w.heap.size ≤ gb421))
             have GE421 := Aside0.mk ((by rw [hg]; exact (below_size bo) : w.heap.size ≤ gb421))
             replace HB := Aside0.mk (below_step bo hb)
             have NB409_421 := Aside0.mk ((by rw [hg]; exact Nat.ne_of_lt (blk_lt (g := gb409) (o := .cells #[.int .i64 a0_0, .slice A0_1 l0_1.length c0_1, .slice A0_2 l0_2.length c0_2, .slice (some ad413) l0_3.length c0_3, .string a0_4] 55 (0, 0)) (bk BK409.out)) : gb409 ≠ gb421))
             have NB421_409 := Aside0.mk ((by rw [hg]; exact Nat.ne_of_gt (blk_lt (g := gb409) (o := .cells #[.int .i64 a0_0, .slice A0_1 l0_1.length c0_1, .slice A0_2 l0_2.length c0_2, .slice (some ad413) l0_3.length c0_3, .string a0_4] 55 (0, 0)) (bk BK409.out)) : gb421 ≠ gb409))
             replace BK409 := Aside0.mk (blk_below (g := gb409) (o := .cells #[.int .i64 a0_0, .slice A0_1 l0_1.length c0_1, .slice A0_2 l0_2.length c0_2, .slice (some ad413) l0_3.length c0_3, .string a0_4] 55 (0, 0)) (bk BK409.out) hb)
             clear hb hbox hg
             refine hK.out _ _ ⟨(blk_cell BK409.out 0).trans rfl, (blk_cell BK409.out 1).trans rfl, (blk_cell BK409.out 2).trans rfl, (blk_cell BK409.out 3).trans rfl, (blk_cell BK409.out 4).trans rfl, ((HB.out.cell (World.block_lt_of_cell? w _ hw413_0)).trans hw413_0)⟩ (fun hHeld => ?_)
             clear hK K
             refine norm_ (a' := ?_) ?_ ?_
             rotate_left
             ·show Act.put _ (some 5) _ = _
              simp only [Act.put, List.setIfInBounds_toArray, List.set_cons_zero, List.set_cons_succ, i64_w, i32_w]
              rfl
             refine one_ (i := 7) (N := some 38) #[I,I,I,I,I,I,I,I,O,O,O,I,O,O] rfl rfl (one_of HT_.out (by kernel_rfl)) (by decide) (fun K hK => ?_)
             refine goes_ Try.func32 (by kernel_rfl) rfl #[.agg #[.int .i64 a0_0, .slice A0_1 l0_1.length c0_1], .int .i64 (rd l0_3 x4_2)] (by rfl) rfl rfl aa ?_
             with_reducible refine (seg_Find.calls kj14 a0_0 _ _ l0_1 (rd l0_3 x4_2) t414 t415 t416 t417 t418 t419 t420 _ ?side1 ?side2 A21.out).mono ?_
             (case side1 => repeat (first | exact (Kd.C_below HR0_1.out HB.out) | (with_reducible refine Kd.C_alloc ?_ _) | (with_reducible refine Kd.C_drewN ?_ _) | (with_reducible refine Kd.C_drew ?_)))
             (case side2 => exact HC0_1.out)
             rintro e w26 ⟨rfl, hb⟩
             refine ⟨_, rfl, ?_⟩
             replace BK409 := Aside0.mk (blk_below (g := gb409) (o := .cells #[.int .i64 a0_0, .slice A0_1 l0_1.length c0_1, .slice A0_2 l0_2.length c0_2, .slice (some ad413) l0_3.length c0_3, .string a0_4] 55 (0, 0)) (bk BK409.out) hb)
             replace BK421 := Aside0.mk (blk_below (g := gb421) (o := .cells #[.int .i64 0, .int .i64 0, .string (⟨#[]⟩ : ByteArray), .string (⟨#[]⟩ : ByteArray), .int .i64 0, .bool false] 25 (0, 0)) (bk BK421.out) hb)
             replace HB := Aside0.mk (below_step bo hb)
             (try clear hb)
             (try clear hb2)
             (try clear hk)
             (try clear hi)
             refine hK.out _ _ ⟨(blk_cell BK409.out 0).trans rfl, (blk_cell BK409.out 1).trans rfl, (blk_cell BK409.out 2).trans rfl, (blk_cell BK409.out 3).trans rfl, (blk_cell BK409.out 4).trans rfl, ((HB.out.cell (World.block_lt_of_cell? w _ hw413_0)).trans hw413_0)⟩ (fun hHeld => ?_)
             clear hK K
             refine norm_ (a' := ?_) ?_ ?_
             rotate_left
             ·show Act.put _ (some 38) _ = _
              simp only [Act.put, List.setIfInBounds_toArray, List.set_cons_zero, List.set_cons_succ, i64_w, i32_w]
              rfl
             refine pz (i := 8) (N := some 30) #[I,I,I,I,I,I,I,I,I,O,O,I,O,O] ?_
             refine pz (i := 9) (N := some 39) #[I,I,I,I,I,I,I,I,I,I,O,I,O,O] ?_
             refine pz (i := 10) (N := some 40) #[I,I,I,I,I,I,I,I,I,I,I,I,O,O] ?_
             exact norm_ (by simp only [putAll, Act.put, List.setIfInBounds_toArray, List.set_cons_zero, List.set_cons_succ]) (hCont (gb421) _ ⟨hHeld, (bk BK409.out), (bk BK421.out), GW421.out, GE421.out, NB409_421.out, NB421_409.out, bo⟩)
           rintro gb421 w27 ⟨hS_, h0_, h1_, h2_, h3_, h4_, h5_, h6_⟩
           have n0_ : Aside0 (w27.heap[gb409]? = some (.cells #[.int .i64 a0_0, .slice A0_1 l0_1.length c0_1, .slice A0_2 l0_2.length c0_2, .slice (some ad413) l0_3.length c0_3, .string a0_4] 55 (0, 0))) := ⟨h0_⟩
           have n1_ : Aside0 (w27.heap[gb421]? = some (.cells #[.int .i64 0, .int .i64 0, .string (⟨#[]⟩ : ByteArray), .string (⟨#[]⟩ : ByteArray), .int .i64 0, .bool false] 25 (0, 0))) := ⟨h1_⟩
           have n2_ : Aside0 (w.heap.size ≤ gb421) := ⟨h2_⟩
           have n3_ : Aside0 (w.heap.size ≤ gb421) := ⟨h3_⟩
           have n4_ : Aside0 (gb409 ≠ gb421) := ⟨h4_⟩
           have n5_ : Aside0 (gb421 ≠ gb409) := ⟨h5_⟩
           have n6_ : Aside0 (Below w.heap.size w w27) := ⟨h6_⟩
           clear BK409
           clear HB
           clear h0_ h1_ h2_ h3_ h4_ h5_ h6_
           have BK409 := n0_
           have BK421 := n1_
           have GW421 := n2_
           have GE421 := n3_
           have NB409_421 := n4_
           have NB421_409 := n5_
           have HB := n6_
           clear n0_ n1_ n2_ n3_ n4_ n5_ n6_
           have hHeld : w27.cell? ⟨gb409, 0, none⟩ = some (.int .i64 a0_0) ∧ w27.cell? ⟨gb409, 1, none⟩ = some (.slice A0_1 l0_1.length c0_1) ∧ w27.cell? ⟨gb409, 2, none⟩ = some (.slice A0_2 l0_2.length c0_2) ∧ w27.cell? ⟨gb409, 3, none⟩ = some (.slice (some ad413) l0_3.length c0_3) ∧ w27.cell? ⟨gb409, 4, none⟩ = some (.string a0_4) ∧ w27.cell? (ad413.add (x4_2).toNat) = some (.int .i64 (rd l0_3 x4_2)) := hS_
           refine norm_ (a' := ?_) ?_ ?_
           rotate_left
           ·simp only [putAll, Act.put, List.setIfInBounds_toArray, List.set_cons_zero, List.set_cons_succ]
            rfl
           refine one_ (i := 12) (N := none) #[I,I,I,I,I,I,I,I,I,I,I,I,I,O] rfl rfl (one_of HT_.out (by kernel_rfl)) (by decide) (fun K hK => ?_)
           have hs28 : w27.cell? ⟨gb421, 0, none⟩ = some (.int .i64 0) := (blk_cell BK421.out 0).trans rfl
           have hfs28 := blk_frozen BK421.out 0
           have hns28_0 := NB409_421.out
           have hms28_0 := NB421_409.out
           have hs29 : w27.cell? ⟨gb421, 1, none⟩ = some (.int .i64 0) := (blk_cell BK421.out 1).trans rfl
           have hfs29 := blk_frozen BK421.out 1
           have hns29_0 := NB409_421.out
           have hms29_0 := NB421_409.out
           have hs30 : w27.cell? ⟨gb421, 2, none⟩ = some (.string (⟨#[]⟩ : ByteArray)) := (blk_cell BK421.out 2).trans rfl
           have hfs30 := blk_frozen BK421.out 2
           have hns30_0 := NB409_421.out
           have hms30_0 := NB421_409.out
           have hs31 : w27.cell? ⟨gb421, 3, none⟩ = some (.string (⟨#[]⟩ : ByteArray)) := (blk_cell BK421.out 3).trans rfl
           have hfs31 := blk_frozen BK421.out 3
           have hns31_0 := NB409_421.out
           have hms31_0 := NB421_409.out
           have hs32 : w27.cell? ⟨gb421, 4, none⟩ = some (.int .i64 0) := (blk_cell BK421.out 4).trans rfl
           have hfs32 := blk_frozen BK421.out 4
           have hns32_0 := NB409_421.out
           have hms32_0 := NB421_409.out
           have hs33 : w27.cell? ⟨gb421, 5, none⟩ = some (.bool false) := (blk_cell BK421.out 5).trans rfl
           have hfs33 := blk_frozen BK421.out 5
           have hns33_0 := NB409_421.out
           have hms33_0 := NB421_409.out
           refine skip_ (w1 := ?_) (by rfl) rfl ?_ ?_
           rotate_left
           ·go_simp
            rfl
           refine hK.out _ _ ⟨((cell_far (p := ⟨gb421, _, none⟩) NB409_421.out _).trans (((cell_far (p := ⟨gb421, _, none⟩) NB409_421.out _).trans (((cell_far (p := ⟨gb421, _, none⟩) NB409_421.out _).trans (((cell_far (p := ⟨gb421, _, none⟩) NB409_421.out _).trans (((cell_far (p := ⟨gb421, _, none⟩) NB409_421.out _).trans (((cell_far (p := ⟨gb421, _, none⟩) NB409_421.out _).trans (hHeld.1)))))))))))), ((cell_far (p := ⟨gb421, _, none⟩) NB409_421.out _).trans (((cell_far (p := ⟨gb421, _, none⟩) NB409_421.out _).trans (((cell_far (p := ⟨gb421, _, none⟩) NB409_421.out _).trans (((cell_far (p := ⟨gb421, _, none⟩) NB409_421.out _).trans (((cell_far (p := ⟨gb421, _, none⟩) NB409_421.out _).trans (((cell_far (p := ⟨gb421, _, none⟩) NB409_421.out _).trans (hHeld.2.1)))))))))))), ((cell_far (p := ⟨gb421, _, none⟩) NB409_421.out _).trans (((cell_far (p := ⟨gb421, _, none⟩) NB409_421.out _).trans (((cell_far (p := ⟨gb421, _, none⟩) NB409_421.out _).trans (((cell_far (p := ⟨gb421, _, none⟩) NB409_421.out _).trans (((cell_far (p := ⟨gb421, _, none⟩) NB409_421.out _).trans (((cell_far (p := ⟨gb421, _, none⟩) NB409_421.out _).trans (hHeld.2.2.1)))))))))))), ((cell_far (p := ⟨gb421, _, none⟩) NB409_421.out _).trans (((cell_far (p := ⟨gb421, _, none⟩) NB409_421.out _).trans (((cell_far (p := ⟨gb421, _, none⟩) NB409_421.out _).trans (((cell_far (p := ⟨gb421, _, none⟩) NB409_421.out _).trans (((cell_far (p := ⟨gb421, _, none⟩) NB409_421.out _).trans (((cell_far (p := ⟨gb421, _, none⟩) NB409_421.out _).trans (hHeld.2.2.2.1)))))))))))), ((cell_far (p := ⟨gb421, _, none⟩) NB409_421.out _).trans (((cell_far (p := ⟨gb421, _, none⟩) NB409_421.out _).trans (((cell_far (p := ⟨gb421, _, none⟩) NB409_421.out _).trans (((cell_far (p := ⟨gb421, _, none⟩) NB409_421.out _).trans (((cell_far (p := ⟨gb421, _, none⟩) NB409_421.out _).trans (((cell_far (p := ⟨gb421, _, none⟩) NB409_421.out _).trans (hHeld.2.2.2.2.1)))))))))))), ((cell_far (p := ⟨gb421, _, none⟩) (by first | exact Nat.ne_of_lt (Nat.lt_of_lt_of_le (by have := World.block_lt_of_cell? _ _ hw413_0; first | rwa [add_block] at this | exact this) GW421.out) | (rw [add_block]; exact Nat.ne_of_lt (Nat.lt_of_lt_of_le (by have := World.block_lt_of_cell? _ _ hw413_0; first | rwa [add_block] at this | exact this) GW421.out)) | (show (Addr.add _ _).block ≠ _; rw [add_block]; exact Nat.ne_of_lt (Nat.lt_of_lt_of_le (by have := World.block_lt_of_cell? _ _ hw413_0; first | rwa [add_block] at this | exact this) GW421.out)) | (dsimp only; exact Nat.ne_of_lt (Nat.lt_of_lt_of_le (by have := World.block_lt_of_cell? _ _ hw413_0; first | rwa [add_block] at this | exact this) GW421.out))) _).trans (((cell_far (p := ⟨gb421, _, none⟩) (by first | exact Nat.ne_of_lt (Nat.lt_of_lt_of_le (by have := World.block_lt_of_cell? _ _ hw413_0; first | rwa [add_block] at this | exact this) GW421.out) | (rw [add_block]; exact Nat.ne_of_lt (Nat.lt_of_lt_of_le (by have := World.block_lt_of_cell? _ _ hw413_0; first | rwa [add_block] at this | exact this) GW421.out)) | (show (Addr.add _ _).block ≠ _; rw [add_block]; exact Nat.ne_of_lt (Nat.lt_of_lt_of_le (by have := World.block_lt_of_cell? _ _ hw413_0; first | rwa [add_block] at this | exact this) GW421.out)) | (dsimp only; exact Nat.ne_of_lt (Nat.lt_of_lt_of_le (by have := World.block_lt_of_cell? _ _ hw413_0; first | rwa [add_block] at this | exact this) GW421.out))) _).trans (((cell_far (p := ⟨gb421, _, none⟩) (by first | exact Nat.ne_of_lt (Nat.lt_of_lt_of_le (by have := World.block_lt_of_cell? _ _ hw413_0; first | rwa [add_block] at this | exact this) GW421.out) | (rw [add_block]; exact Nat.ne_of_lt (Nat.lt_of_lt_of_le (by have := World.block_lt_of_cell? _ _ hw413_0; first | rwa [add_block] at this | exact this) GW421.out)) | (show (Addr.add _ _).block ≠ _; rw [add_block]; exact Nat.ne_of_lt (Nat.lt_of_lt_of_le (by have := World.block_lt_of_cell? _ _ hw413_0; first | rwa [add_block] at this | exact this) GW421.out)) | (dsimp only; exact Nat.ne_of_lt (Nat.lt_of_lt_of_le (by have := World.block_lt_of_cell? _ _ hw413_0; first | rwa [add_block] at this | exact this) GW421.out))) _).trans (((cell_far (p := ⟨gb421, _, none⟩) (by first | exact Nat.ne_of_lt (Nat.lt_of_lt_of_le (by have := World.block_lt_of_cell? _ _ hw413_0; first | rwa [add_block] at this | exact this) GW421.out) | (rw [add_block]; exact Nat.ne_of_lt (Nat.lt_of_lt_of_le (by have := World.block_lt_of_cell? _ _ hw413_0; first | rwa [add_block] at this | exact this) GW421.out)) | (show (Addr.add _ _).block ≠ _; rw [add_block]; exact Nat.ne_of_lt (Nat.lt_of_lt_of_le (by have := World.block_lt_of_cell? _ _ hw413_0; first | rwa [add_block] at this | exact this) GW421.out)) | (dsimp only; exact Nat.ne_of_lt (Nat.lt_of_lt_of_le (by have := World.block_lt_of_cell? _ _ hw413_0; first | rwa [add_block] at this | exact this) GW421.out))) _).trans (((cell_far (p := ⟨gb421, _, none⟩) (by first | exact Nat.ne_of_lt (Nat.lt_of_lt_of_le (by have := World.block_lt_of_cell? _ _ hw413_0; first | rwa [add_block] at this | exact this) GW421.out) | (rw [add_block]; exact Nat.ne_of_lt (Nat.lt_of_lt_of_le (by have := World.block_lt_of_cell? _ _ hw413_0; first | rwa [add_block] at this | exact this) GW421.out)) | (show (Addr.add _ _).block ≠ _; rw [add_block]; exact Nat.ne_of_lt (Nat.lt_of_lt_of_le (by have := World.block_lt_of_cell? _ _ hw413_0; first | rwa [add_block] at this | exact this) GW421.out)) | (dsimp only; exact Nat.ne_of_lt (Nat.lt_of_lt_of_le (by have := World.block_lt_of_cell? _ _ hw413_0; first | rwa [add_block] at this | exact this) GW421.out))) _).trans (((cell_far (p := ⟨gb421, _, none⟩) (by first | exact Nat.ne_of_lt (Nat.lt_of_lt_of_le (by have := World.block_lt_of_cell? _ _ hw413_0; first | rwa [add_block] at this | exact this) GW421.out) | (rw [add_block]; exact Nat.ne_of_lt (Nat.lt_of_lt_of_le (by have := World.block_lt_of_cell? _ _ hw413_0; first | rwa [add_block] at this | exact this) GW421.out)) | (show (Addr.add _ _).block ≠ _; rw [add_block]; exact Nat.ne_of_lt (Nat.lt_of_lt_of_le (by have := World.block_lt_of_cell? _ _ hw413_0; first | rwa [add_block] at this | exact this) GW421.out)) | (dsimp only; exact Nat.ne_of_lt (Nat.lt_of_lt_of_le (by have := World.block_lt_of_cell? _ _ hw413_0; first | rwa [add_block] at this | exact this) GW421.out))) _).trans (hHeld.2.2.2.2.2))))))))))))⟩ (fun hHeld => ?_)
           clear hK K
           refine pz (i := 13) (N := some 6) #[I,I,I,I,I,I,I,I,I,I,I,I,I,I] ?_
           refine done_ (done_of HT_.out (by kernel_rfl)) ?_
           try go_wp2
           (try (rw [drewN_self w27]; generalize hq_ : World.drewN w27 _ = w27; have n0_ := Aside0.mk (blk_at hq_ BK409.out); have n1_ := Aside0.mk (blk_at hq_ BK421.out); have n2_ := Aside0.mk (below_at hq_ HB.out); clear hq_ BK409 BK421 HB; have BK409 := n0_; have BK421 := n1_; have HB := n2_; clear n0_ n1_ n2_))
           have n0_ : Aside0 (((((((w27.setCell ⟨gb421, 0, none⟩ (.int .i64 t414)).setCell ⟨gb421, 1, none⟩ (.int .i64 t415)).setCell ⟨gb421, 2, none⟩ (.string t416)).setCell ⟨gb421, 3, none⟩ (.string t417)).setCell ⟨gb421, 4, none⟩ (.int .i64 t418)).setCell ⟨gb421, 5, none⟩ (.bool t419)).heap[gb409]? = some (.cells #[.int .i64 a0_0, .slice A0_1 l0_1.length c0_1, .slice A0_2 l0_2.length c0_2, .slice (some ad413) l0_3.length c0_3, .string a0_4] 55 (0, 0))) := ⟨by (with_reducible repeat (first | refine blk_drewN ?_ _ | refine blk_drew ?_ | refine blk_alloc ?_ _)); refine blk_far ?_ NB409_421.out _; (with_reducible repeat (first | refine blk_drewN ?_ _ | refine blk_drew ?_ | refine blk_alloc ?_ _)); refine blk_far ?_ NB409_421.out _; (with_reducible repeat (first | refine blk_drewN ?_ _ | refine blk_drew ?_ | refine blk_alloc ?_ _)); refine blk_far ?_ NB409_421.out _; (with_reducible repeat (first | refine blk_drewN ?_ _ | refine blk_drew ?_ | refine blk_alloc ?_ _)); refine blk_far ?_ NB409_421.out _; (with_reducible repeat (first | refine blk_drewN ?_ _ | refine blk_drew ?_ | refine blk_alloc ?_ _)); refine blk_far ?_ NB409_421.out _; (with_reducible repeat (first | refine blk_drewN ?_ _ | refine blk_drew ?_ | refine blk_alloc ?_ _)); refine blk_far ?_ NB409_421.out _; (with_reducible repeat (first | refine blk_drewN ?_ _ | refine blk_drew ?_ | refine blk_alloc ?_ _)); exact BK409.out⟩
           have n1_ : Aside0 (((((((w27.setCell ⟨gb421, 0, none⟩ (.int .i64 t414)).setCell ⟨gb421, 1, none⟩ (.int .i64 t415)).setCell ⟨gb421, 2, none⟩ (.string t416)).setCell ⟨gb421, 3, none⟩ (.string t417)).setCell ⟨gb421, 4, none⟩ (.int .i64 t418)).setCell ⟨gb421, 5, none⟩ (.bool t419)).heap[gb421]? = some (.cells #[.int .i64 t414, .int .i64 t415, .string t416, .string t417, .int .i64 t418, .bool t419] 25 (0, 0))) := ⟨by (with_reducible repeat (first | refine blk_drewN ?_ _ | refine blk_drew ?_ | refine blk_alloc ?_ _)); refine blk_put (cs := #[.int .i64 t414, .int .i64 t415, .string t416, .string t417, .int .i64 t418, .bool false]) ?_ 5 _ rfl; (with_reducible repeat (first | refine blk_drewN ?_ _ | refine blk_drew ?_ | refine blk_alloc ?_ _)); refine blk_put (cs := #[.int .i64 t414, .int .i64 t415, .string t416, .string t417, .int .i64 0, .bool false]) ?_ 4 _ rfl; (with_reducible repeat (first | refine blk_drewN ?_ _ | refine blk_drew ?_ | refine blk_alloc ?_ _)); refine blk_put (cs := #[.int .i64 t414, .int .i64 t415, .string t416, .string (⟨#[]⟩ : ByteArray), .int .i64 0, .bool false]) ?_ 3 _ rfl; (with_reducible repeat (first | refine blk_drewN ?_ _ | refine blk_drew ?_ | refine blk_alloc ?_ _)); refine blk_put (cs := #[.int .i64 t414, .int .i64 t415, .string (⟨#[]⟩ : ByteArray), .string (⟨#[]⟩ : ByteArray), .int .i64 0, .bool false]) ?_ 2 _ rfl; (with_reducible repeat (first | refine blk_drewN ?_ _ | refine blk_drew ?_ | refine blk_alloc ?_ _)); refine blk_put (cs := #[.int .i64 t414, .int .i64 0, .string (⟨#[]⟩ : ByteArray), .string (⟨#[]⟩ : ByteArray), .int .i64 0, .bool false]) ?_ 1 _ rfl; (with_reducible repeat (first | refine blk_drewN ?_ _ | refine blk_drew ?_ | refine blk_alloc ?_ _)); refine blk_put (cs := #[.int .i64 0, .int .i64 0, .string (⟨#[]⟩ : ByteArray), .string (⟨#[]⟩ : ByteArray), .int .i64 0, .bool false]) ?_ 0 _ rfl; (with_reducible repeat (first | refine blk_drewN ?_ _ | refine blk_drew ?_ | refine blk_alloc ?_ _)); exact BK421.out⟩
           have n2_ : Aside0 (Below w.heap.size w ((((((w27.setCell ⟨gb421, 0, none⟩ (.int .i64 t414)).setCell ⟨gb421, 1, none⟩ (.int .i64 t415)).setCell ⟨gb421, 2, none⟩ (.string t416)).setCell ⟨gb421, 3, none⟩ (.string t417)).setCell ⟨gb421, 4, none⟩ (.int .i64 t418)).setCell ⟨gb421, 5, none⟩ (.bool t419))) := ⟨bo⟩
           (try clear BK409)
           (try clear BK421)
           (try clear HB)
           generalize ((((((w27.setCell ⟨gb421, 0, none⟩ (.int .i64 t414)).setCell ⟨gb421, 1, none⟩ (.int .i64 t415)).setCell ⟨gb421, 2, none⟩ (.string t416)).setCell ⟨gb421, 3, none⟩ (.string t417)).setCell ⟨gb421, 4, none⟩ (.int .i64 t418)).setCell ⟨gb421, 5, none⟩ (.bool t419)) = w34 at n0_ n1_ n2_ ⊢
           have BK409 := n0_
           have BK421 := n1_
           have HB := n2_
           clear n0_ n1_ n2_
           replace BK409 := Aside0.mk (blk_drew BK409.out)
           replace BK421 := Aside0.mk (blk_drew BK421.out)
           replace HB := Aside0.mk (below_drew1 HB.out)
           have p422 : 0 ≤ (x4_2 : Int) := od
           have q422 : x4_2 < (l0_3.length : Int) := od
           obtain ⟨ad422, e422, hx422_0⟩ := Kd.at_int HR0_3.out x4_2 p422 q422
           have hw422_0 := hx422_0
           obtain rfl : ad413 = ad422 := (by injection e422)
           replace hx422_0 := cx HB.out hx422_0
           replace p422 := eq_true p422
           replace q422 := eq_true q422
           refine start_ (n := 14) (S := fun w' => w'.cell? ⟨gb409, 0, none⟩ = some (.int .i64 a0_0) ∧ w'.cell? ⟨gb409, 1, none⟩ = some (.slice A0_1 l0_1.length c0_1) ∧ w'.cell? ⟨gb409, 2, none⟩ = some (.slice A0_2 l0_2.length c0_2) ∧ w'.cell? ⟨gb409, 3, none⟩ = some (.slice (some ad413) l0_3.length c0_3) ∧ w'.cell? ⟨gb409, 4, none⟩ = some (.string a0_4) ∧ w'.cell? (ad413.add (x4_2).toNat) = some (.int .i64 (rd l0_3 x4_2))) (ds := []) #[O,O,O,O,O,O,O,O,O,O,O,O,O,O] (by kernel_rfl) rfl rfl ⟨(blk_cell BK409.out 0).trans rfl, (blk_cell BK409.out 1).trans rfl, (blk_cell BK409.out 2).trans rfl, (blk_cell BK409.out 3).trans rfl, (blk_cell BK409.out 4).trans rfl, ((HB.out.cell (World.block_lt_of_cell? w _ hw422_0)).trans hw422_0)⟩ (fun hHeld => ?_); refine with_tabW fairwaylaw11_SegFinds.tab8 fairwaylaw11_SegFinds.bits8 (fun HT_ HW_ => ?_)
           generalize w34.drew = w35 at BK409 BK421 HB hx422_0 hHeld ⊢
           refine pz (i := 0) (N := some 42) #[I,O,O,O,O,O,O,O,O,O,O,O,O,O] ?_
           refine pz (i := 2) (N := some 44) #[I,O,I,O,O,O,O,O,O,O,O,O,O,O] ?_
           refine pz (i := 4) (N := some 46) #[I,O,I,O,I,O,O,O,O,O,O,O,O,O] ?_
           refine tz (i := 1) (N := some 43) #[I,I,I,O,I,O,O,O,O,O,O,O,O,O] ?_
           refine tz (i := 3) (N := some 45) #[I,I,I,I,I,O,O,O,O,O,O,O,O,O] ?_
           refine pz (i := 5) (N := some 47) #[I,I,I,I,I,I,O,O,O,O,O,O,O,O] ?_
           refine tz (i := 6) (N := some 48) #[I,I,I,I,I,I,I,O,O,O,O,O,O,O] ?_
           refine join_ (σ := Nat) 2 #[I,I,I,I,I,I,I,I,I,I,I,I,O,O] (fun s_ => [(49, .tuple #[.agg #[.int .i64 t423, .int .i64 t424, .string t425, .string t426, .int .i64 t427, .bool t428], .int .i64 t429]), (7, .pointer (some ⟨s_, 0, none⟩)), (41, .tuple #[.agg #[.int .i64 t423, .int .i64 t424, .string t425, .string t426, .int .i64 t427, .bool t428], .int .i64 t429]), (50, .agg #[.int .i64 t423, .int .i64 t424, .string t425, .string t426, .int .i64 t427, .bool t428]), (51, .int .i64 t429)]) (fun s_ w' => (w'.cell? ⟨gb409, 0, none⟩ = some (.int .i64 a0_0) ∧ w'.cell? ⟨gb409, 1, none⟩ = some (.slice A0_1 l0_1.length c0_1) ∧ w'.cell? ⟨gb409, 2, none⟩ = some (.slice A0_2 l0_2.length c0_2) ∧ w'.cell? ⟨gb409, 3, none⟩ = some (.slice (some ad413) l0_3.length c0_3) ∧ w'.cell? ⟨gb409, 4, none⟩ = some (.string a0_4) ∧ w'.cell? (ad413.add (x4_2).toNat) = some (.int .i64 (rd l0_3 x4_2))) ∧ (w'.heap[gb409]? = some (.cells #[.int .i64 a0_0, .slice A0_1 l0_1.length c0_1, .slice A0_2 l0_2.length c0_2, .slice (some ad413) l0_3.length c0_3, .string a0_4] 55 (0, 0))) ∧ (w'.heap[gb421]? = some (.cells #[.int .i64 t414, .int .i64 t415, .string t416, .string t417, .int .i64 t418, .bool t419] 25 (0, 0))) ∧ (w'.heap[s_]? = some (.cells #[.int .i64 0, .int .i64 0, .string (⟨#[]⟩ : ByteArray), .string (⟨#[]⟩ : ByteArray), .int .i64 0, .bool false] 25 (0, 0))) ∧ (w.heap.size ≤ s_) ∧ (w.heap.size ≤ s_) ∧ (gb409 ≠ s_) ∧ (s_ ≠ gb409) ∧ (gb421 ≠ s_) ∧ (s_ ≠ gb421) ∧ (Below w.heap.size w w')) ?_ ?_
           rotate_left
           ·intro hCont
            refine two_ (i := 7) (j := 11) (Ni := some 49) (Nj := some 7) #[I,I,I,I,I,I,I,I,O,O,O,O,O,O] #[I,I,I,I,I,I,I,O,O,O,O,I,O,O] rfl rfl rfl rfl (two_of HT_.out (by kernel_rfl)) (by decide) (by decide) (fun K hK => ?_) (fun K hK => ?_)
            ·skip
             refine goes_ Try.func33 (by kernel_rfl) rfl #[.agg #[.int .i64 a0_0, .slice A0_1 l0_1.length c0_1], .int .i64 (rd l0_3 x4_2)] (by rfl) rfl rfl aa ?_
             with_reducible refine (seg_Since.calls kj14 a0_0 _ _ l0_1 (rd l0_3 x4_2) t423 t424 t425 t426 t427 t428 t429 _ ?side1 ?side2 A22.out).mono ?_
             (case side1 => repeat (first | exact (Kd.C_below HR0_1.out HB.out) | (with_reducible refine Kd.C_alloc ?_ _) | (with_reducible refine Kd.C_drewN ?_ _) | (with_reducible refine Kd.C_drew ?_)))
             (case side2 => exact HC0_1.out)
             rintro e w36 ⟨rfl, hb⟩
             refine ⟨_, rfl, ?_⟩
             replace BK409 := Aside0.mk (blk_below (g := gb409) (o := .cells #[.int .i64 a0_0, .slice A0_1 l0_1.length c0_1, .slice A0_2 l0_2.length c0_2, .slice (some ad413) l0_3.length c0_3, .string a0_4] 55 (0, 0)) (bk BK409.out) hb)
             replace BK421 := Aside0.mk (blk_below (g := gb421) (o := .cells #[.int .i64 t414, .int .i64 t415, .string t416, .string t417, .int .i64 t418, .bool t419] 25 (0, 0)) (bk BK421.out) hb)
             replace HB := Aside0.mk (below_step bo hb)
             (try clear hb)
             (try clear hb2)
             (try clear hk)
             (try clear hi)
             refine hK.out _ _ ⟨(blk_cell BK409.out 0).trans rfl, (blk_cell BK409.out 1).trans rfl, (blk_cell BK409.out 2).trans rfl, (blk_cell BK409.out 3).trans rfl, (blk_cell BK409.out 4).trans rfl, ((HB.out.cell (World.block_lt_of_cell? w _ hw422_0)).trans hw422_0)⟩ (fun hHeld => ?_)
             clear hK K
             refine norm_ (a' := ?_) ?_ ?_
             rotate_left
             ·show Act.put _ (some 49) _ = _
              simp only [Act.put, List.setIfInBounds_toArray, List.set_cons_zero, List.set_cons_succ, i64_w, i32_w]
              rfl
             refine pz (i := 8) (N := some 41) #[I,I,I,I,I,I,I,I,I,O,O,O,O,O] ?_
             refine pz (i := 9) (N := some 50) #[I,I,I,I,I,I,I,I,I,I,O,O,O,O] ?_
             refine pz (i := 10) (N := some 51) #[I,I,I,I,I,I,I,I,I,I,I,O,O,O] ?_
             refine one_ (i := 11) (N := some 7) #[I,I,I,I,I,I,I,I,I,I,I,I,O,O] rfl rfl (one_of HT_.out (by kernel_rfl)) (by decide) (fun K hK => ?_)
             refine box_step ?hg (N := 7) ?hd (cs := #[.int .i64 0, .int .i64 0, .string (⟨#[]⟩ : ByteArray), .string (⟨#[]⟩ : ByteArray), .int .i64 0, .bool false]) (t := 25) ?hr ?_; (case hd => rfl); (case hg => rfl); (case hr => first | (go_simp; done) | (go_simp; rfl))
             intro gb430 hg w37 hbox hb
             have BK430 := Aside0.mk (hbox)
             have GW430 := Aside0.mk ((by rw [hg]; exact (below_size bo) : w.heap.size ≤ gb430))
             have GE430 := Aside0.mk ((by rw [hg]; exact (below_size bo) : w.heap.size ≤ gb430))
             replace HB := Aside0.mk (below_step bo hb)
             have NB409_430 := Aside0.mk ((by rw [hg]; exact Nat.ne_of_lt (blk_lt (g := gb409) (o := .cells #[.int .i64 a0_0, .slice A0_1 l0_1.length c0_1, .slice A0_2 l0_2.length c0_2, .slice (some ad413) l0_3.length c0_3, .string a0_4] 55 (0, 0)) (bk BK409.out)) : gb409 ≠ gb430))
             have NB430_409 := Aside0.mk ((by rw [hg]; exact Nat.ne_of_gt (blk_lt (g := gb409) (o := .cells #[.int .i64 a0_0, .slice A0_1 l0_1.length c0_1, .slice A0_2 l0_2.length c0_2, .slice (some ad413) l0_3.length c0_3, .string a0_4] 55 (0, 0)) (bk BK409.out)) : gb430 ≠ gb409))
             replace BK409 := Aside0.mk (blk_below (g := gb409) (o := .cells #[.int .i64 a0_0, .slice A0_1 l0_1.length c0_1, .slice A0_2 l0_2.length c0_2, .slice (some ad413) l0_3.length c0_3, .string a0_4] 55 (0, 0)) (bk BK409.out) hb)
             have NB421_430 := Aside0.mk ((by rw [hg]; exact Nat.ne_of_lt (blk_lt (g := gb421) (o := .cells #[.int .i64 t414, .int .i64 t415, .string t416, .string t417, .int .i64 t418, .bool t419] 25 (0, 0)) (bk BK421.out)) : gb421 ≠ gb430))
             have NB430_421 := Aside0.mk ((by rw [hg]; exact Nat.ne_of_gt (blk_lt (g := gb421) (o := .cells #[.int .i64 t414, .int .i64 t415, .string t416, .string t417, .int .i64 t418, .bool t419] 25 (0, 0)) (bk BK421.out)) : gb430 ≠ gb421))
             replace BK421 := Aside0.mk (blk_below (g := gb421) (o := .cells #[.int .i64 t414, .int .i64 t415, .string t416, .string t417, .int .i64 t418, .bool t419] 25 (0, 0)) (bk BK421.out) hb)
             clear hb hbox hg
             refine hK.out _ _ ⟨(blk_cell BK409.out 0).trans rfl, (blk_cell BK409.out 1).trans rfl, (blk_cell BK409.out 2).trans rfl, (blk_cell BK409.out 3).trans rfl, (blk_cell BK409.out 4).trans rfl, ((HB.out.cell (World.block_lt_of_cell? w _ hw422_0)).trans hw422_0)⟩ (fun hHeld => ?_)
             clear hK K
             refine norm_ (a' := ?_) ?_ ?_
             rotate_left
             ·show Act.put _ (some 7) _ = _
              simp only [Act.put, List.setIfInBounds_toArray, List.set_cons_zero, List.set_cons_succ, i64_w, i32_w]
              rfl
             exact norm_ (by simp only [putAll, Act.put, List.setIfInBounds_toArray, List.set_cons_zero, List.set_cons_succ]) (hCont (gb430) _ ⟨hHeld, (bk BK409.out), (bk BK421.out), (bk BK430.out), GW430.out, GE430.out, NB409_430.out, NB430_409.out, NB421_430.out, NB430_421.out, bo⟩)
            ·skip
             refine box_step ?hg (N := 7) ?hd (cs := #[.int .i64 0, .int .i64 0, .string (⟨#[]⟩ : ByteArray), .string (⟨#[]⟩ : ByteArray), .int .i64 0, .bool false]) (t := 25) ?hr ?_; (case hd => rfl); (case hg => rfl); (case hr => first | (go_simp; done) | (go_simp; rfl))
             intro gb430 hg w36 hbox hb
             have BK430 := Aside0.mk (hbox)
             have GW430 := Aside0.mk ((by rw [hg]; exact (below_size bo) : w.heap.size ≤ gb430))
             have GE430 := Aside0.mk ((by rw [hg]; exact (below_size bo) : w.heap.size ≤ gb430))
             replace HB := Aside0.mk (below_step bo hb)
             have NB409_430 := Aside0.mk ((by rw [hg]; exact Nat.ne_of_lt (blk_lt (g := gb409) (o := .cells #[.int .i64 a0_0, .slice A0_1 l0_1.length c0_1, .slice A0_2 l0_2.length c0_2, .slice (some ad413) l0_3.length c0_3, .string a0_4] 55 (0, 0)) (bk BK409.out)) : gb409 ≠ gb430))
             have NB430_409 := Aside0.mk ((by rw [hg]; exact Nat.ne_of_gt (blk_lt (g := gb409) (o := .cells #[.int .i64 a0_0, .slice A0_1 l0_1.length c0_1, .slice A0_2 l0_2.length c0_2, .slice (some ad413) l0_3.length c0_3, .string a0_4] 55 (0, 0)) (bk BK409.out)) : gb430 ≠ gb409))
             replace BK409 := Aside0.mk (blk_below (g := gb409) (o := .cells #[.int .i64 a0_0, .slice A0_1 l0_1.length c0_1, .slice A0_2 l0_2.length c0_2, .slice (some ad413) l0_3.length c0_3, .string a0_4] 55 (0, 0)) (bk BK409.out) hb)
             have NB421_430 := Aside0.mk ((by rw [hg]; exact Nat.ne_of_lt (blk_lt (g := gb421) (o := .cells #[.int .i64 t414, .int .i64 t415, .string t416, .string t417, .int .i64 t418, .bool t419] 25 (0, 0)) (bk BK421.out)) : gb421 ≠ gb430))
             have NB430_421 := Aside0.mk ((by rw [hg]; exact Nat.ne_of_gt (blk_lt (g := gb421) (o := .cells #[.int .i64 t414, .int .i64 t415, .string t416, .string t417, .int .i64 t418, .bool t419] 25 (0, 0)) (bk BK421.out)) : gb430 ≠ gb421))
             replace BK421 := Aside0.mk (blk_below (g := gb421) (o := .cells #[.int .i64 t414, .int .i64 t415, .string t416, .string t417, .int .i64 t418, .bool t419] 25 (0, 0)) (bk BK421.out) hb)
             clear hb hbox hg
             refine hK.out _ _ ⟨(blk_cell BK409.out 0).trans rfl, (blk_cell BK409.out 1).trans rfl, (blk_cell BK409.out 2).trans rfl, (blk_cell BK409.out 3).trans rfl, (blk_cell BK409.out 4).trans rfl, ((HB.out.cell (World.block_lt_of_cell? w _ hw422_0)).trans hw422_0)⟩ (fun hHeld => ?_)
             clear hK K
             refine norm_ (a' := ?_) ?_ ?_
             rotate_left
             ·show Act.put _ (some 7) _ = _
              simp only [Act.put, List.setIfInBounds_toArray, List.set_cons_zero, List.set_cons_succ, i64_w, i32_w]
              rfl
             refine one_ (i := 7) (N := some 49) #[I,I,I,I,I,I,I,I,O,O,O,I,O,O] rfl rfl (one_of HT_.out (by kernel_rfl)) (by decide) (fun K hK => ?_)
             refine goes_ Try.func33 (by kernel_rfl) rfl #[.agg #[.int .i64 a0_0, .slice A0_1 l0_1.length c0_1], .int .i64 (rd l0_3 x4_2)] (by rfl) rfl rfl aa ?_
             with_reducible refine (seg_Since.calls kj14 a0_0 _ _ l0_1 (rd l0_3 x4_2) t423 t424 t425 t426 t427 t428 t429 _ ?side1 ?side2 A22.out).mono ?_
             (case side1 => repeat (first | exact (Kd.C_below HR0_1.out HB.out) | (with_reducible refine Kd.C_alloc ?_ _) | (with_reducible refine Kd.C_drewN ?_ _) | (with_reducible refine Kd.C_drew ?_)))
             (case side2 => exact HC0_1.out)
             rintro e w37 ⟨rfl, hb⟩
             refine ⟨_, rfl, ?_⟩
             replace BK409 := Aside0.mk (blk_below (g := gb409) (o := .cells #[.int .i64 a0_0, .slice A0_1 l0_1.length c0_1, .slice A0_2 l0_2.length c0_2, .slice (some ad413) l0_3.length c0_3, .string a0_4] 55 (0, 0)) (bk BK409.out) hb)
             replace BK421 := Aside0.mk (blk_below (g := gb421) (o := .cells #[.int .i64 t414, .int .i64 t415, .string t416, .string t417, .int .i64 t418, .bool t419] 25 (0, 0)) (bk BK421.out) hb)
             replace BK430 := Aside0.mk (blk_below (g := gb430) (o := .cells #[.int .i64 0, .int .i64 0, .string (⟨#[]⟩ : ByteArray), .string (⟨#[]⟩ : ByteArray), .int .i64 0, .bool false] 25 (0, 0)) (bk BK430.out) hb)
             replace HB := Aside0.mk (below_step bo hb)
             (try clear hb)
             (try clear hb2)
             (try clear hk)
             (try clear hi)
             refine hK.out _ _ ⟨(blk_cell BK409.out 0).trans rfl, (blk_cell BK409.out 1).trans rfl, (blk_cell BK409.out 2).trans rfl, (blk_cell BK409.out 3).trans rfl, (blk_cell BK409.out 4).trans rfl, ((HB.out.cell (World.block_lt_of_cell? w _ hw422_0)).trans hw422_0)⟩ (fun hHeld => ?_)
             clear hK K
             refine norm_ (a' := ?_) ?_ ?_
             rotate_left
             ·show Act.put _ (some 49) _ = _
              simp only [Act.put, List.setIfInBounds_toArray, List.set_cons_zero, List.set_cons_succ, i64_w, i32_w]
              rfl
             refine pz (i := 8) (N := some 41) #[I,I,I,I,I,I,I,I,I,O,O,I,O,O] ?_
             refine pz (i := 9) (N := some 50) #[I,I,I,I,I,I,I,I,I,I,O,I,O,O] ?_
             refine pz (i := 10) (N := some 51) #[I,I,I,I,I,I,I,I,I,I,I,I,O,O] ?_
             exact norm_ (by simp only [putAll, Act.put, List.setIfInBounds_toArray, List.set_cons_zero, List.set_cons_succ]) (hCont (gb430) _ ⟨hHeld, (bk BK409.out), (bk BK421.out), (bk BK430.out), GW430.out, GE430.out, NB409_430.out, NB430_409.out, NB421_430.out, NB430_421.out, bo⟩)
           rintro gb430 w38 ⟨hS_, h0_, h1_, h2_, h3_, h4_, h5_, h6_, h7_, h8_, h9_⟩
           have n0_ : Aside0 (w38.heap[gb409]? = some (.cells #[.int .i64 a0_0, .slice A0_1 l0_1.length c0_1, .slice A0_2 l0_2.length c0_2, .slice (some ad413) l0_3.length c0_3, .string a0_4] 55 (0, 0))) := ⟨h0_⟩
           have n1_ : Aside0 (w38.heap[gb421]? = some (.cells #[.int .i64 t414, .int .i64 t415, .string t416, .string t417, .int .i64 t418, .bool t419] 25 (0, 0))) := ⟨h1_⟩
           have n2_ : Aside0 (w38.heap[gb430]? = some (.cells #[.int .i64 0, .int .i64 0, .string (⟨#[]⟩ : ByteArray), .string (⟨#[]⟩ : ByteArray), .int .i64 0, .bool false] 25 (0, 0))) := ⟨h2_⟩
           have n3_ : Aside0 (w.heap.size ≤ gb430) := ⟨h3_⟩
           have n4_ : Aside0 (w.heap.size ≤ gb430) := ⟨h4_⟩
           have n5_ : Aside0 (gb409 ≠ gb430) := ⟨h5_⟩
           have n6_ : Aside0 (gb430 ≠ gb409) := ⟨h6_⟩
           have n7_ : Aside0 (gb421 ≠ gb430) := ⟨h7_⟩
           have n8_ : Aside0 (gb430 ≠ gb421) := ⟨h8_⟩
           have n9_ : Aside0 (Below w.heap.size w w38) := ⟨h9_⟩
           clear BK409
           clear BK421
           clear HB
           clear h0_ h1_ h2_ h3_ h4_ h5_ h6_ h7_ h8_ h9_
           have BK409 := n0_
           have BK421 := n1_
           have BK430 := n2_
           have GW430 := n3_
           have GE430 := n4_
           have NB409_430 := n5_
           have NB430_409 := n6_
           have NB421_430 := n7_
           have NB430_421 := n8_
           have HB := n9_
           clear n0_ n1_ n2_ n3_ n4_ n5_ n6_ n7_ n8_ n9_
           have hHeld : w38.cell? ⟨gb409, 0, none⟩ = some (.int .i64 a0_0) ∧ w38.cell? ⟨gb409, 1, none⟩ = some (.slice A0_1 l0_1.length c0_1) ∧ w38.cell? ⟨gb409, 2, none⟩ = some (.slice A0_2 l0_2.length c0_2) ∧ w38.cell? ⟨gb409, 3, none⟩ = some (.slice (some ad413) l0_3.length c0_3) ∧ w38.cell? ⟨gb409, 4, none⟩ = some (.string a0_4) ∧ w38.cell? (ad413.add (x4_2).toNat) = some (.int .i64 (rd l0_3 x4_2)) := hS_
           refine norm_ (a' := ?_) ?_ ?_
           rotate_left
           ·simp only [putAll, Act.put, List.setIfInBounds_toArray, List.set_cons_zero, List.set_cons_succ]
            rfl
           refine one_ (i := 12) (N := none) #[I,I,I,I,I,I,I,I,I,I,I,I,I,O] rfl rfl (one_of HT_.out (by kernel_rfl)) (by decide) (fun K hK => ?_)
           have hs39 : w38.cell? ⟨gb430, 0, none⟩ = some (.int .i64 0) := (blk_cell BK430.out 0).trans rfl
           have hfs39 := blk_frozen BK430.out 0
           have hns39_0 := NB409_430.out
           have hns39_1 := NB421_430.out
           have hms39_0 := NB430_409.out
           have hms39_1 := NB430_421.out
           have hs40 : w38.cell? ⟨gb430, 1, none⟩ = some (.int .i64 0) := (blk_cell BK430.out 1).trans rfl
           have hfs40 := blk_frozen BK430.out 1
           have hns40_0 := NB409_430.out
           have hns40_1 := NB421_430.out
           have hms40_0 := NB430_409.out
           have hms40_1 := NB430_421.out
           have hs41 : w38.cell? ⟨gb430, 2, none⟩ = some (.string (⟨#[]⟩ : ByteArray)) := (blk_cell BK430.out 2).trans rfl
           have hfs41 := blk_frozen BK430.out 2
           have hns41_0 := NB409_430.out
           have hns41_1 := NB421_430.out
           have hms41_0 := NB430_409.out
           have hms41_1 := NB430_421.out
           have hs42 : w38.cell? ⟨gb430, 3, none⟩ = some (.string (⟨#[]⟩ : ByteArray)) := (blk_cell BK430.out 3).trans rfl
           have hfs42 := blk_frozen BK430.out 3
           have hns42_0 := NB409_430.out
           have hns42_1 := NB421_430.out
           have hms42_0 := NB430_409.out
           have hms42_1 := NB430_421.out
           have hs43 : w38.cell? ⟨gb430, 4, none⟩ = some (.int .i64 0) := (blk_cell BK430.out 4).trans rfl
           have hfs43 := blk_frozen BK430.out 4
           have hns43_0 := NB409_430.out
           have hns43_1 := NB421_430.out
           have hms43_0 := NB430_409.out
           have hms43_1 := NB430_421.out
           have hs44 : w38.cell? ⟨gb430, 5, none⟩ = some (.bool false) := (blk_cell BK430.out 5).trans rfl
           have hfs44 := blk_frozen BK430.out 5
           have hns44_0 := NB409_430.out
           have hns44_1 := NB421_430.out
           have hms44_0 := NB430_409.out
           have hms44_1 := NB430_421.out
           refine skip_ (w1 := ?_) (by rfl) rfl ?_ ?_
           rotate_left
           ·go_simp
            rfl
           refine hK.out _ _ ⟨((cell_far (p := ⟨gb430, _, none⟩) NB409_430.out _).trans (((cell_far (p := ⟨gb430, _, none⟩) NB409_430.out _).trans (((cell_far (p := ⟨gb430, _, none⟩) NB409_430.out _).trans (((cell_far (p := ⟨gb430, _, none⟩) NB409_430.out _).trans (((cell_far (p := ⟨gb430, _, none⟩) NB409_430.out _).trans (((cell_far (p := ⟨gb430, _, none⟩) NB409_430.out _).trans (hHeld.1)))))))))))), ((cell_far (p := ⟨gb430, _, none⟩) NB409_430.out _).trans (((cell_far (p := ⟨gb430, _, none⟩) NB409_430.out _).trans (((cell_far (p := ⟨gb430, _, none⟩) NB409_430.out _).trans (((cell_far (p := ⟨gb430, _, none⟩) NB409_430.out _).trans (((cell_far (p := ⟨gb430, _, none⟩) NB409_430.out _).trans (((cell_far (p := ⟨gb430, _, none⟩) NB409_430.out _).trans (hHeld.2.1)))))))))))), ((cell_far (p := ⟨gb430, _, none⟩) NB409_430.out _).trans (((cell_far (p := ⟨gb430, _, none⟩) NB409_430.out _).trans (((cell_far (p := ⟨gb430, _, none⟩) NB409_430.out _).trans (((cell_far (p := ⟨gb430, _, none⟩) NB409_430.out _).trans (((cell_far (p := ⟨gb430, _, none⟩) NB409_430.out _).trans (((cell_far (p := ⟨gb430, _, none⟩) NB409_430.out _).trans (hHeld.2.2.1)))))))))))), ((cell_far (p := ⟨gb430, _, none⟩) NB409_430.out _).trans (((cell_far (p := ⟨gb430, _, none⟩) NB409_430.out _).trans (((cell_far (p := ⟨gb430, _, none⟩) NB409_430.out _).trans (((cell_far (p := ⟨gb430, _, none⟩) NB409_430.out _).trans (((cell_far (p := ⟨gb430, _, none⟩) NB409_430.out _).trans (((cell_far (p := ⟨gb430, _, none⟩) NB409_430.out _).trans (hHeld.2.2.2.1)))))))))))), ((cell_far (p := ⟨gb430, _, none⟩) NB409_430.out _).trans (((cell_far (p := ⟨gb430, _, none⟩) NB409_430.out _).trans (((cell_far (p := ⟨gb430, _, none⟩) NB409_430.out _).trans (((cell_far (p := ⟨gb430, _, none⟩) NB409_430.out _).trans (((cell_far (p := ⟨gb430, _, none⟩) NB409_430.out _).trans (((cell_far (p := ⟨gb430, _, none⟩) NB409_430.out _).trans (hHeld.2.2.2.2.1)))))))))))), ((cell_far (p := ⟨gb430, _, none⟩) (by first | exact Nat.ne_of_lt (Nat.lt_of_lt_of_le (by have := World.block_lt_of_cell? _ _ hw422_0; first | rwa [add_block] at this | exact this) GW430.out) | (rw [add_block]; exact Nat.ne_of_lt (Nat.lt_of_lt_of_le (by have := World.block_lt_of_cell? _ _ hw422_0; first | rwa [add_block] at this | exact this) GW430.out)) | (show (Addr.add _ _).block ≠ _; rw [add_block]; exact Nat.ne_of_lt (Nat.lt_of_lt_of_le (by have := World.block_lt_of_cell? _ _ hw422_0; first | rwa [add_block] at this | exact this) GW430.out)) | (dsimp only; exact Nat.ne_of_lt (Nat.lt_of_lt_of_le (by have := World.block_lt_of_cell? _ _ hw422_0; first | rwa [add_block] at this | exact this) GW430.out))) _).trans (((cell_far (p := ⟨gb430, _, none⟩) (by first | exact Nat.ne_of_lt (Nat.lt_of_lt_of_le (by have := World.block_lt_of_cell? _ _ hw422_0; first | rwa [add_block] at this | exact this) GW430.out) | (rw [add_block]; exact Nat.ne_of_lt (Nat.lt_of_lt_of_le (by have := World.block_lt_of_cell? _ _ hw422_0; first | rwa [add_block] at this | exact this) GW430.out)) | (show (Addr.add _ _).block ≠ _; rw [add_block]; exact Nat.ne_of_lt (Nat.lt_of_lt_of_le (by have := World.block_lt_of_cell? _ _ hw422_0; first | rwa [add_block] at this | exact this) GW430.out)) | (dsimp only; exact Nat.ne_of_lt (Nat.lt_of_lt_of_le (by have := World.block_lt_of_cell? _ _ hw422_0; first | rwa [add_block] at this | exact this) GW430.out))) _).trans (((cell_far (p := ⟨gb430, _, none⟩) (by first | exact Nat.ne_of_lt (Nat.lt_of_lt_of_le (by have := World.block_lt_of_cell? _ _ hw422_0; first | rwa [add_block] at this | exact this) GW430.out) | (rw [add_block]; exact Nat.ne_of_lt (Nat.lt_of_lt_of_le (by have := World.block_lt_of_cell? _ _ hw422_0; first | rwa [add_block] at this | exact this) GW430.out)) | (show (Addr.add _ _).block ≠ _; rw [add_block]; exact Nat.ne_of_lt (Nat.lt_of_lt_of_le (by have := World.block_lt_of_cell? _ _ hw422_0; first | rwa [add_block] at this | exact this) GW430.out)) | (dsimp only; exact Nat.ne_of_lt (Nat.lt_of_lt_of_le (by have := World.block_lt_of_cell? _ _ hw422_0; first | rwa [add_block] at this | exact this) GW430.out))) _).trans (((cell_far (p := ⟨gb430, _, none⟩) (by first | exact Nat.ne_of_lt (Nat.lt_of_lt_of_le (by have := World.block_lt_of_cell? _ _ hw422_0; first | rwa [add_block] at this | exact this) GW430.out) | (rw [add_block]; exact Nat.ne_of_lt (Nat.lt_of_lt_of_le (by have := World.block_lt_of_cell? _ _ hw422_0; first | rwa [add_block] at this | exact this) GW430.out)) | (show (Addr.add _ _).block ≠ _; rw [add_block]; exact Nat.ne_of_lt (Nat.lt_of_lt_of_le (by have := World.block_lt_of_cell? _ _ hw422_0; first | rwa [add_block] at this | exact this) GW430.out)) | (dsimp only; exact Nat.ne_of_lt (Nat.lt_of_lt_of_le (by have := World.block_lt_of_cell? _ _ hw422_0; first | rwa [add_block] at this | exact this) GW430.out))) _).trans (((cell_far (p := ⟨gb430, _, none⟩) (by first | exact Nat.ne_of_lt (Nat.lt_of_lt_of_le (by have := World.block_lt_of_cell? _ _ hw422_0; first | rwa [add_block] at this | exact this) GW430.out) | (rw [add_block]; exact Nat.ne_of_lt (Nat.lt_of_lt_of_le (by have := World.block_lt_of_cell? _ _ hw422_0; first | rwa [add_block] at this | exact this) GW430.out)) | (show (Addr.add _ _).block ≠ _; rw [add_block]; exact Nat.ne_of_lt (Nat.lt_of_lt_of_le (by have := World.block_lt_of_cell? _ _ hw422_0; first | rwa [add_block] at this | exact this) GW430.out)) | (dsimp only; exact Nat.ne_of_lt (Nat.lt_of_lt_of_le (by have := World.block_lt_of_cell? _ _ hw422_0; first | rwa [add_block] at this | exact this) GW430.out))) _).trans (((cell_far (p := ⟨gb430, _, none⟩) (by first | exact Nat.ne_of_lt (Nat.lt_of_lt_of_le (by have := World.block_lt_of_cell? _ _ hw422_0; first | rwa [add_block] at this | exact this) GW430.out) | (rw [add_block]; exact Nat.ne_of_lt (Nat.lt_of_lt_of_le (by have := World.block_lt_of_cell? _ _ hw422_0; first | rwa [add_block] at this | exact this) GW430.out)) | (show (Addr.add _ _).block ≠ _; rw [add_block]; exact Nat.ne_of_lt (Nat.lt_of_lt_of_le (by have := World.block_lt_of_cell? _ _ hw422_0; first | rwa [add_block] at this | exact this) GW430.out)) | (dsimp only; exact Nat.ne_of_lt (Nat.lt_of_lt_of_le (by have := World.block_lt_of_cell? _ _ hw422_0; first | rwa [add_block] at this | exact this) GW430.out))) _).trans (hHeld.2.2.2.2.2))))))))))))⟩ (fun hHeld => ?_)
           clear hK K
           refine pz (i := 13) (N := some 8) #[I,I,I,I,I,I,I,I,I,I,I,I,I,I] ?_
           refine done_ (done_of HT_.out (by kernel_rfl)) ?_
           go_upto_if 52 with (first | ((with_reducible refine gate_dst (N := 11) rfl ?_); refine box_event ?hg (N := 11) ?hd (cs := #[.int .i64 0, .int .i64 0, .string (⟨#[]⟩ : ByteArray), .string (⟨#[]⟩ : ByteArray), .int .i64 0, .bool false]) (t := 25) ?hr ?_; (case hd => rfl); (case hg => rfl); (case hr => first | (go_simp; done) | (go_simp; rfl)); intro gb431 hg w45 hbox hb; have BK431 := Aside0.mk (hbox); have GW431 := Aside0.mk ((by rw [hg]; exact (below_size bo) : w.heap.size ≤ gb431)); have GE431 := Aside0.mk ((by rw [hg]; exact (below_size bo) : w.heap.size ≤ gb431)); replace HB := Aside0.mk (below_step bo hb); have NB409_431 := Aside0.mk ((by rw [hg]; exact Nat.ne_of_lt (blk_lt (g := gb409) (o := .cells #[.int .i64 a0_0, .slice A0_1 l0_1.length c0_1, .slice A0_2 l0_2.length c0_2, .slice (some ad413) l0_3.length c0_3, .string a0_4] 55 (0, 0)) (bf BK409.out)) : gb409 ≠ gb431)); have NB431_409 := Aside0.mk ((by rw [hg]; exact Nat.ne_of_gt (blk_lt (g := gb409) (o := .cells #[.int .i64 a0_0, .slice A0_1 l0_1.length c0_1, .slice A0_2 l0_2.length c0_2, .slice (some ad413) l0_3.length c0_3, .string a0_4] 55 (0, 0)) (bf BK409.out)) : gb431 ≠ gb409)); replace BK409 := Aside0.mk (blk_below (g := gb409) (o := .cells #[.int .i64 a0_0, .slice A0_1 l0_1.length c0_1, .slice A0_2 l0_2.length c0_2, .slice (some ad413) l0_3.length c0_3, .string a0_4] 55 (0, 0)) (bf BK409.out) hb); have NB421_431 := Aside0.mk ((by rw [hg]; exact Nat.ne_of_lt (blk_lt (g := gb421) (o := .cells #[.int .i64 t414, .int .i64 t415, .string t416, .string t417, .int .i64 t418, .bool t419] 25 (0, 0)) (bf BK421.out)) : gb421 ≠ gb431)); have NB431_421 := Aside0.mk ((by rw [hg]; exact Nat.ne_of_gt (blk_lt (g := gb421) (o := .cells #[.int .i64 t414, .int .i64 t415, .string t416, .string t417, .int .i64 t418, .bool t419] 25 (0, 0)) (bf BK421.out)) : gb431 ≠ gb421)); replace BK421 := Aside0.mk (blk_below (g := gb421) (o := .cells #[.int .i64 t414, .int .i64 t415, .string t416, .string t417, .int .i64 t418, .bool t419] 25 (0, 0)) (bf BK421.out) hb); have NB430_431 := Aside0.mk ((by rw [hg]; exact Nat.ne_of_lt (blk_lt (g := gb430) (o := .cells #[.int .i64 t423, .int .i64 t424, .string t425, .string t426, .int .i64 t427, .bool t428] 25 (0, 0)) (by (with_reducible repeat (first | refine blk_drewN ?_ _ | refine blk_drew ?_ | refine blk_alloc ?_ _)); refine blk_put (cs := #[.int .i64 t423, .int .i64 t424, .string t425, .string t426, .int .i64 t427, .bool false]) ?_ 5 _ rfl; (with_reducible repeat (first | refine blk_drewN ?_ _ | refine blk_drew ?_ | refine blk_alloc ?_ _)); refine blk_put (cs := #[.int .i64 t423, .int .i64 t424, .string t425, .string t426, .int .i64 0, .bool false]) ?_ 4 _ rfl; (with_reducible repeat (first | refine blk_drewN ?_ _ | refine blk_drew ?_ | refine blk_alloc ?_ _)); refine blk_put (cs := #[.int .i64 t423, .int .i64 t424, .string t425, .string (⟨#[]⟩ : ByteArray), .int .i64 0, .bool false]) ?_ 3 _ rfl; (with_reducible repeat (first | refine blk_drewN ?_ _ | refine blk_drew ?_ | refine blk_alloc ?_ _)); refine blk_put (cs := #[.int .i64 t423, .int .i64 t424, .string (⟨#[]⟩ : ByteArray), .string (⟨#[]⟩ : ByteArray), .int .i64 0, .bool false]) ?_ 2 _ rfl; (with_reducible repeat (first | refine blk_drewN ?_ _ | refine blk_drew ?_ | refine blk_alloc ?_ _)); refine blk_put (cs := #[.int .i64 t423, .int .i64 0, .string (⟨#[]⟩ : ByteArray), .string (⟨#[]⟩ : ByteArray), .int .i64 0, .bool false]) ?_ 1 _ rfl; (with_reducible repeat (first | refine blk_drewN ?_ _ | refine blk_drew ?_ | refine blk_alloc ?_ _)); refine blk_put (cs := #[.int .i64 0, .int .i64 0, .string (⟨#[]⟩ : ByteArray), .string (⟨#[]⟩ : ByteArray), .int .i64 0, .bool false]) ?_ 0 _ rfl; (with_reducible repeat (first | refine blk_drewN ?_ _ | refine blk_drew ?_ | refine blk_alloc ?_ _)); exact BK430.out)) : gb430 ≠ gb431)); have NB431_430 := Aside0.mk ((by rw [hg]; exact Nat.ne_of_gt (blk_lt (g := gb430) (o := .cells #[.int .i64 t423, .int .i64 t424, .string t425, .string t426, .int .i64 t427, .bool t428] 25 (0, 0)) (by (with_reducible repeat (first | refine blk_drewN ?_ _ | refine blk_drew ?_ | refine blk_alloc ?_ _)); refine blk_put (cs := #[.int .i64 t423, .int .i64 t424, .string t425, .string t426, .int .i64 t427, .bool false]) ?_ 5 _ rfl; (with_reducible repeat (first | refine blk_drewN ?_ _ | refine blk_drew ?_ | refine blk_alloc ?_ _)); refine blk_put (cs := #[.int .i64 t423, .int .i64 t424, .string t425, .string t426, .int .i64 0, .bool false]) ?_ 4 _ rfl; (with_reducible repeat (first | refine blk_drewN ?_ _ | refine blk_drew ?_ | refine blk_alloc ?_ _)); refine blk_put (cs := #[.int .i64 t423, .int .i64 t424, .string t425, .string (⟨#[]⟩ : ByteArray), .int .i64 0, .bool false]) ?_ 3 _ rfl; (with_reducible repeat (first | refine blk_drewN ?_ _ | refine blk_drew ?_ | refine blk_alloc ?_ _)); refine blk_put (cs := #[.int .i64 t423, .int .i64 t424, .string (⟨#[]⟩ : ByteArray), .string (⟨#[]⟩ : ByteArray), .int .i64 0, .bool false]) ?_ 2 _ rfl; (with_reducible repeat (first | refine blk_drewN ?_ _ | refine blk_drew ?_ | refine blk_alloc ?_ _)); refine blk_put (cs := #[.int .i64 t423, .int .i64 0, .string (⟨#[]⟩ : ByteArray), .string (⟨#[]⟩ : ByteArray), .int .i64 0, .bool false]) ?_ 1 _ rfl; (with_reducible repeat (first | refine blk_drewN ?_ _ | refine blk_drew ?_ | refine blk_alloc ?_ _)); refine blk_put (cs := #[.int .i64 0, .int .i64 0, .string (⟨#[]⟩ : ByteArray), .string (⟨#[]⟩ : ByteArray), .int .i64 0, .bool false]) ?_ 0 _ rfl; (with_reducible repeat (first | refine blk_drewN ?_ _ | refine blk_drew ?_ | refine blk_alloc ?_ _)); exact BK430.out)) : gb431 ≠ gb430)); replace BK430 := Aside0.mk (blk_below (g := gb430) (o := .cells #[.int .i64 t423, .int .i64 t424, .string t425, .string t426, .int .i64 t427, .bool t428] 25 (0, 0)) (by (with_reducible repeat (first | refine blk_drewN ?_ _ | refine blk_drew ?_ | refine blk_alloc ?_ _)); refine blk_put (cs := #[.int .i64 t423, .int .i64 t424, .string t425, .string t426, .int .i64 t427, .bool false]) ?_ 5 _ rfl; (with_reducible repeat (first | refine blk_drewN ?_ _ | refine blk_drew ?_ | refine blk_alloc ?_ _)); refine blk_put (cs := #[.int .i64 t423, .int .i64 t424, .string t425, .string t426, .int .i64 0, .bool false]) ?_ 4 _ rfl; (with_reducible repeat (first | refine blk_drewN ?_ _ | refine blk_drew ?_ | refine blk_alloc ?_ _)); refine blk_put (cs := #[.int .i64 t423, .int .i64 t424, .string t425, .string (⟨#[]⟩ : ByteArray), .int .i64 0, .bool false]) ?_ 3 _ rfl; (with_reducible repeat (first | refine blk_drewN ?_ _ | refine blk_drew ?_ | refine blk_alloc ?_ _)); refine blk_put (cs := #[.int .i64 t423, .int .i64 t424, .string (⟨#[]⟩ : ByteArray), .string (⟨#[]⟩ : ByteArray), .int .i64 0, .bool false]) ?_ 2 _ rfl; (with_reducible repeat (first | refine blk_drewN ?_ _ | refine blk_drew ?_ | refine blk_alloc ?_ _)); refine blk_put (cs := #[.int .i64 t423, .int .i64 0, .string (⟨#[]⟩ : ByteArray), .string (⟨#[]⟩ : ByteArray), .int .i64 0, .bool false]) ?_ 1 _ rfl; (with_reducible repeat (first | refine blk_drewN ?_ _ | refine blk_drew ?_ | refine blk_alloc ?_ _)); refine blk_put (cs := #[.int .i64 0, .int .i64 0, .string (⟨#[]⟩ : ByteArray), .string (⟨#[]⟩ : ByteArray), .int .i64 0, .bool false]) ?_ 0 _ rfl; (with_reducible repeat (first | refine blk_drewN ?_ _ | refine blk_drew ?_ | refine blk_alloc ?_ _)); exact BK430.out) hb); clear hb hbox hg) | ((with_reducible refine gate_dst (N := 12) rfl ?_); refine box_event ?hg (N := 12) ?hd (cs := #[.int .i64 0, .int .i64 0, .string (⟨#[]⟩ : ByteArray), .string (⟨#[]⟩ : ByteArray), .int .i64 0, .bool false]) (t := 25) ?hr ?_; (case hd => rfl); (case hg => rfl); (case hr => first | (go_simp; done) | (go_simp; rfl)); intro gb432 hg w46 hbox hb; have BK432 := Aside0.mk (hbox); have GW432 := Aside0.mk ((by rw [hg]; exact (below_size bo) : w.heap.size ≤ gb432)); have GE432 := Aside0.mk ((by rw [hg]; exact (below_size bo) : w.heap.size ≤ gb432)); replace HB := Aside0.mk (below_step bo hb); have NB409_432 := Aside0.mk ((by rw [hg]; exact Nat.ne_of_lt (blk_lt (g := gb409) (o := .cells #[.int .i64 a0_0, .slice A0_1 l0_1.length c0_1, .slice A0_2 l0_2.length c0_2, .slice (some ad413) l0_3.length c0_3, .string a0_4] 55 (0, 0)) (bk BK409.out)) : gb409 ≠ gb432)); have NB432_409 := Aside0.mk ((by rw [hg]; exact Nat.ne_of_gt (blk_lt (g := gb409) (o := .cells #[.int .i64 a0_0, .slice A0_1 l0_1.length c0_1, .slice A0_2 l0_2.length c0_2, .slice (some ad413) l0_3.length c0_3, .string a0_4] 55 (0, 0)) (bk BK409.out)) : gb432 ≠ gb409)); replace BK409 := Aside0.mk (blk_below (g := gb409) (o := .cells #[.int .i64 a0_0, .slice A0_1 l0_1.length c0_1, .slice A0_2 l0_2.length c0_2, .slice (some ad413) l0_3.length c0_3, .string a0_4] 55 (0, 0)) (bk BK409.out) hb); have NB421_432 := Aside0.mk ((by rw [hg]; exact Nat.ne_of_lt (blk_lt (g := gb421) (o := .cells #[.int .i64 t414, .int .i64 t415, .string t416, .string t417, .int .i64 t418, .bool t419] 25 (0, 0)) (bk BK421.out)) : gb421 ≠ gb432)); have NB432_421 := Aside0.mk ((by rw [hg]; exact Nat.ne_of_gt (blk_lt (g := gb421) (o := .cells #[.int .i64 t414, .int .i64 t415, .string t416, .string t417, .int .i64 t418, .bool t419] 25 (0, 0)) (bk BK421.out)) : gb432 ≠ gb421)); replace BK421 := Aside0.mk (blk_below (g := gb421) (o := .cells #[.int .i64 t414, .int .i64 t415, .string t416, .string t417, .int .i64 t418, .bool t419] 25 (0, 0)) (bk BK421.out) hb); have NB430_432 := Aside0.mk ((by rw [hg]; exact Nat.ne_of_lt (blk_lt (g := gb430) (o := .cells #[.int .i64 t423, .int .i64 t424, .string t425, .string t426, .int .i64 t427, .bool t428] 25 (0, 0)) (bk BK430.out)) : gb430 ≠ gb432)); have NB432_430 := Aside0.mk ((by rw [hg]; exact Nat.ne_of_gt (blk_lt (g := gb430) (o := .cells #[.int .i64 t423, .int .i64 t424, .string t425, .string t426, .int .i64 t427, .bool t428] 25 (0, 0)) (bk BK430.out)) : gb432 ≠ gb430)); replace BK430 := Aside0.mk (blk_below (g := gb430) (o := .cells #[.int .i64 t423, .int .i64 t424, .string t425, .string t426, .int .i64 t427, .bool t428] 25 (0, 0)) (bk BK430.out) hb); have NB431_432 := Aside0.mk ((by rw [hg]; exact Nat.ne_of_lt (blk_lt (g := gb431) (o := .cells #[.int .i64 0, .int .i64 0, .string (⟨#[]⟩ : ByteArray), .string (⟨#[]⟩ : ByteArray), .int .i64 0, .bool false] 25 (0, 0)) (bk BK431.out)) : gb431 ≠ gb432)); have NB432_431 := Aside0.mk ((by rw [hg]; exact Nat.ne_of_gt (blk_lt (g := gb431) (o := .cells #[.int .i64 0, .int .i64 0, .string (⟨#[]⟩ : ByteArray), .string (⟨#[]⟩ : ByteArray), .int .i64 0, .bool false] 25 (0, 0)) (bk BK431.out)) : gb432 ≠ gb431)); replace BK431 := Aside0.mk (blk_below (g := gb431) (o := .cells #[.int .i64 0, .int .i64 0, .string (⟨#[]⟩ : ByteArray), .string (⟨#[]⟩ : ByteArray), .int .i64 0, .bool false] 25 (0, 0)) (bk BK431.out) hb); clear hb hbox hg))
           (try simp only [Act.put, List.setIfInBounds_toArray, List.set_cons_zero, List.set_cons_succ])
           go_cut [9, 10] (fun v9 v10 wc => ∃ (kq : Nat) (x9_22 : Int) (x10_22 : Int) (x432000_22 : Int) (x432001_22 : Int) (x432002_22 : ByteArray) (x432003_22 : ByteArray) (x432004_22 : Int) (x432005_22 : Bool) (x433000_22 : Int) (x433001_22 : Int) (x433002_22 : ByteArray) (x433003_22 : ByteArray) (x433004_22 : Int) (x433005_22 : Bool), v9 = .int .i64 x9_22 ∧ v10 = .int .i64 x10_22 ∧ Aside0 (fairwaylaw11_SegFinds.j5 kq t411 x4_2 t420 t429 x9_22 x10_22 a0_0 l0_1 l0_2 l0_3 a0_4 t414 t415 t416 t417 t418 t419 t423 t424 t425 t426 t427 t428 x432000_22 x432001_22 x432002_22 x432003_22 x432004_22 x432005_22 x433000_22 x433001_22 x433002_22 x433003_22 x433004_22 x433005_22 = some r) ∧ Aside0 (kq ≤ kj14) ∧ Aside0 (wc.heap[gb409]? = some (.cells #[.int .i64 a0_0, (.slice A0_1 l0_1.length c0_1), (.slice A0_2 l0_2.length c0_2), (.slice (some ad413) l0_3.length c0_3), .string a0_4] 55 (0, 0))) ∧ Aside0 (wc.heap[gb421]? = some (.cells #[.int .i64 t414, .int .i64 t415, .string t416, .string t417, .int .i64 t418, .bool t419] 25 (0, 0))) ∧ Aside0 (wc.heap[gb430]? = some (.cells #[.int .i64 t423, .int .i64 t424, .string t425, .string t426, .int .i64 t427, .bool t428] 25 (0, 0))) ∧ Aside0 (wc.heap[gb431]? = some (.cells #[.int .i64 x432000_22, .int .i64 x432001_22, .string x432002_22, .string x432003_22, .int .i64 x432004_22, .bool x432005_22] 25 (0, 0))) ∧ Aside0 (wc.heap[gb432]? = some (.cells #[.int .i64 x433000_22, .int .i64 x433001_22, .string x433002_22, .string x433003_22, .int .i64 x433004_22, .bool x433005_22] 25 (0, 0))) ∧ Aside0 (Below w.heap.size w wc))
           case first =>
            have H := HC23.out
            clear HC23
            by_cases c47 : t411 = true
            ·subst c47
             have H1 : ((fairwayref10_Find.f kj14 l0_1 (rd l0_3 x4_2)).bind fun t434 => (if t434 ≥ 0 then (if 0 ≤ t434 then (if t434 < (l0_1.length : Int) then (fairwaylaw11_SegFinds.j4 kj14 true x4_2 t420 t429 0 3 a0_0 l0_1 l0_2 l0_3 a0_4 t414 t415 t416 t417 t418 t419 t423 t424 t425 t426 t427 t428 ((rd_T25 l0_1 t434).f0) ((rd_T25 l0_1 t434).f1) ((rd_T25 l0_1 t434).f2) ((rd_T25 l0_1 t434).f3) ((rd_T25 l0_1 t434).f4) ((rd_T25 l0_1 t434).f5) 0 0 (⟨#[]⟩ : ByteArray) (⟨#[]⟩ : ByteArray) 0 false) else (none)) else (none)) else (fairwaylaw11_SegFinds.j4 kj14 true x4_2 t420 t429 3 3 a0_0 l0_1 l0_2 l0_3 a0_4 t414 t415 t416 t417 t418 t419 t423 t424 t425 t426 t427 t428 0 0 (⟨#[]⟩ : ByteArray) (⟨#[]⟩ : ByteArray) 0 false 0 0 (⟨#[]⟩ : ByteArray) (⟨#[]⟩ : ByteArray) 0 false))) = some r := by rw [if_pos rfl] at H; exact H
             clear H
             have H := H1
             clear H1
             replace H := Option.bind_eq_some_iff.mp H
             obtain ⟨t434, A480, H⟩ := H
             replace H : (if t434 ≥ 0 then (if 0 ≤ t434 then (if t434 < (l0_1.length : Int) then (fairwaylaw11_SegFinds.j4 kj14 true x4_2 t420 t429 0 3 a0_0 l0_1 l0_2 l0_3 a0_4 t414 t415 t416 t417 t418 t419 t423 t424 t425 t426 t427 t428 ((rd_T25 l0_1 t434).f0) ((rd_T25 l0_1 t434).f1) ((rd_T25 l0_1 t434).f2) ((rd_T25 l0_1 t434).f3) ((rd_T25 l0_1 t434).f4) ((rd_T25 l0_1 t434).f5) 0 0 (⟨#[]⟩ : ByteArray) (⟨#[]⟩ : ByteArray) 0 false) else (none)) else (none)) else (fairwaylaw11_SegFinds.j4 kj14 true x4_2 t420 t429 3 3 a0_0 l0_1 l0_2 l0_3 a0_4 t414 t415 t416 t417 t418 t419 t423 t424 t425 t426 t427 t428 0 0 (⟨#[]⟩ : ByteArray) (⟨#[]⟩ : ByteArray) 0 false 0 0 (⟨#[]⟩ : ByteArray) (⟨#[]⟩ : ByteArray) 0 false)) = some r := H
             have A48 := Aside0.mk A480
             clear A480
             have HC49 := Aside0.mk H
             clear H
             try go_wp2
             replace BK409 := Aside0.mk (blk_drew BK409.out)
             replace BK421 := Aside0.mk (blk_drew BK421.out)
             replace BK430 := Aside0.mk (blk_drew BK430.out)
             replace BK431 := Aside0.mk (blk_drew BK431.out)
             replace BK432 := Aside0.mk (blk_drew BK432.out)
             replace HB := Aside0.mk (below_drew1 HB.out)
             have p433 : 0 ≤ (x4_2 : Int) := od
             have q433 : x4_2 < (l0_3.length : Int) := od
             obtain ⟨ad433, e433, hx433_0⟩ := Kd.at_int HR0_3.out x4_2 p433 q433
             have hw433_0 := hx433_0
             obtain rfl : ad413 = ad433 := (by injection e433)
             replace hx433_0 := cx HB.out hx433_0
             replace p433 := eq_true p433
             replace q433 := eq_true q433
             refine start_ (n := 10) (S := fun w' => w'.cell? ⟨gb409, 0, none⟩ = some (.int .i64 a0_0) ∧ w'.cell? ⟨gb409, 1, none⟩ = some (.slice A0_1 l0_1.length c0_1) ∧ w'.cell? ⟨gb409, 2, none⟩ = some (.slice A0_2 l0_2.length c0_2) ∧ w'.cell? ⟨gb409, 3, none⟩ = some (.slice (some ad413) l0_3.length c0_3) ∧ w'.cell? ⟨gb409, 4, none⟩ = some (.string a0_4) ∧ w'.cell? (ad413.add (x4_2).toNat) = some (.int .i64 (rd l0_3 x4_2))) (ds := []) #[O,O,O,O,O,O,O,O,O,O] (by kernel_rfl) rfl rfl ⟨(blk_cell BK409.out 0).trans rfl, (blk_cell BK409.out 1).trans rfl, (blk_cell BK409.out 2).trans rfl, (blk_cell BK409.out 3).trans rfl, (blk_cell BK409.out 4).trans rfl, ((HB.out.cell (World.block_lt_of_cell? w _ hw433_0)).trans hw433_0)⟩ (fun hHeld => ?_); refine with_tabW fairwaylaw11_SegFinds.tab13 fairwaylaw11_SegFinds.bits13 (fun HT_ HW_ => ?_)
             generalize w46.drew = w50 at BK409 BK421 BK430 BK431 BK432 HB hx433_0 hHeld ⊢
             refine pz (i := 0) (N := some 53) #[I,O,O,O,O,O,O,O,O,O] ?_
             refine pz (i := 1) (N := some 54) #[I,I,O,O,O,O,O,O,O,O] ?_
             refine pz (i := 3) (N := some 56) #[I,I,O,I,O,O,O,O,O,O] ?_
             refine pz (i := 5) (N := some 58) #[I,I,O,I,O,I,O,O,O,O] ?_
             refine tz (i := 2) (N := some 55) #[I,I,I,I,O,I,O,O,O,O] ?_
             refine tz (i := 4) (N := some 57) #[I,I,I,I,I,I,O,O,O,O] ?_
             refine pz (i := 6) (N := some 59) #[I,I,I,I,I,I,I,O,O,O] ?_
             refine tz (i := 7) (N := some 60) #[I,I,I,I,I,I,I,I,O,O] ?_
             refine one_ (i := 8) (N := some 61) #[I,I,I,I,I,I,I,I,I,O] rfl rfl (one_of HT_.out (by kernel_rfl)) (by decide) (fun K hK => ?_)
             refine goes_ Try.func34 (by kernel_rfl) rfl #[.slice A0_1 l0_1.length c0_1, .int .i64 (rd l0_3 x4_2)] (by rfl) rfl rfl aa ?_
             with_reducible refine (fairwayref10_Find.calls kj14 _ _ l0_1 (rd l0_3 x4_2) t434 _ ?side1 ?side2 A48.out).mono ?_
             (case side1 => repeat (first | exact (Kd.C_below HR0_1.out HB.out) | (with_reducible refine Kd.C_alloc ?_ _) | (with_reducible refine Kd.C_drewN ?_ _) | (with_reducible refine Kd.C_drew ?_)))
             (case side2 => exact HC0_1.out)
             rintro e w' ⟨rfl, ⟨nd, rfl⟩⟩
             refine ⟨_, rfl, ?_⟩
             refine hK.out _ _ ⟨(blk_cell BK409.out 0).trans rfl, (blk_cell BK409.out 1).trans rfl, (blk_cell BK409.out 2).trans rfl, (blk_cell BK409.out 3).trans rfl, (blk_cell BK409.out 4).trans rfl, ((HB.out.cell (World.block_lt_of_cell? w _ hw433_0)).trans hw433_0)⟩ (fun hHeld => ?_)
             clear hK K
             refine norm_ (a' := ?_) ?_ ?_
             rotate_left
             ·show Act.put _ (some 61) _ = _
              simp only [Act.put, List.setIfInBounds_toArray, List.set_cons_zero, List.set_cons_succ, i64_w, i32_w]
              rfl
             refine pz (i := 9) (N := some 13) #[I,I,I,I,I,I,I,I,I,I] ?_
             refine done_ (done_of HT_.out (by kernel_rfl)) ?_
             go_upto_if 63 with (fail)
             go_cut [9] (fun v9 wc => ∃ (kq : Nat) (x9_48 : Int) (x432000_48 : Int) (x432001_48 : Int) (x432002_48 : ByteArray) (x432003_48 : ByteArray) (x432004_48 : Int) (x432005_48 : Bool), v9 = .int .i64 x9_48 ∧ Aside0 (fairwaylaw11_SegFinds.j4 kq true x4_2 t420 t429 x9_48 3 a0_0 l0_1 l0_2 l0_3 a0_4 t414 t415 t416 t417 t418 t419 t423 t424 t425 t426 t427 t428 x432000_48 x432001_48 x432002_48 x432003_48 x432004_48 x432005_48 0 0 (⟨#[]⟩ : ByteArray) (⟨#[]⟩ : ByteArray) 0 false = some r) ∧ Aside0 (kq ≤ kj14) ∧ Aside0 (wc.heap[gb409]? = some (.cells #[.int .i64 a0_0, (.slice A0_1 l0_1.length c0_1), (.slice A0_2 l0_2.length c0_2), (.slice (some ad413) l0_3.length c0_3), .string a0_4] 55 (0, 0))) ∧ Aside0 (wc.heap[gb421]? = some (.cells #[.int .i64 t414, .int .i64 t415, .string t416, .string t417, .int .i64 t418, .bool t419] 25 (0, 0))) ∧ Aside0 (wc.heap[gb430]? = some (.cells #[.int .i64 t423, .int .i64 t424, .string t425, .string t426, .int .i64 t427, .bool t428] 25 (0, 0))) ∧ Aside0 (wc.heap[gb431]? = some (.cells #[.int .i64 x432000_48, .int .i64 x432001_48, .string x432002_48, .string x432003_48, .int .i64 x432004_48, .bool x432005_48] 25 (0, 0))) ∧ Aside0 (wc.heap[gb432]? = some (.cells #[.int .i64 0, .int .i64 0, .string (⟨#[]⟩ : ByteArray), .string (⟨#[]⟩ : ByteArray), .int .i64 0, .bool false] 25 (0, 0))) ∧ Aside0 (Below w.heap.size w wc))
             case first =>
              have H := HC49.out
              clear HC49
              by_cases c51 : t434 ≥ 0
              ·rw [if_pos c51] at H
               have c51b0 : decide (0 ≤ t434) = true := decide_eq_true c51
               clear c51
               (first | rw [c51b0] | (simp only [i64_w, i32_w]; rw [c51b0]) | skip)
               by_cases c52 : 0 ≤ t434
               ·rw [if_pos c52] at H
                have c52b0 : decide (0 ≤ t434) = true := decide_eq_true c52
                clear c52
                by_cases c53 : t434 < (l0_1.length : Int)
                ·rw [if_pos c53] at H
                 have c53b0 : decide (t434 < (l0_1.length : Int)) = true := decide_eq_true c53
                 clear c53
                 have H' := Aside0.mk H
                 clear H
                 try go_wp2
                 (try (rw [drewN_self w50]; generalize hq_ : World.drewN w50 _ = w50; have n0_ : Aside0 (w50.heap[gb409]? = some (.cells #[.int .i64 a0_0, .slice A0_1 l0_1.length c0_1, .slice A0_2 l0_2.length c0_2, .slice (some ad413) l0_3.length c0_3, .string a0_4] 55 (0, 0))) := ⟨by rw [← hq_]; exact (bk BK409.out)⟩; have n1_ : Aside0 (w50.heap[gb421]? = some (.cells #[.int .i64 t414, .int .i64 t415, .string t416, .string t417, .int .i64 t418, .bool t419] 25 (0, 0))) := ⟨by rw [← hq_]; exact (bk BK421.out)⟩; have n2_ : Aside0 (w50.heap[gb430]? = some (.cells #[.int .i64 t423, .int .i64 t424, .string t425, .string t426, .int .i64 t427, .bool t428] 25 (0, 0))) := ⟨by rw [← hq_]; exact (bk BK430.out)⟩; have n3_ : Aside0 (w50.heap[gb431]? = some (.cells #[.int .i64 0, .int .i64 0, .string (⟨#[]⟩ : ByteArray), .string (⟨#[]⟩ : ByteArray), .int .i64 0, .bool false] 25 (0, 0))) := ⟨by rw [← hq_]; exact (bk BK431.out)⟩; have n4_ : Aside0 (w50.heap[gb432]? = some (.cells #[.int .i64 0, .int .i64 0, .string (⟨#[]⟩ : ByteArray), .string (⟨#[]⟩ : ByteArray), .int .i64 0, .bool false] 25 (0, 0))) := ⟨by rw [← hq_]; exact (bk BK432.out)⟩; have n5_ : Aside0 (Below w.heap.size w w50) := ⟨by rw [← hq_]; exact bo⟩; clear BK409 BK421 BK430 BK431 BK432 HB hq_; have BK409 := n0_; have BK421 := n1_; have BK430 := n2_; have BK431 := n3_; have BK432 := n4_; have HB := n5_; clear n0_ n1_ n2_ n3_ n4_ n5_))
                 replace BK409 := Aside0.mk (blk_drew BK409.out)
                 replace BK421 := Aside0.mk (blk_drew BK421.out)
                 replace BK430 := Aside0.mk (blk_drew BK430.out)
                 replace BK431 := Aside0.mk (blk_drew BK431.out)
                 replace BK432 := Aside0.mk (blk_drew BK432.out)
                 replace HB := Aside0.mk (below_drew1 HB.out)
                 have p435 : 0 ≤ (t434 : Int) := od
                 have q435 : t434 < (l0_1.length : Int) := od
                 obtain ⟨ad435, e435, hx435_0, hx435_1, hx435_2, hx435_3, hx435_4, hx435_5⟩ := at_T25 HR0_1.out t434 p435 q435
                 have hw435_5 := hx435_5
                 have hw435_4 := hx435_4
                 have hw435_3 := hx435_3
                 have hw435_2 := hx435_2
                 have hw435_1 := hx435_1
                 have hw435_0 := hx435_0
                 cases e435
                 replace hx435_0 := cx HB.out hx435_0
                 replace hx435_1 := cx HB.out hx435_1
                 replace hx435_2 := cx HB.out hx435_2
                 replace hx435_3 := cx HB.out hx435_3
                 replace hx435_4 := cx HB.out hx435_4
                 replace hx435_5 := cx HB.out hx435_5
                 replace p435 := eq_true p435
                 replace q435 := eq_true q435
                 refine start_ (n := 8) (S := fun w' => w'.cell? ⟨gb409, 0, none⟩ = some (.int .i64 a0_0) ∧ w'.cell? ⟨gb409, 1, none⟩ = some (.slice (some ad435) l0_1.length c0_1) ∧ w'.cell? ⟨gb409, 2, none⟩ = some (.slice A0_2 l0_2.length c0_2) ∧ w'.cell? ⟨gb409, 3, none⟩ = some (.slice (some ad413) l0_3.length c0_3) ∧ w'.cell? ⟨gb409, 4, none⟩ = some (.string a0_4) ∧ w'.cell? (ad435.add ((t434).toNat * 6)) = some (.int .i64 ((rd_T25 l0_1 t434).f0)) ∧ w'.cell? ⟨(ad435.add ((t434).toNat * 6)).block, (ad435.add ((t434).toNat * 6)).off + 1, none⟩ = some (.int .i64 ((rd_T25 l0_1 t434).f1)) ∧ w'.cell? ⟨(ad435.add ((t434).toNat * 6)).block, (ad435.add ((t434).toNat * 6)).off + 2, none⟩ = some (.string ((rd_T25 l0_1 t434).f2)) ∧ w'.cell? ⟨(ad435.add ((t434).toNat * 6)).block, (ad435.add ((t434).toNat * 6)).off + 3, none⟩ = some (.string ((rd_T25 l0_1 t434).f3)) ∧ w'.cell? ⟨(ad435.add ((t434).toNat * 6)).block, (ad435.add ((t434).toNat * 6)).off + 4, none⟩ = some (.int .i64 ((rd_T25 l0_1 t434).f4)) ∧ w'.cell? ⟨(ad435.add ((t434).toNat * 6)).block, (ad435.add ((t434).toNat * 6)).off + 5, none⟩ = some (.bool ((rd_T25 l0_1 t434).f5))) (ds := []) #[O,O,O,O,O,O,O,O] (by kernel_rfl) rfl rfl ⟨(blk_cell BK409.out 0).trans rfl, (blk_cell BK409.out 1).trans rfl, (blk_cell BK409.out 2).trans rfl, (blk_cell BK409.out 3).trans rfl, (blk_cell BK409.out 4).trans rfl, ((HB.out.cell (World.block_lt_of_cell? w _ hw435_0)).trans hw435_0), ((HB.out.cell (World.block_lt_of_cell? w _ hw435_1)).trans hw435_1), ((HB.out.cell (World.block_lt_of_cell? w _ hw435_2)).trans hw435_2), ((HB.out.cell (World.block_lt_of_cell? w _ hw435_3)).trans hw435_3), ((HB.out.cell (World.block_lt_of_cell? w _ hw435_4)).trans hw435_4), ((HB.out.cell (World.block_lt_of_cell? w _ hw435_5)).trans hw435_5)⟩ (fun hHeld => ?_); refine with_tabW fairwaylaw11_SegFinds.tab15 fairwaylaw11_SegFinds.bits15 (fun HT_ HW_ => ?_)
                 generalize w50.drew = w54 at BK409 BK421 BK430 BK431 BK432 HB hx435_0 hx435_1 hx435_2 hx435_3 hx435_4 hx435_5 hHeld ⊢
                 refine pz (i := 0) (N := some 64) #[I,O,O,O,O,O,O,O] ?_
                 refine pz (i := 1) (N := some 65) #[I,I,O,O,O,O,O,O] ?_
                 refine pz (i := 3) (N := some 67) #[I,I,O,I,O,O,O,O] ?_
                 refine pz (i := 6) (N := some 9) #[I,I,O,I,O,O,I,O] ?_
                 refine tz (i := 2) (N := some 66) #[I,I,I,I,O,O,I,O] ?_
                 refine pz (i := 4) (N := some 68) #[I,I,I,I,I,O,I,O] ?_
                 refine tz (i := 5) (N := some 69) #[I,I,I,I,I,I,I,O] ?_
                 refine one_ (i := 7) (N := none) #[I,I,I,I,I,I,I,I] rfl rfl (one_of HT_.out (by kernel_rfl)) (by decide) (fun K hK => ?_)
                 have hs55 : w54.cell? ⟨gb431, 0, none⟩ = some (.int .i64 0) := (blk_cell BK431.out 0).trans rfl
                 have hfs55 := blk_frozen BK431.out 0
                 have hns55_0 := NB409_431.out
                 have hns55_1 := NB421_431.out
                 have hns55_2 := NB430_431.out
                 have hns55_4 := NB432_431.out
                 have hms55_0 := NB431_409.out
                 have hms55_1 := NB431_421.out
                 have hms55_2 := NB431_430.out
                 have hms55_4 := NB431_432.out
                 have hs56 : w54.cell? ⟨gb431, 1, none⟩ = some (.int .i64 0) := (blk_cell BK431.out 1).trans rfl
                 have hfs56 := blk_frozen BK431.out 1
                 have hns56_0 := NB409_431.out
                 have hns56_1 := NB421_431.out
                 have hns56_2 := NB430_431.out
                 have hns56_4 := NB432_431.out
                 have hms56_0 := NB431_409.out
                 have hms56_1 := NB431_421.out
                 have hms56_2 := NB431_430.out
                 have hms56_4 := NB431_432.out
                 have hs57 : w54.cell? ⟨gb431, 2, none⟩ = some (.string (⟨#[]⟩ : ByteArray)) := (blk_cell BK431.out 2).trans rfl
                 have hfs57 := blk_frozen BK431.out 2
                 have hns57_0 := NB409_431.out
                 have hns57_1 := NB421_431.out
                 have hns57_2 := NB430_431.out
                 have hns57_4 := NB432_431.out
                 have hms57_0 := NB431_409.out
                 have hms57_1 := NB431_421.out
                 have hms57_2 := NB431_430.out
                 have hms57_4 := NB431_432.out
                 have hs58 : w54.cell? ⟨gb431, 3, none⟩ = some (.string (⟨#[]⟩ : ByteArray)) := (blk_cell BK431.out 3).trans rfl
                 have hfs58 := blk_frozen BK431.out 3
                 have hns58_0 := NB409_431.out
                 have hns58_1 := NB421_431.out
                 have hns58_2 := NB430_431.out
                 have hns58_4 := NB432_431.out
                 have hms58_0 := NB431_409.out
                 have hms58_1 := NB431_421.out
                 have hms58_2 := NB431_430.out
                 have hms58_4 := NB431_432.out
                 have hs59 : w54.cell? ⟨gb431, 4, none⟩ = some (.int .i64 0) := (blk_cell BK431.out 4).trans rfl
                 have hfs59 := blk_frozen BK431.out 4
                 have hns59_0 := NB409_431.out
                 have hns59_1 := NB421_431.out
                 have hns59_2 := NB430_431.out
                 have hns59_4 := NB432_431.out
                 have hms59_0 := NB431_409.out
                 have hms59_1 := NB431_421.out
                 have hms59_2 := NB431_430.out
                 have hms59_4 := NB431_432.out
                 have hs60 : w54.cell? ⟨gb431, 5, none⟩ = some (.bool false) := (blk_cell BK431.out 5).trans rfl
                 have hfs60 := blk_frozen BK431.out 5
                 have hns60_0 := NB409_431.out
                 have hns60_1 := NB421_431.out
                 have hns60_2 := NB430_431.out
                 have hns60_4 := NB432_431.out
                 have hms60_0 := NB431_409.out
                 have hms60_1 := NB431_421.out
                 have hms60_2 := NB431_430.out
                 have hms60_4 := NB431_432.out
                 refine skip_ (w1 := ?_) (by rfl) rfl ?_ ?_
                 rotate_left
                 ·go_simp
                  rfl
                 refine hK.out _ _ ⟨((cell_far (p := ⟨gb431, _, none⟩) NB409_431.out _).trans (((cell_far (p := ⟨gb431, _, none⟩) NB409_431.out _).trans (((cell_far (p := ⟨gb431, _, none⟩) NB409_431.out _).trans (((cell_far (p := ⟨gb431, _, none⟩) NB409_431.out _).trans (((cell_far (p := ⟨gb431, _, none⟩) NB409_431.out _).trans (((cell_far (p := ⟨gb431, _, none⟩) NB409_431.out _).trans (hHeld.1)))))))))))), ((cell_far (p := ⟨gb431, _, none⟩) NB409_431.out _).trans (((cell_far (p := ⟨gb431, _, none⟩) NB409_431.out _).trans (((cell_far (p := ⟨gb431, _, none⟩) NB409_431.out _).trans (((cell_far (p := ⟨gb431, _, none⟩) NB409_431.out _).trans (((cell_far (p := ⟨gb431, _, none⟩) NB409_431.out _).trans (((cell_far (p := ⟨gb431, _, none⟩) NB409_431.out _).trans (hHeld.2.1)))))))))))), ((cell_far (p := ⟨gb431, _, none⟩) NB409_431.out _).trans (((cell_far (p := ⟨gb431, _, none⟩) NB409_431.out _).trans (((cell_far (p := ⟨gb431, _, none⟩) NB409_431.out _).trans (((cell_far (p := ⟨gb431, _, none⟩) NB409_431.out _).trans (((cell_far (p := ⟨gb431, _, none⟩) NB409_431.out _).trans (((cell_far (p := ⟨gb431, _, none⟩) NB409_431.out _).trans (hHeld.2.2.1)))))))))))), ((cell_far (p := ⟨gb431, _, none⟩) NB409_431.out _).trans (((cell_far (p := ⟨gb431, _, none⟩) NB409_431.out _).trans (((cell_far (p := ⟨gb431, _, none⟩) NB409_431.out _).trans (((cell_far (p := ⟨gb431, _, none⟩) NB409_431.out _).trans (((cell_far (p := ⟨gb431, _, none⟩) NB409_431.out _).trans (((cell_far (p := ⟨gb431, _, none⟩) NB409_431.out _).trans (hHeld.2.2.2.1)))))))))))), ((cell_far (p := ⟨gb431, _, none⟩) NB409_431.out _).trans (((cell_far (p := ⟨gb431, _, none⟩) NB409_431.out _).trans (((cell_far (p := ⟨gb431, _, none⟩) NB409_431.out _).trans (((cell_far (p := ⟨gb431, _, none⟩) NB409_431.out _).trans (((cell_far (p := ⟨gb431, _, none⟩) NB409_431.out _).trans (((cell_far (p := ⟨gb431, _, none⟩) NB409_431.out _).trans (hHeld.2.2.2.2.1)))))))))))), ((cell_far (p := ⟨gb431, _, none⟩) (by first | exact Nat.ne_of_lt (Nat.lt_of_lt_of_le (by have := World.block_lt_of_cell? _ _ hw435_0; first | rwa [add_block] at this | exact this) GW431.out) | (rw [add_block]; exact Nat.ne_of_lt (Nat.lt_of_lt_of_le (by have := World.block_lt_of_cell? _ _ hw435_0; first | rwa [add_block] at this | exact this) GW431.out)) | (show (Addr.add _ _).block ≠ _; rw [add_block]; exact Nat.ne_of_lt (Nat.lt_of_lt_of_le (by have := World.block_lt_of_cell? _ _ hw435_0; first | rwa [add_block] at this | exact this) GW431.out)) | (dsimp only; exact Nat.ne_of_lt (Nat.lt_of_lt_of_le (by have := World.block_lt_of_cell? _ _ hw435_0; first | rwa [add_block] at this | exact this) GW431.out))) _).trans (((cell_far (p := ⟨gb431, _, none⟩) (by first | exact Nat.ne_of_lt (Nat.lt_of_lt_of_le (by have := World.block_lt_of_cell? _ _ hw435_0; first | rwa [add_block] at this | exact this) GW431.out) | (rw [add_block]; exact Nat.ne_of_lt (Nat.lt_of_lt_of_le (by have := World.block_lt_of_cell? _ _ hw435_0; first | rwa [add_block] at this | exact this) GW431.out)) | (show (Addr.add _ _).block ≠ _; rw [add_block]; exact Nat.ne_of_lt (Nat.lt_of_lt_of_le (by have := World.block_lt_of_cell? _ _ hw435_0; first | rwa [add_block] at this | exact this) GW431.out)) | (dsimp only; exact Nat.ne_of_lt (Nat.lt_of_lt_of_le (by have := World.block_lt_of_cell? _ _ hw435_0; first | rwa [add_block] at this | exact this) GW431.out))) _).trans (((cell_far (p := ⟨gb431, _, none⟩) (by first | exact Nat.ne_of_lt (Nat.lt_of_lt_of_le (by have := World.block_lt_of_cell? _ _ hw435_0; first | rwa [add_block] at this | exact this) GW431.out) | (rw [add_block]; exact Nat.ne_of_lt (Nat.lt_of_lt_of_le (by have := World.block_lt_of_cell? _ _ hw435_0; first | rwa [add_block] at this | exact this) GW431.out)) | (show (Addr.add _ _).block ≠ _; rw [add_block]; exact Nat.ne_of_lt (Nat.lt_of_lt_of_le (by have := World.block_lt_of_cell? _ _ hw435_0; first | rwa [add_block] at this | exact this) GW431.out)) | (dsimp only; exact Nat.ne_of_lt (Nat.lt_of_lt_of_le (by have := World.block_lt_of_cell? _ _ hw435_0; first | rwa [add_block] at this | exact this) GW431.out))) _).trans (((cell_far (p := ⟨gb431, _, none⟩) (by first | exact Nat.ne_of_lt (Nat.lt_of_lt_of_le (by have := World.block_lt_of_cell? _ _ hw435_0; first | rwa [add_block] at this | exact this) GW431.out) | (rw [add_block]; exact Nat.ne_of_lt (Nat.lt_of_lt_of_le (by have := World.block_lt_of_cell? _ _ hw435_0; first | rwa [add_block] at this | exact this) GW431.out)) | (show (Addr.add _ _).block ≠ _; rw [add_block]; exact Nat.ne_of_lt (Nat.lt_of_lt_of_le (by have := World.block_lt_of_cell? _ _ hw435_0; first | rwa [add_block] at this | exact this) GW431.out)) | (dsimp only; exact Nat.ne_of_lt (Nat.lt_of_lt_of_le (by have := World.block_lt_of_cell? _ _ hw435_0; first | rwa [add_block] at this | exact this) GW431.out))) _).trans (((cell_far (p := ⟨gb431, _, none⟩) (by first | exact Nat.ne_of_lt (Nat.lt_of_lt_of_le (by have := World.block_lt_of_cell? _ _ hw435_0; first | rwa [add_block] at this | exact this) GW431.out) | (rw [add_block]; exact Nat.ne_of_lt (Nat.lt_of_lt_of_le (by have := World.block_lt_of_cell? _ _ hw435_0; first | rwa [add_block] at this | exact this) GW431.out)) | (show (Addr.add _ _).block ≠ _; rw [add_block]; exact Nat.ne_of_lt (Nat.lt_of_lt_of_le (by have := World.block_lt_of_cell? _ _ hw435_0; first | rwa [add_block] at this | exact this) GW431.out)) | (dsimp only; exact Nat.ne_of_lt (Nat.lt_of_lt_of_le (by have := World.block_lt_of_cell? _ _ hw435_0; first | rwa [add_block] at this | exact this) GW431.out))) _).trans (((cell_far (p := ⟨gb431, _, none⟩) (by first | exact Nat.ne_of_lt (Nat.lt_of_lt_of_le (by have := World.block_lt_of_cell? _ _ hw435_0; first | rwa [add_block] at this | exact this) GW431.out) | (rw [add_block]; exact Nat.ne_of_lt (Nat.lt_of_lt_of_le (by have := World.block_lt_of_cell? _ _ hw435_0; first | rwa [add_block] at this | exact this) GW431.out)) | (show (Addr.add _ _).block ≠ _; rw [add_block]; exact Nat.ne_of_lt (Nat.lt_of_lt_of_le (by have := World.block_lt_of_cell? _ _ hw435_0; first | rwa [add_block] at this | exact this) GW431.out)) | (dsimp only; exact Nat.ne_of_lt (Nat.lt_of_lt_of_le (by have := World.block_lt_of_cell? _ _ hw435_0; first | rwa [add_block] at this | exact this) GW431.out))) _).trans (hHeld.2.2.2.2.2.1)))))))))))), ((cell_far (p := ⟨gb431, _, none⟩) (by first | exact Nat.ne_of_lt (Nat.lt_of_lt_of_le (by have := World.block_lt_of_cell? _ _ hw435_1; first | rwa [add_block] at this | exact this) GW431.out) | (rw [add_block]; exact Nat.ne_of_lt (Nat.lt_of_lt_of_le (by have := World.block_lt_of_cell? _ _ hw435_1; first | rwa [add_block] at this | exact this) GW431.out)) | (show (Addr.add _ _).block ≠ _; rw [add_block]; exact Nat.ne_of_lt (Nat.lt_of_lt_of_le (by have := World.block_lt_of_cell? _ _ hw435_1; first | rwa [add_block] at this | exact this) GW431.out)) | (dsimp only; exact Nat.ne_of_lt (Nat.lt_of_lt_of_le (by have := World.block_lt_of_cell? _ _ hw435_1; first | rwa [add_block] at this | exact this) GW431.out))) _).trans (((cell_far (p := ⟨gb431, _, none⟩) (by first | exact Nat.ne_of_lt (Nat.lt_of_lt_of_le (by have := World.block_lt_of_cell? _ _ hw435_1; first | rwa [add_block] at this | exact this) GW431.out) | (rw [add_block]; exact Nat.ne_of_lt (Nat.lt_of_lt_of_le (by have := World.block_lt_of_cell? _ _ hw435_1; first | rwa [add_block] at this | exact this) GW431.out)) | (show (Addr.add _ _).block ≠ _; rw [add_block]; exact Nat.ne_of_lt (Nat.lt_of_lt_of_le (by have := World.block_lt_of_cell? _ _ hw435_1; first | rwa [add_block] at this | exact this) GW431.out)) | (dsimp only; exact Nat.ne_of_lt (Nat.lt_of_lt_of_le (by have := World.block_lt_of_cell? _ _ hw435_1; first | rwa [add_block] at this | exact this) GW431.out))) _).trans (((cell_far (p := ⟨gb431, _, none⟩) (by first | exact Nat.ne_of_lt (Nat.lt_of_lt_of_le (by have := World.block_lt_of_cell? _ _ hw435_1; first | rwa [add_block] at this | exact this) GW431.out) | (rw [add_block]; exact Nat.ne_of_lt (Nat.lt_of_lt_of_le (by have := World.block_lt_of_cell? _ _ hw435_1; first | rwa [add_block] at this | exact this) GW431.out)) | (show (Addr.add _ _).block ≠ _; rw [add_block]; exact Nat.ne_of_lt (Nat.lt_of_lt_of_le (by have := World.block_lt_of_cell? _ _ hw435_1; first | rwa [add_block] at this | exact this) GW431.out)) | (dsimp only; exact Nat.ne_of_lt (Nat.lt_of_lt_of_le (by have := World.block_lt_of_cell? _ _ hw435_1; first | rwa [add_block] at this | exact this) GW431.out))) _).trans (((cell_far (p := ⟨gb431, _, none⟩) (by first | exact Nat.ne_of_lt (Nat.lt_of_lt_of_le (by have := World.block_lt_of_cell? _ _ hw435_1; first | rwa [add_block] at this | exact this) GW431.out) | (rw [add_block]; exact Nat.ne_of_lt (Nat.lt_of_lt_of_le (by have := World.block_lt_of_cell? _ _ hw435_1; first | rwa [add_block] at this | exact this) GW431.out)) | (show (Addr.add _ _).block ≠ _; rw [add_block]; exact Nat.ne_of_lt (Nat.lt_of_lt_of_le (by have := World.block_lt_of_cell? _ _ hw435_1; first | rwa [add_block] at this | exact this) GW431.out)) | (dsimp only; exact Nat.ne_of_lt (Nat.lt_of_lt_of_le (by have := World.block_lt_of_cell? _ _ hw435_1; first | rwa [add_block] at this | exact this) GW431.out))) _).trans (((cell_far (p := ⟨gb431, _, none⟩) (by first | exact Nat.ne_of_lt (Nat.lt_of_lt_of_le (by have := World.block_lt_of_cell? _ _ hw435_1; first | rwa [add_block] at this | exact this) GW431.out) | (rw [add_block]; exact Nat.ne_of_lt (Nat.lt_of_lt_of_le (by have := World.block_lt_of_cell? _ _ hw435_1; first | rwa [add_block] at this | exact this) GW431.out)) | (show (Addr.add _ _).block ≠ _; rw [add_block]; exact Nat.ne_of_lt (Nat.lt_of_lt_of_le (by have := World.block_lt_of_cell? _ _ hw435_1; first | rwa [add_block] at this | exact this) GW431.out)) | (dsimp only; exact Nat.ne_of_lt (Nat.lt_of_lt_of_le (by have := World.block_lt_of_cell? _ _ hw435_1; first | rwa [add_block] at this | exact this) GW431.out))) _).trans (((cell_far (p := ⟨gb431, _, none⟩) (by first | exact Nat.ne_of_lt (Nat.lt_of_lt_of_le (by have := World.block_lt_of_cell? _ _ hw435_1; first | rwa [add_block] at this | exact this) GW431.out) | (rw [add_block]; exact Nat.ne_of_lt (Nat.lt_of_lt_of_le (by have := World.block_lt_of_cell? _ _ hw435_1; first | rwa [add_block] at this | exact this) GW431.out)) | (show (Addr.add _ _).block ≠ _; rw [add_block]; exact Nat.ne_of_lt (Nat.lt_of_lt_of_le (by have := World.block_lt_of_cell? _ _ hw435_1; first | rwa [add_block] at this | exact this) GW431.out)) | (dsimp only; exact Nat.ne_of_lt (Nat.lt_of_lt_of_le (by have := World.block_lt_of_cell? _ _ hw435_1; first | rwa [add_block] at this | exact this) GW431.out))) _).trans (hHeld.2.2.2.2.2.2.1)))))))))))), ((cell_far (p := ⟨gb431, _, none⟩) (by first | exact Nat.ne_of_lt (Nat.lt_of_lt_of_le (by have := World.block_lt_of_cell? _ _ hw435_2; first | rwa [add_block] at this | exact this) GW431.out) | (rw [add_block]; exact Nat.ne_of_lt (Nat.lt_of_lt_of_le (by have := World.block_lt_of_cell? _ _ hw435_2; first | rwa [add_block] at this | exact this) GW431.out)) | (show (Addr.add _ _).block ≠ _; rw [add_block]; exact Nat.ne_of_lt (Nat.lt_of_lt_of_le (by have := World.block_lt_of_cell? _ _ hw435_2; first | rwa [add_block] at this | exact this) GW431.out)) | (dsimp only; exact Nat.ne_of_lt (Nat.lt_of_lt_of_le (by have := World.block_lt_of_cell? _ _ hw435_2; first | rwa [add_block] at this | exact this) GW431.out))) _).trans (((cell_far (p := ⟨gb431, _, none⟩) (by first | exact Nat.ne_of_lt (Nat.lt_of_lt_of_le (by have := World.block_lt_of_cell? _ _ hw435_2; first | rwa [add_block] at this | exact this) GW431.out) | (rw [add_block]; exact Nat.ne_of_lt (Nat.lt_of_lt_of_le (by have := World.block_lt_of_cell? _ _ hw435_2; first | rwa [add_block] at this | exact this) GW431.out)) | (show (Addr.add _ _).block ≠ _; rw [add_block]; exact Nat.ne_of_lt (Nat.lt_of_lt_of_le (by have := World.block_lt_of_cell? _ _ hw435_2; first | rwa [add_block] at this | exact this) GW431.out)) | (dsimp only; exact Nat.ne_of_lt (Nat.lt_of_lt_of_le (by have := World.block_lt_of_cell? _ _ hw435_2; first | rwa [add_block] at this | exact this) GW431.out))) _).trans (((cell_far (p := ⟨gb431, _, none⟩) (by first | exact Nat.ne_of_lt (Nat.lt_of_lt_of_le (by have := World.block_lt_of_cell? _ _ hw435_2; first | rwa [add_block] at this | exact this) GW431.out) | (rw [add_block]; exact Nat.ne_of_lt (Nat.lt_of_lt_of_le (by have := World.block_lt_of_cell? _ _ hw435_2; first | rwa [add_block] at this | exact this) GW431.out)) | (show (Addr.add _ _).block ≠ _; rw [add_block]; exact Nat.ne_of_lt (Nat.lt_of_lt_of_le (by have := World.block_lt_of_cell? _ _ hw435_2; first | rwa [add_block] at this | exact this) GW431.out)) | (dsimp only; exact Nat.ne_of_lt (Nat.lt_of_lt_of_le (by have := World.block_lt_of_cell? _ _ hw435_2; first | rwa [add_block] at this | exact this) GW431.out))) _).trans (((cell_far (p := ⟨gb431, _, none⟩) (by first | exact Nat.ne_of_lt (Nat.lt_of_lt_of_le (by have := World.block_lt_of_cell? _ _ hw435_2; first | rwa [add_block] at this | exact this) GW431.out) | (rw [add_block]; exact Nat.ne_of_lt (Nat.lt_of_lt_of_le (by have := World.block_lt_of_cell? _ _ hw435_2; first | rwa [add_block] at this | exact this) GW431.out)) | (show (Addr.add _ _).block ≠ _; rw [add_block]; exact Nat.ne_of_lt (Nat.lt_of_lt_of_le (by have := World.block_lt_of_cell? _ _ hw435_2; first | rwa [add_block] at this | exact this) GW431.out)) | (dsimp only; exact Nat.ne_of_lt (Nat.lt_of_lt_of_le (by have := World.block_lt_of_cell? _ _ hw435_2; first | rwa [add_block] at this | exact this) GW431.out))) _).trans (((cell_far (p := ⟨gb431, _, none⟩) (by first | exact Nat.ne_of_lt (Nat.lt_of_lt_of_le (by have := World.block_lt_of_cell? _ _ hw435_2; first | rwa [add_block] at this | exact this) GW431.out) | (rw [add_block]; exact Nat.ne_of_lt (Nat.lt_of_lt_of_le (by have := World.block_lt_of_cell? _ _ hw435_2; first | rwa [add_block] at this | exact this) GW431.out)) | (show (Addr.add _ _).block ≠ _; rw [add_block]; exact Nat.ne_of_lt (Nat.lt_of_lt_of_le (by have := World.block_lt_of_cell? _ _ hw435_2; first | rwa [add_block] at this | exact this) GW431.out)) | (dsimp only; exact Nat.ne_of_lt (Nat.lt_of_lt_of_le (by have := World.block_lt_of_cell? _ _ hw435_2; first | rwa [add_block] at this | exact this) GW431.out))) _).trans (((cell_far (p := ⟨gb431, _, none⟩) (by first | exact Nat.ne_of_lt (Nat.lt_of_lt_of_le (by have := World.block_lt_of_cell? _ _ hw435_2; first | rwa [add_block] at this | exact this) GW431.out) | (rw [add_block]; exact Nat.ne_of_lt (Nat.lt_of_lt_of_le (by have := World.block_lt_of_cell? _ _ hw435_2; first | rwa [add_block] at this | exact this) GW431.out)) | (show (Addr.add _ _).block ≠ _; rw [add_block]; exact Nat.ne_of_lt (Nat.lt_of_lt_of_le (by have := World.block_lt_of_cell? _ _ hw435_2; first | rwa [add_block] at this | exact this) GW431.out)) | (dsimp only; exact Nat.ne_of_lt (Nat.lt_of_lt_of_le (by have := World.block_lt_of_cell? _ _ hw435_2; first | rwa [add_block] at this | exact this) GW431.out))) _).trans (hHeld.2.2.2.2.2.2.2.1)))))))))))), ((cell_far (p := ⟨gb431, _, none⟩) (by first | exact Nat.ne_of_lt (Nat.lt_of_lt_of_le (by have := World.block_lt_of_cell? _ _ hw435_3; first | rwa [add_block] at this | exact this) GW431.out) | (rw [add_block]; exact Nat.ne_of_lt (Nat.lt_of_lt_of_le (by have := World.block_lt_of_cell? _ _ hw435_3; first | rwa [add_block] at this | exact this) GW431.out)) | (show (Addr.add _ _).block ≠ _; rw [add_block]; exact Nat.ne_of_lt (Nat.lt_of_lt_of_le (by have := World.block_lt_of_cell? _ _ hw435_3; first | rwa [add_block] at this | exact this) GW431.out)) | (dsimp only; exact Nat.ne_of_lt (Nat.lt_of_lt_of_le (by have := World.block_lt_of_cell? _ _ hw435_3; first | rwa [add_block] at this | exact this) GW431.out))) _).trans (((cell_far (p := ⟨gb431, _, none⟩) (by first | exact Nat.ne_of_lt (Nat.lt_of_lt_of_le (by have := World.block_lt_of_cell? _ _ hw435_3; first | rwa [add_block] at this | exact this) GW431.out) | (rw [add_block]; exact Nat.ne_of_lt (Nat.lt_of_lt_of_le (by have := World.block_lt_of_cell? _ _ hw435_3; first | rwa [add_block] at this | exact this) GW431.out)) | (show (Addr.add _ _).block ≠ _; rw [add_block]; exact Nat.ne_of_lt (Nat.lt_of_lt_of_le (by have := World.block_lt_of_cell? _ _ hw435_3; first | rwa [add_block] at this | exact this) GW431.out)) | (dsimp only; exact Nat.ne_of_lt (Nat.lt_of_lt_of_le (by have := World.block_lt_of_cell? _ _ hw435_3; first | rwa [add_block] at this | exact this) GW431.out))) _).trans (((cell_far (p := ⟨gb431, _, none⟩) (by first | exact Nat.ne_of_lt (Nat.lt_of_lt_of_le (by have := World.block_lt_of_cell? _ _ hw435_3; first | rwa [add_block] at this | exact this) GW431.out) | (rw [add_block]; exact Nat.ne_of_lt (Nat.lt_of_lt_of_le (by have := World.block_lt_of_cell? _ _ hw435_3; first | rwa [add_block] at this | exact this) GW431.out)) | (show (Addr.add _ _).block ≠ _; rw [add_block]; exact Nat.ne_of_lt (Nat.lt_of_lt_of_le (by have := World.block_lt_of_cell? _ _ hw435_3; first | rwa [add_block] at this | exact this) GW431.out)) | (dsimp only; exact Nat.ne_of_lt (Nat.lt_of_lt_of_le (by have := World.block_lt_of_cell? _ _ hw435_3; first | rwa [add_block] at this | exact this) GW431.out))) _).trans (((cell_far (p := ⟨gb431, _, none⟩) (by first | exact Nat.ne_of_lt (Nat.lt_of_lt_of_le (by have := World.block_lt_of_cell? _ _ hw435_3; first | rwa [add_block] at this | exact this) GW431.out) | (rw [add_block]; exact Nat.ne_of_lt (Nat.lt_of_lt_of_le (by have := World.block_lt_of_cell? _ _ hw435_3; first | rwa [add_block] at this | exact this) GW431.out)) | (show (Addr.add _ _).block ≠ _; rw [add_block]; exact Nat.ne_of_lt (Nat.lt_of_lt_of_le (by have := World.block_lt_of_cell? _ _ hw435_3; first | rwa [add_block] at this | exact this) GW431.out)) | (dsimp only; exact Nat.ne_of_lt (Nat.lt_of_lt_of_le (by have := World.block_lt_of_cell? _ _ hw435_3; first | rwa [add_block] at this | exact this) GW431.out))) _).trans (((cell_far (p := ⟨gb431, _, none⟩) (by first | exact Nat.ne_of_lt (Nat.lt_of_lt_of_le (by have := World.block_lt_of_cell? _ _ hw435_3; first | rwa [add_block] at this | exact this) GW431.out) | (rw [add_block]; exact Nat.ne_of_lt (Nat.lt_of_lt_of_le (by have := World.block_lt_of_cell? _ _ hw435_3; first | rwa [add_block] at this | exact this) GW431.out)) | (show (Addr.add _ _).block ≠ _; rw [add_block]; exact Nat.ne_of_lt (Nat.lt_of_lt_of_le (by have := World.block_lt_of_cell? _ _ hw435_3; first | rwa [add_block] at this | exact this) GW431.out)) | (dsimp only; exact Nat.ne_of_lt (Nat.lt_of_lt_of_le (by have := World.block_lt_of_cell? _ _ hw435_3; first | rwa [add_block] at this | exact this) GW431.out))) _).trans (((cell_far (p := ⟨gb431, _, none⟩) (by first | exact Nat.ne_of_lt (Nat.lt_of_lt_of_le (by have := World.block_lt_of_cell? _ _ hw435_3; first | rwa [add_block] at this | exact this) GW431.out) | (rw [add_block]; exact Nat.ne_of_lt (Nat.lt_of_lt_of_le (by have := World.block_lt_of_cell? _ _ hw435_3; first | rwa [add_block] at this | exact this) GW431.out)) | (show (Addr.add _ _).block ≠ _; rw [add_block]; exact Nat.ne_of_lt (Nat.lt_of_lt_of_le (by have := World.block_lt_of_cell? _ _ hw435_3; first | rwa [add_block] at this | exact this) GW431.out)) | (dsimp only; exact Nat.ne_of_lt (Nat.lt_of_lt_of_le (by have := World.block_lt_of_cell? _ _ hw435_3; first | rwa [add_block] at this | exact this) GW431.out))) _).trans (hHeld.2.2.2.2.2.2.2.2.1)))))))))))), ((cell_far (p := ⟨gb431, _, none⟩) (by first | exact Nat.ne_of_lt (Nat.lt_of_lt_of_le (by have := World.block_lt_of_cell? _ _ hw435_4; first | rwa [add_block] at this | exact this) GW431.out) | (rw [add_block]; exact Nat.ne_of_lt (Nat.lt_of_lt_of_le (by have := World.block_lt_of_cell? _ _ hw435_4; first | rwa [add_block] at this | exact this) GW431.out)) | (show (Addr.add _ _).block ≠ _; rw [add_block]; exact Nat.ne_of_lt (Nat.lt_of_lt_of_le (by have := World.block_lt_of_cell? _ _ hw435_4; first | rwa [add_block] at this | exact this) GW431.out)) | (dsimp only; exact Nat.ne_of_lt (Nat.lt_of_lt_of_le (by have := World.block_lt_of_cell? _ _ hw435_4; first | rwa [add_block] at this | exact this) GW431.out))) _).trans (((cell_far (p := ⟨gb431, _, none⟩) (by first | exact Nat.ne_of_lt (Nat.lt_of_lt_of_le (by have := World.block_lt_of_cell? _ _ hw435_4; first | rwa [add_block] at this | exact this) GW431.out) | (rw [add_block]; exact Nat.ne_of_lt (Nat.lt_of_lt_of_le (by have := World.block_lt_of_cell? _ _ hw435_4; first | rwa [add_block] at this | exact this) GW431.out)) | (show (Addr.add _ _).block ≠ _; rw [add_block]; exact Nat.ne_of_lt (Nat.lt_of_lt_of_le (by have := World.block_lt_of_cell? _ _ hw435_4; first | rwa [add_block] at this | exact this) GW431.out)) | (dsimp only; exact Nat.ne_of_lt (Nat.lt_of_lt_of_le (by have := World.block_lt_of_cell? _ _ hw435_4; first | rwa [add_block] at this | exact this) GW431.out))) _).trans (((cell_far (p := ⟨gb431, _, none⟩) (by first | exact Nat.ne_of_lt (Nat.lt_of_lt_of_le (by have := World.block_lt_of_cell? _ _ hw435_4; first | rwa [add_block] at this | exact this) GW431.out) | (rw [add_block]; exact Nat.ne_of_lt (Nat.lt_of_lt_of_le (by have := World.block_lt_of_cell? _ _ hw435_4; first | rwa [add_block] at this | exact this) GW431.out)) | (show (Addr.add _ _).block ≠ _; rw [add_block]; exact Nat.ne_of_lt (Nat.lt_of_lt_of_le (by have := World.block_lt_of_cell? _ _ hw435_4; first | rwa [add_block] at this | exact this) GW431.out)) | (dsimp only; exact Nat.ne_of_lt (Nat.lt_of_lt_of_le (by have := World.block_lt_of_cell? _ _ hw435_4; first | rwa [add_block] at this | exact this) GW431.out))) _).trans (((cell_far (p := ⟨gb431, _, none⟩) (by first | exact Nat.ne_of_lt (Nat.lt_of_lt_of_le (by have := World.block_lt_of_cell? _ _ hw435_4; first | rwa [add_block] at this | exact this) GW431.out) | (rw [add_block]; exact Nat.ne_of_lt (Nat.lt_of_lt_of_le (by have := World.block_lt_of_cell? _ _ hw435_4; first | rwa [add_block] at this | exact this) GW431.out)) | (show (Addr.add _ _).block ≠ _; rw [add_block]; exact Nat.ne_of_lt (Nat.lt_of_lt_of_le (by have := World.block_lt_of_cell? _ _ hw435_4; first | rwa [add_block] at this | exact this) GW431.out)) | (dsimp only; exact Nat.ne_of_lt (Nat.lt_of_lt_of_le (by have := World.block_lt_of_cell? _ _ hw435_4; first | rwa [add_block] at this | exact this) GW431.out))) _).trans (((cell_far (p := ⟨gb431, _, none⟩) (by first | exact Nat.ne_of_lt (Nat.lt_of_lt_of_le (by have := World.block_lt_of_cell? _ _ hw435_4; first | rwa [add_block] at this | exact this) GW431.out) | (rw [add_block]; exact Nat.ne_of_lt (Nat.lt_of_lt_of_le (by have := World.block_lt_of_cell? _ _ hw435_4; first | rwa [add_block] at this | exact this) GW431.out)) | (show (Addr.add _ _).block ≠ _; rw [add_block]; exact Nat.ne_of_lt (Nat.lt_of_lt_of_le (by have := World.block_lt_of_cell? _ _ hw435_4; first | rwa [add_block] at this | exact this) GW431.out)) | (dsimp only; exact Nat.ne_of_lt (Nat.lt_of_lt_of_le (by have := World.block_lt_of_cell? _ _ hw435_4; first | rwa [add_block] at this | exact this) GW431.out))) _).trans (((cell_far (p := ⟨gb431, _, none⟩) (by first | exact Nat.ne_of_lt (Nat.lt_of_lt_of_le (by have := World.block_lt_of_cell? _ _ hw435_4; first | rwa [add_block] at this | exact this) GW431.out) | (rw [add_block]; exact Nat.ne_of_lt (Nat.lt_of_lt_of_le (by have := World.block_lt_of_cell? _ _ hw435_4; first | rwa [add_block] at this | exact this) GW431.out)) | (show (Addr.add _ _).block ≠ _; rw [add_block]; exact Nat.ne_of_lt (Nat.lt_of_lt_of_le (by have := World.block_lt_of_cell? _ _ hw435_4; first | rwa [add_block] at this | exact this) GW431.out)) | (dsimp only; exact Nat.ne_of_lt (Nat.lt_of_lt_of_le (by have := World.block_lt_of_cell? _ _ hw435_4; first | rwa [add_block] at this | exact this) GW431.out))) _).trans (hHeld.2.2.2.2.2.2.2.2.2.1)))))))))))), ((cell_far (p := ⟨gb431, _, none⟩) (by first | exact Nat.ne_of_lt (Nat.lt_of_lt_of_le (by have := World.block_lt_of_cell? _ _ hw435_5; first | rwa [add_block] at this | exact this) GW431.out) | (rw [add_block]; exact Nat.ne_of_lt (Nat.lt_of_lt_of_le (by have := World.block_lt_of_cell? _ _ hw435_5; first | rwa [add_block] at this | exact this) GW431.out)) | (show (Addr.add _ _).block ≠ _; rw [add_block]; exact Nat.ne_of_lt (Nat.lt_of_lt_of_le (by have := World.block_lt_of_cell? _ _ hw435_5; first | rwa [add_block] at this | exact this) GW431.out)) | (dsimp only; exact Nat.ne_of_lt (Nat.lt_of_lt_of_le (by have := World.block_lt_of_cell? _ _ hw435_5; first | rwa [add_block] at this | exact this) GW431.out))) _).trans (((cell_far (p := ⟨gb431, _, none⟩) (by first | exact Nat.ne_of_lt (Nat.lt_of_lt_of_le (by have := World.block_lt_of_cell? _ _ hw435_5; first | rwa [add_block] at this | exact this) GW431.out) | (rw [add_block]; exact Nat.ne_of_lt (Nat.lt_of_lt_of_le (by have := World.block_lt_of_cell? _ _ hw435_5; first | rwa [add_block] at this | exact this) GW431.out)) | (show (Addr.add _ _).block ≠ _; rw [add_block]; exact Nat.ne_of_lt (Nat.lt_of_lt_of_le (by have := World.block_lt_of_cell? _ _ hw435_5; first | rwa [add_block] at this | exact this) GW431.out)) | (dsimp only; exact Nat.ne_of_lt (Nat.lt_of_lt_of_le (by have := World.block_lt_of_cell? _ _ hw435_5; first | rwa [add_block] at this | exact this) GW431.out))) _).trans (((cell_far (p := ⟨gb431, _, none⟩) (by first | exact Nat.ne_of_lt (Nat.lt_of_lt_of_le (by have := World.block_lt_of_cell? _ _ hw435_5; first | rwa [add_block] at this | exact this) GW431.out) | (rw [add_block]; exact Nat.ne_of_lt (Nat.lt_of_lt_of_le (by have := World.block_lt_of_cell? _ _ hw435_5; first | rwa [add_block] at this | exact this) GW431.out)) | (show (Addr.add _ _).block ≠ _; rw [add_block]; exact Nat.ne_of_lt (Nat.lt_of_lt_of_le (by have := World.block_lt_of_cell? _ _ hw435_5; first | rwa [add_block] at this | exact this) GW431.out)) | (dsimp only; exact Nat.ne_of_lt (Nat.lt_of_lt_of_le (by have := World.block_lt_of_cell? _ _ hw435_5; first | rwa [add_block] at this | exact this) GW431.out))) _).trans (((cell_far (p := ⟨gb431, _, none⟩) (by first | exact Nat.ne_of_lt (Nat.lt_of_lt_of_le (by have := World.block_lt_of_cell? _ _ hw435_5; first | rwa [add_block] at this | exact this) GW431.out) | (rw [add_block]; exact Nat.ne_of_lt (Nat.lt_of_lt_of_le (by have := World.block_lt_of_cell? _ _ hw435_5; first | rwa [add_block] at this | exact this) GW431.out)) | (show (Addr.add _ _).block ≠ _; rw [add_block]; exact Nat.ne_of_lt (Nat.lt_of_lt_of_le (by have := World.block_lt_of_cell? _ _ hw435_5; first | rwa [add_block] at this | exact this) GW431.out)) | (dsimp only; exact Nat.ne_of_lt (Nat.lt_of_lt_of_le (by have := World.block_lt_of_cell? _ _ hw435_5; first | rwa [add_block] at this | exact this) GW431.out))) _).trans (((cell_far (p := ⟨gb431, _, none⟩) (by first | exact Nat.ne_of_lt (Nat.lt_of_lt_of_le (by have := World.block_lt_of_cell? _ _ hw435_5; first | rwa [add_block] at this | exact this) GW431.out) | (rw [add_block]; exact Nat.ne_of_lt (Nat.lt_of_lt_of_le (by have := World.block_lt_of_cell? _ _ hw435_5; first | rwa [add_block] at this | exact this) GW431.out)) | (show (Addr.add _ _).block ≠ _; rw [add_block]; exact Nat.ne_of_lt (Nat.lt_of_lt_of_le (by have := World.block_lt_of_cell? _ _ hw435_5; first | rwa [add_block] at this | exact this) GW431.out)) | (dsimp only; exact Nat.ne_of_lt (Nat.lt_of_lt_of_le (by have := World.block_lt_of_cell? _ _ hw435_5; first | rwa [add_block] at this | exact this) GW431.out))) _).trans (((cell_far (p := ⟨gb431, _, none⟩) (by first | exact Nat.ne_of_lt (Nat.lt_of_lt_of_le (by have := World.block_lt_of_cell? _ _ hw435_5; first | rwa [add_block] at this | exact this) GW431.out) | (rw [add_block]; exact Nat.ne_of_lt (Nat.lt_of_lt_of_le (by have := World.block_lt_of_cell? _ _ hw435_5; first | rwa [add_block] at this | exact this) GW431.out)) | (show (Addr.add _ _).block ≠ _; rw [add_block]; exact Nat.ne_of_lt (Nat.lt_of_lt_of_le (by have := World.block_lt_of_cell? _ _ hw435_5; first | rwa [add_block] at this | exact this) GW431.out)) | (dsimp only; exact Nat.ne_of_lt (Nat.lt_of_lt_of_le (by have := World.block_lt_of_cell? _ _ hw435_5; first | rwa [add_block] at this | exact this) GW431.out))) _).trans (hHeld.2.2.2.2.2.2.2.2.2.2))))))))))))⟩ (fun hHeld => ?_)
                 clear hK K
                 refine done_ (done_of HT_.out (by kernel_rfl)) ?_
                 try go_wp2
                 go_meet
                 case rel => exact ⟨_, (0), ((rd_T25 l0_1 t434).f0), ((rd_T25 l0_1 t434).f1), ((rd_T25 l0_1 t434).f2), ((rd_T25 l0_1 t434).f3), ((rd_T25 l0_1 t434).f4), ((rd_T25 l0_1 t434).f5), ap, H', ⟨by have := HJ2.out; have := HK2.out; have := HJ10.out; have := HJ14.out; first | omega | exact Nat.le_refl _⟩, ⟨by (with_reducible repeat (first | refine blk_drewN ?_ _ | refine blk_drew ?_ | refine blk_alloc ?_ _)); refine blk_far ?_ NB409_431.out _; (with_reducible repeat (first | refine blk_drewN ?_ _ | refine blk_drew ?_ | refine blk_alloc ?_ _)); refine blk_far ?_ NB409_431.out _; (with_reducible repeat (first | refine blk_drewN ?_ _ | refine blk_drew ?_ | refine blk_alloc ?_ _)); refine blk_far ?_ NB409_431.out _; (with_reducible repeat (first | refine blk_drewN ?_ _ | refine blk_drew ?_ | refine blk_alloc ?_ _)); refine blk_far ?_ NB409_431.out _; (with_reducible repeat (first | refine blk_drewN ?_ _ | refine blk_drew ?_ | refine blk_alloc ?_ _)); refine blk_far ?_ NB409_431.out _; (with_reducible repeat (first | refine blk_drewN ?_ _ | refine blk_drew ?_ | refine blk_alloc ?_ _)); refine blk_far ?_ NB409_431.out _; (with_reducible repeat (first | refine blk_drewN ?_ _ | refine blk_drew ?_ | refine blk_alloc ?_ _)); exact BK409.out⟩, ⟨by (with_reducible repeat (first | refine blk_drewN ?_ _ | refine blk_drew ?_ | refine blk_alloc ?_ _)); refine blk_far ?_ NB421_431.out _; (with_reducible repeat (first | refine blk_drewN ?_ _ | refine blk_drew ?_ | refine blk_alloc ?_ _)); refine blk_far ?_ NB421_431.out _; (with_reducible repeat (first | refine blk_drewN ?_ _ | refine blk_drew ?_ | refine blk_alloc ?_ _)); refine blk_far ?_ NB421_431.out _; (with_reducible repeat (first | refine blk_drewN ?_ _ | refine blk_drew ?_ | refine blk_alloc ?_ _)); refine blk_far ?_ NB421_431.out _; (with_reducible repeat (first | refine blk_drewN ?_ _ | refine blk_drew ?_ | refine blk_alloc ?_ _)); refine blk_far ?_ NB421_431.out _; (with_reducible repeat (first | refine blk_drewN ?_ _ | refine blk_drew ?_ | refine blk_alloc ?_ _)); refine blk_far ?_ NB421_431.out _; (with_reducible repeat (first | refine blk_drewN ?_ _ | refine blk_drew ?_ | refine blk_alloc ?_ _)); exact BK421.out⟩, ⟨by (with_reducible repeat (first | refine blk_drewN ?_ _ | refine blk_drew ?_ | refine blk_alloc ?_ _)); refine blk_far ?_ NB430_431.out _; (with_reducible repeat (first | refine blk_drewN ?_ _ | refine blk_drew ?_ | refine blk_alloc ?_ _)); refine blk_far ?_ NB430_431.out _; (with_reducible repeat (first | refine blk_drewN ?_ _ | refine blk_drew ?_ | refine blk_alloc ?_ _)); refine blk_far ?_ NB430_431.out _; (with_reducible repeat (first | refine blk_drewN ?_ _ | refine blk_drew ?_ | refine blk_alloc ?_ _)); refine blk_far ?_ NB430_431.out _; (with_reducible repeat (first | refine blk_drewN ?_ _ | refine blk_drew ?_ | refine blk_alloc ?_ _)); refine blk_far ?_ NB430_431.out _; (with_reducible repeat (first | refine blk_drewN ?_ _ | refine blk_drew ?_ | refine blk_alloc ?_ _)); refine blk_far ?_ NB430_431.out _; (with_reducible repeat (first | refine blk_drewN ?_ _ | refine blk_drew ?_ | refine blk_alloc ?_ _)); exact BK430.out⟩, ⟨by (with_reducible repeat (first | refine blk_drewN ?_ _ | refine blk_drew ?_ | refine blk_alloc ?_ _)); refine blk_put (cs := #[.int .i64 ((rd_T25 l0_1 t434).f0), .int .i64 ((rd_T25 l0_1 t434).f1), .string ((rd_T25 l0_1 t434).f2), .string ((rd_T25 l0_1 t434).f3), .int .i64 ((rd_T25 l0_1 t434).f4), .bool false]) ?_ 5 _ rfl; (with_reducible repeat (first | refine blk_drewN ?_ _ | refine blk_drew ?_ | refine blk_alloc ?_ _)); refine blk_put (cs := #[.int .i64 ((rd_T25 l0_1 t434).f0), .int .i64 ((rd_T25 l0_1 t434).f1), .string ((rd_T25 l0_1 t434).f2), .string ((rd_T25 l0_1 t434).f3), .int .i64 0, .bool false]) ?_ 4 _ rfl; (with_reducible repeat (first | refine blk_drewN ?_ _ | refine blk_drew ?_ | refine blk_alloc ?_ _)); refine blk_put (cs := #[.int .i64 ((rd_T25 l0_1 t434).f0), .int .i64 ((rd_T25 l0_1 t434).f1), .string ((rd_T25 l0_1 t434).f2), .string (⟨#[]⟩ : ByteArray), .int .i64 0, .bool false]) ?_ 3 _ rfl; (with_reducible repeat (first | refine blk_drewN ?_ _ | refine blk_drew ?_ | refine blk_alloc ?_ _)); refine blk_put (cs := #[.int .i64 ((rd_T25 l0_1 t434).f0), .int .i64 ((rd_T25 l0_1 t434).f1), .string (⟨#[]⟩ : ByteArray), .string (⟨#[]⟩ : ByteArray), .int .i64 0, .bool false]) ?_ 2 _ rfl; (with_reducible repeat (first | refine blk_drewN ?_ _ | refine blk_drew ?_ | refine blk_alloc ?_ _)); refine blk_put (cs := #[.int .i64 ((rd_T25 l0_1 t434).f0), .int .i64 0, .string (⟨#[]⟩ : ByteArray), .string (⟨#[]⟩ : ByteArray), .int .i64 0, .bool false]) ?_ 1 _ rfl; (with_reducible repeat (first | refine blk_drewN ?_ _ | refine blk_drew ?_ | refine blk_alloc ?_ _)); refine blk_put (cs := #[.int .i64 0, .int .i64 0, .string (⟨#[]⟩ : ByteArray), .string (⟨#[]⟩ : ByteArray), .int .i64 0, .bool false]) ?_ 0 _ rfl; (with_reducible repeat (first | refine blk_drewN ?_ _ | refine blk_drew ?_ | refine blk_alloc ?_ _)); exact BK431.out⟩, ⟨by (with_reducible repeat (first | refine blk_drewN ?_ _ | refine blk_drew ?_ | refine blk_alloc ?_ _)); refine blk_far ?_ NB432_431.out _; (with_reducible repeat (first | refine blk_drewN ?_ _ | refine blk_drew ?_ | refine blk_alloc ?_ _)); refine blk_far ?_ NB432_431.out _; (with_reducible repeat (first | refine blk_drewN ?_ _ | refine blk_drew ?_ | refine blk_alloc ?_ _)); refine blk_far ?_ NB432_431.out _; (with_reducible repeat (first | refine blk_drewN ?_ _ | refine blk_drew ?_ | refine blk_alloc ?_ _)); refine blk_far ?_ NB432_431.out _; (with_reducible repeat (first | refine blk_drewN ?_ _ | refine blk_drew ?_ | refine blk_alloc ?_ _)); refine blk_far ?_ NB432_431.out _; (with_reducible repeat (first | refine blk_drewN ?_ _ | refine blk_drew ?_ | refine blk_alloc ?_ _)); refine blk_far ?_ NB432_431.out _; (with_reducible repeat (first | refine blk_drewN ?_ _ | refine blk_drew ?_ | refine blk_alloc ?_ _)); exact BK432.out⟩, ⟨bo⟩⟩
                ·rw [if_neg c53] at H
                 exact absurd H (by simp)
               ·rw [if_neg c52] at H
                exact absurd H (by simp)
              ·rw [if_neg c51] at H
               have c51b0 : decide (0 ≤ t434) = false := decide_eq_false c51
               clear c51
               (first | rw [c51b0] | (simp only [i64_w, i32_w]; rw [c51b0]) | skip)
               have H' := Aside0.mk H
               clear H
               go_wp2
               go_meet
               case rel => exact ⟨_, (3), (0), (0), ((⟨#[]⟩ : ByteArray)), ((⟨#[]⟩ : ByteArray)), (0), (false), ap, H', ⟨by have := HJ2.out; have := HK2.out; have := HJ10.out; have := HJ14.out; first | omega | exact Nat.le_refl _⟩, ⟨by (with_reducible repeat (first | refine blk_drewN ?_ _ | refine blk_drew ?_ | refine blk_alloc ?_ _)); exact BK409.out⟩, ⟨by (with_reducible repeat (first | refine blk_drewN ?_ _ | refine blk_drew ?_ | refine blk_alloc ?_ _)); exact BK421.out⟩, ⟨by (with_reducible repeat (first | refine blk_drewN ?_ _ | refine blk_drew ?_ | refine blk_alloc ?_ _)); exact BK430.out⟩, ⟨by (with_reducible repeat (first | refine blk_drewN ?_ _ | refine blk_drew ?_ | refine blk_alloc ?_ _)); exact BK431.out⟩, ⟨by (with_reducible repeat (first | refine blk_drewN ?_ _ | refine blk_drew ?_ | refine blk_alloc ?_ _)); exact BK432.out⟩, ⟨bo⟩⟩
             case rest =>
              clear HC49
              try clear p2
              try clear c3
              try clear c4
              try clear p4
              try clear q4
              try clear hx4
              try clear c5
              try clear c33
              try clear c34
              try clear p43
              try clear q43
              try clear hx43
              try clear c47
              try clear c51
              try clear c51b0
              try clear c52
              try clear c52b0
              try clear c53
              try clear c53b0
              try clear hx433_0
              try clear hx435_0
              try clear hx435_1
              try clear hx435_2
              try clear hx435_3
              try clear hx435_4
              try clear hx435_5
              try clear p433
              try clear p435
              try clear q433
              try clear q435
              obtain ⟨kq, x9_48, x432000_48, x432001_48, x432002_48, x432003_48, x432004_48, x432005_48, rfl, HA, HJ48, BK409, BK421, BK430, BK431, BK432, HB⟩ := hcut
              cases kq with
              | zero => exact absurd HA.out (by simp [fairwaylaw11_SegFinds.j4])
              | succ kj48 =>
               have H := HA.out
               clear HA
               simp only [fairwaylaw11_SegFinds.j4] at H
               by_cases c61 : 0 ≤ x4_2
               ·rw [if_pos c61] at H
                have c61b0 : decide (0 ≤ x4_2) = true := decide_eq_true c61
                clear c61
                by_cases c62 : x4_2 < (l0_3.length : Int)
                ·rw [if_pos c62] at H
                 have c62b0 : decide (x4_2 < (l0_3.length : Int)) = true := decide_eq_true c62
                 clear c62
                 replace H := Option.bind_eq_some_iff.mp H
                 obtain ⟨t437, A630, H⟩ := H
                 replace H : (if t437 ≥ 0 then (if 0 ≤ t437 then (if t437 < (l0_1.length : Int) then (fairwaylaw11_SegFinds.j5 kj48 true x4_2 t420 t429 x9_48 0 a0_0 l0_1 l0_2 l0_3 a0_4 t414 t415 t416 t417 t418 t419 t423 t424 t425 t426 t427 t428 x432000_48 x432001_48 x432002_48 x432003_48 x432004_48 x432005_48 ((rd_T25 l0_1 t437).f0) ((rd_T25 l0_1 t437).f1) ((rd_T25 l0_1 t437).f2) ((rd_T25 l0_1 t437).f3) ((rd_T25 l0_1 t437).f4) ((rd_T25 l0_1 t437).f5)) else (none)) else (none)) else (fairwaylaw11_SegFinds.j5 kj48 true x4_2 t420 t429 x9_48 3 a0_0 l0_1 l0_2 l0_3 a0_4 t414 t415 t416 t417 t418 t419 t423 t424 t425 t426 t427 t428 x432000_48 x432001_48 x432002_48 x432003_48 x432004_48 x432005_48 0 0 (⟨#[]⟩ : ByteArray) (⟨#[]⟩ : ByteArray) 0 false)) = some r := H
                 have A63 := Aside0.mk A630
                 clear A630
                 by_cases c64 : t437 ≥ 0
                 ·rw [if_pos c64] at H
                  have c64b0 : decide (0 ≤ t437) = true := decide_eq_true c64
                  clear c64
                  by_cases c65 : 0 ≤ t437
                  ·rw [if_pos c65] at H
                   have c65b0 : decide (0 ≤ t437) = true := decide_eq_true c65
                   clear c65
                   by_cases c66 : t437 < (l0_1.length : Int)
                   ·rw [if_pos c66] at H
                    have c66b0 : decide (t437 < (l0_1.length : Int)) = true := decide_eq_true c66
                    clear c66
                    have H' := Aside0.mk H
                    clear H
                    try go_wp2
                    replace BK409 := Aside0.mk (blk_drew BK409.out)
                    replace BK421 := Aside0.mk (blk_drew BK421.out)
                    replace BK430 := Aside0.mk (blk_drew BK430.out)
                    replace BK431 := Aside0.mk (blk_drew BK431.out)
                    replace BK432 := Aside0.mk (blk_drew BK432.out)
                    replace HB := Aside0.mk (below_drew1 HB.out)
                    have p436 : 0 ≤ (x4_2 : Int) := od
                    have q436 : x4_2 < (l0_3.length : Int) := od
                    obtain ⟨ad436, e436, hx436_0⟩ := Kd.at_int HR0_3.out x4_2 p436 q436
                    have hw436_0 := hx436_0
                    obtain rfl : ad413 = ad436 := (by injection e436)
                    replace hx436_0 := cx HB.out hx436_0
                    replace p436 := eq_true p436
                    replace q436 := eq_true q436
                    refine start_ (n := 10) (S := fun w' => w'.cell? ⟨gb409, 0, none⟩ = some (.int .i64 a0_0) ∧ w'.cell? ⟨gb409, 1, none⟩ = some (.slice A0_1 l0_1.length c0_1) ∧ w'.cell? ⟨gb409, 2, none⟩ = some (.slice A0_2 l0_2.length c0_2) ∧ w'.cell? ⟨gb409, 3, none⟩ = some (.slice (some ad413) l0_3.length c0_3) ∧ w'.cell? ⟨gb409, 4, none⟩ = some (.string a0_4) ∧ w'.cell? (ad413.add (x4_2).toNat) = some (.int .i64 (rd l0_3 x4_2))) (ds := []) #[O,O,O,O,O,O,O,O,O,O] (by kernel_rfl) rfl rfl ⟨(blk_cell BK409.out 0).trans rfl, (blk_cell BK409.out 1).trans rfl, (blk_cell BK409.out 2).trans rfl, (blk_cell BK409.out 3).trans rfl, (blk_cell BK409.out 4).trans rfl, ((HB.out.cell (World.block_lt_of_cell? w _ hw436_0)).trans hw436_0)⟩ (fun hHeld => ?_); refine with_tabW fairwaylaw11_SegFinds.tab16 fairwaylaw11_SegFinds.bits16 (fun HT_ HW_ => ?_)
                    generalize wc.drew = w67 at BK409 BK421 BK430 BK431 BK432 HB hx436_0 hHeld ⊢
                    refine pz (i := 0) (N := some 70) #[I,O,O,O,O,O,O,O,O,O] ?_
                    refine pz (i := 1) (N := some 71) #[I,I,O,O,O,O,O,O,O,O] ?_
                    refine pz (i := 3) (N := some 73) #[I,I,O,I,O,O,O,O,O,O] ?_
                    refine pz (i := 5) (N := some 75) #[I,I,O,I,O,I,O,O,O,O] ?_
                    refine tz (i := 2) (N := some 72) #[I,I,I,I,O,I,O,O,O,O] ?_
                    refine tz (i := 4) (N := some 74) #[I,I,I,I,I,I,O,O,O,O] ?_
                    refine pz (i := 6) (N := some 76) #[I,I,I,I,I,I,I,O,O,O] ?_
                    refine tz (i := 7) (N := some 77) #[I,I,I,I,I,I,I,I,O,O] ?_
                    refine one_ (i := 8) (N := some 78) #[I,I,I,I,I,I,I,I,I,O] rfl rfl (one_of HT_.out (by kernel_rfl)) (by decide) (fun K hK => ?_)
                    refine goes_ Try.func35 (by kernel_rfl) rfl #[.slice A0_1 l0_1.length c0_1, .int .i64 (rd l0_3 x4_2)] (by rfl) rfl rfl aa ?_
                    with_reducible refine (fairwayref10_Since.calls kj48 _ _ l0_1 (rd l0_3 x4_2) t437 _ ?side1 ?side2 A63.out).mono ?_
                    (case side1 => repeat (first | exact (Kd.C_below HR0_1.out HB.out) | (with_reducible refine Kd.C_alloc ?_ _) | (with_reducible refine Kd.C_drewN ?_ _) | (with_reducible refine Kd.C_drew ?_)))
                    (case side2 => exact HC0_1.out)
                    rintro e w' ⟨rfl, ⟨nd, rfl⟩⟩
                    refine ⟨_, rfl, ?_⟩
                    refine hK.out _ _ ⟨(blk_cell BK409.out 0).trans rfl, (blk_cell BK409.out 1).trans rfl, (blk_cell BK409.out 2).trans rfl, (blk_cell BK409.out 3).trans rfl, (blk_cell BK409.out 4).trans rfl, ((HB.out.cell (World.block_lt_of_cell? w _ hw436_0)).trans hw436_0)⟩ (fun hHeld => ?_)
                    clear hK K
                    refine norm_ (a' := ?_) ?_ ?_
                    rotate_left
                    ·show Act.put _ (some 78) _ = _
                     simp only [Act.put, List.setIfInBounds_toArray, List.set_cons_zero, List.set_cons_succ, i64_w, i32_w]
                     rfl
                    refine pz (i := 9) (N := some 13) #[I,I,I,I,I,I,I,I,I,I] ?_
                    refine done_ (done_of HT_.out (by kernel_rfl)) ?_
                    try go_wp2
                    (try (rw [drewN_self w67]; generalize hq_ : World.drewN w67 _ = w67; have n0_ : Aside0 (w67.heap[gb409]? = some (.cells #[.int .i64 a0_0, .slice A0_1 l0_1.length c0_1, .slice A0_2 l0_2.length c0_2, .slice (some ad413) l0_3.length c0_3, .string a0_4] 55 (0, 0))) := ⟨by rw [← hq_]; exact (bk BK409.out)⟩; have n1_ : Aside0 (w67.heap[gb421]? = some (.cells #[.int .i64 t414, .int .i64 t415, .string t416, .string t417, .int .i64 t418, .bool t419] 25 (0, 0))) := ⟨by rw [← hq_]; exact (bk BK421.out)⟩; have n2_ : Aside0 (w67.heap[gb430]? = some (.cells #[.int .i64 t423, .int .i64 t424, .string t425, .string t426, .int .i64 t427, .bool t428] 25 (0, 0))) := ⟨by rw [← hq_]; exact (bk BK430.out)⟩; have n3_ : Aside0 (w67.heap[gb431]? = some (.cells #[.int .i64 x432000_48, .int .i64 x432001_48, .string x432002_48, .string x432003_48, .int .i64 x432004_48, .bool x432005_48] 25 (0, 0))) := ⟨by rw [← hq_]; exact (bk BK431.out)⟩; have n4_ : Aside0 (w67.heap[gb432]? = some (.cells #[.int .i64 0, .int .i64 0, .string (⟨#[]⟩ : ByteArray), .string (⟨#[]⟩ : ByteArray), .int .i64 0, .bool false] 25 (0, 0))) := ⟨by rw [← hq_]; exact (bk BK432.out)⟩; have n5_ : Aside0 (Below w.heap.size w w67) := ⟨by rw [← hq_]; exact bo⟩; clear BK409 BK421 BK430 BK431 BK432 HB hq_; have BK409 := n0_; have BK421 := n1_; have BK430 := n2_; have BK431 := n3_; have BK432 := n4_; have HB := n5_; clear n0_ n1_ n2_ n3_ n4_ n5_))
                    replace BK409 := Aside0.mk (blk_drew BK409.out)
                    replace BK421 := Aside0.mk (blk_drew BK421.out)
                    replace BK430 := Aside0.mk (blk_drew BK430.out)
                    replace BK431 := Aside0.mk (blk_drew BK431.out)
                    replace BK432 := Aside0.mk (blk_drew BK432.out)
                    replace HB := Aside0.mk (below_drew1 HB.out)
                    have p438 : 0 ≤ (t437 : Int) := od
                    have q438 : t437 < (l0_1.length : Int) := od
                    obtain ⟨ad438, e438, hx438_0, hx438_1, hx438_2, hx438_3, hx438_4, hx438_5⟩ := at_T25 HR0_1.out t437 p438 q438
                    have hw438_5 := hx438_5
                    have hw438_4 := hx438_4
                    have hw438_3 := hx438_3
                    have hw438_2 := hx438_2
                    have hw438_1 := hx438_1
                    have hw438_0 := hx438_0
                    cases e438
                    replace hx438_0 := cx HB.out hx438_0
                    replace hx438_1 := cx HB.out hx438_1
                    replace hx438_2 := cx HB.out hx438_2
                    replace hx438_3 := cx HB.out hx438_3
                    replace hx438_4 := cx HB.out hx438_4
                    replace hx438_5 := cx HB.out hx438_5
                    replace p438 := eq_true p438
                    replace q438 := eq_true q438
                    refine start_ (n := 8) (S := fun w' => w'.cell? ⟨gb409, 0, none⟩ = some (.int .i64 a0_0) ∧ w'.cell? ⟨gb409, 1, none⟩ = some (.slice (some ad438) l0_1.length c0_1) ∧ w'.cell? ⟨gb409, 2, none⟩ = some (.slice A0_2 l0_2.length c0_2) ∧ w'.cell? ⟨gb409, 3, none⟩ = some (.slice (some ad413) l0_3.length c0_3) ∧ w'.cell? ⟨gb409, 4, none⟩ = some (.string a0_4) ∧ w'.cell? (ad438.add ((t437).toNat * 6)) = some (.int .i64 ((rd_T25 l0_1 t437).f0)) ∧ w'.cell? ⟨(ad438.add ((t437).toNat * 6)).block, (ad438.add ((t437).toNat * 6)).off + 1, none⟩ = some (.int .i64 ((rd_T25 l0_1 t437).f1)) ∧ w'.cell? ⟨(ad438.add ((t437).toNat * 6)).block, (ad438.add ((t437).toNat * 6)).off + 2, none⟩ = some (.string ((rd_T25 l0_1 t437).f2)) ∧ w'.cell? ⟨(ad438.add ((t437).toNat * 6)).block, (ad438.add ((t437).toNat * 6)).off + 3, none⟩ = some (.string ((rd_T25 l0_1 t437).f3)) ∧ w'.cell? ⟨(ad438.add ((t437).toNat * 6)).block, (ad438.add ((t437).toNat * 6)).off + 4, none⟩ = some (.int .i64 ((rd_T25 l0_1 t437).f4)) ∧ w'.cell? ⟨(ad438.add ((t437).toNat * 6)).block, (ad438.add ((t437).toNat * 6)).off + 5, none⟩ = some (.bool ((rd_T25 l0_1 t437).f5))) (ds := []) #[O,O,O,O,O,O,O,O] (by kernel_rfl) rfl rfl ⟨(blk_cell BK409.out 0).trans rfl, (blk_cell BK409.out 1).trans rfl, (blk_cell BK409.out 2).trans rfl, (blk_cell BK409.out 3).trans rfl, (blk_cell BK409.out 4).trans rfl, ((HB.out.cell (World.block_lt_of_cell? w _ hw438_0)).trans hw438_0), ((HB.out.cell (World.block_lt_of_cell? w _ hw438_1)).trans hw438_1), ((HB.out.cell (World.block_lt_of_cell? w _ hw438_2)).trans hw438_2), ((HB.out.cell (World.block_lt_of_cell? w _ hw438_3)).trans hw438_3), ((HB.out.cell (World.block_lt_of_cell? w _ hw438_4)).trans hw438_4), ((HB.out.cell (World.block_lt_of_cell? w _ hw438_5)).trans hw438_5)⟩ (fun hHeld => ?_); refine with_tabW fairwaylaw11_SegFinds.tab18 fairwaylaw11_SegFinds.bits18 (fun HT_ HW_ => ?_)
                    generalize w67.drew = w68 at BK409 BK421 BK430 BK431 BK432 HB hx438_0 hx438_1 hx438_2 hx438_3 hx438_4 hx438_5 hHeld ⊢
                    refine pz (i := 0) (N := some 81) #[I,O,O,O,O,O,O,O] ?_
                    refine pz (i := 1) (N := some 82) #[I,I,O,O,O,O,O,O] ?_
                    refine pz (i := 3) (N := some 84) #[I,I,O,I,O,O,O,O] ?_
                    refine pz (i := 6) (N := some 10) #[I,I,O,I,O,O,I,O] ?_
                    refine tz (i := 2) (N := some 83) #[I,I,I,I,O,O,I,O] ?_
                    refine pz (i := 4) (N := some 85) #[I,I,I,I,I,O,I,O] ?_
                    refine tz (i := 5) (N := some 86) #[I,I,I,I,I,I,I,O] ?_
                    refine one_ (i := 7) (N := none) #[I,I,I,I,I,I,I,I] rfl rfl (one_of HT_.out (by kernel_rfl)) (by decide) (fun K hK => ?_)
                    have hs69 : w68.cell? ⟨gb432, 0, none⟩ = some (.int .i64 0) := (blk_cell BK432.out 0).trans rfl
                    have hfs69 := blk_frozen BK432.out 0
                    have hns69_0 := NB409_432.out
                    have hns69_1 := NB421_432.out
                    have hns69_2 := NB430_432.out
                    have hns69_3 := NB431_432.out
                    have hms69_0 := NB432_409.out
                    have hms69_1 := NB432_421.out
                    have hms69_2 := NB432_430.out
                    have hms69_3 := NB432_431.out
                    have hs70 : w68.cell? ⟨gb432, 1, none⟩ = some (.int .i64 0) := (blk_cell BK432.out 1).trans rfl
                    have hfs70 := blk_frozen BK432.out 1
                    have hns70_0 := NB409_432.out
                    have hns70_1 := NB421_432.out
                    have hns70_2 := NB430_432.out
                    have hns70_3 := NB431_432.out
                    have hms70_0 := NB432_409.out
                    have hms70_1 := NB432_421.out
                    have hms70_2 := NB432_430.out
                    have hms70_3 := NB432_431.out
                    have hs71 : w68.cell? ⟨gb432, 2, none⟩ = some (.string (⟨#[]⟩ : ByteArray)) := (blk_cell BK432.out 2).trans rfl
                    have hfs71 := blk_frozen BK432.out 2
                    have hns71_0 := NB409_432.out
                    have hns71_1 := NB421_432.out
                    have hns71_2 := NB430_432.out
                    have hns71_3 := NB431_432.out
                    have hms71_0 := NB432_409.out
                    have hms71_1 := NB432_421.out
                    have hms71_2 := NB432_430.out
                    have hms71_3 := NB432_431.out
                    have hs72 : w68.cell? ⟨gb432, 3, none⟩ = some (.string (⟨#[]⟩ : ByteArray)) := (blk_cell BK432.out 3).trans rfl
                    have hfs72 := blk_frozen BK432.out 3
                    have hns72_0 := NB409_432.out
                    have hns72_1 := NB421_432.out
                    have hns72_2 := NB430_432.out
                    have hns72_3 := NB431_432.out
                    have hms72_0 := NB432_409.out
                    have hms72_1 := NB432_421.out
                    have hms72_2 := NB432_430.out
                    have hms72_3 := NB432_431.out
                    have hs73 : w68.cell? ⟨gb432, 4, none⟩ = some (.int .i64 0) := (blk_cell BK432.out 4).trans rfl
                    have hfs73 := blk_frozen BK432.out 4
                    have hns73_0 := NB409_432.out
                    have hns73_1 := NB421_432.out
                    have hns73_2 := NB430_432.out
                    have hns73_3 := NB431_432.out
                    have hms73_0 := NB432_409.out
                    have hms73_1 := NB432_421.out
                    have hms73_2 := NB432_430.out
                    have hms73_3 := NB432_431.out
                    have hs74 : w68.cell? ⟨gb432, 5, none⟩ = some (.bool false) := (blk_cell BK432.out 5).trans rfl
                    have hfs74 := blk_frozen BK432.out 5
                    have hns74_0 := NB409_432.out
                    have hns74_1 := NB421_432.out
                    have hns74_2 := NB430_432.out
                    have hns74_3 := NB431_432.out
                    have hms74_0 := NB432_409.out
                    have hms74_1 := NB432_421.out
                    have hms74_2 := NB432_430.out
                    have hms74_3 := NB432_431.out
                    refine skip_ (w1 := ?_) (by rfl) rfl ?_ ?_
                    rotate_left
                    ·go_simp
                     rfl
                    refine hK.out _ _ ⟨((cell_far (p := ⟨gb432, _, none⟩) NB409_432.out _).trans (((cell_far (p := ⟨gb432, _, none⟩) NB409_432.out _).trans (((cell_far (p := ⟨gb432, _, none⟩) NB409_432.out _).trans (((cell_far (p := ⟨gb432, _, none⟩) NB409_432.out _).trans (((cell_far (p := ⟨gb432, _, none⟩) NB409_432.out _).trans (((cell_far (p := ⟨gb432, _, none⟩) NB409_432.out _).trans (hHeld.1)))))))))))), ((cell_far (p := ⟨gb432, _, none⟩) NB409_432.out _).trans (((cell_far (p := ⟨gb432, _, none⟩) NB409_432.out _).trans (((cell_far (p := ⟨gb432, _, none⟩) NB409_432.out _).trans (((cell_far (p := ⟨gb432, _, none⟩) NB409_432.out _).trans (((cell_far (p := ⟨gb432, _, none⟩) NB409_432.out _).trans (((cell_far (p := ⟨gb432, _, none⟩) NB409_432.out _).trans (hHeld.2.1)))))))))))), ((cell_far (p := ⟨gb432, _, none⟩) NB409_432.out _).trans (((cell_far (p := ⟨gb432, _, none⟩) NB409_432.out _).trans (((cell_far (p := ⟨gb432, _, none⟩) NB409_432.out _).trans (((cell_far (p := ⟨gb432, _, none⟩) NB409_432.out _).trans (((cell_far (p := ⟨gb432, _, none⟩) NB409_432.out _).trans (((cell_far (p := ⟨gb432, _, none⟩) NB409_432.out _).trans (hHeld.2.2.1)))))))))))), ((cell_far (p := ⟨gb432, _, none⟩) NB409_432.out _).trans (((cell_far (p := ⟨gb432, _, none⟩) NB409_432.out _).trans (((cell_far (p := ⟨gb432, _, none⟩) NB409_432.out _).trans (((cell_far (p := ⟨gb432, _, none⟩) NB409_432.out _).trans (((cell_far (p := ⟨gb432, _, none⟩) NB409_432.out _).trans (((cell_far (p := ⟨gb432, _, none⟩) NB409_432.out _).trans (hHeld.2.2.2.1)))))))))))), ((cell_far (p := ⟨gb432, _, none⟩) NB409_432.out _).trans (((cell_far (p := ⟨gb432, _, none⟩) NB409_432.out _).trans (((cell_far (p := ⟨gb432, _, none⟩) NB409_432.out _).trans (((cell_far (p := ⟨gb432, _, none⟩) NB409_432.out _).trans (((cell_far (p := ⟨gb432, _, none⟩) NB409_432.out _).trans (((cell_far (p := ⟨gb432, _, none⟩) NB409_432.out _).trans (hHeld.2.2.2.2.1)))))))))))), ((cell_far (p := ⟨gb432, _, none⟩) (by first | exact Nat.ne_of_lt (Nat.lt_of_lt_of_le (by have := World.block_lt_of_cell? _ _ hw438_0; first | rwa [add_block] at this | exact this) GW432.out) | (rw [add_block]; exact Nat.ne_of_lt (Nat.lt_of_lt_of_le (by have := World.block_lt_of_cell? _ _ hw438_0; first | rwa [add_block] at this | exact this) GW432.out)) | (show (Addr.add _ _).block ≠ _; rw [add_block]; exact Nat.ne_of_lt (Nat.lt_of_lt_of_le (by have := World.block_lt_of_cell? _ _ hw438_0; first | rwa [add_block] at this | exact this) GW432.out)) | (dsimp only; exact Nat.ne_of_lt (Nat.lt_of_lt_of_le (by have := World.block_lt_of_cell? _ _ hw438_0; first | rwa [add_block] at this | exact this) GW432.out))) _).trans (((cell_far (p := ⟨gb432, _, none⟩) (by first | exact Nat.ne_of_lt (Nat.lt_of_lt_of_le (by have := World.block_lt_of_cell? _ _ hw438_0; first | rwa [add_block] at this | exact this) GW432.out) | (rw [add_block]; exact Nat.ne_of_lt (Nat.lt_of_lt_of_le (by have := World.block_lt_of_cell? _ _ hw438_0; first | rwa [add_block] at this | exact this) GW432.out)) | (show (Addr.add _ _).block ≠ _; rw [add_block]; exact Nat.ne_of_lt (Nat.lt_of_lt_of_le (by have := World.block_lt_of_cell? _ _ hw438_0; first | rwa [add_block] at this | exact this) GW432.out)) | (dsimp only; exact Nat.ne_of_lt (Nat.lt_of_lt_of_le (by have := World.block_lt_of_cell? _ _ hw438_0; first | rwa [add_block] at this | exact this) GW432.out))) _).trans (((cell_far (p := ⟨gb432, _, none⟩) (by first | exact Nat.ne_of_lt (Nat.lt_of_lt_of_le (by have := World.block_lt_of_cell? _ _ hw438_0; first | rwa [add_block] at this | exact this) GW432.out) | (rw [add_block]; exact Nat.ne_of_lt (Nat.lt_of_lt_of_le (by have := World.block_lt_of_cell? _ _ hw438_0; first | rwa [add_block] at this | exact this) GW432.out)) | (show (Addr.add _ _).block ≠ _; rw [add_block]; exact Nat.ne_of_lt (Nat.lt_of_lt_of_le (by have := World.block_lt_of_cell? _ _ hw438_0; first | rwa [add_block] at this | exact this) GW432.out)) | (dsimp only; exact Nat.ne_of_lt (Nat.lt_of_lt_of_le (by have := World.block_lt_of_cell? _ _ hw438_0; first | rwa [add_block] at this | exact this) GW432.out))) _).trans (((cell_far (p := ⟨gb432, _, none⟩) (by first | exact Nat.ne_of_lt (Nat.lt_of_lt_of_le (by have := World.block_lt_of_cell? _ _ hw438_0; first | rwa [add_block] at this | exact this) GW432.out) | (rw [add_block]; exact Nat.ne_of_lt (Nat.lt_of_lt_of_le (by have := World.block_lt_of_cell? _ _ hw438_0; first | rwa [add_block] at this | exact this) GW432.out)) | (show (Addr.add _ _).block ≠ _; rw [add_block]; exact Nat.ne_of_lt (Nat.lt_of_lt_of_le (by have := World.block_lt_of_cell? _ _ hw438_0; first | rwa [add_block] at this | exact this) GW432.out)) | (dsimp only; exact Nat.ne_of_lt (Nat.lt_of_lt_of_le (by have := World.block_lt_of_cell? _ _ hw438_0; first | rwa [add_block] at this | exact this) GW432.out))) _).trans (((cell_far (p := ⟨gb432, _, none⟩) (by first | exact Nat.ne_of_lt (Nat.lt_of_lt_of_le (by have := World.block_lt_of_cell? _ _ hw438_0; first | rwa [add_block] at this | exact this) GW432.out) | (rw [add_block]; exact Nat.ne_of_lt (Nat.lt_of_lt_of_le (by have := World.block_lt_of_cell? _ _ hw438_0; first | rwa [add_block] at this | exact this) GW432.out)) | (show (Addr.add _ _).block ≠ _; rw [add_block]; exact Nat.ne_of_lt (Nat.lt_of_lt_of_le (by have := World.block_lt_of_cell? _ _ hw438_0; first | rwa [add_block] at this | exact this) GW432.out)) | (dsimp only; exact Nat.ne_of_lt (Nat.lt_of_lt_of_le (by have := World.block_lt_of_cell? _ _ hw438_0; first | rwa [add_block] at this | exact this) GW432.out))) _).trans (((cell_far (p := ⟨gb432, _, none⟩) (by first | exact Nat.ne_of_lt (Nat.lt_of_lt_of_le (by have := World.block_lt_of_cell? _ _ hw438_0; first | rwa [add_block] at this | exact this) GW432.out) | (rw [add_block]; exact Nat.ne_of_lt (Nat.lt_of_lt_of_le (by have := World.block_lt_of_cell? _ _ hw438_0; first | rwa [add_block] at this | exact this) GW432.out)) | (show (Addr.add _ _).block ≠ _; rw [add_block]; exact Nat.ne_of_lt (Nat.lt_of_lt_of_le (by have := World.block_lt_of_cell? _ _ hw438_0; first | rwa [add_block] at this | exact this) GW432.out)) | (dsimp only; exact Nat.ne_of_lt (Nat.lt_of_lt_of_le (by have := World.block_lt_of_cell? _ _ hw438_0; first | rwa [add_block] at this | exact this) GW432.out))) _).trans (hHeld.2.2.2.2.2.1)))))))))))), ((cell_far (p := ⟨gb432, _, none⟩) (by first | exact Nat.ne_of_lt (Nat.lt_of_lt_of_le (by have := World.block_lt_of_cell? _ _ hw438_1; first | rwa [add_block] at this | exact this) GW432.out) | (rw [add_block]; exact Nat.ne_of_lt (Nat.lt_of_lt_of_le (by have := World.block_lt_of_cell? _ _ hw438_1; first | rwa [add_block] at this | exact this) GW432.out)) | (show (Addr.add _ _).block ≠ _; rw [add_block]; exact Nat.ne_of_lt (Nat.lt_of_lt_of_le (by have := World.block_lt_of_cell? _ _ hw438_1; first | rwa [add_block] at this | exact this) GW432.out)) | (dsimp only; exact Nat.ne_of_lt (Nat.lt_of_lt_of_le (by have := World.block_lt_of_cell? _ _ hw438_1; first | rwa [add_block] at this | exact this) GW432.out))) _).trans (((cell_far (p := ⟨gb432, _, none⟩) (by first | exact Nat.ne_of_lt (Nat.lt_of_lt_of_le (by have := World.block_lt_of_cell? _ _ hw438_1; first | rwa [add_block] at this | exact this) GW432.out) | (rw [add_block]; exact Nat.ne_of_lt (Nat.lt_of_lt_of_le (by have := World.block_lt_of_cell? _ _ hw438_1; first | rwa [add_block] at this | exact this) GW432.out)) | (show (Addr.add _ _).block ≠ _; rw [add_block]; exact Nat.ne_of_lt (Nat.lt_of_lt_of_le (by have := World.block_lt_of_cell? _ _ hw438_1; first | rwa [add_block] at this | exact this) GW432.out)) | (dsimp only; exact Nat.ne_of_lt (Nat.lt_of_lt_of_le (by have := World.block_lt_of_cell? _ _ hw438_1; first | rwa [add_block] at this | exact this) GW432.out))) _).trans (((cell_far (p := ⟨gb432, _, none⟩) (by first | exact Nat.ne_of_lt (Nat.lt_of_lt_of_le (by have := World.block_lt_of_cell? _ _ hw438_1; first | rwa [add_block] at this | exact this) GW432.out) | (rw [add_block]; exact Nat.ne_of_lt (Nat.lt_of_lt_of_le (by have := World.block_lt_of_cell? _ _ hw438_1; first | rwa [add_block] at this | exact this) GW432.out)) | (show (Addr.add _ _).block ≠ _; rw [add_block]; exact Nat.ne_of_lt (Nat.lt_of_lt_of_le (by have := World.block_lt_of_cell? _ _ hw438_1; first | rwa [add_block] at this | exact this) GW432.out)) | (dsimp only; exact Nat.ne_of_lt (Nat.lt_of_lt_of_le (by have := World.block_lt_of_cell? _ _ hw438_1; first | rwa [add_block] at this | exact this) GW432.out))) _).trans (((cell_far (p := ⟨gb432, _, none⟩) (by first | exact Nat.ne_of_lt (Nat.lt_of_lt_of_le (by have := World.block_lt_of_cell? _ _ hw438_1; first | rwa [add_block] at this | exact this) GW432.out) | (rw [add_block]; exact Nat.ne_of_lt (Nat.lt_of_lt_of_le (by have := World.block_lt_of_cell? _ _ hw438_1; first | rwa [add_block] at this | exact this) GW432.out)) | (show (Addr.add _ _).block ≠ _; rw [add_block]; exact Nat.ne_of_lt (Nat.lt_of_lt_of_le (by have := World.block_lt_of_cell? _ _ hw438_1; first | rwa [add_block] at this | exact this) GW432.out)) | (dsimp only; exact Nat.ne_of_lt (Nat.lt_of_lt_of_le (by have := World.block_lt_of_cell? _ _ hw438_1; first | rwa [add_block] at this | exact this) GW432.out))) _).trans (((cell_far (p := ⟨gb432, _, none⟩) (by first | exact Nat.ne_of_lt (Nat.lt_of_lt_of_le (by have := World.block_lt_of_cell? _ _ hw438_1; first | rwa [add_block] at this | exact this) GW432.out) | (rw [add_block]; exact Nat.ne_of_lt (Nat.lt_of_lt_of_le (by have := World.block_lt_of_cell? _ _ hw438_1; first | rwa [add_block] at this | exact this) GW432.out)) | (show (Addr.add _ _).block ≠ _; rw [add_block]; exact Nat.ne_of_lt (Nat.lt_of_lt_of_le (by have := World.block_lt_of_cell? _ _ hw438_1; first | rwa [add_block] at this | exact this) GW432.out)) | (dsimp only; exact Nat.ne_of_lt (Nat.lt_of_lt_of_le (by have := World.block_lt_of_cell? _ _ hw438_1; first | rwa [add_block] at this | exact this) GW432.out))) _).trans (((cell_far (p := ⟨gb432, _, none⟩) (by first | exact Nat.ne_of_lt (Nat.lt_of_lt_of_le (by have := World.block_lt_of_cell? _ _ hw438_1; first | rwa [add_block] at this | exact this) GW432.out) | (rw [add_block]; exact Nat.ne_of_lt (Nat.lt_of_lt_of_le (by have := World.block_lt_of_cell? _ _ hw438_1; first | rwa [add_block] at this | exact this) GW432.out)) | (show (Addr.add _ _).block ≠ _; rw [add_block]; exact Nat.ne_of_lt (Nat.lt_of_lt_of_le (by have := World.block_lt_of_cell? _ _ hw438_1; first | rwa [add_block] at this | exact this) GW432.out)) | (dsimp only; exact Nat.ne_of_lt (Nat.lt_of_lt_of_le (by have := World.block_lt_of_cell? _ _ hw438_1; first | rwa [add_block] at this | exact this) GW432.out))) _).trans (hHeld.2.2.2.2.2.2.1)))))))))))), ((cell_far (p := ⟨gb432, _, none⟩) (by first | exact Nat.ne_of_lt (Nat.lt_of_lt_of_le (by have := World.block_lt_of_cell? _ _ hw438_2; first | rwa [add_block] at this | exact this) GW432.out) | (rw [add_block]; exact Nat.ne_of_lt (Nat.lt_of_lt_of_le (by have := World.block_lt_of_cell? _ _ hw438_2; first | rwa [add_block] at this | exact this) GW432.out)) | (show (Addr.add _ _).block ≠ _; rw [add_block]; exact Nat.ne_of_lt (Nat.lt_of_lt_of_le (by have := World.block_lt_of_cell? _ _ hw438_2; first | rwa [add_block] at this | exact this) GW432.out)) | (dsimp only; exact Nat.ne_of_lt (Nat.lt_of_lt_of_le (by have := World.block_lt_of_cell? _ _ hw438_2; first | rwa [add_block] at this | exact this) GW432.out))) _).trans (((cell_far (p := ⟨gb432, _, none⟩) (by first | exact Nat.ne_of_lt (Nat.lt_of_lt_of_le (by have := World.block_lt_of_cell? _ _ hw438_2; first | rwa [add_block] at this | exact this) GW432.out) | (rw [add_block]; exact Nat.ne_of_lt (Nat.lt_of_lt_of_le (by have := World.block_lt_of_cell? _ _ hw438_2; first | rwa [add_block] at this | exact this) GW432.out)) | (show (Addr.add _ _).block ≠ _; rw [add_block]; exact Nat.ne_of_lt (Nat.lt_of_lt_of_le (by have := World.block_lt_of_cell? _ _ hw438_2; first | rwa [add_block] at this | exact this) GW432.out)) | (dsimp only; exact Nat.ne_of_lt (Nat.lt_of_lt_of_le (by have := World.block_lt_of_cell? _ _ hw438_2; first | rwa [add_block] at this | exact this) GW432.out))) _).trans (((cell_far (p := ⟨gb432, _, none⟩) (by first | exact Nat.ne_of_lt (Nat.lt_of_lt_of_le (by have := World.block_lt_of_cell? _ _ hw438_2; first | rwa [add_block] at this | exact this) GW432.out) | (rw [add_block]; exact Nat.ne_of_lt (Nat.lt_of_lt_of_le (by have := World.block_lt_of_cell? _ _ hw438_2; first | rwa [add_block] at this | exact this) GW432.out)) | (show (Addr.add _ _).block ≠ _; rw [add_block]; exact Nat.ne_of_lt (Nat.lt_of_lt_of_le (by have := World.block_lt_of_cell? _ _ hw438_2; first | rwa [add_block] at this | exact this) GW432.out)) | (dsimp only; exact Nat.ne_of_lt (Nat.lt_of_lt_of_le (by have := World.block_lt_of_cell? _ _ hw438_2; first | rwa [add_block] at this | exact this) GW432.out))) _).trans (((cell_far (p := ⟨gb432, _, none⟩) (by first | exact Nat.ne_of_lt (Nat.lt_of_lt_of_le (by have := World.block_lt_of_cell? _ _ hw438_2; first | rwa [add_block] at this | exact this) GW432.out) | (rw [add_block]; exact Nat.ne_of_lt (Nat.lt_of_lt_of_le (by have := World.block_lt_of_cell? _ _ hw438_2; first | rwa [add_block] at this | exact this) GW432.out)) | (show (Addr.add _ _).block ≠ _; rw [add_block]; exact Nat.ne_of_lt (Nat.lt_of_lt_of_le (by have := World.block_lt_of_cell? _ _ hw438_2; first | rwa [add_block] at this | exact this) GW432.out)) | (dsimp only; exact Nat.ne_of_lt (Nat.lt_of_lt_of_le (by have := World.block_lt_of_cell? _ _ hw438_2; first | rwa [add_block] at this | exact this) GW432.out))) _).trans (((cell_far (p := ⟨gb432, _, none⟩) (by first | exact Nat.ne_of_lt (Nat.lt_of_lt_of_le (by have := World.block_lt_of_cell? _ _ hw438_2; first | rwa [add_block] at this | exact this) GW432.out) | (rw [add_block]; exact Nat.ne_of_lt (Nat.lt_of_lt_of_le (by have := World.block_lt_of_cell? _ _ hw438_2; first | rwa [add_block] at this | exact this) GW432.out)) | (show (Addr.add _ _).block ≠ _; rw [add_block]; exact Nat.ne_of_lt (Nat.lt_of_lt_of_le (by have := World.block_lt_of_cell? _ _ hw438_2; first | rwa [add_block] at this | exact this) GW432.out)) | (dsimp only; exact Nat.ne_of_lt (Nat.lt_of_lt_of_le (by have := World.block_lt_of_cell? _ _ hw438_2; first | rwa [add_block] at this | exact this) GW432.out))) _).trans (((cell_far (p := ⟨gb432, _, none⟩) (by first | exact Nat.ne_of_lt (Nat.lt_of_lt_of_le (by have := World.block_lt_of_cell? _ _ hw438_2; first | rwa [add_block] at this | exact this) GW432.out) | (rw [add_block]; exact Nat.ne_of_lt (Nat.lt_of_lt_of_le (by have := World.block_lt_of_cell? _ _ hw438_2; first | rwa [add_block] at this | exact this) GW432.out)) | (show (Addr.add _ _).block ≠ _; rw [add_block]; exact Nat.ne_of_lt (Nat.lt_of_lt_of_le (by have := World.block_lt_of_cell? _ _ hw438_2; first | rwa [add_block] at this | exact this) GW432.out)) | (dsimp only; exact Nat.ne_of_lt (Nat.lt_of_lt_of_le (by have := World.block_lt_of_cell? _ _ hw438_2; first | rwa [add_block] at this | exact this) GW432.out))) _).trans (hHeld.2.2.2.2.2.2.2.1)))))))))))), ((cell_far (p := ⟨gb432, _, none⟩) (by first | exact Nat.ne_of_lt (Nat.lt_of_lt_of_le (by have := World.block_lt_of_cell? _ _ hw438_3; first | rwa [add_block] at this | exact this) GW432.out) | (rw [add_block]; exact Nat.ne_of_lt (Nat.lt_of_lt_of_le (by have := World.block_lt_of_cell? _ _ hw438_3; first | rwa [add_block] at this | exact this) GW432.out)) | (show (Addr.add _ _).block ≠ _; rw [add_block]; exact Nat.ne_of_lt (Nat.lt_of_lt_of_le (by have := World.block_lt_of_cell? _ _ hw438_3; first | rwa [add_block] at this | exact this) GW432.out)) | (dsimp only; exact Nat.ne_of_lt (Nat.lt_of_lt_of_le (by have := World.block_lt_of_cell? _ _ hw438_3; first | rwa [add_block] at this | exact this) GW432.out))) _).trans (((cell_far (p := ⟨gb432, _, none⟩) (by first | exact Nat.ne_of_lt (Nat.lt_of_lt_of_le (by have := World.block_lt_of_cell? _ _ hw438_3; first | rwa [add_block] at this | exact this) GW432.out) | (rw [add_block]; exact Nat.ne_of_lt (Nat.lt_of_lt_of_le (by have := World.block_lt_of_cell? _ _ hw438_3; first | rwa [add_block] at this | exact this) GW432.out)) | (show (Addr.add _ _).block ≠ _; rw [add_block]; exact Nat.ne_of_lt (Nat.lt_of_lt_of_le (by have := World.block_lt_of_cell? _ _ hw438_3; first | rwa [add_block] at this | exact this) GW432.out)) | (dsimp only; exact Nat.ne_of_lt (Nat.lt_of_lt_of_le (by have := World.block_lt_of_cell? _ _ hw438_3; first | rwa [add_block] at this | exact this) GW432.out))) _).trans (((cell_far (p := ⟨gb432, _, none⟩) (by first | exact Nat.ne_of_lt (Nat.lt_of_lt_of_le (by have := World.block_lt_of_cell? _ _ hw438_3; first | rwa [add_block] at this | exact this) GW432.out) | (rw [add_block]; exact Nat.ne_of_lt (Nat.lt_of_lt_of_le (by have := World.block_lt_of_cell? _ _ hw438_3; first | rwa [add_block] at this | exact this) GW432.out)) | (show (Addr.add _ _).block ≠ _; rw [add_block]; exact Nat.ne_of_lt (Nat.lt_of_lt_of_le (by have := World.block_lt_of_cell? _ _ hw438_3; first | rwa [add_block] at this | exact this) GW432.out)) | (dsimp only; exact Nat.ne_of_lt (Nat.lt_of_lt_of_le (by have := World.block_lt_of_cell? _ _ hw438_3; first | rwa [add_block] at this | exact this) GW432.out))) _).trans (((cell_far (p := ⟨gb432, _, none⟩) (by first | exact Nat.ne_of_lt (Nat.lt_of_lt_of_le (by have := World.block_lt_of_cell? _ _ hw438_3; first | rwa [add_block] at this | exact this) GW432.out) | (rw [add_block]; exact Nat.ne_of_lt (Nat.lt_of_lt_of_le (by have := World.block_lt_of_cell? _ _ hw438_3; first | rwa [add_block] at this | exact this) GW432.out)) | (show (Addr.add _ _).block ≠ _; rw [add_block]; exact Nat.ne_of_lt (Nat.lt_of_lt_of_le (by have := World.block_lt_of_cell? _ _ hw438_3; first | rwa [add_block] at this | exact this) GW432.out)) | (dsimp only; exact Nat.ne_of_lt (Nat.lt_of_lt_of_le (by have := World.block_lt_of_cell? _ _ hw438_3; first | rwa [add_block] at this | exact this) GW432.out))) _).trans (((cell_far (p := ⟨gb432, _, none⟩) (by first | exact Nat.ne_of_lt (Nat.lt_of_lt_of_le (by have := World.block_lt_of_cell? _ _ hw438_3; first | rwa [add_block] at this | exact this) GW432.out) | (rw [add_block]; exact Nat.ne_of_lt (Nat.lt_of_lt_of_le (by have := World.block_lt_of_cell? _ _ hw438_3; first | rwa [add_block] at this | exact this) GW432.out)) | (show (Addr.add _ _).block ≠ _; rw [add_block]; exact Nat.ne_of_lt (Nat.lt_of_lt_of_le (by have := World.block_lt_of_cell? _ _ hw438_3; first | rwa [add_block] at this | exact this) GW432.out)) | (dsimp only; exact Nat.ne_of_lt (Nat.lt_of_lt_of_le (by have := World.block_lt_of_cell? _ _ hw438_3; first | rwa [add_block] at this | exact this) GW432.out))) _).trans (((cell_far (p := ⟨gb432, _, none⟩) (by first | exact Nat.ne_of_lt (Nat.lt_of_lt_of_le (by have := World.block_lt_of_cell? _ _ hw438_3; first | rwa [add_block] at this | exact this) GW432.out) | (rw [add_block]; exact Nat.ne_of_lt (Nat.lt_of_lt_of_le (by have := World.block_lt_of_cell? _ _ hw438_3; first | rwa [add_block] at this | exact this) GW432.out)) | (show (Addr.add _ _).block ≠ _; rw [add_block]; exact Nat.ne_of_lt (Nat.lt_of_lt_of_le (by have := World.block_lt_of_cell? _ _ hw438_3; first | rwa [add_block] at this | exact this) GW432.out)) | (dsimp only; exact Nat.ne_of_lt (Nat.lt_of_lt_of_le (by have := World.block_lt_of_cell? _ _ hw438_3; first | rwa [add_block] at this | exact this) GW432.out))) _).trans (hHeld.2.2.2.2.2.2.2.2.1)))))))))))), ((cell_far (p := ⟨gb432, _, none⟩) (by first | exact Nat.ne_of_lt (Nat.lt_of_lt_of_le (by have := World.block_lt_of_cell? _ _ hw438_4; first | rwa [add_block] at this | exact this) GW432.out) | (rw [add_block]; exact Nat.ne_of_lt (Nat.lt_of_lt_of_le (by have := World.block_lt_of_cell? _ _ hw438_4; first | rwa [add_block] at this | exact this) GW432.out)) | (show (Addr.add _ _).block ≠ _; rw [add_block]; exact Nat.ne_of_lt (Nat.lt_of_lt_of_le (by have := World.block_lt_of_cell? _ _ hw438_4; first | rwa [add_block] at this | exact this) GW432.out)) | (dsimp only; exact Nat.ne_of_lt (Nat.lt_of_lt_of_le (by have := World.block_lt_of_cell? _ _ hw438_4; first | rwa [add_block] at this | exact this) GW432.out))) _).trans (((cell_far (p := ⟨gb432, _, none⟩) (by first | exact Nat.ne_of_lt (Nat.lt_of_lt_of_le (by have := World.block_lt_of_cell? _ _ hw438_4; first | rwa [add_block] at this | exact this) GW432.out) | (rw [add_block]; exact Nat.ne_of_lt (Nat.lt_of_lt_of_le (by have := World.block_lt_of_cell? _ _ hw438_4; first | rwa [add_block] at this | exact this) GW432.out)) | (show (Addr.add _ _).block ≠ _; rw [add_block]; exact Nat.ne_of_lt (Nat.lt_of_lt_of_le (by have := World.block_lt_of_cell? _ _ hw438_4; first | rwa [add_block] at this | exact this) GW432.out)) | (dsimp only; exact Nat.ne_of_lt (Nat.lt_of_lt_of_le (by have := World.block_lt_of_cell? _ _ hw438_4; first | rwa [add_block] at this | exact this) GW432.out))) _).trans (((cell_far (p := ⟨gb432, _, none⟩) (by first | exact Nat.ne_of_lt (Nat.lt_of_lt_of_le (by have := World.block_lt_of_cell? _ _ hw438_4; first | rwa [add_block] at this | exact this) GW432.out) | (rw [add_block]; exact Nat.ne_of_lt (Nat.lt_of_lt_of_le (by have := World.block_lt_of_cell? _ _ hw438_4; first | rwa [add_block] at this | exact this) GW432.out)) | (show (Addr.add _ _).block ≠ _; rw [add_block]; exact Nat.ne_of_lt (Nat.lt_of_lt_of_le (by have := World.block_lt_of_cell? _ _ hw438_4; first | rwa [add_block] at this | exact this) GW432.out)) | (dsimp only; exact Nat.ne_of_lt (Nat.lt_of_lt_of_le (by have := World.block_lt_of_cell? _ _ hw438_4; first | rwa [add_block] at this | exact this) GW432.out))) _).trans (((cell_far (p := ⟨gb432, _, none⟩) (by first | exact Nat.ne_of_lt (Nat.lt_of_lt_of_le (by have := World.block_lt_of_cell? _ _ hw438_4; first | rwa [add_block] at this | exact this) GW432.out) | (rw [add_block]; exact Nat.ne_of_lt (Nat.lt_of_lt_of_le (by have := World.block_lt_of_cell? _ _ hw438_4; first | rwa [add_block] at this | exact this) GW432.out)) | (show (Addr.add _ _).block ≠ _; rw [add_block]; exact Nat.ne_of_lt (Nat.lt_of_lt_of_le (by have := World.block_lt_of_cell? _ _ hw438_4; first | rwa [add_block] at this | exact this) GW432.out)) | (dsimp only; exact Nat.ne_of_lt (Nat.lt_of_lt_of_le (by have := World.block_lt_of_cell? _ _ hw438_4; first | rwa [add_block] at this | exact this) GW432.out))) _).trans (((cell_far (p := ⟨gb432, _, none⟩) (by first | exact Nat.ne_of_lt (Nat.lt_of_lt_of_le (by have := World.block_lt_of_cell? _ _ hw438_4; first | rwa [add_block] at this | exact this) GW432.out) | (rw [add_block]; exact Nat.ne_of_lt (Nat.lt_of_lt_of_le (by have := World.block_lt_of_cell? _ _ hw438_4; first | rwa [add_block] at this | exact this) GW432.out)) | (show (Addr.add _ _).block ≠ _; rw [add_block]; exact Nat.ne_of_lt (Nat.lt_of_lt_of_le (by have := World.block_lt_of_cell? _ _ hw438_4; first | rwa [add_block] at this | exact this) GW432.out)) | (dsimp only; exact Nat.ne_of_lt (Nat.lt_of_lt_of_le (by have := World.block_lt_of_cell? _ _ hw438_4; first | rwa [add_block] at this | exact this) GW432.out))) _).trans (((cell_far (p := ⟨gb432, _, none⟩) (by first | exact Nat.ne_of_lt (Nat.lt_of_lt_of_le (by have := World.block_lt_of_cell? _ _ hw438_4; first | rwa [add_block] at this | exact this) GW432.out) | (rw [add_block]; exact Nat.ne_of_lt (Nat.lt_of_lt_of_le (by have := World.block_lt_of_cell? _ _ hw438_4; first | rwa [add_block] at this | exact this) GW432.out)) | (show (Addr.add _ _).block ≠ _; rw [add_block]; exact Nat.ne_of_lt (Nat.lt_of_lt_of_le (by have := World.block_lt_of_cell? _ _ hw438_4; first | rwa [add_block] at this | exact this) GW432.out)) | (dsimp only; exact Nat.ne_of_lt (Nat.lt_of_lt_of_le (by have := World.block_lt_of_cell? _ _ hw438_4; first | rwa [add_block] at this | exact this) GW432.out))) _).trans (hHeld.2.2.2.2.2.2.2.2.2.1)))))))))))), ((cell_far (p := ⟨gb432, _, none⟩) (by first | exact Nat.ne_of_lt (Nat.lt_of_lt_of_le (by have := World.block_lt_of_cell? _ _ hw438_5; first | rwa [add_block] at this | exact this) GW432.out) | (rw [add_block]; exact Nat.ne_of_lt (Nat.lt_of_lt_of_le (by have := World.block_lt_of_cell? _ _ hw438_5; first | rwa [add_block] at this | exact this) GW432.out)) | (show (Addr.add _ _).block ≠ _; rw [add_block]; exact Nat.ne_of_lt (Nat.lt_of_lt_of_le (by have := World.block_lt_of_cell? _ _ hw438_5; first | rwa [add_block] at this | exact this) GW432.out)) | (dsimp only; exact Nat.ne_of_lt (Nat.lt_of_lt_of_le (by have := World.block_lt_of_cell? _ _ hw438_5; first | rwa [add_block] at this | exact this) GW432.out))) _).trans (((cell_far (p := ⟨gb432, _, none⟩) (by first | exact Nat.ne_of_lt (Nat.lt_of_lt_of_le (by have := World.block_lt_of_cell? _ _ hw438_5; first | rwa [add_block] at this | exact this) GW432.out) | (rw [add_block]; exact Nat.ne_of_lt (Nat.lt_of_lt_of_le (by have := World.block_lt_of_cell? _ _ hw438_5; first | rwa [add_block] at this | exact this) GW432.out)) | (show (Addr.add _ _).block ≠ _; rw [add_block]; exact Nat.ne_of_lt (Nat.lt_of_lt_of_le (by have := World.block_lt_of_cell? _ _ hw438_5; first | rwa [add_block] at this | exact this) GW432.out)) | (dsimp only; exact Nat.ne_of_lt (Nat.lt_of_lt_of_le (by have := World.block_lt_of_cell? _ _ hw438_5; first | rwa [add_block] at this | exact this) GW432.out))) _).trans (((cell_far (p := ⟨gb432, _, none⟩) (by first | exact Nat.ne_of_lt (Nat.lt_of_lt_of_le (by have := World.block_lt_of_cell? _ _ hw438_5; first | rwa [add_block] at this | exact this) GW432.out) | (rw [add_block]; exact Nat.ne_of_lt (Nat.lt_of_lt_of_le (by have := World.block_lt_of_cell? _ _ hw438_5; first | rwa [add_block] at this | exact this) GW432.out)) | (show (Addr.add _ _).block ≠ _; rw [add_block]; exact Nat.ne_of_lt (Nat.lt_of_lt_of_le (by have := World.block_lt_of_cell? _ _ hw438_5; first | rwa [add_block] at this | exact this) GW432.out)) | (dsimp only; exact Nat.ne_of_lt (Nat.lt_of_lt_of_le (by have := World.block_lt_of_cell? _ _ hw438_5; first | rwa [add_block] at this | exact this) GW432.out))) _).trans (((cell_far (p := ⟨gb432, _, none⟩) (by first | exact Nat.ne_of_lt (Nat.lt_of_lt_of_le (by have := World.block_lt_of_cell? _ _ hw438_5; first | rwa [add_block] at this | exact this) GW432.out) | (rw [add_block]; exact Nat.ne_of_lt (Nat.lt_of_lt_of_le (by have := World.block_lt_of_cell? _ _ hw438_5; first | rwa [add_block] at this | exact this) GW432.out)) | (show (Addr.add _ _).block ≠ _; rw [add_block]; exact Nat.ne_of_lt (Nat.lt_of_lt_of_le (by have := World.block_lt_of_cell? _ _ hw438_5; first | rwa [add_block] at this | exact this) GW432.out)) | (dsimp only; exact Nat.ne_of_lt (Nat.lt_of_lt_of_le (by have := World.block_lt_of_cell? _ _ hw438_5; first | rwa [add_block] at this | exact this) GW432.out))) _).trans (((cell_far (p := ⟨gb432, _, none⟩) (by first | exact Nat.ne_of_lt (Nat.lt_of_lt_of_le (by have := World.block_lt_of_cell? _ _ hw438_5; first | rwa [add_block] at this | exact this) GW432.out) | (rw [add_block]; exact Nat.ne_of_lt (Nat.lt_of_lt_of_le (by have := World.block_lt_of_cell? _ _ hw438_5; first | rwa [add_block] at this | exact this) GW432.out)) | (show (Addr.add _ _).block ≠ _; rw [add_block]; exact Nat.ne_of_lt (Nat.lt_of_lt_of_le (by have := World.block_lt_of_cell? _ _ hw438_5; first | rwa [add_block] at this | exact this) GW432.out)) | (dsimp only; exact Nat.ne_of_lt (Nat.lt_of_lt_of_le (by have := World.block_lt_of_cell? _ _ hw438_5; first | rwa [add_block] at this | exact this) GW432.out))) _).trans (((cell_far (p := ⟨gb432, _, none⟩) (by first | exact Nat.ne_of_lt (Nat.lt_of_lt_of_le (by have := World.block_lt_of_cell? _ _ hw438_5; first | rwa [add_block] at this | exact this) GW432.out) | (rw [add_block]; exact Nat.ne_of_lt (Nat.lt_of_lt_of_le (by have := World.block_lt_of_cell? _ _ hw438_5; first | rwa [add_block] at this | exact this) GW432.out)) | (show (Addr.add _ _).block ≠ _; rw [add_block]; exact Nat.ne_of_lt (Nat.lt_of_lt_of_le (by have := World.block_lt_of_cell? _ _ hw438_5; first | rwa [add_block] at this | exact this) GW432.out)) | (dsimp only; exact Nat.ne_of_lt (Nat.lt_of_lt_of_le (by have := World.block_lt_of_cell? _ _ hw438_5; first | rwa [add_block] at this | exact this) GW432.out))) _).trans (hHeld.2.2.2.2.2.2.2.2.2.2))))))))))))⟩ (fun hHeld => ?_)
                    clear hK K
                    refine done_ (done_of HT_.out (by kernel_rfl)) ?_
                    try go_wp2
                    go_meet
                    case rel => exact ⟨_, (x9_48), (0), (x432000_48), (x432001_48), (x432002_48), (x432003_48), (x432004_48), (x432005_48), ((rd_T25 l0_1 t437).f0), ((rd_T25 l0_1 t437).f1), ((rd_T25 l0_1 t437).f2), ((rd_T25 l0_1 t437).f3), ((rd_T25 l0_1 t437).f4), ((rd_T25 l0_1 t437).f5), ap, ap, H', ⟨by have := HJ2.out; have := HK2.out; have := HJ10.out; have := HJ14.out; have := HJ48.out; first | omega | exact Nat.le_refl _⟩, ⟨by (with_reducible repeat (first | refine blk_drewN ?_ _ | refine blk_drew ?_ | refine blk_alloc ?_ _)); refine blk_far ?_ NB409_432.out _; (with_reducible repeat (first | refine blk_drewN ?_ _ | refine blk_drew ?_ | refine blk_alloc ?_ _)); refine blk_far ?_ NB409_432.out _; (with_reducible repeat (first | refine blk_drewN ?_ _ | refine blk_drew ?_ | refine blk_alloc ?_ _)); refine blk_far ?_ NB409_432.out _; (with_reducible repeat (first | refine blk_drewN ?_ _ | refine blk_drew ?_ | refine blk_alloc ?_ _)); refine blk_far ?_ NB409_432.out _; (with_reducible repeat (first | refine blk_drewN ?_ _ | refine blk_drew ?_ | refine blk_alloc ?_ _)); refine blk_far ?_ NB409_432.out _; (with_reducible repeat (first | refine blk_drewN ?_ _ | refine blk_drew ?_ | refine blk_alloc ?_ _)); refine blk_far ?_ NB409_432.out _; (with_reducible repeat (first | refine blk_drewN ?_ _ | refine blk_drew ?_ | refine blk_alloc ?_ _)); exact BK409.out⟩, ⟨by (with_reducible repeat (first | refine blk_drewN ?_ _ | refine blk_drew ?_ | refine blk_alloc ?_ _)); refine blk_far ?_ NB421_432.out _; (with_reducible repeat (first | refine blk_drewN ?_ _ | refine blk_drew ?_ | refine blk_alloc ?_ _)); refine blk_far ?_ NB421_432.out _; (with_reducible repeat (first | refine blk_drewN ?_ _ | refine blk_drew ?_ | refine blk_alloc ?_ _)); refine blk_far ?_ NB421_432.out _; (with_reducible repeat (first | refine blk_drewN ?_ _ | refine blk_drew ?_ | refine blk_alloc ?_ _)); refine blk_far ?_ NB421_432.out _; (with_reducible repeat (first | refine blk_drewN ?_ _ | refine blk_drew ?_ | refine blk_alloc ?_ _)); refine blk_far ?_ NB421_432.out _; (with_reducible repeat (first | refine blk_drewN ?_ _ | refine blk_drew ?_ | refine blk_alloc ?_ _)); refine blk_far ?_ NB421_432.out _; (with_reducible repeat (first | refine blk_drewN ?_ _ | refine blk_drew ?_ | refine blk_alloc ?_ _)); exact BK421.out⟩, ⟨by (with_reducible repeat (first | refine blk_drewN ?_ _ | refine blk_drew ?_ | refine blk_alloc ?_ _)); refine blk_far ?_ NB430_432.out _; (with_reducible repeat (first | refine blk_drewN ?_ _ | refine blk_drew ?_ | refine blk_alloc ?_ _)); refine blk_far ?_ NB430_432.out _; (with_reducible repeat (first | refine blk_drewN ?_ _ | refine blk_drew ?_ | refine blk_alloc ?_ _)); refine blk_far ?_ NB430_432.out _; (with_reducible repeat (first | refine blk_drewN ?_ _ | refine blk_drew ?_ | refine blk_alloc ?_ _)); refine blk_far ?_ NB430_432.out _; (with_reducible repeat (first | refine blk_drewN ?_ _ | refine blk_drew ?_ | refine blk_alloc ?_ _)); refine blk_far ?_ NB430_432.out _; (with_reducible repeat (first | refine blk_drewN ?_ _ | refine blk_drew ?_ | refine blk_alloc ?_ _)); refine blk_far ?_ NB430_432.out _; (with_reducible repeat (first | refine blk_drewN ?_ _ | refine blk_drew ?_ | refine blk_alloc ?_ _)); exact BK430.out⟩, ⟨by (with_reducible repeat (first | refine blk_drewN ?_ _ | refine blk_drew ?_ | refine blk_alloc ?_ _)); refine blk_far ?_ NB431_432.out _; (with_reducible repeat (first | refine blk_drewN ?_ _ | refine blk_drew ?_ | refine blk_alloc ?_ _)); refine blk_far ?_ NB431_432.out _; (with_reducible repeat (first | refine blk_drewN ?_ _ | refine blk_drew ?_ | refine blk_alloc ?_ _)); refine blk_far ?_ NB431_432.out _; (with_reducible repeat (first | refine blk_drewN ?_ _ | refine blk_drew ?_ | refine blk_alloc ?_ _)); refine blk_far ?_ NB431_432.out _; (with_reducible repeat (first | refine blk_drewN ?_ _ | refine blk_drew ?_ | refine blk_alloc ?_ _)); refine blk_far ?_ NB431_432.out _; (with_reducible repeat (first | refine blk_drewN ?_ _ | refine blk_drew ?_ | refine blk_alloc ?_ _)); refine blk_far ?_ NB431_432.out _; (with_reducible repeat (first | refine blk_drewN ?_ _ | refine blk_drew ?_ | refine blk_alloc ?_ _)); exact BK431.out⟩, ⟨by (with_reducible repeat (first | refine blk_drewN ?_ _ | refine blk_drew ?_ | refine blk_alloc ?_ _)); refine blk_put (cs := #[.int .i64 ((rd_T25 l0_1 t437).f0), .int .i64 ((rd_T25 l0_1 t437).f1), .string ((rd_T25 l0_1 t437).f2), .string ((rd_T25 l0_1 t437).f3), .int .i64 ((rd_T25 l0_1 t437).f4), .bool false]) ?_ 5 _ rfl; (with_reducible repeat (first | refine blk_drewN ?_ _ | refine blk_drew ?_ | refine blk_alloc ?_ _)); refine blk_put (cs := #[.int .i64 ((rd_T25 l0_1 t437).f0), .int .i64 ((rd_T25 l0_1 t437).f1), .string ((rd_T25 l0_1 t437).f2), .string ((rd_T25 l0_1 t437).f3), .int .i64 0, .bool false]) ?_ 4 _ rfl; (with_reducible repeat (first | refine blk_drewN ?_ _ | refine blk_drew ?_ | refine blk_alloc ?_ _)); refine blk_put (cs := #[.int .i64 ((rd_T25 l0_1 t437).f0), .int .i64 ((rd_T25 l0_1 t437).f1), .string ((rd_T25 l0_1 t437).f2), .string (⟨#[]⟩ : ByteArray), .int .i64 0, .bool false]) ?_ 3 _ rfl; (with_reducible repeat (first | refine blk_drewN ?_ _ | refine blk_drew ?_ | refine blk_alloc ?_ _)); refine blk_put (cs := #[.int .i64 ((rd_T25 l0_1 t437).f0), .int .i64 ((rd_T25 l0_1 t437).f1), .string (⟨#[]⟩ : ByteArray), .string (⟨#[]⟩ : ByteArray), .int .i64 0, .bool false]) ?_ 2 _ rfl; (with_reducible repeat (first | refine blk_drewN ?_ _ | refine blk_drew ?_ | refine blk_alloc ?_ _)); refine blk_put (cs := #[.int .i64 ((rd_T25 l0_1 t437).f0), .int .i64 0, .string (⟨#[]⟩ : ByteArray), .string (⟨#[]⟩ : ByteArray), .int .i64 0, .bool false]) ?_ 1 _ rfl; (with_reducible repeat (first | refine blk_drewN ?_ _ | refine blk_drew ?_ | refine blk_alloc ?_ _)); refine blk_put (cs := #[.int .i64 0, .int .i64 0, .string (⟨#[]⟩ : ByteArray), .string (⟨#[]⟩ : ByteArray), .int .i64 0, .bool false]) ?_ 0 _ rfl; (with_reducible repeat (first | refine blk_drewN ?_ _ | refine blk_drew ?_ | refine blk_alloc ?_ _)); exact BK432.out⟩, ⟨bo⟩⟩
                   ·rw [if_neg c66] at H
                    exact absurd H (by simp)
                  ·rw [if_neg c65] at H
                   exact absurd H (by simp)
                 ·rw [if_neg c64] at H
                  have c64b0 : decide (0 ≤ t437) = false := decide_eq_false c64
                  clear c64
                  have H' := Aside0.mk H
                  clear H
                  try go_wp2
                  replace BK409 := Aside0.mk (blk_drew BK409.out)
                  replace BK421 := Aside0.mk (blk_drew BK421.out)
                  replace BK430 := Aside0.mk (blk_drew BK430.out)
                  replace BK431 := Aside0.mk (blk_drew BK431.out)
                  replace BK432 := Aside0.mk (blk_drew BK432.out)
                  replace HB := Aside0.mk (below_drew1 HB.out)
                  have p436 : 0 ≤ (x4_2 : Int) := od
                  have q436 : x4_2 < (l0_3.length : Int) := od
                  obtain ⟨ad436, e436, hx436_0⟩ := Kd.at_int HR0_3.out x4_2 p436 q436
                  have hw436_0 := hx436_0
                  obtain rfl : ad413 = ad436 := (by injection e436)
                  replace hx436_0 := cx HB.out hx436_0
                  replace p436 := eq_true p436
                  replace q436 := eq_true q436
                  refine start_ (n := 10) (S := fun w' => w'.cell? ⟨gb409, 0, none⟩ = some (.int .i64 a0_0) ∧ w'.cell? ⟨gb409, 1, none⟩ = some (.slice A0_1 l0_1.length c0_1) ∧ w'.cell? ⟨gb409, 2, none⟩ = some (.slice A0_2 l0_2.length c0_2) ∧ w'.cell? ⟨gb409, 3, none⟩ = some (.slice (some ad413) l0_3.length c0_3) ∧ w'.cell? ⟨gb409, 4, none⟩ = some (.string a0_4) ∧ w'.cell? (ad413.add (x4_2).toNat) = some (.int .i64 (rd l0_3 x4_2))) (ds := []) #[O,O,O,O,O,O,O,O,O,O] (by kernel_rfl) rfl rfl ⟨(blk_cell BK409.out 0).trans rfl, (blk_cell BK409.out 1).trans rfl, (blk_cell BK409.out 2).trans rfl, (blk_cell BK409.out 3).trans rfl, (blk_cell BK409.out 4).trans rfl, ((HB.out.cell (World.block_lt_of_cell? w _ hw436_0)).trans hw436_0)⟩ (fun hHeld => ?_); refine with_tabW fairwaylaw11_SegFinds.tab16 fairwaylaw11_SegFinds.bits16 (fun HT_ HW_ => ?_)
                  generalize wc.drew = w75 at BK409 BK421 BK430 BK431 BK432 HB hx436_0 hHeld ⊢
                  refine pz (i := 0) (N := some 70) #[I,O,O,O,O,O,O,O,O,O] ?_
                  refine pz (i := 1) (N := some 71) #[I,I,O,O,O,O,O,O,O,O] ?_
                  refine pz (i := 3) (N := some 73) #[I,I,O,I,O,O,O,O,O,O] ?_
                  refine pz (i := 5) (N := some 75) #[I,I,O,I,O,I,O,O,O,O] ?_
                  refine tz (i := 2) (N := some 72) #[I,I,I,I,O,I,O,O,O,O] ?_
                  refine tz (i := 4) (N := some 74) #[I,I,I,I,I,I,O,O,O,O] ?_
                  refine pz (i := 6) (N := some 76) #[I,I,I,I,I,I,I,O,O,O] ?_
                  refine tz (i := 7) (N := some 77) #[I,I,I,I,I,I,I,I,O,O] ?_
                  refine one_ (i := 8) (N := some 78) #[I,I,I,I,I,I,I,I,I,O] rfl rfl (one_of HT_.out (by kernel_rfl)) (by decide) (fun K hK => ?_)
                  refine goes_ Try.func35 (by kernel_rfl) rfl #[.slice A0_1 l0_1.length c0_1, .int .i64 (rd l0_3 x4_2)] (by rfl) rfl rfl aa ?_
                  with_reducible refine (fairwayref10_Since.calls kj48 _ _ l0_1 (rd l0_3 x4_2) t437 _ ?side1 ?side2 A63.out).mono ?_
                  (case side1 => repeat (first | exact (Kd.C_below HR0_1.out HB.out) | (with_reducible refine Kd.C_alloc ?_ _) | (with_reducible refine Kd.C_drewN ?_ _) | (with_reducible refine Kd.C_drew ?_)))
                  (case side2 => exact HC0_1.out)
                  rintro e w' ⟨rfl, ⟨nd, rfl⟩⟩
                  refine ⟨_, rfl, ?_⟩
                  refine hK.out _ _ ⟨(blk_cell BK409.out 0).trans rfl, (blk_cell BK409.out 1).trans rfl, (blk_cell BK409.out 2).trans rfl, (blk_cell BK409.out 3).trans rfl, (blk_cell BK409.out 4).trans rfl, ((HB.out.cell (World.block_lt_of_cell? w _ hw436_0)).trans hw436_0)⟩ (fun hHeld => ?_)
                  clear hK K
                  refine norm_ (a' := ?_) ?_ ?_
                  rotate_left
                  ·show Act.put _ (some 78) _ = _
                   simp only [Act.put, List.setIfInBounds_toArray, List.set_cons_zero, List.set_cons_succ, i64_w, i32_w]
                   rfl
                  refine pz (i := 9) (N := some 13) #[I,I,I,I,I,I,I,I,I,I] ?_
                  refine done_ (done_of HT_.out (by kernel_rfl)) ?_
                  try go_wp2
                  go_meet
                  case rel => exact ⟨_, (x9_48), (3), (x432000_48), (x432001_48), (x432002_48), (x432003_48), (x432004_48), (x432005_48), (0), (0), ((⟨#[]⟩ : ByteArray)), ((⟨#[]⟩ : ByteArray)), (0), (false), ap, ap, H', ⟨by have := HJ2.out; have := HK2.out; have := HJ10.out; have := HJ14.out; have := HJ48.out; first | omega | exact Nat.le_refl _⟩, ⟨by (with_reducible repeat (first | refine blk_drewN ?_ _ | refine blk_drew ?_ | refine blk_alloc ?_ _)); exact BK409.out⟩, ⟨by (with_reducible repeat (first | refine blk_drewN ?_ _ | refine blk_drew ?_ | refine blk_alloc ?_ _)); exact BK421.out⟩, ⟨by (with_reducible repeat (first | refine blk_drewN ?_ _ | refine blk_drew ?_ | refine blk_alloc ?_ _)); exact BK430.out⟩, ⟨by (with_reducible repeat (first | refine blk_drewN ?_ _ | refine blk_drew ?_ | refine blk_alloc ?_ _)); exact BK431.out⟩, ⟨by (with_reducible repeat (first | refine blk_drewN ?_ _ | refine blk_drew ?_ | refine blk_alloc ?_ _)); exact BK432.out⟩, ⟨bo⟩⟩
                ·rw [if_neg c62] at H
                 exact absurd H (by simp)
               ·rw [if_neg c61] at H
                exact absurd H (by simp)
            ·replace c47 := Bool.eq_false_iff.mpr c47
             subst c47
             have H1 : (fairwaylaw11_SegFinds.j5 kj14 false x4_2 t420 t429 1 1 a0_0 l0_1 l0_2 l0_3 a0_4 t414 t415 t416 t417 t418 t419 t423 t424 t425 t426 t427 t428 0 0 (⟨#[]⟩ : ByteArray) (⟨#[]⟩ : ByteArray) 0 false 0 0 (⟨#[]⟩ : ByteArray) (⟨#[]⟩ : ByteArray) 0 false) = some r := by rw [if_neg (show ¬ (false = true) by decide)] at H; exact H
             clear H
             have H := H1
             clear H1
             have H' := Aside0.mk H
             clear H
             go_wp2
             go_meet
             case rel => exact ⟨_, (1), (1), (0), (0), ((⟨#[]⟩ : ByteArray)), ((⟨#[]⟩ : ByteArray)), (0), (false), (0), (0), ((⟨#[]⟩ : ByteArray)), ((⟨#[]⟩ : ByteArray)), (0), (false), ap, ap, H', ⟨by have := HJ2.out; have := HK2.out; have := HJ10.out; have := HJ14.out; first | omega | exact Nat.le_refl _⟩, ⟨by (with_reducible repeat (first | refine blk_drewN ?_ _ | refine blk_drew ?_ | refine blk_alloc ?_ _)); exact BK409.out⟩, ⟨by (with_reducible repeat (first | refine blk_drewN ?_ _ | refine blk_drew ?_ | refine blk_alloc ?_ _)); exact BK421.out⟩, ⟨by (with_reducible repeat (first | refine blk_drewN ?_ _ | refine blk_drew ?_ | refine blk_alloc ?_ _)); exact BK430.out⟩, ⟨by (with_reducible repeat (first | refine blk_drewN ?_ _ | refine blk_drew ?_ | refine blk_alloc ?_ _)); exact BK431.out⟩, ⟨by (with_reducible repeat (first | refine blk_drewN ?_ _ | refine blk_drew ?_ | refine blk_alloc ?_ _)); exact BK432.out⟩, ⟨bo⟩⟩
           case rest =>
            clear HC23
            try clear p2
            try clear c3
            try clear c4
            try clear p4
            try clear q4
            try clear hx4
            try clear c5
            try clear c6
            try clear c33
            try clear c34
            try clear c35
            try clear p43
            try clear q43
            try clear hx43
            try clear c47
            try clear c51
            try clear c51b0
            try clear c52
            try clear c52b0
            try clear c53
            try clear c53b0
            try clear c61
            try clear c61b0
            try clear c62
            try clear c62b0
            try clear c64
            try clear c64b0
            try clear c65
            try clear c65b0
            try clear c66
            try clear c66b0
            try clear hx433_0
            try clear hx435_0
            try clear hx435_1
            try clear hx435_2
            try clear hx435_3
            try clear hx435_4
            try clear hx435_5
            try clear hx436_0
            try clear hx438_0
            try clear hx438_1
            try clear hx438_2
            try clear hx438_3
            try clear hx438_4
            try clear hx438_5
            try clear p2
            try clear p4
            try clear p43
            try clear p433
            try clear p435
            try clear p436
            try clear p438
            try clear q4
            try clear q43
            try clear q433
            try clear q435
            try clear q436
            try clear q438
            obtain ⟨kq, x9_22, x10_22, x432000_22, x432001_22, x432002_22, x432003_22, x432004_22, x432005_22, x433000_22, x433001_22, x433002_22, x433003_22, x433004_22, x433005_22, rfl, rfl, HA, HJ22, BK409, BK421, BK430, BK431, BK432, HB⟩ := hcut
            cases kq with
            | zero => exact absurd HA.out (by simp [fairwaylaw11_SegFinds.j5])
            | succ kj22 =>
             have H := HA.out
             clear HA
             simp only [fairwaylaw11_SegFinds.j5] at H
             replace H := Option.bind_eq_some_iff.mp H
             obtain ⟨t439, A760, H⟩ := H
             replace H : (if t439 = x9_22 then (if (!(t414 == x432000_22) || (!(t415 == x432001_22) || (!(t416.toList == x432002_22.toList) || (!(t417.toList == x432003_22.toList) || (!(t418 == x432004_22) || (!(t419 == x432005_22))))))) = true then (some false) else ((fairwaylaw11_num.f t429).bind fun t440 => (if t440 = x10_22 then (if (!(t423 == x433000_22) || (!(t424 == x433001_22) || (!(t425.toList == x433002_22.toList) || (!(t426.toList == x433003_22.toList) || (!(t427 == x433004_22) || (!(t428 == x433005_22))))))) = true then (some false) else (fairwaylaw11_SegFinds.l0 kj22 t411 (wrap64 (x4_2 + 1)) a0_0 l0_1 l0_2 l0_3 a0_4)) else (some false)))) else (some false)) = some r := H
             have A76 := Aside0.mk A760
             clear A760
             by_cases c77 : t439 = x9_22
             ·rw [if_pos c77] at H
              have c77b0 : (t439 == x9_22) = true := beq_iff_eq.mpr c77
              have c77b1 : (t439 != x9_22) = false := bne_eq_false_iff_eq.mpr c77
              clear c77
              by_cases c78 : (!(t414 == x432000_22) || (!(t415 == x432001_22) || (!(t416.toList == x432002_22.toList) || (!(t417.toList == x432003_22.toList) || (!(t418 == x432004_22) || (!(t419 == x432005_22))))))) = true
              ·rw [if_pos c78] at H
               have c78b0 : (!(t414 == x432000_22) || (!(t415 == x432001_22) || (!(t416.toList == x432002_22.toList) || (!(t417.toList == x432003_22.toList) || (!(t418 == x432004_22) || (!(t419 == x432005_22))))))) = true := c78
               clear c78
               obtain rfl := Option.some.inj H
               go_wp2_with (first | ((with_reducible refine gate_callee (f := 36) rfl ?_); refine goesL_ (some 88) rfl rfl Try.func36 (by kernel_rfl) rfl #[.int .i64 t420] rfl aa ?_; (with_reducible refine (fairwaylaw11_num.calls t420 t439 _ A76.out).mono ?_); rintro e w' ⟨rfl, ⟨nd, rfl⟩⟩; refine ⟨_, rfl, ?_⟩; have hnb79 := NB421_409.out; have hnc79 := NB409_421.out; have hnb80 := NB421_430.out; have hnc80 := NB430_421.out; have hnb81 := NB421_431.out; have hnc81 := NB431_421.out; have hnb82 := NB421_432.out; have hnc82 := NB432_421.out; obtain ⟨hcz83_0, hcz83_1, hcz83_2, hcz83_3, hcz83_4, hcz83_5⟩ := cl6 BK421.out; obtain ⟨hfz83_0, hfz83_1, hfz83_2, hfz83_3, hfz83_4, hfz83_5⟩ := fz6 BK421.out; have hnb84 := NB431_409.out; have hnc84 := NB409_431.out; have hnb85 := NB431_430.out; have hnc85 := NB430_431.out; have hnb86 := NB431_432.out; have hnc86 := NB432_431.out; obtain ⟨hcz87_0, hcz87_1, hcz87_2, hcz87_3, hcz87_4, hcz87_5⟩ := cl6 BK431.out; obtain ⟨hfz87_0, hfz87_1, hfz87_2, hfz87_3, hfz87_4, hfz87_5⟩ := fz6 BK431.out))
               go_ret
               exact ⟨er, bo⟩
              ·rw [if_neg c78] at H
               have c78b0 : (!(t414 == x432000_22) || (!(t415 == x432001_22) || (!(t416.toList == x432002_22.toList) || (!(t417.toList == x432003_22.toList) || (!(t418 == x432004_22) || (!(t419 == x432005_22))))))) = false := by simpa using c78
               clear c78
               replace H := Option.bind_eq_some_iff.mp H
               obtain ⟨t440, A880, H⟩ := H
               replace H : (if t440 = x10_22 then (if (!(t423 == x433000_22) || (!(t424 == x433001_22) || (!(t425.toList == x433002_22.toList) || (!(t426.toList == x433003_22.toList) || (!(t427 == x433004_22) || (!(t428 == x433005_22))))))) = true then (some false) else (fairwaylaw11_SegFinds.l0 kj22 t411 (wrap64 (x4_2 + 1)) a0_0 l0_1 l0_2 l0_3 a0_4)) else (some false)) = some r := H
               have A88 := Aside0.mk A880
               clear A880
               by_cases c89 : t440 = x10_22
               ·rw [if_pos c89] at H
                have c89b0 : (t440 == x10_22) = true := beq_iff_eq.mpr c89
                have c89b1 : (t440 != x10_22) = false := bne_eq_false_iff_eq.mpr c89
                clear c89
                by_cases c90 : (!(t423 == x433000_22) || (!(t424 == x433001_22) || (!(t425.toList == x433002_22.toList) || (!(t426.toList == x433003_22.toList) || (!(t427 == x433004_22) || (!(t428 == x433005_22))))))) = true
                ·rw [if_pos c90] at H
                 have c90b0 : (!(t423 == x433000_22) || (!(t424 == x433001_22) || (!(t425.toList == x433002_22.toList) || (!(t426.toList == x433003_22.toList) || (!(t427 == x433004_22) || (!(t428 == x433005_22))))))) = true := c90
                 clear c90
                 obtain rfl := Option.some.inj H
                 go_wp2_with (first | ((with_reducible refine gate_callee (f := 36) rfl ?_); refine goesL_ (some 88) rfl rfl Try.func36 (by kernel_rfl) rfl #[.int .i64 t420] rfl aa ?_; (with_reducible refine (fairwaylaw11_num.calls t420 t439 _ A76.out).mono ?_); rintro e w' ⟨rfl, ⟨nd, rfl⟩⟩; refine ⟨_, rfl, ?_⟩; have hnb91 := NB421_409.out; have hnc91 := NB409_421.out; have hnb92 := NB421_430.out; have hnc92 := NB430_421.out; have hnb93 := NB421_431.out; have hnc93 := NB431_421.out; have hnb94 := NB421_432.out; have hnc94 := NB432_421.out; obtain ⟨hcz95_0, hcz95_1, hcz95_2, hcz95_3, hcz95_4, hcz95_5⟩ := cl6 BK421.out; obtain ⟨hfz95_0, hfz95_1, hfz95_2, hfz95_3, hfz95_4, hfz95_5⟩ := fz6 BK421.out; have hnb96 := NB431_409.out; have hnc96 := NB409_431.out; have hnb97 := NB431_430.out; have hnc97 := NB430_431.out; have hnb98 := NB431_432.out; have hnc98 := NB432_431.out; obtain ⟨hcz99_0, hcz99_1, hcz99_2, hcz99_3, hcz99_4, hcz99_5⟩ := cl6 BK431.out; obtain ⟨hfz99_0, hfz99_1, hfz99_2, hfz99_3, hfz99_4, hfz99_5⟩ := fz6 BK431.out) | (go_at_call 36; (with_reducible refine (fairwaylaw11_num.calls t429 t440 _ A88.out).mono ?_); rintro e w' ⟨rfl, ⟨nd, rfl⟩⟩; have hnb100 := NB430_409.out; have hnc100 := NB409_430.out; have hnb101 := NB430_432.out; have hnc101 := NB432_430.out; obtain ⟨hcz102_0, hcz102_1, hcz102_2, hcz102_3, hcz102_4, hcz102_5⟩ := cl6 BK430.out; obtain ⟨hfz102_0, hfz102_1, hfz102_2, hfz102_3, hfz102_4, hfz102_5⟩ := fz6 BK430.out; have hnb103 := NB432_409.out; have hnc103 := NB409_432.out; obtain ⟨hcz104_0, hcz104_1, hcz104_2, hcz104_3, hcz104_4, hcz104_5⟩ := cl6 BK432.out; obtain ⟨hfz104_0, hfz104_1, hfz104_2, hfz104_3, hfz104_4, hfz104_5⟩ := fz6 BK432.out))
                 go_ret
                 exact ⟨er, bo⟩
                ·rw [if_neg c90] at H
                 have c90b0 : (!(t423 == x433000_22) || (!(t424 == x433001_22) || (!(t425.toList == x433002_22.toList) || (!(t426.toList == x433003_22.toList) || (!(t427 == x433004_22) || (!(t428 == x433005_22))))))) = false := by simpa using c90
                 clear c90
                 have H' := Aside0.mk H
                 clear H
                 go_wp2_with (first | ((with_reducible refine gate_callee (f := 36) rfl ?_); refine goesL_ (some 88) rfl rfl Try.func36 (by kernel_rfl) rfl #[.int .i64 t420] rfl aa ?_; (with_reducible refine (fairwaylaw11_num.calls t420 t439 _ A76.out).mono ?_); rintro e w' ⟨rfl, ⟨nd, rfl⟩⟩; refine ⟨_, rfl, ?_⟩; have hnb105 := NB421_409.out; have hnc105 := NB409_421.out; have hnb106 := NB421_430.out; have hnc106 := NB430_421.out; have hnb107 := NB421_431.out; have hnc107 := NB431_421.out; have hnb108 := NB421_432.out; have hnc108 := NB432_421.out; obtain ⟨hcz109_0, hcz109_1, hcz109_2, hcz109_3, hcz109_4, hcz109_5⟩ := cl6 BK421.out; obtain ⟨hfz109_0, hfz109_1, hfz109_2, hfz109_3, hfz109_4, hfz109_5⟩ := fz6 BK421.out; have hnb110 := NB431_409.out; have hnc110 := NB409_431.out; have hnb111 := NB431_430.out; have hnc111 := NB430_431.out; have hnb112 := NB431_432.out; have hnc112 := NB432_431.out; obtain ⟨hcz113_0, hcz113_1, hcz113_2, hcz113_3, hcz113_4, hcz113_5⟩ := cl6 BK431.out; obtain ⟨hfz113_0, hfz113_1, hfz113_2, hfz113_3, hfz113_4, hfz113_5⟩ := fz6 BK431.out) | (go_at_call 36; (with_reducible refine (fairwaylaw11_num.calls t429 t440 _ A88.out).mono ?_); rintro e w' ⟨rfl, ⟨nd, rfl⟩⟩; have hnb114 := NB430_409.out; have hnc114 := NB409_430.out; have hnb115 := NB430_432.out; have hnc115 := NB432_430.out; obtain ⟨hcz116_0, hcz116_1, hcz116_2, hcz116_3, hcz116_4, hcz116_5⟩ := cl6 BK430.out; obtain ⟨hfz116_0, hfz116_1, hfz116_2, hfz116_3, hfz116_4, hfz116_5⟩ := fz6 BK430.out; have hnb117 := NB432_409.out; have hnc117 := NB409_432.out; obtain ⟨hcz118_0, hcz118_1, hcz118_2, hcz118_3, hcz118_4, hcz118_5⟩ := cl6 BK432.out; obtain ⟨hfz118_0, hfz118_1, hfz118_2, hfz118_3, hfz118_4, hfz118_5⟩ := fz6 BK432.out))
                 go_roundg kj22
                 case measure => have := HJ2.out; have := HK2.out; have := HJ10.out; have := HJ14.out; have := HJ22.out; omega
                 case rel => exact ⟨(wrap64 (x4_2 + 1)), ap, H', ⟨by have := HJ2.out; have := HK2.out; have := HJ10.out; have := HJ14.out; have := HJ22.out; omega⟩, ⟨by (with_reducible repeat (first | refine blk_drewN ?_ _ | refine blk_drew ?_ | refine blk_alloc ?_ _)); exact BK409.out⟩, ⟨bo⟩⟩
               ·rw [if_neg c89] at H
                have c89b0 : (t440 == x10_22) = false := beq_eq_false_iff_ne.mpr c89
                have c89b1 : (t440 != x10_22) = true := bne_iff_ne.mpr c89
                obtain rfl := Option.some.inj H
                go_wp2_with (first | ((with_reducible refine gate_callee (f := 36) rfl ?_); refine goesL_ (some 88) rfl rfl Try.func36 (by kernel_rfl) rfl #[.int .i64 t420] rfl aa ?_; (with_reducible refine (fairwaylaw11_num.calls t420 t439 _ A76.out).mono ?_); rintro e w' ⟨rfl, ⟨nd, rfl⟩⟩; refine ⟨_, rfl, ?_⟩; have hnb119 := NB421_409.out; have hnc119 := NB409_421.out; have hnb120 := NB421_430.out; have hnc120 := NB430_421.out; have hnb121 := NB421_431.out; have hnc121 := NB431_421.out; have hnb122 := NB421_432.out; have hnc122 := NB432_421.out; obtain ⟨hcz123_0, hcz123_1, hcz123_2, hcz123_3, hcz123_4, hcz123_5⟩ := cl6 BK421.out; obtain ⟨hfz123_0, hfz123_1, hfz123_2, hfz123_3, hfz123_4, hfz123_5⟩ := fz6 BK421.out; have hnb124 := NB431_409.out; have hnc124 := NB409_431.out; have hnb125 := NB431_430.out; have hnc125 := NB430_431.out; have hnb126 := NB431_432.out; have hnc126 := NB432_431.out; obtain ⟨hcz127_0, hcz127_1, hcz127_2, hcz127_3, hcz127_4, hcz127_5⟩ := cl6 BK431.out; obtain ⟨hfz127_0, hfz127_1, hfz127_2, hfz127_3, hfz127_4, hfz127_5⟩ := fz6 BK431.out) | (go_at_call 36; (with_reducible refine (fairwaylaw11_num.calls t429 t440 _ A88.out).mono ?_); rintro e w' ⟨rfl, ⟨nd, rfl⟩⟩))
                go_ret
                exact ⟨er, bo⟩
             ·rw [if_neg c77] at H
              have c77b0 : (t439 == x9_22) = false := beq_eq_false_iff_ne.mpr c77
              have c77b1 : (t439 != x9_22) = true := bne_iff_ne.mpr c77
              obtain rfl := Option.some.inj H
              go_wp2_with (first | ((with_reducible refine gate_callee (f := 36) rfl ?_); refine goesL_ (some 88) rfl rfl Try.func36 (by kernel_rfl) rfl #[.int .i64 t420] rfl aa ?_; (with_reducible refine (fairwaylaw11_num.calls t420 t439 _ A76.out).mono ?_); rintro e w' ⟨rfl, ⟨nd, rfl⟩⟩; refine ⟨_, rfl, ?_⟩))
              go_ret
              exact ⟨er, bo⟩
          ·rw [if_neg c20] at H
           exact absurd H (by simp)
         ·rw [if_neg c19] at H
          exact absurd H (by simp)

end Go.Proofs.Ytmabdfdmccbfnaa.P

/- From data to typed values: whatever the claim's reader reads at a type is told by the print's kinds, with the bounds of the reach. -/
namespace Go.Proofs.Ytmabdfdmccbfnaa.Open
open Go.RowKit Go.Proofs.YtmabdfdmccbfnaaW.PrintWords Go.Proofs.YtmabdfdmccbfnaaW.PrintLast
set_option linter.unusedVariables false

/-- What is read at type t is told by kind k, and is good. -/
structure Rd {α : Type} (P : Program) (t : TypeId) (k : Kd α) (good : α → Prop) : Prop where
  sz : P.cellsOf t = k.sz
  rd : ∀ {H : Type} (enc : TypeId × Value → H) (w : World) (fuel : Nat) (cs : List Value) (d : DataW H) (ps : List MemPlace),
    DataW.trod enc P w 0 (fun _ => true) true fuel t cs = some (d, ps) → (∀ n ∈ d.weights P t, n ≤ reachBytes) → ∃ x, k.K w x cs ∧ good x

theorem rd_int {P : Program} {t : TypeId} {k : IntKind} (hu : P.underlying t = some (.int k)) (hc : P.cellsOf t = 1) : Rd P t (Kd.int k) (fun n => (Lit.int k n).wf = true) where
  sz := hc
  rd := by
    intro H enc w fuel cs d ps h _
    obtain ⟨n, rfl, _, hw⟩ := DataW.trod_int hu h
    exact ⟨n, rfl, hw⟩

theorem rd_bool {P : Program} {t : TypeId} (hu : P.underlying t = some .bool) (hc : P.cellsOf t = 1) : Rd P t Kd.bool (fun _ => True) where
  sz := hc
  rd := by
    intro H enc w fuel cs d ps h _
    obtain ⟨b, rfl, _⟩ := DataW.trod_bool hu h
    exact ⟨b, rfl, trivial⟩

theorem rd_string {P : Program} {t : TypeId} (hu : P.underlying t = some .string) (hc : P.cellsOf t = 1) : Rd P t Kd.string (fun s => s.size ≤ 140737488351232) where
  sz := hc
  rd := by
    intro H enc w fuel cs d ps h hw
    obtain ⟨s, rfl, hx, _⟩ := DataW.trod_string hu h
    obtain ⟨rfl, rfl⟩ := Prod.mk.inj hx
    refine ⟨s, rfl, ?_⟩
    have := hw s.data.toList.length (by simp [DataW.weights])
    simpa [reachBytes] using this

/-- A struct's fields, from one on: their cells in line. -/
structure Fs {α : Type} (P : Program) (fs : List Field) (off : Nat) (k : Kd α) (good : α → Prop) : Prop where
  rd : ∀ {H : Type} (enc : TypeId × Value → H) (w : World) (fuel : Nat) (cs : List Value) (ds : List (DataW H × List MemPlace)),
    ds.length = fs.length → (∀ (i : Nat) f, fs[i]? = some f → DataW.trod enc P w 0 (fun _ => true) true fuel f.type ((cs.drop f.offset).take (P.cellsOf f.type)) = ds[i]?) →
    (∀ n ∈ DataW.weightsEach P (fs.map (·.type)) (ds.map (·.1)), n ≤ reachBytes) → cs.length = off + k.sz → ∃ x, k.K w x (cs.drop off) ∧ good x

theorem fs_last {α : Type} {P : Program} {f : Field} {k : Kd α} {good : α → Prop} (h : Rd P f.type k good) : Fs P [f] f.offset k good where
  rd := by
    intro H enc w fuel cs ds hl hd hw hc
    match ds, hl with
    | [y], _ =>
      have h0 := hd 0 f rfl
      simp only [List.getElem?_cons_zero] at h0
      obtain ⟨x, hk, hg⟩ := h.rd enc w fuel _ y.1 y.2 h0 (fun n hn => hw n (by simp [DataW.weightsEach]; exact hn))
      rw [h.sz, List.take_of_length_le (by rw [List.length_drop]; omega)] at hk
      exact ⟨x, hk, hg⟩

theorem fs_cons {α β : Type} {P : Program} {f : Field} {fs : List Field} {off : Nat} {k : Kd α} {k' : Kd β} {good : α → Prop} {good' : β → Prop} (h : Rd P f.type k good) (hs : Fs P fs off k' good')
    (ho : f.offset + k.sz = off) : Fs P (f :: fs) f.offset (Kd.pair k k') (fun x => good x.1 ∧ good' x.2) where
  rd := by
    intro H enc w fuel cs ds hl hd hw hc
    match ds, hl with
    | y :: ys, hl =>
      have hsz : (Kd.pair k k').sz = k.sz + k'.sz := rfl
      rw [hsz] at hc
      have h0 := hd 0 f rfl
      simp only [List.getElem?_cons_zero] at h0
      obtain ⟨x, hk, hg⟩ := h.rd enc w fuel _ y.1 y.2 h0 (fun n hn => hw n (by simp only [List.map_cons, DataW.weightsEach, List.mem_append]; exact .inl hn))
      obtain ⟨x', hk', hg'⟩ := hs.rd enc w fuel cs ys (by simpa using hl) (fun i g hi => by simpa using hd (i + 1) g (by simpa using hi))
        (fun n hn => hw n (by simp only [List.map_cons, DataW.weightsEach, List.mem_append]; exact .inr hn)) (by omega)
      rw [h.sz] at hk
      refine ⟨(x, x'), ⟨_, _, ?_, hk, hk'⟩, hg, hg'⟩
      rw [← ho, ← List.drop_drop, List.take_append_drop]

theorem rd_struct {α β : Type} {P : Program} {t : TypeId} {fs : Array Field} {k : Kd β} {good : β → Prop} {fw : α → β} {back : β → α} (hu : P.underlying t = some (.struct fs)) (h : Fs P fs.toList 0 k good)
    (hc : P.cellsOf t = k.sz) (hb : ∀ y, fw (back y) = y) : Rd P t (Kd.iso k fw) (fun x => good (fw x)) where
  sz := hc
  rd := by
    intro H enc w fuel cs d ps hr hw
    obtain ⟨xs, n, _, hx, hl, hlen, hf⟩ := DataW.trod_struct hu hr
    obtain ⟨rfl, rfl⟩ := Prod.mk.inj hx
    obtain ⟨x, hk, hg⟩ := h.rd enc w n cs xs (by simpa using hlen) (fun i f hi => by simpa using hf i f (by simpa using hi))
      (fun m hm => hw m (by simp only [DataW.weights, hu]; exact hm)) (by rw [hl, hc]; omega)
    refine ⟨back x, ?_, ?_⟩
    · show k.K w (fw (back x)) cs
      rw [hb]
      simpa using hk
    · show good (fw (back x))
      rw [hb]; exact hg

theorem list_of {α : Type} {p : Nat → α → Prop} : ∀ n, (∀ i, i < n → ∃ x, p i x) → ∃ xs : List α, xs.length = n ∧ ∀ i x, xs[i]? = some x → p i x
  | 0, _ => ⟨[], rfl, fun i x h => by simp at h⟩
  | n + 1, h => by
    obtain ⟨xs, hl, hx⟩ := list_of n (fun i hi => h i (by omega))
    obtain ⟨y, hy⟩ := h n (by omega)
    refine ⟨xs ++ [y], by simp [hl], fun i x hi => ?_⟩
    by_cases hin : i < xs.length
    · rw [List.getElem?_append_left hin] at hi
      exact hx i x hi
    · rw [List.getElem?_append_right (by omega)] at hi
      have : i = xs.length := by
        by_cases e : i - xs.length = 0
        · omega
        · rw [List.getElem?_eq_none (by simp; omega)] at hi
          exact absurd hi (by simp)
      subst this
      simp at hi
      rw [hl, ← hi]
      exact hy

theorem weights_all {H : Type} {P : Program} {e : TypeId} : ∀ {l : List (DataW H)} {d : DataW H}, d ∈ l → ∀ n ∈ d.weights P e, n ∈ DataW.weightsAll P e l
  | [], _, h, _, _ => by simp at h
  | x :: l, d, h, n, hn => by
    simp only [DataW.weightsAll, List.mem_append]
    rcases List.mem_cons.1 h with rfl | h
    · exact .inl hn
    · exact .inr (weights_all h n hn)

theorem rd_slice {α : Type} {P : Program} {t e : TypeId} {k : Kd α} {good : α → Prop} (B : Nat) (hu : P.underlying t = some (.slice e)) (hc : P.cellsOf t = 1) (hB : P.bytesOf e = B) (h : Rd P e k good) :
    Rd P t (Kd.slice e k) (fun xs => (∀ x ∈ xs, good x) ∧ xs.length * B ≤ 140737488351232) where
  sz := hc
  rd := by
    intro H enc w fuel cs d ps hr hw
    rcases DataW.trod_slice hu hr with ⟨rfl, hx⟩ | ⟨a, len, cap, elems, rest, n, _, rfl, hx, _, hl, hm, hlen, hel, _, _⟩
    · exact ⟨[], ⟨none, 0, rfl, Nat.le_refl 0, Kd.C_nil k w⟩, by simp, by simp⟩
    · obtain ⟨rfl, rfl⟩ := Prod.mk.inj hx
      have hw1 : ∀ x ∈ elems, ∀ n ∈ x.1.weights P e, n ≤ reachBytes := fun x hx n hn =>
        hw n (by simp only [DataW.weights, hu, List.mem_cons, List.mem_append]; exact .inr (.inl (weights_all (List.mem_map_of_mem hx) n hn)))
      have hw2 : (elems.length + rest.length) * P.bytesOf e ≤ reachBytes := hw _ (by simp only [DataW.weights, hu, List.mem_cons, List.length_map]; simp)
      have key : ∀ i, i < len → ∃ x, good x ∧ ∃ c, c.length = k.sz ∧ k.K w x c ∧ ∀ j u, c[j]? = some u → w.cell? (a.add (i * k.sz + j)) = some u := by
        intro i hi
        have h1 := hel i hi
        rw [List.getElem?_eq_getElem (by omega)] at h1
        obtain ⟨c, hcs, htr⟩ := Option.bind_eq_some_iff.1 h1
        obtain ⟨x, hk, hg⟩ := h.rd enc w n c _ _ htr (hw1 _ (List.getElem_mem _))
        obtain ⟨_, hcl, hcell⟩ := World.cells?_some hcs
        rw [h.sz] at hcl hcell
        refine ⟨x, hg, c, hcl, hk, fun j u hu => ?_⟩
        have hj : j < k.sz := by
          rw [← hcl]
          exact (List.getElem?_eq_some_iff.1 hu).1
        rw [← Go.Deep.add_add, hcell j hj, hu]
      obtain ⟨xs, hxl, hxs⟩ := list_of (α := α) len key
      subst hxl
      refine ⟨xs, ⟨some a, cap, rfl, hl, rfl, by unfold maxLen at hm; omega, fun _ => ⟨a, rfl, fun j p hp => ?_⟩⟩, fun x hx => ?_, ?_⟩
      · obtain ⟨_, c, h1, h2, h3⟩ := hxs j p hp
        exact ⟨c, h1, h2, h3⟩
      · obtain ⟨i, hi, rfl⟩ := List.mem_iff_getElem.1 hx
        exact (hxs i _ (List.getElem?_eq_getElem hi)).1
      · have : xs.length * P.bytesOf e ≤ (elems.length + rest.length) * P.bytesOf e := Nat.mul_le_mul_right _ (by omega)
        unfold reachBytes at hw2
        rw [hB] at hw2 this
        omega
end Go.Proofs.Ytmabdfdmccbfnaa.Open

/- Readers of the types that this seat's laws take. -/
namespace Go.Proofs.Ytmabdfdmccbfnaa.P
open Go.RowKit Go.Proofs.YtmabdfdmccbfnaaW.PrintWords Go.Proofs.YtmabdfdmccbfnaaW.PrintLast Go.Proofs.Ytmabdfdmccbfnaa.Open
set_option linter.unusedVariables false
def good25 (x : S25) : Prop := (Lit.int .i64 x.f0).wf = true ∧ (Lit.int .i64 x.f1).wf = true ∧ x.f2.size ≤ 140737488351232 ∧ x.f3.size ≤ 140737488351232 ∧ (Lit.int .i64 x.f4).wf = true ∧ True
theorem rd25 : Rd Try.prog 25 k25 good25 := rd_struct (back := fun y => ⟨y.1, y.2.1, y.2.2.1, y.2.2.2.1, y.2.2.2.2.1, y.2.2.2.2.2⟩) Try.underlying25 (fs_cons (rd_int Try.underlying3 (by kernel_rfl)) (fs_cons (rd_int Try.underlying3 (by kernel_rfl)) (fs_cons (rd_string Try.underlying9 (by kernel_rfl)) (fs_cons (rd_string Try.underlying9 (by kernel_rfl)) (fs_cons (rd_int Try.underlying3 (by kernel_rfl)) (fs_last (rd_bool Try.underlying4 (by kernel_rfl))) rfl) rfl) rfl) rfl) rfl) (by kernel_rfl) (fun _ => rfl)
def good38 (x : S38) : Prop := ((∀ z ∈ x.f0, good25 z) ∧ x.f0.length * 64 ≤ 140737488351232) ∧ x.f1.size ≤ 140737488351232
theorem rd38 : Rd Try.prog 38 k38 good38 := rd_struct (back := fun y => ⟨y.1, y.2⟩) Try.underlying38 (fs_cons (rd_slice 64 Try.underlying36 (by kernel_rfl) (by kernel_rfl) rd25) (fs_last (rd_string Try.underlying9 (by kernel_rfl))) rfl) (by kernel_rfl) (fun _ => rfl)
def good53 (x : S53) : Prop := (Lit.int .i64 x.f0).wf = true ∧ ((∀ z ∈ x.f1, good25 z) ∧ x.f1.length * 64 ≤ 140737488351232)
theorem rd53 : Rd Try.prog 53 k53 good53 := rd_struct (back := fun y => ⟨y.1, y.2⟩) Try.underlying53 (fs_cons (rd_int Try.underlying3 (by kernel_rfl)) (fs_last (rd_slice 64 Try.underlying36 (by kernel_rfl) (by kernel_rfl) rd25)) rfl) (by kernel_rfl) (fun _ => rfl)
structure S55 where
  f0 : S53
  f1 : List (S25)
  f2 : List (Int)
  f3 : ByteArray
def k55 : Kd S55 := Kd.iso (Kd.pair k53 (Kd.pair (Kd.slice 25 k25) (Kd.pair (Kd.slice 3 (Kd.int .i64)) Kd.string))) (fun x : S55 => (x.f0, x.f1, x.f2, x.f3))
def good55 (x : S55) : Prop := good53 x.f0 ∧ ((∀ z ∈ x.f1, good25 z) ∧ x.f1.length * 64 ≤ 140737488351232) ∧ ((∀ z ∈ x.f2, (Lit.int .i64 z).wf = true) ∧ x.f2.length * 8 ≤ 140737488351232) ∧ x.f3.size ≤ 140737488351232
theorem rd55 : Rd Try.prog 55 k55 good55 := rd_struct (back := fun y => ⟨y.1, y.2.1, y.2.2.1, y.2.2.2⟩) Try.underlying55 (fs_cons rd53 (fs_cons (rd_slice 64 Try.underlying36 (by kernel_rfl) (by kernel_rfl) rd25) (fs_cons (rd_slice 8 Try.underlying50 (by kernel_rfl) (by kernel_rfl) (rd_int Try.underlying3 (by kernel_rfl))) (fs_last (rd_string Try.underlying9 (by kernel_rfl))) rfl) rfl) rfl) (by kernel_rfl) (fun _ => rfl)
end Go.Proofs.Ytmabdfdmccbfnaa.P

-- written by a program of the proving session, out of the translation; Lean checks it
namespace Go.Proofs.Ytmabdfdmccbfnaa.P
open Go.RowKit Go.Proofs.Ytmabdfdmccbfnaa.Sq Go.Proofs.YtmabdfdmccbfnaaW.PrintWords Go.Proofs.YtmabdfdmccbfnaaW.PrintLast Go.Proofs.YtmabdfdmccbfnaaW.PrintMore
attribute [local go_sem] max2_int min2_int max_two min_two max_three min_three max_four min_four   -- for this text's walks alone
set_option linter.unusedVariables false
set_option linter.unusedSimpArgs false

/-! ### rec_Size: function 21 -/
def rec_Size.f (k : Nat) (a0_0 : Int) (a0_1 : Int) (a0_2 : ByteArray) (a0_3 : ByteArray) (a0_4 : Int) (a0_5 : Bool) : Option (Int × Int) := (rec_Check.f k a0_0 a0_1 a0_2 a0_3 a0_4 a0_5).bind fun t228 => (if t228 = 0 then (some (wrap64 ((wrap64 (25 + (a0_2.size : Int))) + (a0_3.size : Int)), 0)) else (some (0, t228)))
theorem rec_Size.mono : ∀ a0 a1 a2 a3 a4 a5 k, LeO (rec_Size.f k a0 a1 a2 a3 a4 a5) (rec_Size.f (k + 1) a0 a1 a2 a3 a4 a5) := by
 intro a0 a1 a2 a3 a4 a5 k
 unfold rec_Size.f
 repeat' first
  | (with_reducible exact rec_Check.mono _ _ _ _ _ _ _)
  | (with_reducible exact LeO.refl _)
  | (with_reducible exact LeO.none _)
  | (with_reducible refine LeO.ite ?_ ?_)
  | (with_reducible refine LeO.bind ?_ (fun _ => ?_))
  | exact rec_Check.mono _ _ _ _ _ _ _
  | exact LeO.none _
  | refine LeO.ite ?_ ?_
  | refine LeO.bind ?_ (fun _ => ?_)
set_option maxHeartbeats 8000000 in
set_option maxRecDepth 100000 in
theorem rec_Size.calls (k : Nat) (a0_0 : Int) (a0_1 : Int) (a0_2 : ByteArray) (a0_3 : ByteArray) (a0_4 : Int) (a0_5 : Bool) (r1 : Int) (r2 : Int) (w : World) (h : rec_Size.f k a0_0 a0_1 a0_2 a0_3 a0_4 a0_5 = some (r1, r2)) :
 Calls Try.prog 21 #[.agg #[.int .i64 a0_0, .int .i64 a0_1, .string a0_2, .string a0_3, .int .i64 a0_4, .bool a0_5]] w fun e w' => e = .returned (.tuple #[.int .i64 r1, .int .i64 r2]) ∧ Below w.heap.size w w' := by
 have hu25 := Try.underlying25
 have HB := Aside0.mk (Below.refl w.heap.size w)
 have H : ((rec_Check.f k a0_0 a0_1 a0_2 a0_3 a0_4 a0_5).bind fun t228 => (if t228 = 0 then (some (wrap64 ((wrap64 (25 + (a0_2.size : Int))) + (a0_3.size : Int)), 0)) else (some (0, t228)))) = some (r1, r2) := h
 clear h
 replace H := Option.bind_eq_some_iff.mp H
 obtain ⟨t228, A20, H⟩ := H
 replace H : (if t228 = 0 then (some (wrap64 ((wrap64 (25 + (a0_2.size : Int))) + (a0_3.size : Int)), 0)) else (some (0, t228))) = some (r1, r2) := H
 have A2 := Aside0.mk A20
 clear A20
 by_cases c3 : t228 = 0
 ·rw [if_pos c3] at H
  have c3b0 : (t228 == 0) = true := beq_iff_eq.mpr c3
  have c3b1 : (t228 != 0) = false := bne_eq_false_iff_eq.mpr c3
  clear c3
  simp only [Option.some.injEq, Prod.mk.injEq] at H
  obtain ⟨rfl, rfl⟩ := H
  go_enter Try.func21, Try.ntmps21
  go_wp2_with (first | ((with_reducible refine gate_dst (N := 1) rfl ?_); refine box_event ?hg (N := 1) ?hd (cs := #[.int .i64 a0_0, .int .i64 a0_1, .string a0_2, .string a0_3, .int .i64 a0_4, .bool a0_5]) (t := 25) ?hr ?_; (case hd => rfl); (case hg => rfl); (case hr => first | (go_simp; done) | (go_simp; rfl)); intro gb227 hg w4 hbox hb; have BK227 := Aside0.mk (hbox); have GW227 := Aside0.mk ((by rw [hg]; exact (below_size bo) : w.heap.size ≤ gb227)); have GE227 := Aside0.mk ((by rw [hg]; exact (below_size bo) : w.heap.size ≤ gb227)); replace HB := Aside0.mk (below_step bo hb); clear hb hbox hg; obtain ⟨hcz5_0, hcz5_1, hcz5_2, hcz5_3, hcz5_4, hcz5_5⟩ := cl6 BK227.out; obtain ⟨hfz5_0, hfz5_1, hfz5_2, hfz5_3, hfz5_4, hfz5_5⟩ := fz6 BK227.out) | ((with_reducible refine gate_callee (f := 22) rfl ?_); refine goesL_ (some 6) rfl rfl Try.func22 (by kernel_rfl) rfl #[.agg #[.int .i64 a0_0, .int .i64 a0_1, .string a0_2, .string a0_3, .int .i64 a0_4, .bool a0_5]] rfl aa ?_; (with_reducible refine (rec_Check.calls k a0_0 a0_1 a0_2 a0_3 a0_4 a0_5 t228 _ A2.out).mono ?_); rintro e w6 ⟨rfl, hb⟩; refine ⟨_, rfl, ?_⟩; replace BK227 := Aside0.mk (blk_below (g := gb227) (o := .cells #[.int .i64 a0_0, .int .i64 a0_1, .string a0_2, .string a0_3, .int .i64 a0_4, .bool a0_5] 25 (0, 0)) (bk BK227.out) hb); replace HB := Aside0.mk (below_step bo hb); (try clear hb); (try clear hb2); (try clear hk); (try clear hi); obtain ⟨hcz7_0, hcz7_1, hcz7_2, hcz7_3, hcz7_4, hcz7_5⟩ := cl6 BK227.out; obtain ⟨hfz7_0, hfz7_1, hfz7_2, hfz7_3, hfz7_4, hfz7_5⟩ := fz6 BK227.out))
  go_ret2
  exact ⟨er, bo⟩
 ·rw [if_neg c3] at H
  have c3b0 : (t228 == 0) = false := beq_eq_false_iff_ne.mpr c3
  have c3b1 : (t228 != 0) = true := bne_iff_ne.mpr c3
  simp only [Option.some.injEq, Prod.mk.injEq] at H
  obtain ⟨rfl, rfl⟩ := H
  go_enter Try.func21, Try.ntmps21
  go_wp2_with (first | ((with_reducible refine gate_dst (N := 1) rfl ?_); refine box_event ?hg (N := 1) ?hd (cs := #[.int .i64 a0_0, .int .i64 a0_1, .string a0_2, .string a0_3, .int .i64 a0_4, .bool a0_5]) (t := 25) ?hr ?_; (case hd => rfl); (case hg => rfl); (case hr => first | (go_simp; done) | (go_simp; rfl)); intro gb227 hg w8 hbox hb; have BK227 := Aside0.mk (hbox); have GW227 := Aside0.mk ((by rw [hg]; exact (below_size bo) : w.heap.size ≤ gb227)); have GE227 := Aside0.mk ((by rw [hg]; exact (below_size bo) : w.heap.size ≤ gb227)); replace HB := Aside0.mk (below_step bo hb); clear hb hbox hg; obtain ⟨hcz9_0, hcz9_1, hcz9_2, hcz9_3, hcz9_4, hcz9_5⟩ := cl6 BK227.out; obtain ⟨hfz9_0, hfz9_1, hfz9_2, hfz9_3, hfz9_4, hfz9_5⟩ := fz6 BK227.out) | ((with_reducible refine gate_callee (f := 22) rfl ?_); refine goesL_ (some 6) rfl rfl Try.func22 (by kernel_rfl) rfl #[.agg #[.int .i64 a0_0, .int .i64 a0_1, .string a0_2, .string a0_3, .int .i64 a0_4, .bool a0_5]] rfl aa ?_; (with_reducible refine (rec_Check.calls k a0_0 a0_1 a0_2 a0_3 a0_4 a0_5 t228 _ A2.out).mono ?_); rintro e w10 ⟨rfl, hb⟩; refine ⟨_, rfl, ?_⟩; replace BK227 := Aside0.mk (blk_below (g := gb227) (o := .cells #[.int .i64 a0_0, .int .i64 a0_1, .string a0_2, .string a0_3, .int .i64 a0_4, .bool a0_5] 25 (0, 0)) (bk BK227.out) hb); replace HB := Aside0.mk (below_step bo hb); (try clear hb); (try clear hb2); (try clear hk); (try clear hi)))
  go_ret2
  exact ⟨er, bo⟩

end Go.Proofs.Ytmabdfdmccbfnaa.P

/- Records: which may be, how many bytes they have. -/
namespace Go.Proofs.Ytmabdfdmccbfnaa.URec
open Go Go.RowKit Go.Proofs.Ytmabdfdmccbfnaa.P Go.Proofs.YtmabdfdmccbfnaaW.PrintWords Go.Proofs.YtmabdfdmccbfnaaW.PrintLast
set_option linter.unusedVariables false
set_option linter.unusedSimpArgs false

abbrev R := S25
/-- A record that may be. -/
def recOk (r : R) : Prop := 0 ≤ r.f0 ∧ r.f0 < 1099511627776 ∧ 0 ≤ r.f1 ∧ r.f1 ≤ 1099511627776 ∧ r.f2.size ≤ 1024 ∧ r.f3.size ≤ 1024 ∧ 0 ≤ r.f4 ∧ r.f4 ≤ 2 ∧ (r.f5 = true → r.f3.toList = [])

theorem check_yes (r : R) (h : recOk r) : Ev (fun k => rec_Check.f k r.f0 r.f1 r.f2 r.f3 r.f4 r.f5) 0 := by
  obtain ⟨h0, h1, h2, h3, h4, h5, h6, h7, h8⟩ := h
  refine Ev.step (f := fun _ => some 0) (fun k => ?_) (Ev.now _)
  simp only [rec_Check.f, rec_Check.j0]
  rw [if_neg (by omega), if_neg (by omega), if_neg (by omega), if_neg (by omega), if_neg (by omega), if_neg (by simp; omega), if_neg (by omega), if_neg (by omega)]
  split
  · rename_i hg
    rw [if_pos (h8 hg)]
  · rfl
theorem check_no (r : R) (h : ¬ recOk r) : Ev (fun k => rec_Check.f k r.f0 r.f1 r.f2 r.f3 r.f4 r.f5) 1 := by
  refine Ev.step (f := fun _ => some 1) (fun k => ?_) (Ev.now _)
  simp only [rec_Check.f, rec_Check.j0]
  by_cases h0 : r.f0 < 0
  · rw [if_pos h0]; rfl
  rw [if_neg h0]
  by_cases h1 : r.f0 ≥ 1099511627776
  · rw [if_pos h1]; rfl
  rw [if_neg h1]
  by_cases h2 : r.f1 < 0
  · rw [if_pos h2]; rfl
  rw [if_neg h2]
  by_cases h3 : r.f1 > 1099511627776
  · rw [if_pos h3]; rfl
  rw [if_neg h3]
  by_cases h4 : r.f4 < 0
  · rw [if_pos h4]; rfl
  rw [if_neg h4]
  by_cases h5 : r.f4 > 2
  · rw [if_pos (by simpa using h5)]
  rw [if_neg (by simpa using h5)]
  by_cases h6 : (r.f2.size : Int) > 1024
  · rw [if_pos h6]
  rw [if_neg h6]
  by_cases h7 : (r.f3.size : Int) > 1024
  · rw [if_pos h7]
  rw [if_neg h7]
  by_cases h8 : r.f5 = true
  · rw [if_pos h8]
    by_cases h9 : r.f3.toList = []
    · exact absurd ⟨by omega, by omega, by omega, by omega, by omega, by omega, by omega, by omega, fun _ => h9⟩ h
    · rw [if_neg h9]
  · exact absurd ⟨by omega, by omega, by omega, by omega, by omega, by omega, by omega, by omega, fun g => absurd g h8⟩ h

theorem num_f (a b : Int) : fairwayref0_Num.f a b = some (decide (0 ≤ a ∧ a ≤ b)) := by
  unfold fairwayref0_Num.f
  by_cases h : a ≥ 0
  · rw [if_pos h]; congr 1; simp; omega
  · rw [if_neg h]; congr 1; symm; simp; omega

theorem rec_yes (r : R) (h : recOk r) : fairwayref10_Rec.f r.f0 r.f1 r.f2 r.f3 r.f4 r.f5 = some true := by
  obtain ⟨h0, h1, h2, h3, h4, h5, h6, h7, h8⟩ := h
  unfold fairwayref10_Rec.f
  simp only [num_f, Option.bind_some]
  rw [if_pos (by simp; omega), if_pos (by simp; omega), if_pos (by omega), if_pos (by omega), if_pos (by simp; omega)]
  split
  · rename_i hg
    rw [h8 hg]; rfl
  · rfl
theorem rec_no (r : R) (h : ¬ recOk r) : fairwayref10_Rec.f r.f0 r.f1 r.f2 r.f3 r.f4 r.f5 = some false := by
  unfold fairwayref10_Rec.f
  simp only [num_f, Option.bind_some]
  by_cases h0 : 0 ≤ r.f0 ∧ r.f0 ≤ 1099511627775
  · rw [if_pos (by simpa using h0)]
    by_cases h1 : 0 ≤ r.f1 ∧ r.f1 ≤ 1099511627776
    · rw [if_pos (by simpa using h1)]
      by_cases h2 : (r.f2.size : Int) ≤ 1024
      · rw [if_pos h2]
        by_cases h3 : (r.f3.size : Int) ≤ 1024
        · rw [if_pos h3]
          by_cases h4 : 0 ≤ r.f4 ∧ r.f4 ≤ 2
          · rw [if_pos (by simpa using h4)]
            by_cases h8 : r.f5 = true
            · rw [if_pos h8]
              by_cases h9 : r.f3.toList = []
              · exact absurd ⟨by omega, by omega, by omega, by omega, by omega, by omega, by omega, by omega, fun _ => h9⟩ h
              · simpa using h9
            · exact absurd ⟨by omega, by omega, by omega, by omega, by omega, by omega, by omega, by omega, fun g => absurd g h8⟩ h
          · rw [if_neg (by simpa using h4)]
        · rw [if_neg h3]
      · rw [if_neg h2]
    · rw [if_neg (by simpa using h1)]
  · rw [if_neg (by simpa using h0)]

/-- How many bytes a record has. -/
def recLen (r : R) : Nat := 25 + r.f2.size + r.f3.size
theorem wrap_in {x : Int} (h0 : -9223372036854775808 ≤ x) (h1 : x ≤ 9223372036854775807) : wrap64 x = x := by
  unfold wrap64; omega
theorem size_yes (r : R) (h : recOk r) : Ev (fun k => rec_Size.f k r.f0 r.f1 r.f2 r.f3 r.f4 r.f5) ((recLen r : Int), 0) := by
  obtain ⟨h0, h1, h2, h3, h4, h5, h6, h7, h8⟩ := id h
  refine Ev.bind (check_yes r h) (Ev.congr (f := fun _ => some ((recLen r : Int), 0)) (fun k => ?_) (Ev.now _))
  simp only [if_pos]
  rw [wrap_in (x := 25 + (r.f2.size : Int)) (by omega) (by omega), wrap_in (by omega) (by omega)]
  simp [recLen]
theorem size_no (r : R) (h : ¬ recOk r) : Ev (fun k => rec_Size.f k r.f0 r.f1 r.f2 r.f3 r.f4 r.f5) (0, 1) := by
  refine Ev.bind (check_no r h) (Ev.congr (f := fun _ => some (0, 1)) (fun k => ?_) (Ev.now _))
  rw [if_neg (by decide)]

theorem rd_take (l : List R) (n i : Nat) (h : i < n) : rd_T25 (l.take n) i = rd_T25 l i := by
  unfold rd_T25
  simp [List.getD_eq_getElem?_getD, List.getElem?_take, h]
theorem rd_mem {l : List R} {i : Nat} (h : i < l.length) : rd_T25 l i ∈ l := by
  unfold rd_T25
  simp [List.getD_eq_getElem?_getD, List.getElem?_eq_getElem h]
theorem rd_get {l : List R} {i : Nat} (h : i < l.length) : rd_T25 l i = l[i] := by
  unfold rd_T25
  simp [List.getD_eq_getElem?_getD, List.getElem?_eq_getElem h]
end Go.Proofs.Ytmabdfdmccbfnaa.URec

/- Weights: how much of a script is played. -/
namespace Go.Proofs.Ytmabdfdmccbfnaa.UHeavy
open Go Go.RowKit Go.Proofs.Ytmabdfdmccbfnaa.P Go.Proofs.Ytmabdfdmccbfnaa.URec Go.Proofs.YtmabdfdmccbfnaaW.PrintWords Go.Proofs.YtmabdfdmccbfnaaW.PrintLast
set_option linter.unusedVariables false
set_option linter.unusedSimpArgs false

/-- The letters of records. -/
def letters : List R → Nat
  | [] => 0
  | r :: l => r.f2.size + r.f3.size + letters l
theorem letters_take (l : List R) (i : Nat) (h : i < l.length) : letters (l.take (i + 1)) = letters (l.take i) + (rd_T25 l i).f2.size + (rd_T25 l i).f3.size := by
  rw [rd_get h]
  induction l generalizing i with
  | nil => simp at h
  | cons r l ih =>
    cases i with
    | zero => simp [letters]
    | succ i =>
      have := ih i (by simpa using h)
      simp [letters, this]; omega
theorem letters_mem {l : List R} {r : R} (h : r ∈ l) : r.f2.size + r.f3.size ≤ letters l := by
  induction l with
  | nil => simp at h
  | cons x l ih =>
    simp only [letters]
    rcases List.mem_cons.1 h with rfl | h
    · omega
    · have := ih h; omega

theorem weight_loop (l : List R) (hl : l.length * 64 ≤ 140737488351232) (hg : ∀ x ∈ l, good25 x) : ∀ (d i : Nat) (x : Nat), l.length = i + d → x = l.length + letters (l.take i) → x ≤ 562949953421312 →
    ∃ n : Nat, Ev (fun k => fairwaylaw0_RecsWeight.l0 k l x i) (n : Int) ∧ n ≤ 562949953421312 ∧ (n < 1048576 → n = l.length + letters l)
  | 0, i, x, h, hx, hm => by
    refine ⟨x, Ev.step (f := fun _ => some _) (fun k => ?_) (Ev.now _), hm, fun _ => ?_⟩
    · simp only [fairwaylaw0_RecsWeight.l0]
      rw [if_neg (by omega)]
    · rw [hx, List.take_of_length_le (by omega)]
  | d + 1, i, x, h, hx, hm => by
    have hi : i < l.length := by omega
    by_cases hs : x < 1048576
    · have hgi := hg _ (rd_mem hi)
      obtain ⟨g0, g1, g2, g3, g4⟩ := hgi
      obtain ⟨n, hn, h1, h2⟩ := weight_loop l hl hg d (i + 1) (x + (rd_T25 l i).f2.size + (rd_T25 l i).f3.size) (by omega) (by rw [letters_take l i hi]; omega) (by omega)
      refine ⟨n, Ev.step (fun k => ?_) hn, h1, h2⟩
      simp only [fairwaylaw0_RecsWeight.l0]
      rw [if_pos (by omega), if_pos (by omega), if_pos (by omega), wrap_in (x := (x : Int) + ((rd_T25 l i).f2.size : Int)) (by omega) (by omega), wrap_in (by omega) (by omega), wrap_in (by omega) (by omega)]
      rfl
    · refine ⟨x, Ev.step (f := fun _ => some _) (fun k => ?_) (Ev.now _), hm, fun h => absurd h hs⟩
      simp only [fairwaylaw0_RecsWeight.l0]
      rw [if_pos (by omega), if_neg (by omega)]
theorem weight_ev (l : List R) (hl : l.length * 64 ≤ 140737488351232) (hg : ∀ x ∈ l, good25 x) :
    ∃ n : Nat, Ev (fun k => fairwaylaw0_RecsWeight.f k l) (n : Int) ∧ n ≤ 562949953421312 ∧ (n < 1048576 → n = l.length + letters l) :=
  weight_loop l hl hg l.length 0 l.length (by omega) (by simp [letters]) (by omega)

theorem heavy_ev (base : Int) (g l : List R) (ns : List Int) (s : ByteArray) (hg : ∀ x ∈ g, good25 x) (hg2 : g.length * 64 ≤ 140737488351232) (hl : ∀ x ∈ l, good25 x) (hl2 : l.length * 64 ≤ 140737488351232) :
    ∃ b, Ev (fun k => fairwaylaw11_Heavy.f k base g l ns s) b ∧ (b = false → g.length + letters g + (l.length + letters l) ≤ 8000 ∧ s.size ≤ 8000 ∧ ns.length ≤ 500) := by
  obtain ⟨n, h1, h2, h3⟩ := weight_ev g hg2 hg
  obtain ⟨m, k1, k2, k3⟩ := weight_ev l hl2 hl
  by_cases a : wrap64 ((n : Int) + (m : Int)) > 8000
  · exact ⟨true, Ev.bind h1 (Ev.bind k1 (Ev.congr (fun k => if_pos a) (Ev.now _))), fun e => by cases e⟩
  · have hw : (n : Int) + m ≤ 8000 := by rw [wrap_in (by omega) (by omega)] at a; omega
    by_cases b : (s.size : Int) > 8000
    · exact ⟨true, Ev.bind h1 (Ev.bind k1 (Ev.congr (fun k => if_neg a) (Ev.congr (fun k => if_pos b) (Ev.now _)))), fun e => by cases e⟩
    · refine ⟨_, Ev.bind h1 (Ev.bind k1 (Ev.congr (fun k => if_neg a) (Ev.congr (fun k => if_neg b) (Ev.now _)))), fun e => ?_⟩
      have := of_decide_eq_false e
      exact ⟨by rw [← h3 (by omega), ← k3 (by omega)]; omega, by omega, by omega⟩
end Go.Proofs.Ytmabdfdmccbfnaa.UHeavy

/- Segments: which may be: the program's answer and the page's are one. -/
namespace Go.Proofs.Ytmabdfdmccbfnaa.USeg
open Go Go.RowKit Go.Proofs.Ytmabdfdmccbfnaa.P Go.Proofs.Ytmabdfdmccbfnaa.URec Go.Proofs.YtmabdfdmccbfnaaW.PrintWords Go.Proofs.YtmabdfdmccbfnaaW.PrintLast
set_option linter.unusedVariables false
set_option linter.unusedSimpArgs false

/-- The record at a place may stand there. -/
def okAt (base : Int) (l : List R) (i : Nat) : Prop :=
  recOk (rd_T25 l i) ∧ base ≤ (rd_T25 l i).f0 ∧ (0 < i → (rd_T25 l (i - 1 : Nat)).f0 < (rd_T25 l i).f0 ∧ (rd_T25 l (i - 1 : Nat)).f1 ≤ (rd_T25 l i).f1)
/-- A segment that may be. -/
def segOk (base : Int) (l : List R) : Prop := 0 ≤ base ∧ base ≤ 1099511627776 ∧ l.length ≤ 200 ∧ ∀ i, i < l.length → okAt base l i

theorem segOk_rec {base : Int} {l : List R} (h : segOk base l) {i : Nat} (hi : i < l.length) : recOk (rd_T25 l i) := (h.2.2.2 i hi).1

theorem behind_yes (base : Int) (l : List R) (r : R) (h : recOk r) (hb : base ≤ r.f0) (hn : l.length < 200)
    (hp : 0 < l.length → (rd_T25 l (l.length - 1 : Nat)).f0 < r.f0 ∧ (rd_T25 l (l.length - 1 : Nat)).f1 ≤ r.f1) :
    Ev (fun k => seg_behind.f k base l r.f0 r.f1 r.f2 r.f3 r.f4 r.f5) true := by
  refine Ev.bind (check_yes r h) (Ev.congr (f := fun _ => some true) (fun k => ?_) (Ev.now _))
  rw [if_pos rfl, if_neg (by omega), if_neg (by omega)]
  by_cases h0 : (l.length : Int) = 0
  · rw [if_pos h0]
  · have hw : wrap64 ((l.length : Int) - 1) = ((l.length - 1 : Nat) : Int) := by rw [wrap_in (by omega) (by omega)]; omega
    obtain ⟨p0, p1⟩ := hp (by omega)
    rw [if_neg h0, hw, if_pos (by omega), if_pos (by omega), if_pos p0]
    simpa using p1
theorem behind_no (base : Int) (l : List R) (r : R) (hl : l.length ≤ 200) (h : ¬ (recOk r ∧ base ≤ r.f0 ∧ l.length < 200 ∧
    (0 < l.length → (rd_T25 l (l.length - 1 : Nat)).f0 < r.f0 ∧ (rd_T25 l (l.length - 1 : Nat)).f1 ≤ r.f1))) :
    Ev (fun k => seg_behind.f k base l r.f0 r.f1 r.f2 r.f3 r.f4 r.f5) false := by
  by_cases hr : recOk r
  · refine Ev.bind (check_yes r hr) (Ev.congr (f := fun _ => some false) (fun k => ?_) (Ev.now _))
    rw [if_pos rfl]
    by_cases hb : r.f0 < base
    · rw [if_pos hb]
    rw [if_neg hb]
    by_cases hn : (l.length : Int) ≥ 200
    · rw [if_pos hn]
    rw [if_neg hn]
    by_cases h0 : (l.length : Int) = 0
    · exact absurd ⟨hr, by omega, by omega, fun g => by omega⟩ h
    have hw : wrap64 ((l.length : Int) - 1) = ((l.length - 1 : Nat) : Int) := by rw [wrap_in (by omega) (by omega)]; omega
    rw [if_neg h0, hw, if_pos (by omega), if_pos (by omega)]
    by_cases p0 : (rd_T25 l (l.length - 1 : Nat)).f0 < r.f0
    · rw [if_pos p0]
      by_cases p1 : (rd_T25 l (l.length - 1 : Nat)).f1 ≤ r.f1
      · exact absurd ⟨hr, by omega, by omega, fun g => ⟨p0, p1⟩⟩ h
      · simpa using p1
    · rw [if_neg p0]
  · refine Ev.bind (check_no r hr) (Ev.congr (f := fun _ => some false) (fun k => ?_) (Ev.now _))
    rw [if_neg (by decide)]

theorem take_last (l : List R) (i : Nat) (h : i ≤ l.length) (h0 : 0 < i) : rd_T25 (l.take i) ((l.take i).length - 1 : Nat) = rd_T25 l (i - 1 : Nat) := by
  rw [List.length_take, Nat.min_eq_left h]
  exact rd_take l i (i - 1) (by omega)

theorem check_loop_yes (base : Int) (l : List R) (hl : l.length ≤ 200) (hok : ∀ i, i < l.length → okAt base l i) : ∀ (d i : Nat), l.length = i + d →
    Ev (fun k => seg_Check.l0 k l (l.length : Int) i base l) 0
  | 0, i, h => by
    refine Ev.step (f := fun _ => some 0) (fun k => ?_) (Ev.now _)
    simp only [seg_Check.l0]
    rw [if_neg (by omega)]
  | d + 1, i, h => by
    have hi : i < l.length := by omega
    obtain ⟨h1, h2, h3⟩ := hok i hi
    refine Ev.step (f := fun k => (seg_behind.f k base (l.take i) ((rd_T25 l i).f0) ((rd_T25 l i).f1) ((rd_T25 l i).f2) ((rd_T25 l i).f3) ((rd_T25 l i).f4) ((rd_T25 l i).f5)).bind fun t => if t = true then seg_Check.l0 k l (l.length : Int) (wrap64 (i + 1)) base l else some 1) (fun k => ?_) ?_
    · simp only [seg_Check.l0]
      rw [if_pos (by omega), if_pos (by omega), if_pos (by omega), if_pos (by omega), Int.toNat_natCast]
    · refine Ev.bind (behind_yes base (l.take i) (rd_T25 l i) h1 h2 (by rw [List.length_take]; omega) (fun g => ?_)) (Ev.congr (fun k => if_pos rfl) ?_)
      · have hi0 : 0 < i := by rw [List.length_take] at g; omega
        rw [take_last l i (by omega) hi0]
        exact h3 hi0
      · rw [wrap_in (by omega) (by omega)]
        exact check_loop_yes base l hl hok d (i + 1) (by omega)
theorem check_loop_no (base : Int) (l : List R) (j : Nat) (hj : j < l.length) (hj2 : j ≤ 200) (hbad : ¬ (okAt base l j ∧ j < 200)) (hok : ∀ i, i < j → okAt base l i) : ∀ (d i : Nat), j = i + d →
    Ev (fun k => seg_Check.l0 k l (l.length : Int) i base l) 1
  | 0, i, h => by
    obtain rfl : j = i := by omega
    refine Ev.step (f := fun k => (seg_behind.f k base (l.take j) ((rd_T25 l j).f0) ((rd_T25 l j).f1) ((rd_T25 l j).f2) ((rd_T25 l j).f3) ((rd_T25 l j).f4) ((rd_T25 l j).f5)).bind fun t => if t = true then seg_Check.l0 k l (l.length : Int) (wrap64 (j + 1)) base l else some 1) (fun k => ?_) ?_
    · simp only [seg_Check.l0]
      rw [if_pos (by omega), if_pos (by omega), if_pos (by omega), if_pos (by omega), Int.toNat_natCast]
    · refine Ev.bind (behind_no base (l.take j) (rd_T25 l j) (by rw [List.length_take]; omega) (fun g => hbad ?_)) (Ev.congr (f := fun _ => some 1) (fun k => if_neg (by decide)) (Ev.now _))
      obtain ⟨g1, g2, g3, g4⟩ := g
      rw [List.length_take, Nat.min_eq_left (by omega)] at g3
      refine ⟨⟨g1, g2, fun h0 => ?_⟩, g3⟩
      have := g4 (by rw [List.length_take]; omega)
      rw [take_last l j (by omega) h0] at this
      exact this
  | d + 1, i, h => by
    have hi : i < l.length := by omega
    obtain ⟨h1, h2, h3⟩ := hok i (by omega)
    refine Ev.step (f := fun k => (seg_behind.f k base (l.take i) ((rd_T25 l i).f0) ((rd_T25 l i).f1) ((rd_T25 l i).f2) ((rd_T25 l i).f3) ((rd_T25 l i).f4) ((rd_T25 l i).f5)).bind fun t => if t = true then seg_Check.l0 k l (l.length : Int) (wrap64 (i + 1)) base l else some 1) (fun k => ?_) ?_
    · simp only [seg_Check.l0]
      rw [if_pos (by omega), if_pos (by omega), if_pos (by omega), if_pos (by omega), Int.toNat_natCast]
    · refine Ev.bind (behind_yes base (l.take i) (rd_T25 l i) h1 h2 (by rw [List.length_take]; omega) (fun g => ?_)) (Ev.congr (fun k => if_pos rfl) ?_)
      · have hi0 : 0 < i := by rw [List.length_take] at g; omega
        rw [take_last l i (by omega) hi0]
        exact h3 hi0
      · rw [wrap_in (by omega) (by omega)]
        exact check_loop_no base l j hj hj2 hbad hok d (i + 1) (by omega)

theorem least {p : Nat → Prop} : ∀ n, (∃ i, i < n ∧ ¬ p i) → ∃ j, j < n ∧ ¬ p j ∧ ∀ i, i < j → p i
  | 0, ⟨i, h, _⟩ => by omega
  | n + 1, ⟨i, h, hp⟩ => by
    by_cases e : ∃ i, i < n ∧ ¬ p i
    · obtain ⟨j, h1, h2, h3⟩ := least n e
      exact ⟨j, by omega, h2, h3⟩
    · have e' : ∀ i, i < n → p i := fun i hi => Classical.byContradiction fun hn => e ⟨i, hi, hn⟩
      have : i = n := by
        by_cases hin : i < n
        · exact absurd (e' i hin) hp
        · omega
      subst this
      exact ⟨i, by omega, hp, e'⟩

theorem segcheck_yes (base : Int) (l : List R) (h : segOk base l) : Ev (fun k => seg_Check.f k base l) 0 := by
  obtain ⟨h0, h1, h2, h3⟩ := h
  refine Ev.step (f := fun k => seg_Check.l0 k l (l.length : Int) 0 base l) (fun k => ?_) (check_loop_yes base l h2 h3 l.length 0 (by omega))
  simp only [seg_Check.f, seg_Check.j0]
  rw [if_neg (by omega), if_neg (by simp; omega)]
theorem segcheck_no (base : Int) (l : List R) (h : ¬ segOk base l) : Ev (fun k => seg_Check.f k base l) 1 := by
  by_cases h0 : base < 0
  · refine Ev.step (f := fun _ => some 1) (fun k => ?_) (Ev.now _)
    simp only [seg_Check.f, seg_Check.j0]
    rw [if_pos h0]; rfl
  by_cases h1 : base > 1099511627776
  · refine Ev.step (f := fun _ => some 1) (fun k => ?_) (Ev.now _)
    simp only [seg_Check.f, seg_Check.j0]
    rw [if_neg h0, if_pos (by simpa using h1)]
  have hb : ∃ i, i < l.length ∧ ¬ (okAt base l i ∧ i < 200) := by
    refine Classical.byContradiction fun hn => h ⟨by omega, by omega, ?_, ?_⟩
    · by_cases hl : l.length ≤ 200
      · exact hl
      · exact absurd ⟨200, by omega, fun g => by omega⟩ hn
    · intro i hi
      exact Classical.byContradiction fun hc => hn ⟨i, hi, fun g => hc g.1⟩
  obtain ⟨j, hj, hbad, hok⟩ := least l.length hb
  have hj2 : j ≤ 200 := by
    by_cases e : j ≤ 200
    · exact e
    · have := (hok 200 (by omega)).2
      omega
  refine Ev.step (f := fun k => seg_Check.l0 k l (l.length : Int) 0 base l) (fun k => ?_) (check_loop_no base l j hj hj2 hbad (fun i hi => (hok i hi).1) j 0 (by omega))
  simp only [seg_Check.f, seg_Check.j0]
  rw [if_neg (by omega), if_neg (by simp; omega)]

/-! ### the page's own -/
theorem j2_no (base : Int) (l : List R) (i : Int) : Ev (fun k => fairwayref10_Seg.j2 k i true base l) false := by
  refine Ev.step (f := fun _ => some false) (fun k => ?_) (Ev.now _)
  simp only [fairwayref10_Seg.j2]
  rw [if_pos trivial]
theorem ref_step (base : Int) (l : List R) (hm : l.length ≤ 9223372036854775806) (i : Nat) (hi : i < l.length) (h : okAt base l i) {r : Bool} (hr : Ev (fun k => fairwayref10_Seg.l0 k ((i + 1 : Nat) : Int) base l) r) :
    Ev (fun k => fairwayref10_Seg.l0 k i base l) r := by
  obtain ⟨h1, h2, h3⟩ := h
  refine Ev.step (f := fun k => fairwayref10_Seg.j1 k i base l) (fun k => ?_) ?_
  · simp only [fairwayref10_Seg.l0]
    rw [if_pos (by omega)]
  · refine Ev.step (f := fun k => fairwayref10_Seg.j2 k i false base l) (fun k => ?_) ?_
    · simp only [fairwayref10_Seg.j1]
      rw [if_pos (by omega), if_pos (by omega), rec_yes _ h1]
      simp only [Option.bind_some]
      rw [if_pos trivial, if_neg (by omega)]
      by_cases h0 : (i : Int) > 0
      · obtain ⟨p0, p1⟩ := h3 (by omega)
        have hw : wrap64 ((i : Int) - 1) = ((i - 1 : Nat) : Int) := by rw [wrap_in (by omega) (by omega)]; omega
        rw [if_pos h0, hw, if_pos (by omega), if_pos (by omega), if_neg (by omega), decide_eq_false (by omega)]
      · rw [if_neg h0]
    · refine Ev.step (f := fun k => fairwayref10_Seg.l0 k ((i + 1 : Nat) : Int) base l) (fun k => ?_) hr
      simp only [fairwayref10_Seg.j2]
      rw [if_neg (by decide), wrap_in (by omega) (by omega)]
      rfl
theorem ref_stop (base : Int) (l : List R) (hm : l.length ≤ 9223372036854775806) (i : Nat) (hi : i < l.length) (h : ¬ okAt base l i) : Ev (fun k => fairwayref10_Seg.l0 k i base l) false := by
  refine Ev.step (f := fun k => fairwayref10_Seg.j1 k i base l) (fun k => ?_) ?_
  · simp only [fairwayref10_Seg.l0]
    rw [if_pos (by omega)]
  · refine Ev.step (f := fun k => fairwayref10_Seg.j2 k i true base l) (fun k => ?_) (j2_no base l i)
    simp only [fairwayref10_Seg.j1]
    rw [if_pos (by omega), if_pos (by omega)]
    by_cases h1 : recOk (rd_T25 l i)
    · rw [rec_yes _ h1]
      simp only [Option.bind_some]
      rw [if_pos trivial]
      by_cases h2 : (rd_T25 l i).f0 < base
      · rw [if_pos h2]
      rw [if_neg h2]
      by_cases h0 : (i : Int) > 0
      · have hw : wrap64 ((i : Int) - 1) = ((i - 1 : Nat) : Int) := by rw [wrap_in (by omega) (by omega)]; omega
        rw [if_pos h0, hw, if_pos (by omega), if_pos (by omega)]
        by_cases p0 : (rd_T25 l (i - 1 : Nat)).f0 ≥ (rd_T25 l i).f0
        · rw [if_pos p0]
        · rw [if_neg p0]
          by_cases p1 : (rd_T25 l (i - 1 : Nat)).f1 > (rd_T25 l i).f1
          · rw [decide_eq_true p1]
          · exact absurd ⟨h1, by omega, fun _ => ⟨by omega, by omega⟩⟩ h
      · exact absurd ⟨h1, by omega, fun g => by omega⟩ h
    · rw [rec_no _ h1]
      simp only [Option.bind_some]
      rw [if_neg (by decide)]
theorem ref_loop (base : Int) (l : List R) (hm : l.length ≤ 9223372036854775806) (n : Nat) (hn : n ≤ l.length) (hok : ∀ i, i < n → okAt base l i) {r : Bool} (hr : Ev (fun k => fairwayref10_Seg.l0 k n base l) r) : ∀ (d i : Nat), n = i + d →
    Ev (fun k => fairwayref10_Seg.l0 k i base l) r
  | 0, i, h => by
    obtain rfl : n = i := by omega
    exact hr
  | d + 1, i, h => ref_step base l hm i (by omega) (hok i (by omega)) (ref_loop base l hm n hn hok hr d (i + 1) (by omega))
theorem ref_end (base : Int) (l : List R) : Ev (fun k => fairwayref10_Seg.l0 k l.length base l) (decide (0 ≤ base ∧ base ≤ 1099511627776) && decide (l.length ≤ 200)) := by
  refine Ev.step (f := fun _ => some _) (fun k => ?_) (Ev.now _)
  simp only [fairwayref10_Seg.l0]
  rw [if_neg (by omega), num_f]
  simp only [Option.bind_some]
  by_cases h : 0 ≤ base ∧ base ≤ 1099511627776
  · rw [if_pos (by simpa using h), decide_eq_true h]
    simp only [Bool.true_and, Option.some.injEq, decide_eq_decide]
    omega
  · rw [if_neg (by simpa using h), decide_eq_false h]
    rfl
theorem refseg_yes (base : Int) (l : List R) (h : segOk base l) : Ev (fun k => fairwayref10_Seg.f k base l) true := by
  obtain ⟨h0, h1, h2, h3⟩ := h
  have e := ref_end base l
  rw [decide_eq_true ⟨h0, h1⟩, decide_eq_true h2] at e
  exact ref_loop base l (by omega) l.length (Nat.le_refl _) h3 e l.length 0 (by omega)
theorem refseg_no (base : Int) (l : List R) (hm : l.length ≤ 9223372036854775806) (h : ¬ segOk base l) : Ev (fun k => fairwayref10_Seg.f k base l) false := by
  by_cases e : ∃ i, i < l.length ∧ ¬ okAt base l i
  · obtain ⟨j, hj, hbad, hok⟩ := least l.length e
    exact ref_loop base l hm j (by omega) hok (ref_stop base l hm j hj hbad) j 0 (by omega)
  · have e' : ∀ i, i < l.length → okAt base l i := fun i hi => Classical.byContradiction fun hn => e ⟨i, hi, hn⟩
    have z := ref_end base l
    have : (decide (0 ≤ base ∧ base ≤ 1099511627776) && decide (l.length ≤ 200)) = false := by
      rw [Bool.and_eq_false_iff]
      by_cases hb : 0 ≤ base ∧ base ≤ 1099511627776
      · right
        exact decide_eq_false fun hl => h ⟨hb.1, hb.2, hl, e'⟩
      · left
        exact decide_eq_false hb
    rw [this] at z
    exact ref_loop base l hm l.length (Nat.le_refl _) e' z l.length 0 (by omega)
end Go.Proofs.Ytmabdfdmccbfnaa.USeg

