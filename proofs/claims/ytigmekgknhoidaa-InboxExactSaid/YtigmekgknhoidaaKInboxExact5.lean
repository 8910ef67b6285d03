/- InboxExact: for every input of the row the law returns true, and the input reads afterwards as before. Conditions: none beside the row's own. -/
import Derived.Test.YtigmekgknhoidaaKInboxExact4
import Derived.Test.YtigmekgknhoidaaKInboxExact0
import Derived.Test.YtigmekgknhoidaaKInboxExact1
import Derived.ProofKit
import Derived.OpenShut
import Derived.SizedLaws
import Derived.Deep.Slices
import Derived.Test.YtigmekgknhoidaaRows
import Derived.WalkKit
import Derived.ShutString
import Derived.ChangeOld
import Derived.Below
-- written by a program of the proving session, out of the translation; Lean checks it
namespace Go.Proofs.Ytigmekgknhoidaa.P
open Go.RowKit Go.Proofs.Ytigmekgknhoidaa.Sq Go.Proofs.YtigmekgknhoidaaW.PrintWords Go.Proofs.YtigmekgknhoidaaW.PrintLast Go.Proofs.YtigmekgknhoidaaW.PrintMore
attribute [local go_sem] max2_int min2_int max_two min_two max_three min_three max_four min_four   -- for this text's walks alone
set_option linter.unusedVariables false
set_option linter.unusedSimpArgs false

/-! ### fairwaylaw19_InboxExact: function 7 -/
mutual
def fairwaylaw19_InboxExact.l0 : Nat → List Int → Int → List Int → List Int → Option (Bool)
 | 0, _, _, _, _ => none
 | k + 1, x3, x4, x515000, x515001 => if x4 < (x515001.length : Int) then (fairwaylaw19_InboxExact.j1 k x3 x4 (decide (x4 < 25)) x515000 x515001) else (fairwaylaw19_InboxExact.j1 k x3 x4 false x515000 x515001)
def fairwaylaw19_InboxExact.j1 : Nat → List Int → Int → Bool → List Int → List Int → Option (Bool)
 | 0, _, _, _, _, _ => none
 | k + 1, x3, x4, x32, x515000, x515001 => if x32 = true then ((fairwayref17_Inbox.f k x3).bind fun t520 => ((fairwayref0_CopyNumbers.f k x3).bind fun t521 => (if 0 ≤ x4 then (if x4 < (x515001.length : Int) then (if (Int.tmod (rd x515001 x4) 2) = 0 then (if t520 = true then ((fairwayref17_ID.f (wrap64 (Int.tdiv (rd x515001 x4) 2))).bind fun t525 => (fairwaylaw19_InboxExact.j2 k x3 x4 t520 t521 (wrap64 (Int.tdiv (rd x515001 x4) 2)) 1 ([] : List Int) t525 x515000 x515001)) else (fairwaylaw19_InboxExact.j2 k x3 x4 t520 t521 (wrap64 (Int.tdiv (rd x515001 x4) 2)) 1 ([] : List Int) false x515000 x515001)) else (if t520 = true then ((fairwayref17_ID.f (wrap64 (Int.tdiv (rd x515001 x4) 2))).bind fun t542 => (fairwaylaw19_InboxExact.j3 k x3 x4 t520 t521 (wrap64 (Int.tdiv (rd x515001 x4) 2)) 1 ([] : List Int) false t542 x515000 x515001)) else (fairwaylaw19_InboxExact.j3 k x3 x4 t520 t521 (wrap64 (Int.tdiv (rd x515001 x4) 2)) 1 ([] : List Int) false false x515000 x515001))) else (none)) else (none)))) else ((fairwaylaw19_wakes.f k).bind fun t519 => (some t519))
def fairwaylaw19_InboxExact.j4 : Nat → List Int → Int → Bool → List Int → Int → List Int → List Int → Int → List Int → List Int → Option (Bool)
 | 0, _, _, _, _, _, _, _, _, _, _ => none
 | k + 1, x3, x4, x5, x6, x9, x10, x11, x12, x515000, x515001 => (inbox_Check.f k x3).bind fun t558 => ((fairwaylaw19_num.f t558).bind fun t559 => (if ((t559 == 0) != x5) = true then (fairwaylaw19_InboxExact.j5 k x3 x4 x6 x9 x10 x11 true x515000 x515001) else ((fairwaylaw19_num.f x12).bind fun t560 => (if t560 = x9 then ((fairwayref0_EqNumbers.f k x11 x10).bind fun t561 => (if t561 = true then ((fairwayref0_EqNumbers.f k x6 x3).bind fun t562 => (fairwaylaw19_InboxExact.j5 k x3 x4 x6 x9 x10 x11 (!t562) x515000 x515001)) else (fairwaylaw19_InboxExact.j5 k x3 x4 x6 x9 x10 x11 true x515000 x515001))) else (fairwaylaw19_InboxExact.j5 k x3 x4 x6 x9 x10 x11 true x515000 x515001)))))
def fairwaylaw19_InboxExact.j5 : Nat → List Int → Int → List Int → Int → List Int → List Int → Bool → List Int → List Int → Option (Bool)
 | 0, _, _, _, _, _, _, _, _, _ => none
 | k + 1, x3, x4, x6, x9, x10, x11, x116, x515000, x515001 => if x116 = true then (some false) else ((fairwaylaw0_Numbers.f k x11).bind fun _ => ((fairwayref0_EqNumbers.f k x6 x3).bind fun t563 => (if t563 = true then (if x9 = 0 then ((fairwayref0_CopyNumbers.f k x10).bind fun t564 => (fairwaylaw19_InboxExact.l0 k t564 (wrap64 (x4 + 1)) x515000 x515001)) else (fairwaylaw19_InboxExact.l0 k x3 (wrap64 (x4 + 1)) x515000 x515001)) else (some false))))
def fairwaylaw19_InboxExact.j2 : Nat → List Int → Int → Bool → List Int → Int → Int → List Int → Bool → List Int → List Int → Option (Bool)
 | 0, _, _, _, _, _, _, _, _, _, _ => none
 | k + 1, x3, x4, x5, x6, x7, x9, x10, x54, x515000, x515001 => if x54 = true then ((fairwayref17_End.f k x3 x7).bind fun bt526 => (if bt526.2 = true then ((inbox_End.f k x6 x7).bind fun bt530 => (fairwaylaw19_InboxExact.j4 k x3 x4 x5 x6 0 bt526.1 bt530.1 bt530.2 x515000 x515001)) else ((inbox_End.f k x6 x7).bind fun bt534 => (fairwaylaw19_InboxExact.j4 k x3 x4 x5 x6 3 x10 bt534.1 bt534.2 x515000 x515001)))) else ((inbox_End.f k x6 x7).bind fun bt538 => (fairwaylaw19_InboxExact.j4 k x3 x4 x5 x6 x9 x10 bt538.1 bt538.2 x515000 x515001))
def fairwaylaw19_InboxExact.j3 : Nat → List Int → Int → Bool → List Int → Int → Int → List Int → Bool → Bool → List Int → List Int → Option (Bool)
 | 0, _, _, _, _, _, _, _, _, _, _, _ => none
 | k + 1, x3, x4, x5, x6, x7, x9, x10, x15, x73, x515000, x515001 => if x73 = true then ((fairwayref17_Begin.f k x3 x7).bind fun bt543 => ((inbox_Begin.f k x6 x7).bind fun bt548 => (if (bt548.2.1 != bt543.2.1) = true then (some false) else (fairwaylaw19_InboxExact.j4 k x3 x4 x5 x6 bt543.2.2 bt543.1 bt548.1 bt548.2.2 x515000 x515001)))) else ((inbox_Begin.f k x6 x7).bind fun bt553 => (if (bt553.2.1 != x15) = true then (some false) else (fairwaylaw19_InboxExact.j4 k x3 x4 x5 x6 x9 x10 bt553.1 bt553.2.2 x515000 x515001)))
end
def fairwaylaw19_InboxExact.f (k : Nat) (l0_0 : List Int) (l0_1 : List Int) : Option (Bool) := (fairwaylaw19_heavy.f l0_0 l0_1).bind fun t515 => (if t515 = true then (some true) else ((fairwayref0_CopyNumbers.f k l0_0).bind fun t516 => (fairwaylaw19_InboxExact.l0 k t516 0 l0_0 l0_1)))
theorem fairwaylaw19_InboxExact.mono_l : ∀ k, (∀ y0 y1 y2 y3, LeO (fairwaylaw19_InboxExact.l0 k y0 y1 y2 y3) (fairwaylaw19_InboxExact.l0 (k + 1) y0 y1 y2 y3)) ∧ (∀ y0 y1 y2 y3 y4, LeO (fairwaylaw19_InboxExact.j1 k y0 y1 y2 y3 y4) (fairwaylaw19_InboxExact.j1 (k + 1) y0 y1 y2 y3 y4)) ∧ (∀ y0 y1 y2 y3 y4 y5 y6 y7 y8 y9, LeO (fairwaylaw19_InboxExact.j4 k y0 y1 y2 y3 y4 y5 y6 y7 y8 y9) (fairwaylaw19_InboxExact.j4 (k + 1) y0 y1 y2 y3 y4 y5 y6 y7 y8 y9)) ∧ (∀ y0 y1 y2 y3 y4 y5 y6 y7 y8, LeO (fairwaylaw19_InboxExact.j5 k y0 y1 y2 y3 y4 y5 y6 y7 y8) (fairwaylaw19_InboxExact.j5 (k + 1) y0 y1 y2 y3 y4 y5 y6 y7 y8)) ∧ (∀ y0 y1 y2 y3 y4 y5 y6 y7 y8 y9, LeO (fairwaylaw19_InboxExact.j2 k y0 y1 y2 y3 y4 y5 y6 y7 y8 y9) (fairwaylaw19_InboxExact.j2 (k + 1) y0 y1 y2 y3 y4 y5 y6 y7 y8 y9)) ∧ (∀ y0 y1 y2 y3 y4 y5 y6 y7 y8 y9 y10, LeO (fairwaylaw19_InboxExact.j3 k y0 y1 y2 y3 y4 y5 y6 y7 y8 y9 y10) (fairwaylaw19_InboxExact.j3 (k + 1) y0 y1 y2 y3 y4 y5 y6 y7 y8 y9 y10))
 | 0 => ⟨fun _ _ _ _ r h => by simp [fairwaylaw19_InboxExact.l0] at h, fun _ _ _ _ _ r h => by simp [fairwaylaw19_InboxExact.j1] at h, fun _ _ _ _ _ _ _ _ _ _ r h => by simp [fairwaylaw19_InboxExact.j4] at h, fun _ _ _ _ _ _ _ _ _ r h => by simp [fairwaylaw19_InboxExact.j5] at h, fun _ _ _ _ _ _ _ _ _ _ r h => by simp [fairwaylaw19_InboxExact.j2] at h, fun _ _ _ _ _ _ _ _ _ _ _ r h => by simp [fairwaylaw19_InboxExact.j3] at h⟩
 | k + 1 => by
  obtain ⟨ih0, ih1, ih2, ih3, ih4, ih5⟩ := fairwaylaw19_InboxExact.mono_l k
  refine ⟨?_, ?_, ?_, ?_, ?_, ?_⟩
  ·intro y0 y1 y2 y3
   unfold fairwaylaw19_InboxExact.l0
   repeat' first
   | (with_reducible exact ih0 _ _ _ _)
   | (with_reducible exact ih1 _ _ _ _ _)
   | (with_reducible exact ih2 _ _ _ _ _ _ _ _ _ _)
   | (with_reducible exact ih3 _ _ _ _ _ _ _ _ _)
   | (with_reducible exact ih4 _ _ _ _ _ _ _ _ _ _)
   | (with_reducible exact ih5 _ _ _ _ _ _ _ _ _ _ _)
   | (with_reducible exact fairwaylaw0_Numbers.mono _ _)
   | (with_reducible exact fairwaylaw19_wakes.mono _)
   | (with_reducible exact fairwayref0_CopyNumbers.mono _ _)
   | (with_reducible exact fairwayref0_EqNumbers.mono _ _ _)
   | (with_reducible exact fairwayref17_Begin.mono _ _ _)
   | (with_reducible exact fairwayref17_End.mono _ _ _)
   | (with_reducible exact fairwayref17_Inbox.mono _ _)
   | (with_reducible exact inbox_Begin.mono _ _ _)
   | (with_reducible exact inbox_Check.mono _ _)
   | (with_reducible exact inbox_End.mono _ _ _)
   | (with_reducible exact LeO.refl _)
   | (with_reducible exact LeO.none _)
   | (with_reducible refine LeO.ite ?_ ?_)
   | (with_reducible refine LeO.bind ?_ (fun _ => ?_))
   | exact ih0 _ _ _ _
   | exact ih1 _ _ _ _ _
   | exact ih2 _ _ _ _ _ _ _ _ _ _
   | exact ih3 _ _ _ _ _ _ _ _ _
   | exact ih4 _ _ _ _ _ _ _ _ _ _
   | exact ih5 _ _ _ _ _ _ _ _ _ _ _
   | exact fairwaylaw0_Numbers.mono _ _
   | exact fairwaylaw19_wakes.mono _
   | exact fairwayref0_CopyNumbers.mono _ _
   | exact fairwayref0_EqNumbers.mono _ _ _
   | exact fairwayref17_Begin.mono _ _ _
   | exact fairwayref17_End.mono _ _ _
   | exact fairwayref17_Inbox.mono _ _
   | exact inbox_Begin.mono _ _ _
   | exact inbox_Check.mono _ _
   | exact inbox_End.mono _ _ _
   | exact LeO.none _
   | refine LeO.ite ?_ ?_
   | refine LeO.bind ?_ (fun _ => ?_)
  ·intro y0 y1 y2 y3 y4
   unfold fairwaylaw19_InboxExact.j1
   repeat' first
   | (with_reducible exact ih0 _ _ _ _)
   | (with_reducible exact ih1 _ _ _ _ _)
   | (with_reducible exact ih2 _ _ _ _ _ _ _ _ _ _)
   | (with_reducible exact ih3 _ _ _ _ _ _ _ _ _)
   | (with_reducible exact ih4 _ _ _ _ _ _ _ _ _ _)
   | (with_reducible exact ih5 _ _ _ _ _ _ _ _ _ _ _)
   | (with_reducible exact fairwaylaw0_Numbers.mono _ _)
   | (with_reducible exact fairwaylaw19_wakes.mono _)
   | (with_reducible exact fairwayref0_CopyNumbers.mono _ _)
   | (with_reducible exact fairwayref0_EqNumbers.mono _ _ _)
   | (with_reducible exact fairwayref17_Begin.mono _ _ _)
   | (with_reducible exact fairwayref17_End.mono _ _ _)
   | (with_reducible exact fairwayref17_Inbox.mono _ _)
   | (with_reducible exact inbox_Begin.mono _ _ _)
   | (with_reducible exact inbox_Check.mono _ _)
   | (with_reducible exact inbox_End.mono _ _ _)
   | (with_reducible exact LeO.refl _)
   | (with_reducible exact LeO.none _)
   | (with_reducible refine LeO.ite ?_ ?_)
   | (with_reducible refine LeO.bind ?_ (fun _ => ?_))
   | exact ih0 _ _ _ _
   | exact ih1 _ _ _ _ _
   | exact ih2 _ _ _ _ _ _ _ _ _ _
   | exact ih3 _ _ _ _ _ _ _ _ _
   | exact ih4 _ _ _ _ _ _ _ _ _ _
   | exact ih5 _ _ _ _ _ _ _ _ _ _ _
   | exact fairwaylaw0_Numbers.mono _ _
   | exact fairwaylaw19_wakes.mono _
   | exact fairwayref0_CopyNumbers.mono _ _
   | exact fairwayref0_EqNumbers.mono _ _ _
   | exact fairwayref17_Begin.mono _ _ _
   | exact fairwayref17_End.mono _ _ _
   | exact fairwayref17_Inbox.mono _ _
   | exact inbox_Begin.mono _ _ _
   | exact inbox_Check.mono _ _
   | exact inbox_End.mono _ _ _
   | exact LeO.none _
   | refine LeO.ite ?_ ?_
   | refine LeO.bind ?_ (fun _ => ?_)
  ·intro y0 y1 y2 y3 y4 y5 y6 y7 y8 y9
   unfold fairwaylaw19_InboxExact.j4
   repeat' first
   | (with_reducible exact ih0 _ _ _ _)
   | (with_reducible exact ih1 _ _ _ _ _)
   | (with_reducible exact ih2 _ _ _ _ _ _ _ _ _ _)
   | (with_reducible exact ih3 _ _ _ _ _ _ _ _ _)
   | (with_reducible exact ih4 _ _ _ _ _ _ _ _ _ _)
   | (with_reducible exact ih5 _ _ _ _ _ _ _ _ _ _ _)
   | (with_reducible exact fairwaylaw0_Numbers.mono _ _)
   | (with_reducible exact fairwaylaw19_wakes.mono _)
   | (with_reducible exact fairwayref0_CopyNumbers.mono _ _)
   | (with_reducible exact fairwayref0_EqNumbers.mono _ _ _)
   | (with_reducible exact fairwayref17_Begin.mono _ _ _)
   | (with_reducible exact fairwayref17_End.mono _ _ _)
   | (with_reducible exact fairwayref17_Inbox.mono _ _)
   | (with_reducible exact inbox_Begin.mono _ _ _)
   | (with_reducible exact inbox_Check.mono _ _)
   | (with_reducible exact inbox_End.mono _ _ _)
   | (with_reducible exact LeO.refl _)
   | (with_reducible exact LeO.none _)
   | (with_reducible refine LeO.ite ?_ ?_)
   | (with_reducible refine LeO.bind ?_ (fun _ => ?_))
   | exact ih0 _ _ _ _
   | exact ih1 _ _ _ _ _
   | exact ih2 _ _ _ _ _ _ _ _ _ _
   | exact ih3 _ _ _ _ _ _ _ _ _
   | exact ih4 _ _ _ _ _ _ _ _ _ _
   | exact ih5 _ _ _ _ _ _ _ _ _ _ _
   | exact fairwaylaw0_Numbers.mono _ _
   | exact fairwaylaw19_wakes.mono _
   | exact fairwayref0_CopyNumbers.mono _ _
   | exact fairwayref0_EqNumbers.mono _ _ _
   | exact fairwayref17_Begin.mono _ _ _
   | exact fairwayref17_End.mono _ _ _
   | exact fairwayref17_Inbox.mono _ _
   | exact inbox_Begin.mono _ _ _
   | exact inbox_Check.mono _ _
   | exact inbox_End.mono _ _ _
   | exact LeO.none _
   | refine LeO.ite ?_ ?_
   | refine LeO.bind ?_ (fun _ => ?_)
  ·intro y0 y1 y2 y3 y4 y5 y6 y7 y8
   unfold fairwaylaw19_InboxExact.j5
   repeat' first
   | (with_reducible exact ih0 _ _ _ _)
   | (with_reducible exact ih1 _ _ _ _ _)
   | (with_reducible exact ih2 _ _ _ _ _ _ _ _ _ _)
   | (with_reducible exact ih3 _ _ _ _ _ _ _ _ _)
   | (with_reducible exact ih4 _ _ _ _ _ _ _ _ _ _)
   | (with_reducible exact ih5 _ _ _ _ _ _ _ _ _ _ _)
   | (with_reducible exact fairwaylaw0_Numbers.mono _ _)
   | (with_reducible exact fairwaylaw19_wakes.mono _)
   | (with_reducible exact fairwayref0_CopyNumbers.mono _ _)
   | (with_reducible exact fairwayref0_EqNumbers.mono _ _ _)
   | (with_reducible exact fairwayref17_Begin.mono _ _ _)
   | (with_reducible exact fairwayref17_End.mono _ _ _)
   | (with_reducible exact fairwayref17_Inbox.mono _ _)
   | (with_reducible exact inbox_Begin.mono _ _ _)
   | (with_reducible exact inbox_Check.mono _ _)
   | (with_reducible exact inbox_End.mono _ _ _)
   | (with_reducible exact LeO.refl _)
   | (with_reducible exact LeO.none _)
   | (with_reducible refine LeO.ite ?_ ?_)
   | (with_reducible refine LeO.bind ?_ (fun _ => ?_))
   | exact ih0 _ _ _ _
   | exact ih1 _ _ _ _ _
   | exact ih2 _ _ _ _ _ _ _ _ _ _
   | exact ih3 _ _ _ _ _ _ _ _ _
   | exact ih4 _ _ _ _ _ _ _ _ _ _
   | exact ih5 _ _ _ _ _ _ _ _ _ _ _
   | exact fairwaylaw0_Numbers.mono _ _
   | exact fairwaylaw19_wakes.mono _
   | exact fairwayref0_CopyNumbers.mono _ _
   | exact fairwayref0_EqNumbers.mono _ _ _
   | exact fairwayref17_Begin.mono _ _ _
   | exact fairwayref17_End.mono _ _ _
   | exact fairwayref17_Inbox.mono _ _
   | exact inbox_Begin.mono _ _ _
   | exact inbox_Check.mono _ _
   | exact inbox_End.mono _ _ _
   | exact LeO.none _
   | refine LeO.ite ?_ ?_
   | refine LeO.bind ?_ (fun _ => ?_)
  ·intro y0 y1 y2 y3 y4 y5 y6 y7 y8 y9
   unfold fairwaylaw19_InboxExact.j2
   repeat' first
   | (with_reducible exact ih0 _ _ _ _)
   | (with_reducible exact ih1 _ _ _ _ _)
   | (with_reducible exact ih2 _ _ _ _ _ _ _ _ _ _)
   | (with_reducible exact ih3 _ _ _ _ _ _ _ _ _)
   | (with_reducible exact ih4 _ _ _ _ _ _ _ _ _ _)
   | (with_reducible exact ih5 _ _ _ _ _ _ _ _ _ _ _)
   | (with_reducible exact fairwaylaw0_Numbers.mono _ _)
   | (with_reducible exact fairwaylaw19_wakes.mono _)
   | (with_reducible exact fairwayref0_CopyNumbers.mono _ _)
   | (with_reducible exact fairwayref0_EqNumbers.mono _ _ _)
   | (with_reducible exact fairwayref17_Begin.mono _ _ _)
   | (with_reducible exact fairwayref17_End.mono _ _ _)
   | (with_reducible exact fairwayref17_Inbox.mono _ _)
   | (with_reducible exact inbox_Begin.mono _ _ _)
   | (with_reducible exact inbox_Check.mono _ _)
   | (with_reducible exact inbox_End.mono _ _ _)
   | (with_reducible exact LeO.refl _)
   | (with_reducible exact LeO.none _)
   | (with_reducible refine LeO.ite ?_ ?_)
   | (with_reducible refine LeO.bind ?_ (fun _ => ?_))
   | exact ih0 _ _ _ _
   | exact ih1 _ _ _ _ _
   | exact ih2 _ _ _ _ _ _ _ _ _ _
   | exact ih3 _ _ _ _ _ _ _ _ _
   | exact ih4 _ _ _ _ _ _ _ _ _ _
   | exact ih5 _ _ _ _ _ _ _ _ _ _ _
   | exact fairwaylaw0_Numbers.mono _ _
   | exact fairwaylaw19_wakes.mono _
   | exact fairwayref0_CopyNumbers.mono _ _
   | exact fairwayref0_EqNumbers.mono _ _ _
   | exact fairwayref17_Begin.mono _ _ _
   | exact fairwayref17_End.mono _ _ _
   | exact fairwayref17_Inbox.mono _ _
   | exact inbox_Begin.mono _ _ _
   | exact inbox_Check.mono _ _
   | exact inbox_End.mono _ _ _
   | exact LeO.none _
   | refine LeO.ite ?_ ?_
   | refine LeO.bind ?_ (fun _ => ?_)
  ·intro y0 y1 y2 y3 y4 y5 y6 y7 y8 y9 y10
   unfold fairwaylaw19_InboxExact.j3
   repeat' first
   | (with_reducible exact ih0 _ _ _ _)
   | (with_reducible exact ih1 _ _ _ _ _)
   | (with_reducible exact ih2 _ _ _ _ _ _ _ _ _ _)
   | (with_reducible exact ih3 _ _ _ _ _ _ _ _ _)
   | (with_reducible exact ih4 _ _ _ _ _ _ _ _ _ _)
   | (with_reducible exact ih5 _ _ _ _ _ _ _ _ _ _ _)
   | (with_reducible exact fairwaylaw0_Numbers.mono _ _)
   | (with_reducible exact fairwaylaw19_wakes.mono _)
   | (with_reducible exact fairwayref0_CopyNumbers.mono _ _)
   | (with_reducible exact fairwayref0_EqNumbers.mono _ _ _)
   | (with_reducible exact fairwayref17_Begin.mono _ _ _)
   | (with_reducible exact fairwayref17_End.mono _ _ _)
   | (with_reducible exact fairwayref17_Inbox.mono _ _)
   | (with_reducible exact inbox_Begin.mono _ _ _)
   | (with_reducible exact inbox_Check.mono _ _)
   | (with_reducible exact inbox_End.mono _ _ _)
   | (with_reducible exact LeO.refl _)
   | (with_reducible exact LeO.none _)
   | (with_reducible refine LeO.ite ?_ ?_)
   | (with_reducible refine LeO.bind ?_ (fun _ => ?_))
   | exact ih0 _ _ _ _
   | exact ih1 _ _ _ _ _
   | exact ih2 _ _ _ _ _ _ _ _ _ _
   | exact ih3 _ _ _ _ _ _ _ _ _
   | exact ih4 _ _ _ _ _ _ _ _ _ _
   | exact ih5 _ _ _ _ _ _ _ _ _ _ _
   | exact fairwaylaw0_Numbers.mono _ _
   | exact fairwaylaw19_wakes.mono _
   | exact fairwayref0_CopyNumbers.mono _ _
   | exact fairwayref0_EqNumbers.mono _ _ _
   | exact fairwayref17_Begin.mono _ _ _
   | exact fairwayref17_End.mono _ _ _
   | exact fairwayref17_Inbox.mono _ _
   | exact inbox_Begin.mono _ _ _
   | exact inbox_Check.mono _ _
   | exact inbox_End.mono _ _ _
   | exact LeO.none _
   | refine LeO.ite ?_ ?_
   | refine LeO.bind ?_ (fun _ => ?_)
theorem fairwaylaw19_InboxExact.mono : ∀ a0 a1 k, LeO (fairwaylaw19_InboxExact.f k a0 a1) (fairwaylaw19_InboxExact.f (k + 1) a0 a1) := by
 intro a0 a1 k
 obtain ⟨ih0, ih1, ih2, ih3, ih4, ih5⟩ := fairwaylaw19_InboxExact.mono_l k
 unfold fairwaylaw19_InboxExact.f
 repeat' first
  | (with_reducible exact ih0 _ _ _ _)
  | (with_reducible exact ih1 _ _ _ _ _)
  | (with_reducible exact ih2 _ _ _ _ _ _ _ _ _ _)
  | (with_reducible exact ih3 _ _ _ _ _ _ _ _ _)
  | (with_reducible exact ih4 _ _ _ _ _ _ _ _ _ _)
  | (with_reducible exact ih5 _ _ _ _ _ _ _ _ _ _ _)
  | (with_reducible exact fairwaylaw0_Numbers.mono _ _)
  | (with_reducible exact fairwaylaw19_wakes.mono _)
  | (with_reducible exact fairwayref0_CopyNumbers.mono _ _)
  | (with_reducible exact fairwayref0_EqNumbers.mono _ _ _)
  | (with_reducible exact fairwayref17_Begin.mono _ _ _)
  | (with_reducible exact fairwayref17_End.mono _ _ _)
  | (with_reducible exact fairwayref17_Inbox.mono _ _)
  | (with_reducible exact inbox_Begin.mono _ _ _)
  | (with_reducible exact inbox_Check.mono _ _)
  | (with_reducible exact inbox_End.mono _ _ _)
  | (with_reducible exact LeO.refl _)
  | (with_reducible exact LeO.none _)
  | (with_reducible refine LeO.ite ?_ ?_)
  | (with_reducible refine LeO.bind ?_ (fun _ => ?_))
  | exact ih0 _ _ _ _
  | exact ih1 _ _ _ _ _
  | exact ih2 _ _ _ _ _ _ _ _ _ _
  | exact ih3 _ _ _ _ _ _ _ _ _
  | exact ih4 _ _ _ _ _ _ _ _ _ _
  | exact ih5 _ _ _ _ _ _ _ _ _ _ _
  | exact fairwaylaw0_Numbers.mono _ _
  | exact fairwaylaw19_wakes.mono _
  | exact fairwayref0_CopyNumbers.mono _ _
  | exact fairwayref0_EqNumbers.mono _ _ _
  | exact fairwayref17_Begin.mono _ _ _
  | exact fairwayref17_End.mono _ _ _
  | exact fairwayref17_Inbox.mono _ _
  | exact inbox_Begin.mono _ _ _
  | exact inbox_Check.mono _ _
  | exact inbox_End.mono _ _ _
  | exact LeO.none _
  | refine LeO.ite ?_ ?_
  | refine LeO.bind ?_ (fun _ => ?_)
set_option maxHeartbeats 8000000 in
set_option maxRecDepth 100000 in
theorem fairwaylaw19_InboxExact.calls (k : Nat) (A0_0 : Option Addr) (c0_0 : Nat) (l0_0 : List Int) (A0_1 : Option Addr) (c0_1 : Nat) (l0_1 : List Int) (r : Bool) (w : World) (hr0_0 : Kd.C (Kd.int .i64) w A0_0 l0_0.length l0_0) (hc0_0 : l0_0.length ≤ c0_0) (hr0_1 : Kd.C (Kd.int .i64) w A0_1 l0_1.length l0_1) (hc0_1 : l0_1.length ≤ c0_1) (h : fairwaylaw19_InboxExact.f k l0_0 l0_1 = some r) :
 Calls Try.prog 7 #[.agg #[.slice A0_0 l0_0.length c0_0, .slice A0_1 l0_1.length c0_1]] w fun e w' => e = .returned (.bool r) ∧ Below w.heap.size w w' := by
 have hu56 := Try.underlying56
 have HR0_0 := Aside0.mk hr0_0
 have HC0_0 := Aside0.mk hc0_0
 clear hr0_0 hc0_0
 have HR0_1 := Aside0.mk hr0_1
 have HC0_1 := Aside0.mk hc0_1
 clear hr0_1 hc0_1
 have HB := Aside0.mk (Below.refl w.heap.size w)
 have H : ((fairwaylaw19_heavy.f l0_0 l0_1).bind fun t515 => (if t515 = true then (some true) else ((fairwayref0_CopyNumbers.f k l0_0).bind fun t516 => (fairwaylaw19_InboxExact.l0 k t516 0 l0_0 l0_1)))) = some r := h
 clear h
 replace H := Option.bind_eq_some_iff.mp H
 obtain ⟨t515, A20, H⟩ := H
 replace H : (if t515 = true then (some true) else ((fairwayref0_CopyNumbers.f k l0_0).bind fun t516 => (fairwaylaw19_InboxExact.l0 k t516 0 l0_0 l0_1))) = some r := H
 have A2 := Aside0.mk A20
 clear A20
 by_cases c3 : t515 = true
 ·subst c3
  have H1 : (some true) = some r := by rw [if_pos rfl] at H; exact H
  clear H
  have H := H1
  clear H1
  obtain rfl := Option.some.inj H
  go_enter Try.func7, Try.ntmps7
  go_wp2_with (first | ((with_reducible refine gate_dst (N := 1) rfl ?_); refine box_event ?hg (N := 1) ?hd (cs := #[.slice A0_0 l0_0.length c0_0, .slice A0_1 l0_1.length c0_1]) (t := 56) ?hr ?_; (case hd => rfl); (case hg => rfl); (case hr => first | (go_simp; done) | (go_simp; rfl)); intro gb514 hg w4 hbox hb; have BK514 := Aside0.mk (hbox); have GW514 := Aside0.mk ((by rw [hg]; exact (below_size bo) : w.heap.size ≤ gb514)); have GE514 := Aside0.mk ((by rw [hg]; exact (below_size bo) : w.heap.size ≤ gb514)); replace HB := Aside0.mk (below_step bo hb); clear hb hbox hg; obtain ⟨hcz5_0, hcz5_1⟩ := cl2 BK514.out; obtain ⟨hfz5_0, hfz5_1⟩ := fz2 BK514.out) | ((with_reducible refine gate_callee (f := 27) rfl ?_); refine goesL_ (some 20) rfl rfl Try.func27 (by kernel_rfl) rfl #[.agg #[.slice A0_0 l0_0.length c0_0, .slice A0_1 l0_1.length c0_1]] rfl aa ?_; (with_reducible refine (fairwaylaw19_heavy.calls _ _ l0_0 _ _ l0_1 true _ ?side1 ?side2 ?side3 ?side4 A2.out).mono ?_); (case side1 => repeat (first | exact (Kd.C_below HR0_0.out HB.out) | (with_reducible refine Kd.C_alloc ?_ _) | (with_reducible refine Kd.C_drewN ?_ _) | (with_reducible refine Kd.C_drew ?_))); (case side2 => exact HC0_0.out); (case side3 => repeat (first | exact (Kd.C_below HR0_1.out HB.out) | (with_reducible refine Kd.C_alloc ?_ _) | (with_reducible refine Kd.C_drewN ?_ _) | (with_reducible refine Kd.C_drew ?_))); (case side4 => exact HC0_1.out); rintro e w6 ⟨rfl, hb⟩; refine ⟨_, rfl, ?_⟩; replace BK514 := Aside0.mk (blk_below (g := gb514) (o := .cells #[.slice A0_0 l0_0.length c0_0, .slice A0_1 l0_1.length c0_1] 56 (0, 0)) (bk BK514.out) hb); replace HB := Aside0.mk (below_step bo hb); (try clear hb); (try clear hb2); (try clear hk); (try clear hi)))
  go_ret
  exact ⟨er, bo⟩
 ·replace c3 := Bool.eq_false_iff.mpr c3
  subst c3
  have H1 : ((fairwayref0_CopyNumbers.f k l0_0).bind fun t516 => (fairwaylaw19_InboxExact.l0 k t516 0 l0_0 l0_1)) = some r := by rw [if_neg (show ¬ (false = true) by decide)] at H; exact H
  clear H
  have H := H1
  clear H1
  replace H := Option.bind_eq_some_iff.mp H
  obtain ⟨t516, A70, H⟩ := H
  replace H : (fairwaylaw19_InboxExact.l0 k t516 0 l0_0 l0_1) = some r := H
  have A7 := Aside0.mk A70
  clear A70
  have H' := Aside0.mk H
  clear H
  go_enter Try.func7, Try.ntmps7
  go_wp2_with (first | ((with_reducible refine gate_dst (N := 1) rfl ?_); refine box_event ?hg (N := 1) ?hd (cs := #[.slice A0_0 l0_0.length c0_0, .slice A0_1 l0_1.length c0_1]) (t := 56) ?hr ?_; (case hd => rfl); (case hg => rfl); (case hr => first | (go_simp; done) | (go_simp; rfl)); intro gb514 hg w8 hbox hb; have BK514 := Aside0.mk (hbox); have GW514 := Aside0.mk ((by rw [hg]; exact (below_size bo) : w.heap.size ≤ gb514)); have GE514 := Aside0.mk ((by rw [hg]; exact (below_size bo) : w.heap.size ≤ gb514)); replace HB := Aside0.mk (below_step bo hb); clear hb hbox hg; obtain ⟨hcz9_0, hcz9_1⟩ := cl2 BK514.out; obtain ⟨hfz9_0, hfz9_1⟩ := fz2 BK514.out) | ((with_reducible refine gate_callee (f := 27) rfl ?_); refine goesL_ (some 20) rfl rfl Try.func27 (by kernel_rfl) rfl #[.agg #[.slice A0_0 l0_0.length c0_0, .slice A0_1 l0_1.length c0_1]] rfl aa ?_; (with_reducible refine (fairwaylaw19_heavy.calls _ _ l0_0 _ _ l0_1 false _ ?side1 ?side2 ?side3 ?side4 A2.out).mono ?_); (case side1 => repeat (first | exact (Kd.C_below HR0_0.out HB.out) | (with_reducible refine Kd.C_alloc ?_ _) | (with_reducible refine Kd.C_drewN ?_ _) | (with_reducible refine Kd.C_drew ?_))); (case side2 => exact HC0_0.out); (case side3 => repeat (first | exact (Kd.C_below HR0_1.out HB.out) | (with_reducible refine Kd.C_alloc ?_ _) | (with_reducible refine Kd.C_drewN ?_ _) | (with_reducible refine Kd.C_drew ?_))); (case side4 => exact HC0_1.out); rintro e w10 ⟨rfl, hb⟩; refine ⟨_, rfl, ?_⟩; replace BK514 := Aside0.mk (blk_below (g := gb514) (o := .cells #[.slice A0_0 l0_0.length c0_0, .slice A0_1 l0_1.length c0_1] 56 (0, 0)) (bk BK514.out) hb); replace HB := Aside0.mk (below_step bo hb); (try clear hb); (try clear hb2); (try clear hk); (try clear hi); obtain ⟨hcz11_0, hcz11_1⟩ := cl2 BK514.out; obtain ⟨hfz11_0, hfz11_1⟩ := fz2 BK514.out) | ((with_reducible refine gate_callee (f := 28) rfl ?_); refine goesL_ (some 23) rfl rfl Try.func28 (by kernel_rfl) rfl #[.slice A0_0 l0_0.length c0_0] rfl aa ?_; (with_reducible refine (fairwayref0_CopyNumbers.calls k _ _ l0_0 t516 _ ?side1 ?side2 A7.out).mono ?_); (case side1 => repeat (first | exact (Kd.C_below HR0_0.out HB.out) | (with_reducible refine Kd.C_alloc ?_ _) | (with_reducible refine Kd.C_drewN ?_ _) | (with_reducible refine Kd.C_drew ?_))); (case side2 => exact HC0_0.out); rintro e w12 ⟨v517, rfl, ho0, hb⟩; refine ⟨_, rfl, ?_⟩; have HO518 := Aside0.mk (Kd.R_lower ho0 (below_size bo)); replace BK514 := Aside0.mk (blk_below (g := gb514) (o := .cells #[.slice A0_0 l0_0.length c0_0, .slice A0_1 l0_1.length c0_1] 56 (0, 0)) (bk BK514.out) hb); replace HB := Aside0.mk (below_step bo hb); (try clear hb); (try clear hb2); (try clear hk); (try clear hi); (try clear ho0)))
  go_loopg [3, 4] k (fun kq v3 v4 w' => ∃ (x3_1 : List Int) (x4_1 : Int), v4 = .int .i64 x4_1 ∧ Aside0 (fairwaylaw19_InboxExact.l0 kq x3_1 x4_1 l0_0 l0_1 = some r) ∧ Aside0 (kq ≤ k) ∧ Aside0 (Kd.R (Kd.int .i64) 3 w' w.heap.size (fun _ => True) v3 x3_1) ∧ Aside0 (w'.heap[gb514]? = some (.cells #[(.slice A0_0 l0_0.length c0_0), (.slice A0_1 l0_1.length c0_1)] 56 (0, 0))) ∧ Aside0 (Below w.heap.size w w'))
  case atStart => exact ⟨(t516), (0), ap, H', ⟨Nat.le_refl _⟩, ⟨by (with_reducible repeat (first | apply Kd.R_alloc | apply Kd.R_drewN | apply Kd.R_drew)); exact HO518.out⟩, ⟨by (with_reducible repeat (first | refine blk_drewN ?_ _ | refine blk_drew ?_ | refine blk_alloc ?_ _)); exact BK514.out⟩, ⟨bo⟩⟩
  case round =>
   clear H'
   try clear c2
   try clear p2
   try clear c3
   try clear c7
   try clear hcz11_0
   try clear hcz11_1
   try clear hcz5_0
   try clear hcz5_1
   try clear hcz9_0
   try clear hcz9_1
   try clear hfz11_0
   try clear hfz11_1
   try clear hfz5_0
   try clear hfz5_1
   try clear hfz9_0
   try clear hfz9_1
   obtain ⟨x3_1, x4_1, rfl, HA, HK1, HO_3, BK514, HB⟩ := hrel
   cases gk with
   | zero => exact absurd HA.out (by simp [fairwaylaw19_InboxExact.l0])
   | succ k1 =>
    have H := HA.out
    clear HA
    simp only [fairwaylaw19_InboxExact.l0] at H
    have HC13 := Aside0.mk H
    clear H
    go_upto_region 5 with (fail)
    go_cut [32] (fun v32 wc => ∃ (kq : Nat) (x32_12 : Bool), v32 = .bool x32_12 ∧ Aside0 (fairwaylaw19_InboxExact.j1 kq x3_1 x4_1 x32_12 l0_0 l0_1 = some r) ∧ Aside0 (kq ≤ k1) ∧ Aside0 (Kd.R (Kd.int .i64) 3 wc w.heap.size (fun _ => True) u3 x3_1) ∧ Aside0 (wc.heap[gb514]? = some (.cells #[(.slice A0_0 l0_0.length c0_0), (.slice A0_1 l0_1.length c0_1)] 56 (0, 0))) ∧ Aside0 (Below w.heap.size w wc))
    case first =>
     have H := HC13.out
     clear HC13
     by_cases c14 : x4_1 < (l0_1.length : Int)
     ·rw [if_pos c14] at H
      have c14b0 : decide (x4_1 < (l0_1.length : Int)) = true := decide_eq_true c14
      clear c14
      (first | rw [c14b0] | (simp only [i64_w, i32_w]; rw [c14b0]) | skip)
      have H' := Aside0.mk H
      clear H
      have hcz15_0 : wr.cell? ⟨gb514, 0, none⟩ = some (.slice A0_0 l0_0.length c0_0) := (blk_cell BK514.out 0).trans rfl
      have hcz15_1 : wr.cell? ⟨gb514, 1, none⟩ = some (.slice A0_1 l0_1.length c0_1) := (blk_cell BK514.out 1).trans rfl
      have hfz15_0 := blk_frozen BK514.out 0
      have hfz15_1 := blk_frozen BK514.out 1
      go_wp2
      go_meet
      case rel => exact ⟨_, (decide (x4_1 < 25)), ap, H', ⟨by have := HK1.out; first | omega | exact Nat.le_refl _⟩, ⟨by (with_reducible repeat (first | apply Kd.R_alloc | apply Kd.R_drewN | apply Kd.R_drew)); exact HO_3.out⟩, ⟨by (with_reducible repeat (first | refine blk_drewN ?_ _ | refine blk_drew ?_ | refine blk_alloc ?_ _)); exact BK514.out⟩, ⟨bo⟩⟩
     ·rw [if_neg c14] at H
      have c14b0 : decide (x4_1 < (l0_1.length : Int)) = false := decide_eq_false c14
      clear c14
      (first | rw [c14b0] | (simp only [i64_w, i32_w]; rw [c14b0]) | skip)
      have H' := Aside0.mk H
      clear H
      have hcz16_0 : wr.cell? ⟨gb514, 0, none⟩ = some (.slice A0_0 l0_0.length c0_0) := (blk_cell BK514.out 0).trans rfl
      have hcz16_1 : wr.cell? ⟨gb514, 1, none⟩ = some (.slice A0_1 l0_1.length c0_1) := (blk_cell BK514.out 1).trans rfl
      have hfz16_0 := blk_frozen BK514.out 0
      have hfz16_1 := blk_frozen BK514.out 1
      go_wp2
      go_meet
      case rel => exact ⟨_, (false), ap, H', ⟨by have := HK1.out; first | omega | exact Nat.le_refl _⟩, ⟨by (with_reducible repeat (first | apply Kd.R_alloc | apply Kd.R_drewN | apply Kd.R_drew)); exact HO_3.out⟩, ⟨by (with_reducible repeat (first | refine blk_drewN ?_ _ | refine blk_drew ?_ | refine blk_alloc ?_ _)); exact BK514.out⟩, ⟨bo⟩⟩
    case rest =>
     clear HC13
     try clear c1
     try clear c2
     try clear p2
     try clear c3
     try clear c7
     try clear c14
     try clear c14b0
     try clear hcz11_0
     try clear hcz11_1
     try clear hcz15_0
     try clear hcz15_1
     try clear hcz16_0
     try clear hcz16_1
     try clear hcz5_0
     try clear hcz5_1
     try clear hcz9_0
     try clear hcz9_1
     try clear hfz11_0
     try clear hfz11_1
     try clear hfz15_0
     try clear hfz15_1
     try clear hfz16_0
     try clear hfz16_1
     try clear hfz5_0
     try clear hfz5_1
     try clear hfz9_0
     try clear hfz9_1
     try clear p2
     obtain ⟨kq, x32_12, rfl, HA, HJ12, HO_3, BK514, HB⟩ := hcut
     cases kq with
     | zero => exact absurd HA.out (by simp [fairwaylaw19_InboxExact.j1])
     | succ kj12 =>
      have H := HA.out
      clear HA
      simp only [fairwaylaw19_InboxExact.j1] at H
      by_cases c17 : x32_12 = true
      ·subst c17
       have H1 : ((fairwayref17_Inbox.f kj12 x3_1).bind fun t520 => ((fairwayref0_CopyNumbers.f kj12 x3_1).bind fun t521 => (if 0 ≤ x4_1 then (if x4_1 < (l0_1.length : Int) then (if (Int.tmod (rd l0_1 x4_1) 2) = 0 then (if t520 = true then ((fairwayref17_ID.f (wrap64 (Int.tdiv (rd l0_1 x4_1) 2))).bind fun t525 => (fairwaylaw19_InboxExact.j2 kj12 x3_1 x4_1 t520 t521 (wrap64 (Int.tdiv (rd l0_1 x4_1) 2)) 1 ([] : List Int) t525 l0_0 l0_1)) else (fairwaylaw19_InboxExact.j2 kj12 x3_1 x4_1 t520 t521 (wrap64 (Int.tdiv (rd l0_1 x4_1) 2)) 1 ([] : List Int) false l0_0 l0_1)) else (if t520 = true then ((fairwayref17_ID.f (wrap64 (Int.tdiv (rd l0_1 x4_1) 2))).bind fun t542 => (fairwaylaw19_InboxExact.j3 kj12 x3_1 x4_1 t520 t521 (wrap64 (Int.tdiv (rd l0_1 x4_1) 2)) 1 ([] : List Int) false t542 l0_0 l0_1)) else (fairwaylaw19_InboxExact.j3 kj12 x3_1 x4_1 t520 t521 (wrap64 (Int.tdiv (rd l0_1 x4_1) 2)) 1 ([] : List Int) false false l0_0 l0_1))) else (none)) else (none)))) = some r := by rw [if_pos rfl] at H; exact H
       clear H
       have H := H1
       clear H1
       replace H := Option.bind_eq_some_iff.mp H
       obtain ⟨t520, A180, H⟩ := H
       replace H : ((fairwayref0_CopyNumbers.f kj12 x3_1).bind fun t521 => (if 0 ≤ x4_1 then (if x4_1 < (l0_1.length : Int) then (if (Int.tmod (rd l0_1 x4_1) 2) = 0 then (if t520 = true then ((fairwayref17_ID.f (wrap64 (Int.tdiv (rd l0_1 x4_1) 2))).bind fun t525 => (fairwaylaw19_InboxExact.j2 kj12 x3_1 x4_1 t520 t521 (wrap64 (Int.tdiv (rd l0_1 x4_1) 2)) 1 ([] : List Int) t525 l0_0 l0_1)) else (fairwaylaw19_InboxExact.j2 kj12 x3_1 x4_1 t520 t521 (wrap64 (Int.tdiv (rd l0_1 x4_1) 2)) 1 ([] : List Int) false l0_0 l0_1)) else (if t520 = true then ((fairwayref17_ID.f (wrap64 (Int.tdiv (rd l0_1 x4_1) 2))).bind fun t542 => (fairwaylaw19_InboxExact.j3 kj12 x3_1 x4_1 t520 t521 (wrap64 (Int.tdiv (rd l0_1 x4_1) 2)) 1 ([] : List Int) false t542 l0_0 l0_1)) else (fairwaylaw19_InboxExact.j3 kj12 x3_1 x4_1 t520 t521 (wrap64 (Int.tdiv (rd l0_1 x4_1) 2)) 1 ([] : List Int) false false l0_0 l0_1))) else (none)) else (none))) = some r := H
       have A18 := Aside0.mk A180
       clear A180
       replace H := Option.bind_eq_some_iff.mp H
       obtain ⟨t521, A190, H⟩ := H
       replace H : (if 0 ≤ x4_1 then (if x4_1 < (l0_1.length : Int) then (if (Int.tmod (rd l0_1 x4_1) 2) = 0 then (if t520 = true then ((fairwayref17_ID.f (wrap64 (Int.tdiv (rd l0_1 x4_1) 2))).bind fun t525 => (fairwaylaw19_InboxExact.j2 kj12 x3_1 x4_1 t520 t521 (wrap64 (Int.tdiv (rd l0_1 x4_1) 2)) 1 ([] : List Int) t525 l0_0 l0_1)) else (fairwaylaw19_InboxExact.j2 kj12 x3_1 x4_1 t520 t521 (wrap64 (Int.tdiv (rd l0_1 x4_1) 2)) 1 ([] : List Int) false l0_0 l0_1)) else (if t520 = true then ((fairwayref17_ID.f (wrap64 (Int.tdiv (rd l0_1 x4_1) 2))).bind fun t542 => (fairwaylaw19_InboxExact.j3 kj12 x3_1 x4_1 t520 t521 (wrap64 (Int.tdiv (rd l0_1 x4_1) 2)) 1 ([] : List Int) false t542 l0_0 l0_1)) else (fairwaylaw19_InboxExact.j3 kj12 x3_1 x4_1 t520 t521 (wrap64 (Int.tdiv (rd l0_1 x4_1) 2)) 1 ([] : List Int) false false l0_0 l0_1))) else (none)) else (none)) = some r := H
       have A19 := Aside0.mk A190
       clear A190
       by_cases c20 : 0 ≤ x4_1
       ·rw [if_pos c20] at H
        have c20b0 : decide (0 ≤ x4_1) = true := decide_eq_true c20
        clear c20
        by_cases c21 : x4_1 < (l0_1.length : Int)
        ·rw [if_pos c21] at H
         have c21b0 : decide (x4_1 < (l0_1.length : Int)) = true := decide_eq_true c21
         clear c21
         have HC22 := Aside0.mk H
         clear H
         obtain ⟨Ao23, co23, eo23⟩ := Kd.R_slice HO_3.out
         subst eo23
         go_upto_if 49 with (first | ((with_reducible refine gate_callee (f := 29) rfl ?_); refine goesL_ (some 36) rfl rfl Try.func29 (by kernel_rfl) rfl #[.slice Ao23 x3_1.length co23] rfl aa ?_; (with_reducible refine (fairwayref17_Inbox.calls kj12 _ _ x3_1 t520 _ ?side1 ?side2 A18.out).mono ?_); (case side1 => repeat (first | exact (Kd.R_reads' HO_3.out).2.2 | (with_reducible refine Kd.C_alloc ?_ _) | (with_reducible refine Kd.C_drewN ?_ _) | (with_reducible refine Kd.C_drew ?_))); (case side2 => exact (Kd.R_reads' HO_3.out).2.1); rintro e w' ⟨rfl, ⟨nd, rfl⟩⟩; refine ⟨_, rfl, ?_⟩) | ((with_reducible refine gate_callee (f := 28) rfl ?_); refine goesL_ (some 38) rfl rfl Try.func28 (by kernel_rfl) rfl #[.slice Ao23 x3_1.length co23] rfl aa ?_; (with_reducible refine (fairwayref0_CopyNumbers.calls kj12 _ _ x3_1 t521 _ ?side1 ?side2 A19.out).mono ?_); (case side1 => repeat (first | exact (Kd.R_reads' HO_3.out).2.2 | (with_reducible refine Kd.C_alloc ?_ _) | (with_reducible refine Kd.C_drewN ?_ _) | (with_reducible refine Kd.C_drew ?_))); (case side2 => exact (Kd.R_reads' HO_3.out).2.1); rintro e w24 ⟨v522, rfl, ho0, hb⟩; refine ⟨_, rfl, ?_⟩; have HO523 := Aside0.mk (Kd.R_lower (Kd.R_new' ho0 (Kd.R_lt (rk HO_3.out))) (below_size bo)); replace HO_3 := Aside0.mk (Kd.R_elder' (rk HO_3.out) (Kd.R_base ho0) hb); replace BK514 := Aside0.mk (blk_below (g := gb514) (o := .cells #[.slice A0_0 l0_0.length c0_0, .slice A0_1 l0_1.length c0_1] 56 (0, 0)) (bk BK514.out) hb); replace HB := Aside0.mk (below_step bo hb); (try clear hb); (try clear hb2); (try clear hk); (try clear hi); (try clear ho0); obtain ⟨hcz25_0, hcz25_1⟩ := cl2 BK514.out; obtain ⟨hfz25_0, hfz25_1⟩ := fz2 BK514.out; have p524 : 0 ≤ (x4_1 : Int) := od; have q524 : x4_1 < (l0_1.length : Int) := od; obtain ⟨ad524, e524, hx524_0⟩ := Kd.at_int HR0_1.out x4_1 p524 q524; cases e524; replace hx524_0 := cx HB.out hx524_0; replace p524 := eq_true p524; replace q524 := eq_true q524))
         (try simp only [Act.put, List.setIfInBounds_toArray, List.set_cons_zero, List.set_cons_succ])
         generalize hE_ : ((Int.tmod (rd l0_1 x4_1) 2) == 0) = ends_
         go_cut [9, 10, 11, 12] (fun v9 v10 v11 v12 wc => ∃ (kq : Nat) (x9_21 : Int) (x10_21 : List Int) (x11_21 : List Int) (x12_21 : Int), v9 = .int .i64 x9_21 ∧ v12 = .int .i64 x12_21 ∧ Aside0 (fairwaylaw19_InboxExact.j4 kq x3_1 x4_1 t520 t521 x9_21 x10_21 x11_21 x12_21 l0_0 l0_1 = some r) ∧ Aside0 (kq ≤ kj12) ∧ Aside0 (Kd.R (Kd.int .i64) 3 wc w.heap.size (fun k_ => some k_ ≠ (v522 : Value).ownBlock ∧ some k_ ≠ (v10 : Value).ownBlock ∧ some k_ ≠ (v11 : Value).ownBlock) (.slice Ao23 x3_1.length co23) x3_1) ∧ Aside0 (Kd.R (Kd.int .i64) 3 wc w.heap.size (fun k_ => some k_ ≠ ((.slice Ao23 x3_1.length co23) : Value).ownBlock ∧ some k_ ≠ (v10 : Value).ownBlock ∧ some k_ ≠ (v11 : Value).ownBlock) v522 t521) ∧ Aside0 (Kd.R (Kd.int .i64) 3 wc w.heap.size (fun k_ => some k_ ≠ ((.slice Ao23 x3_1.length co23) : Value).ownBlock ∧ some k_ ≠ (v522 : Value).ownBlock ∧ some k_ ≠ (v11 : Value).ownBlock) v10 x10_21) ∧ Aside0 (Kd.R (Kd.int .i64) 3 wc w.heap.size (fun k_ => some k_ ≠ ((.slice Ao23 x3_1.length co23) : Value).ownBlock ∧ some k_ ≠ (v522 : Value).ownBlock ∧ some k_ ≠ (v10 : Value).ownBlock) v11 x11_21) ∧ Aside0 (wc.heap[gb514]? = some (.cells #[(.slice A0_0 l0_0.length c0_0), (.slice (some ad524) l0_1.length c0_1)] 56 (0, 0))) ∧ Aside0 (Below w.heap.size w wc))
         case first =>
          have H := HC22.out
          clear HC22
          by_cases c26 : (Int.tmod (rd l0_1 x4_1) 2) = 0
          ·rw [if_pos c26] at H
           have c26b0 : ((Int.tmod (rd l0_1 x4_1) 2) == 0) = true := beq_iff_eq.mpr c26
           rw [c26b0] at hE_
           subst hE_
           have c26b1 : ((Int.tmod (rd l0_1 x4_1) 2) != 0) = false := bne_eq_false_iff_eq.mpr c26
           clear c26
           (first | rw [c26b0] | (simp only [i64_w, i32_w]; rw [c26b0]) | skip)
           have HC27 := Aside0.mk H
           clear H
           go_upto_region 16 with (fail)
           go_cut [54] (fun v54 wc => ∃ (kq : Nat) (x54_26 : Bool), v54 = .bool x54_26 ∧ Aside0 (fairwaylaw19_InboxExact.j2 kq x3_1 x4_1 t520 t521 (wrap64 (Int.tdiv (rd l0_1 x4_1) 2)) 1 ([] : List Int) x54_26 l0_0 l0_1 = some r) ∧ Aside0 (kq ≤ kj12) ∧ Aside0 (Kd.R (Kd.int .i64) 3 wc w.heap.size (fun k_ => some k_ ≠ (v522 : Value).ownBlock ∧ some k_ ≠ ((.slice none 0 0) : Value).ownBlock) (.slice Ao23 x3_1.length co23) x3_1) ∧ Aside0 (Kd.R (Kd.int .i64) 3 wc w.heap.size (fun k_ => some k_ ≠ ((.slice Ao23 x3_1.length co23) : Value).ownBlock ∧ some k_ ≠ ((.slice none 0 0) : Value).ownBlock) v522 t521) ∧ Aside0 (Kd.R (Kd.int .i64) 3 wc w.heap.size (fun k_ => some k_ ≠ ((.slice Ao23 x3_1.length co23) : Value).ownBlock ∧ some k_ ≠ (v522 : Value).ownBlock) (.slice none 0 0) ([] : List Int)) ∧ Aside0 (wc.heap[gb514]? = some (.cells #[(.slice A0_0 l0_0.length c0_0), (.slice (some ad524) l0_1.length c0_1)] 56 (0, 0))) ∧ Aside0 (Below w.heap.size w wc))
           case first =>
            have H := HC27.out
            clear HC27
            by_cases c28 : t520 = true
            ·subst c28
             have H1 : ((fairwayref17_ID.f (wrap64 (Int.tdiv (rd l0_1 x4_1) 2))).bind fun t525 => (fairwaylaw19_InboxExact.j2 kj12 x3_1 x4_1 true t521 (wrap64 (Int.tdiv (rd l0_1 x4_1) 2)) 1 ([] : List Int) t525 l0_0 l0_1)) = some r := by rw [if_pos rfl] at H; exact H
             clear H
             have H := H1
             clear H1
             replace H := Option.bind_eq_some_iff.mp H
             obtain ⟨t525, A290, H⟩ := H
             replace H : (fairwaylaw19_InboxExact.j2 kj12 x3_1 x4_1 true t521 (wrap64 (Int.tdiv (rd l0_1 x4_1) 2)) 1 ([] : List Int) t525 l0_0 l0_1) = some r := H
             have A29 := Aside0.mk A290
             clear A290
             have H' := Aside0.mk H
             clear H
             go_wp2_with (first | (go_at_call 30; (with_reducible refine (fairwayref17_ID.calls (wrap64 (Int.tdiv (rd l0_1 x4_1) 2)) t525 _ A29.out).mono ?_); rintro e w' ⟨rfl, ⟨nd, rfl⟩⟩))
             go_meet
             case rel => exact ⟨_, (t525), ap, H', ⟨by have := HK1.out; have := HJ12.out; first | omega | exact Nat.le_refl _⟩, ⟨by (with_reducible repeat (first | apply Kd.R_alloc | apply Kd.R_drewN | apply Kd.R_drew)); exact Kd.R_mono HO_3.out (fun _ hk => ⟨hk.2, (by simp [Value.ownBlock])⟩)⟩, ⟨by (with_reducible repeat (first | apply Kd.R_alloc | apply Kd.R_drewN | apply Kd.R_drew)); exact Kd.R_mono HO523.out (fun _ hk => ⟨hk.2, (by simp [Value.ownBlock])⟩)⟩, ⟨by first | exact Kd.R_nil _ _ _ _ _ | exact Kd.N_nil _ _ _ _ _ | exact Kd.V_nil _ _ _ _ _ | exact Kd.Q_nil _ _ _ _ _ | exact Kd.S_nil _ _ _ _ _⟩, ⟨by (with_reducible repeat (first | refine blk_drewN ?_ _ | refine blk_drew ?_ | refine blk_alloc ?_ _)); exact BK514.out⟩, ⟨bo⟩⟩
            ·replace c28 := Bool.eq_false_iff.mpr c28
             subst c28
             have H1 : (fairwaylaw19_InboxExact.j2 kj12 x3_1 x4_1 false t521 (wrap64 (Int.tdiv (rd l0_1 x4_1) 2)) 1 ([] : List Int) false l0_0 l0_1) = some r := by rw [if_neg (show ¬ (false = true) by decide)] at H; exact H
             clear H
             have H := H1
             clear H1
             have H' := Aside0.mk H
             clear H
             go_wp2
             go_meet
             case rel => exact ⟨_, (false), ap, H', ⟨by have := HK1.out; have := HJ12.out; first | omega | exact Nat.le_refl _⟩, ⟨by (with_reducible repeat (first | apply Kd.R_alloc | apply Kd.R_drewN | apply Kd.R_drew)); exact Kd.R_mono HO_3.out (fun _ hk => ⟨hk.2, (by simp [Value.ownBlock])⟩)⟩, ⟨by (with_reducible repeat (first | apply Kd.R_alloc | apply Kd.R_drewN | apply Kd.R_drew)); exact Kd.R_mono HO523.out (fun _ hk => ⟨hk.2, (by simp [Value.ownBlock])⟩)⟩, ⟨by first | exact Kd.R_nil _ _ _ _ _ | exact Kd.N_nil _ _ _ _ _ | exact Kd.V_nil _ _ _ _ _ | exact Kd.Q_nil _ _ _ _ _ | exact Kd.S_nil _ _ _ _ _⟩, ⟨by (with_reducible repeat (first | refine blk_drewN ?_ _ | refine blk_drew ?_ | refine blk_alloc ?_ _)); exact BK514.out⟩, ⟨bo⟩⟩
           case rest =>
            clear HC27
            try clear c1
            try clear c2
            try clear p2
            try clear c3
            try clear p5
            try clear q5
            try clear hx5
            try clear p6
            try clear c7
            try clear c14
            try clear c14b0
            try clear c17
            try clear c20
            try clear c20b0
            try clear c21
            try clear c21b0
            try clear c26
            try clear c26b0
            try clear c26b1
            try clear c27
            try clear c28
            try clear c29
            try clear hcz11_0
            try clear hcz11_1
            try clear hcz15_0
            try clear hcz15_1
            try clear hcz16_0
            try clear hcz16_1
            try clear hcz25_0
            try clear hcz25_1
            try clear hcz5_0
            try clear hcz5_1
            try clear hcz9_0
            try clear hcz9_1
            try clear hfz11_0
            try clear hfz11_1
            try clear hfz15_0
            try clear hfz15_1
            try clear hfz16_0
            try clear hfz16_1
            try clear hfz25_0
            try clear hfz25_1
            try clear hfz5_0
            try clear hfz5_1
            try clear hfz9_0
            try clear hfz9_1
            try clear hx524_0
            try clear p2
            try clear p524
            try clear q524
            obtain ⟨kq, x54_26, rfl, HA, HJ26, HO_3, HO_6, HO_10, BK514, HB⟩ := hcut
            cases kq with
            | zero => exact absurd HA.out (by simp [fairwaylaw19_InboxExact.j2])
            | succ kj26 =>
             have H := HA.out
             clear HA
             simp only [fairwaylaw19_InboxExact.j2] at H
             by_cases c30 : x54_26 = true
             ·subst c30
              have H1 : ((fairwayref17_End.f kj26 x3_1 (wrap64 (Int.tdiv (rd l0_1 x4_1) 2))).bind fun bt526 => (if bt526.2 = true then ((inbox_End.f kj26 t521 (wrap64 (Int.tdiv (rd l0_1 x4_1) 2))).bind fun bt530 => (fairwaylaw19_InboxExact.j4 kj26 x3_1 x4_1 t520 t521 0 bt526.1 bt530.1 bt530.2 l0_0 l0_1)) else ((inbox_End.f kj26 t521 (wrap64 (Int.tdiv (rd l0_1 x4_1) 2))).bind fun bt534 => (fairwaylaw19_InboxExact.j4 kj26 x3_1 x4_1 t520 t521 3 ([] : List Int) bt534.1 bt534.2 l0_0 l0_1)))) = some r := by rw [if_pos rfl] at H; exact H
              clear H
              have H := H1
              clear H1
              replace H := Option.bind_eq_some_iff.mp H
              obtain ⟨⟨t526, t527⟩, A310, H⟩ := H
              replace H : (if t527 = true then ((inbox_End.f kj26 t521 (wrap64 (Int.tdiv (rd l0_1 x4_1) 2))).bind fun bt530 => (fairwaylaw19_InboxExact.j4 kj26 x3_1 x4_1 t520 t521 0 t526 bt530.1 bt530.2 l0_0 l0_1)) else ((inbox_End.f kj26 t521 (wrap64 (Int.tdiv (rd l0_1 x4_1) 2))).bind fun bt534 => (fairwaylaw19_InboxExact.j4 kj26 x3_1 x4_1 t520 t521 3 ([] : List Int) bt534.1 bt534.2 l0_0 l0_1))) = some r := H
              have A31 := Aside0.mk A310
              clear A310
              by_cases c32 : t527 = true
              ·subst c32
               have H1 : ((inbox_End.f kj26 t521 (wrap64 (Int.tdiv (rd l0_1 x4_1) 2))).bind fun bt530 => (fairwaylaw19_InboxExact.j4 kj26 x3_1 x4_1 t520 t521 0 t526 bt530.1 bt530.2 l0_0 l0_1)) = some r := by rw [if_pos rfl] at H; exact H
               clear H
               have H := H1
               clear H1
               replace H := Option.bind_eq_some_iff.mp H
               obtain ⟨⟨t530, t531⟩, A330, H⟩ := H
               replace H : (fairwaylaw19_InboxExact.j4 kj26 x3_1 x4_1 t520 t521 0 t526 t530 t531 l0_0 l0_1) = some r := H
               have A33 := Aside0.mk A330
               clear A330
               have H' := Aside0.mk H
               clear H
               go_wp2_with (first | ((with_reducible refine gate_callee (f := 31) rfl ?_); refine goesL_ (some 58) rfl rfl Try.func31 (by kernel_rfl) rfl #[.slice Ao23 x3_1.length co23, .int .i64 (wrap64 (Int.tdiv (rd l0_1 x4_1) 2))] rfl aa ?_; (with_reducible refine (fairwayref17_End.calls kj26 _ _ x3_1 (wrap64 (Int.tdiv (rd l0_1 x4_1) 2)) t526 true _ ?side1 ?side2 A31.out).mono ?_); (case side1 => repeat (first | exact (Kd.R_reads' HO_3.out).2.2 | (with_reducible refine Kd.C_alloc ?_ _) | (with_reducible refine Kd.C_drewN ?_ _) | (with_reducible refine Kd.C_drew ?_))); (case side2 => exact (Kd.R_reads' HO_3.out).2.1); rintro e w34 ⟨v528, rfl, ho0, hb⟩; refine ⟨_, rfl, ?_⟩; have HO529 := Aside0.mk (Kd.R_lower (Kd.R_new' (Kd.R_new' (Kd.R_new' ho0 (Kd.R_lt (rk HO_3.out))) (Kd.R_lt (rk HO_6.out))) (Kd.R_lt (rk HO_10.out))) (below_size bo)); replace HO_3 := Aside0.mk (Kd.R_elder' (rk HO_3.out) (Kd.R_base ho0) hb); replace HO_6 := Aside0.mk (Kd.R_elder' (rk HO_6.out) (Kd.R_base ho0) hb); replace HO_10 := Aside0.mk (Kd.R_elder' (rk HO_10.out) (Kd.R_base ho0) hb); replace BK514 := Aside0.mk (blk_below (g := gb514) (o := .cells #[.slice A0_0 l0_0.length c0_0, .slice (some ad524) l0_1.length c0_1] 56 (0, 0)) (bk BK514.out) hb); replace HB := Aside0.mk (below_step bo hb); (try clear hb); (try clear hb2); (try clear hk); (try clear hi); (try clear ho0); obtain ⟨Ao35, co35, eo35⟩ := Kd.R_slice HO_6.out; subst eo35) | ((with_reducible refine gate_callee (f := 32) rfl ?_); refine goesL_ (some 66) rfl rfl Try.func32 (by kernel_rfl) rfl #[.slice Ao35 t521.length co35, .int .i64 (wrap64 (Int.tdiv (rd l0_1 x4_1) 2))] rfl aa ?_; (with_reducible refine (inbox_End.calls kj26 _ _ t521 (wrap64 (Int.tdiv (rd l0_1 x4_1) 2)) t530 t531 _ ?side1 ?side2 A33.out).mono ?_); (case side1 => repeat (first | exact (Kd.R_reads' HO_6.out).2.2 | (with_reducible refine Kd.C_alloc ?_ _) | (with_reducible refine Kd.C_drewN ?_ _) | (with_reducible refine Kd.C_drew ?_))); (case side2 => exact (Kd.R_reads' HO_6.out).2.1); rintro e w36 ⟨v532, rfl, ho0, hb⟩; refine ⟨_, rfl, ?_⟩; have HO533 := Aside0.mk (Kd.R_lower (Kd.R_new' (Kd.R_new' (Kd.R_new' (Kd.R_new' ho0 (Kd.R_lt (rk HO_3.out))) (Kd.R_lt (rk HO_6.out))) (Kd.R_lt (rk HO_10.out))) (Kd.R_lt (rk HO529.out))) (below_size bo)); replace HO_3 := Aside0.mk (Kd.R_elder' (rk HO_3.out) (Kd.R_base ho0) hb); replace HO_6 := Aside0.mk (Kd.R_elder' (rk HO_6.out) (Kd.R_base ho0) hb); replace HO_10 := Aside0.mk (Kd.R_elder' (rk HO_10.out) (Kd.R_base ho0) hb); replace HO529 := Aside0.mk (Kd.R_elder' (rk HO529.out) (Kd.R_base ho0) hb); replace BK514 := Aside0.mk (blk_below (g := gb514) (o := .cells #[.slice A0_0 l0_0.length c0_0, .slice (some ad524) l0_1.length c0_1] 56 (0, 0)) (bk BK514.out) hb); replace HB := Aside0.mk (below_step bo hb); (try clear hb); (try clear hb2); (try clear hk); (try clear hi); (try clear ho0)))
               go_meet
               case rel => exact ⟨_, (0), (t526), (t530), (t531), ap, ap, H', ⟨by have := HK1.out; have := HJ12.out; have := HJ26.out; first | omega | exact Nat.le_refl _⟩, ⟨by (with_reducible repeat (first | apply Kd.R_alloc | apply Kd.R_drewN | apply Kd.R_drew)); exact Kd.R_mono HO_3.out (fun _ hk => ⟨hk.1.1.1, ⟨hk.1.2, hk.2⟩⟩)⟩, ⟨by (with_reducible repeat (first | apply Kd.R_alloc | apply Kd.R_drewN | apply Kd.R_drew)); exact Kd.R_mono HO_6.out (fun _ hk => ⟨hk.1.1.1, ⟨hk.1.2, hk.2⟩⟩)⟩, ⟨by (with_reducible repeat (first | apply Kd.R_alloc | apply Kd.R_drewN | apply Kd.R_drew)); exact Kd.R_mono HO529.out (fun _ hk => ⟨hk.1.1.1.2, ⟨hk.1.1.2, hk.2⟩⟩)⟩, ⟨by (with_reducible repeat (first | apply Kd.R_alloc | apply Kd.R_drewN | apply Kd.R_drew)); exact Kd.R_mono HO533.out (fun _ hk => ⟨hk.1.1.1.2, ⟨hk.1.1.2, hk.2⟩⟩)⟩, ⟨by (with_reducible repeat (first | refine blk_drewN ?_ _ | refine blk_drew ?_ | refine blk_alloc ?_ _)); exact BK514.out⟩, ⟨bo⟩⟩
              ·replace c32 := Bool.eq_false_iff.mpr c32
               subst c32
               have H1 : ((inbox_End.f kj26 t521 (wrap64 (Int.tdiv (rd l0_1 x4_1) 2))).bind fun bt534 => (fairwaylaw19_InboxExact.j4 kj26 x3_1 x4_1 t520 t521 3 ([] : List Int) bt534.1 bt534.2 l0_0 l0_1)) = some r := by rw [if_neg (show ¬ (false = true) by decide)] at H; exact H
               clear H
               have H := H1
               clear H1
               replace H := Option.bind_eq_some_iff.mp H
               obtain ⟨⟨t534, t535⟩, A370, H⟩ := H
               replace H : (fairwaylaw19_InboxExact.j4 kj26 x3_1 x4_1 t520 t521 3 ([] : List Int) t534 t535 l0_0 l0_1) = some r := H
               have A37 := Aside0.mk A370
               clear A370
               have H' := Aside0.mk H
               clear H
               go_wp2_with (first | ((with_reducible refine gate_callee (f := 31) rfl ?_); refine goesL_ (some 58) rfl rfl Try.func31 (by kernel_rfl) rfl #[.slice Ao23 x3_1.length co23, .int .i64 (wrap64 (Int.tdiv (rd l0_1 x4_1) 2))] rfl aa ?_; (with_reducible refine (fairwayref17_End.calls kj26 _ _ x3_1 (wrap64 (Int.tdiv (rd l0_1 x4_1) 2)) t526 false _ ?side1 ?side2 A31.out).mono ?_); (case side1 => repeat (first | exact (Kd.R_reads' HO_3.out).2.2 | (with_reducible refine Kd.C_alloc ?_ _) | (with_reducible refine Kd.C_drewN ?_ _) | (with_reducible refine Kd.C_drew ?_))); (case side2 => exact (Kd.R_reads' HO_3.out).2.1); rintro e w38 ⟨v528, rfl, ho0, hb⟩; refine ⟨_, rfl, ?_⟩; have HO529 := Aside0.mk (Kd.R_lower (Kd.R_new' (Kd.R_new' (Kd.R_new' ho0 (Kd.R_lt (rk HO_3.out))) (Kd.R_lt (rk HO_6.out))) (Kd.R_lt (rk HO_10.out))) (below_size bo)); replace HO_3 := Aside0.mk (Kd.R_elder' (rk HO_3.out) (Kd.R_base ho0) hb); replace HO_6 := Aside0.mk (Kd.R_elder' (rk HO_6.out) (Kd.R_base ho0) hb); replace HO_10 := Aside0.mk (Kd.R_elder' (rk HO_10.out) (Kd.R_base ho0) hb); replace BK514 := Aside0.mk (blk_below (g := gb514) (o := .cells #[.slice A0_0 l0_0.length c0_0, .slice (some ad524) l0_1.length c0_1] 56 (0, 0)) (bk BK514.out) hb); replace HB := Aside0.mk (below_step bo hb); (try clear hb); (try clear hb2); (try clear hk); (try clear hi); (try clear ho0); obtain ⟨Ao39, co39, eo39⟩ := Kd.R_slice HO_6.out; subst eo39) | ((with_reducible refine gate_callee (f := 32) rfl ?_); refine goesL_ (some 66) rfl rfl Try.func32 (by kernel_rfl) rfl #[.slice Ao39 t521.length co39, .int .i64 (wrap64 (Int.tdiv (rd l0_1 x4_1) 2))] rfl aa ?_; (with_reducible refine (inbox_End.calls kj26 _ _ t521 (wrap64 (Int.tdiv (rd l0_1 x4_1) 2)) t534 t535 _ ?side1 ?side2 A37.out).mono ?_); (case side1 => repeat (first | exact (Kd.R_reads' HO_6.out).2.2 | (with_reducible refine Kd.C_alloc ?_ _) | (with_reducible refine Kd.C_drewN ?_ _) | (with_reducible refine Kd.C_drew ?_))); (case side2 => exact (Kd.R_reads' HO_6.out).2.1); rintro e w40 ⟨v536, rfl, ho0, hb⟩; refine ⟨_, rfl, ?_⟩; have HO537 := Aside0.mk (Kd.R_lower (Kd.R_new' (Kd.R_new' (Kd.R_new' (Kd.R_new' ho0 (Kd.R_lt (rk HO_3.out))) (Kd.R_lt (rk HO_6.out))) (Kd.R_lt (rk HO_10.out))) (Kd.R_lt (rk HO529.out))) (below_size bo)); replace HO_3 := Aside0.mk (Kd.R_elder' (rk HO_3.out) (Kd.R_base ho0) hb); replace HO_6 := Aside0.mk (Kd.R_elder' (rk HO_6.out) (Kd.R_base ho0) hb); replace HO_10 := Aside0.mk (Kd.R_elder' (rk HO_10.out) (Kd.R_base ho0) hb); replace HO529 := Aside0.mk (Kd.R_elder' (rk HO529.out) (Kd.R_base ho0) hb); replace BK514 := Aside0.mk (blk_below (g := gb514) (o := .cells #[.slice A0_0 l0_0.length c0_0, .slice (some ad524) l0_1.length c0_1] 56 (0, 0)) (bk BK514.out) hb); replace HB := Aside0.mk (below_step bo hb); (try clear hb); (try clear hb2); (try clear hk); (try clear hi); (try clear ho0)))
               go_meet
               case rel => exact ⟨_, (3), (([] : List Int)), (t534), (t535), ap, ap, H', ⟨by have := HK1.out; have := HJ12.out; have := HJ26.out; first | omega | exact Nat.le_refl _⟩, ⟨by (with_reducible repeat (first | apply Kd.R_alloc | apply Kd.R_drewN | apply Kd.R_drew)); exact Kd.R_mono HO_3.out (fun _ hk => ⟨hk.1.1.1, ⟨hk.1.1.2, hk.2⟩⟩)⟩, ⟨by (with_reducible repeat (first | apply Kd.R_alloc | apply Kd.R_drewN | apply Kd.R_drew)); exact Kd.R_mono HO_6.out (fun _ hk => ⟨hk.1.1.1, ⟨hk.1.1.2, hk.2⟩⟩)⟩, ⟨by (with_reducible repeat (first | apply Kd.R_alloc | apply Kd.R_drewN | apply Kd.R_drew)); exact Kd.R_mono HO_10.out (fun _ hk => ⟨hk.1.1.1, ⟨hk.1.1.2, hk.2⟩⟩)⟩, ⟨by (with_reducible repeat (first | apply Kd.R_alloc | apply Kd.R_drewN | apply Kd.R_drew)); exact Kd.R_mono HO537.out (fun _ hk => ⟨hk.1.1.1.2, ⟨hk.1.1.2, hk.1.2⟩⟩)⟩, ⟨by (with_reducible repeat (first | refine blk_drewN ?_ _ | refine blk_drew ?_ | refine blk_alloc ?_ _)); exact BK514.out⟩, ⟨bo⟩⟩
             ·replace c30 := Bool.eq_false_iff.mpr c30
              subst c30
              have H1 : ((inbox_End.f kj26 t521 (wrap64 (Int.tdiv (rd l0_1 x4_1) 2))).bind fun bt538 => (fairwaylaw19_InboxExact.j4 kj26 x3_1 x4_1 t520 t521 1 ([] : List Int) bt538.1 bt538.2 l0_0 l0_1)) = some r := by rw [if_neg (show ¬ (false = true) by decide)] at H; exact H
              clear H
              have H := H1
              clear H1
              replace H := Option.bind_eq_some_iff.mp H
              obtain ⟨⟨t538, t539⟩, A410, H⟩ := H
              replace H : (fairwaylaw19_InboxExact.j4 kj26 x3_1 x4_1 t520 t521 1 ([] : List Int) t538 t539 l0_0 l0_1) = some r := H
              have A41 := Aside0.mk A410
              clear A410
              have H' := Aside0.mk H
              clear H
              obtain ⟨Ao42, co42, eo42⟩ := Kd.R_slice HO_6.out
              subst eo42
              go_wp2_with (first | ((with_reducible refine gate_callee (f := 32) rfl ?_); refine goesL_ (some 66) rfl rfl Try.func32 (by kernel_rfl) rfl #[.slice Ao42 t521.length co42, .int .i64 (wrap64 (Int.tdiv (rd l0_1 x4_1) 2))] rfl aa ?_; (with_reducible refine (inbox_End.calls kj26 _ _ t521 (wrap64 (Int.tdiv (rd l0_1 x4_1) 2)) t538 t539 _ ?side1 ?side2 A41.out).mono ?_); (case side1 => repeat (first | exact (Kd.R_reads' HO_6.out).2.2 | (with_reducible refine Kd.C_alloc ?_ _) | (with_reducible refine Kd.C_drewN ?_ _) | (with_reducible refine Kd.C_drew ?_))); (case side2 => exact (Kd.R_reads' HO_6.out).2.1); rintro e w43 ⟨v540, rfl, ho0, hb⟩; refine ⟨_, rfl, ?_⟩; have HO541 := Aside0.mk (Kd.R_lower (Kd.R_new' (Kd.R_new' (Kd.R_new' ho0 (Kd.R_lt (rk HO_3.out))) (Kd.R_lt (rk HO_6.out))) (Kd.R_lt (rk HO_10.out))) (below_size bo)); replace HO_3 := Aside0.mk (Kd.R_elder' (rk HO_3.out) (Kd.R_base ho0) hb); replace HO_6 := Aside0.mk (Kd.R_elder' (rk HO_6.out) (Kd.R_base ho0) hb); replace HO_10 := Aside0.mk (Kd.R_elder' (rk HO_10.out) (Kd.R_base ho0) hb); replace BK514 := Aside0.mk (blk_below (g := gb514) (o := .cells #[.slice A0_0 l0_0.length c0_0, .slice (some ad524) l0_1.length c0_1] 56 (0, 0)) (bk BK514.out) hb); replace HB := Aside0.mk (below_step bo hb); (try clear hb); (try clear hb2); (try clear hk); (try clear hi); (try clear ho0)))
              go_meet
              case rel => exact ⟨_, (1), (([] : List Int)), (t538), (t539), ap, ap, H', ⟨by have := HK1.out; have := HJ12.out; have := HJ26.out; first | omega | exact Nat.le_refl _⟩, ⟨by (with_reducible repeat (first | apply Kd.R_alloc | apply Kd.R_drewN | apply Kd.R_drew)); exact Kd.R_mono HO_3.out (fun _ hk => ⟨hk.1.1, ⟨hk.1.2, hk.2⟩⟩)⟩, ⟨by (with_reducible repeat (first | apply Kd.R_alloc | apply Kd.R_drewN | apply Kd.R_drew)); exact Kd.R_mono HO_6.out (fun _ hk => ⟨hk.1.1, ⟨hk.1.2, hk.2⟩⟩)⟩, ⟨by (with_reducible repeat (first | apply Kd.R_alloc | apply Kd.R_drewN | apply Kd.R_drew)); exact Kd.R_mono HO_10.out (fun _ hk => ⟨hk.1.1, ⟨hk.1.2, hk.2⟩⟩)⟩, ⟨by (with_reducible repeat (first | apply Kd.R_alloc | apply Kd.R_drewN | apply Kd.R_drew)); exact Kd.R_mono HO541.out (fun _ hk => ⟨hk.1.1.2, ⟨hk.1.2, hk.2⟩⟩)⟩, ⟨by (with_reducible repeat (first | refine blk_drewN ?_ _ | refine blk_drew ?_ | refine blk_alloc ?_ _)); exact BK514.out⟩, ⟨bo⟩⟩
          ·rw [if_neg c26] at H
           have c26b0 : ((Int.tmod (rd l0_1 x4_1) 2) == 0) = false := beq_eq_false_iff_ne.mpr c26
           rw [c26b0] at hE_
           subst hE_
           have c26b1 : ((Int.tmod (rd l0_1 x4_1) 2) != 0) = true := bne_iff_ne.mpr c26
           (first | rw [c26b0] | (simp only [i64_w, i32_w]; rw [c26b0]) | skip)
           have HC44 := Aside0.mk H
           clear H
           go_upto_region 23 with (fail)
           go_cut [73] (fun v73 wc => ∃ (kq : Nat) (x73_43 : Bool), v73 = .bool x73_43 ∧ Aside0 (fairwaylaw19_InboxExact.j3 kq x3_1 x4_1 t520 t521 (wrap64 (Int.tdiv (rd l0_1 x4_1) 2)) 1 ([] : List Int) false x73_43 l0_0 l0_1 = some r) ∧ Aside0 (kq ≤ kj12) ∧ Aside0 (Kd.R (Kd.int .i64) 3 wc w.heap.size (fun k_ => some k_ ≠ (v522 : Value).ownBlock ∧ some k_ ≠ ((.slice none 0 0) : Value).ownBlock) (.slice Ao23 x3_1.length co23) x3_1) ∧ Aside0 (Kd.R (Kd.int .i64) 3 wc w.heap.size (fun k_ => some k_ ≠ ((.slice Ao23 x3_1.length co23) : Value).ownBlock ∧ some k_ ≠ ((.slice none 0 0) : Value).ownBlock) v522 t521) ∧ Aside0 (Kd.R (Kd.int .i64) 3 wc w.heap.size (fun k_ => some k_ ≠ ((.slice Ao23 x3_1.length co23) : Value).ownBlock ∧ some k_ ≠ (v522 : Value).ownBlock) (.slice none 0 0) ([] : List Int)) ∧ Aside0 (wc.heap[gb514]? = some (.cells #[(.slice A0_0 l0_0.length c0_0), (.slice (some ad524) l0_1.length c0_1)] 56 (0, 0))) ∧ Aside0 (Below w.heap.size w wc))
           case first =>
            have H := HC44.out
            clear HC44
            by_cases c45 : t520 = true
            ·subst c45
             have H1 : ((fairwayref17_ID.f (wrap64 (Int.tdiv (rd l0_1 x4_1) 2))).bind fun t542 => (fairwaylaw19_InboxExact.j3 kj12 x3_1 x4_1 true t521 (wrap64 (Int.tdiv (rd l0_1 x4_1) 2)) 1 ([] : List Int) false t542 l0_0 l0_1)) = some r := by rw [if_pos rfl] at H; exact H
             clear H
             have H := H1
             clear H1
             replace H := Option.bind_eq_some_iff.mp H
             obtain ⟨t542, A460, H⟩ := H
             replace H : (fairwaylaw19_InboxExact.j3 kj12 x3_1 x4_1 true t521 (wrap64 (Int.tdiv (rd l0_1 x4_1) 2)) 1 ([] : List Int) false t542 l0_0 l0_1) = some r := H
             have A46 := Aside0.mk A460
             clear A460
             have H' := Aside0.mk H
             clear H
             go_wp2_with (first | (go_at_call 30; (with_reducible refine (fairwayref17_ID.calls (wrap64 (Int.tdiv (rd l0_1 x4_1) 2)) t542 _ A46.out).mono ?_); rintro e w' ⟨rfl, ⟨nd, rfl⟩⟩))
             go_meet
             case rel => exact ⟨_, (t542), ap, H', ⟨by have := HK1.out; have := HJ12.out; first | omega | exact Nat.le_refl _⟩, ⟨by (with_reducible repeat (first | apply Kd.R_alloc | apply Kd.R_drewN | apply Kd.R_drew)); exact Kd.R_mono HO_3.out (fun _ hk => ⟨hk.2, (by simp [Value.ownBlock])⟩)⟩, ⟨by (with_reducible repeat (first | apply Kd.R_alloc | apply Kd.R_drewN | apply Kd.R_drew)); exact Kd.R_mono HO523.out (fun _ hk => ⟨hk.2, (by simp [Value.ownBlock])⟩)⟩, ⟨by first | exact Kd.R_nil _ _ _ _ _ | exact Kd.N_nil _ _ _ _ _ | exact Kd.V_nil _ _ _ _ _ | exact Kd.Q_nil _ _ _ _ _ | exact Kd.S_nil _ _ _ _ _⟩, ⟨by (with_reducible repeat (first | refine blk_drewN ?_ _ | refine blk_drew ?_ | refine blk_alloc ?_ _)); exact BK514.out⟩, ⟨bo⟩⟩
            ·replace c45 := Bool.eq_false_iff.mpr c45
             subst c45
             have H1 : (fairwaylaw19_InboxExact.j3 kj12 x3_1 x4_1 false t521 (wrap64 (Int.tdiv (rd l0_1 x4_1) 2)) 1 ([] : List Int) false false l0_0 l0_1) = some r := by rw [if_neg (show ¬ (false = true) by decide)] at H; exact H
             clear H
             have H := H1
             clear H1
             have H' := Aside0.mk H
             clear H
             go_wp2
             go_meet
             case rel => exact ⟨_, (false), ap, H', ⟨by have := HK1.out; have := HJ12.out; first | omega | exact Nat.le_refl _⟩, ⟨by (with_reducible repeat (first | apply Kd.R_alloc | apply Kd.R_drewN | apply Kd.R_drew)); exact Kd.R_mono HO_3.out (fun _ hk => ⟨hk.2, (by simp [Value.ownBlock])⟩)⟩, ⟨by (with_reducible repeat (first | apply Kd.R_alloc | apply Kd.R_drewN | apply Kd.R_drew)); exact Kd.R_mono HO523.out (fun _ hk => ⟨hk.2, (by simp [Value.ownBlock])⟩)⟩, ⟨by first | exact Kd.R_nil _ _ _ _ _ | exact Kd.N_nil _ _ _ _ _ | exact Kd.V_nil _ _ _ _ _ | exact Kd.Q_nil _ _ _ _ _ | exact Kd.S_nil _ _ _ _ _⟩, ⟨by (with_reducible repeat (first | refine blk_drewN ?_ _ | refine blk_drew ?_ | refine blk_alloc ?_ _)); exact BK514.out⟩, ⟨bo⟩⟩
           case rest =>
            clear HC44
            try clear c1
            try clear c2
            try clear p2
            try clear c3
            try clear c4
            try clear p5
            try clear q5
            try clear hx5
            try clear p6
            try clear c7
            try clear c14
            try clear c14b0
            try clear c17
            try clear c20
            try clear c20b0
            try clear c21
            try clear c21b0
            try clear c26
            try clear c26b0
            try clear c26b1
            try clear c27
            try clear c28
            try clear c29
            try clear c30
            try clear c31
            try clear c32
            try clear c45
            try clear hcz11_0
            try clear hcz11_1
            try clear hcz15_0
            try clear hcz15_1
            try clear hcz16_0
            try clear hcz16_1
            try clear hcz25_0
            try clear hcz25_1
            try clear hcz5_0
            try clear hcz5_1
            try clear hcz9_0
            try clear hcz9_1
            try clear hfz11_0
            try clear hfz11_1
            try clear hfz15_0
            try clear hfz15_1
            try clear hfz16_0
            try clear hfz16_1
            try clear hfz25_0
            try clear hfz25_1
            try clear hfz5_0
            try clear hfz5_1
            try clear hfz9_0
            try clear hfz9_1
            try clear hx524_0
            try clear p2
            try clear p5
            try clear p524
            try clear p6
            try clear q5
            try clear q524
            obtain ⟨kq, x73_43, rfl, HA, HJ43, HO_3, HO_6, HO_10, BK514, HB⟩ := hcut
            cases kq with
            | zero => exact absurd HA.out (by simp [fairwaylaw19_InboxExact.j3])
            | succ kj43 =>
             have H := HA.out
             clear HA
             simp only [fairwaylaw19_InboxExact.j3] at H
             by_cases c47 : x73_43 = true
             ·subst c47
              have H1 : ((fairwayref17_Begin.f kj43 x3_1 (wrap64 (Int.tdiv (rd l0_1 x4_1) 2))).bind fun bt543 => ((inbox_Begin.f kj43 t521 (wrap64 (Int.tdiv (rd l0_1 x4_1) 2))).bind fun bt548 => (if (bt548.2.1 != bt543.2.1) = true then (some false) else (fairwaylaw19_InboxExact.j4 kj43 x3_1 x4_1 t520 t521 bt543.2.2 bt543.1 bt548.1 bt548.2.2 l0_0 l0_1)))) = some r := by rw [if_pos rfl] at H; exact H
              clear H
              have H := H1
              clear H1
              replace H := Option.bind_eq_some_iff.mp H
              obtain ⟨⟨t543, t544, t545⟩, A480, H⟩ := H
              replace H : ((inbox_Begin.f kj43 t521 (wrap64 (Int.tdiv (rd l0_1 x4_1) 2))).bind fun bt548 => (if (bt548.2.1 != t544) = true then (some false) else (fairwaylaw19_InboxExact.j4 kj43 x3_1 x4_1 t520 t521 t545 t543 bt548.1 bt548.2.2 l0_0 l0_1))) = some r := H
              have A48 := Aside0.mk A480
              clear A480
              replace H := Option.bind_eq_some_iff.mp H
              obtain ⟨⟨t548, t549, t550⟩, A490, H⟩ := H
              replace H : (if (t549 != t544) = true then (some false) else (fairwaylaw19_InboxExact.j4 kj43 x3_1 x4_1 t520 t521 t545 t543 t548 t550 l0_0 l0_1)) = some r := H
              have A49 := Aside0.mk A490
              clear A490
              by_cases c50 : (t549 != t544) = true
              ·rw [if_pos c50] at H
               have c50b0 : (t549 != t544) = true := c50
               (try (have c50b1 : decide (t549 = t544) = false := by simpa using c50))
               (try (have c50b2 : (t549 == t544) = false := by simpa using c50))
               (try (have c50b3 : ¬ (t549 = t544) := by simpa using c50))
               clear c50
               obtain rfl := Option.some.inj H
               go_wp2_with (first | ((with_reducible refine gate_callee (f := 33) rfl ?_); refine goesL_ (some 77) rfl rfl Try.func33 (by kernel_rfl) rfl #[.slice Ao23 x3_1.length co23, .int .i64 (wrap64 (Int.tdiv (rd l0_1 x4_1) 2))] rfl aa ?_; (with_reducible refine (fairwayref17_Begin.calls kj43 _ _ x3_1 (wrap64 (Int.tdiv (rd l0_1 x4_1) 2)) t543 t544 t545 _ ?side1 ?side2 A48.out).mono ?_); (case side1 => repeat (first | exact (Kd.R_reads' HO_3.out).2.2 | (with_reducible refine Kd.C_alloc ?_ _) | (with_reducible refine Kd.C_drewN ?_ _) | (with_reducible refine Kd.C_drew ?_))); (case side2 => exact (Kd.R_reads' HO_3.out).2.1); rintro e w51 ⟨v546, rfl, ho0, hb⟩; refine ⟨_, rfl, ?_⟩; have HO547 := Aside0.mk (Kd.R_lower (Kd.R_new' (Kd.R_new' (Kd.R_new' ho0 (Kd.R_lt (rk HO_3.out))) (Kd.R_lt (rk HO_6.out))) (Kd.R_lt (rk HO_10.out))) (below_size bo)); replace HO_3 := Aside0.mk (Kd.R_elder' (rk HO_3.out) (Kd.R_base ho0) hb); replace HO_6 := Aside0.mk (Kd.R_elder' (rk HO_6.out) (Kd.R_base ho0) hb); replace HO_10 := Aside0.mk (Kd.R_elder' (rk HO_10.out) (Kd.R_base ho0) hb); replace BK514 := Aside0.mk (blk_below (g := gb514) (o := .cells #[.slice A0_0 l0_0.length c0_0, .slice (some ad524) l0_1.length c0_1] 56 (0, 0)) (bk BK514.out) hb); replace HB := Aside0.mk (below_step bo hb); (try clear hb); (try clear hb2); (try clear hk); (try clear hi); (try clear ho0); obtain ⟨Ao52, co52, eo52⟩ := Kd.R_slice HO_6.out; subst eo52) | ((with_reducible refine gate_callee (f := 34) rfl ?_); refine goesL_ (some 84) rfl rfl Try.func34 (by kernel_rfl) rfl #[.slice Ao52 t521.length co52, .int .i64 (wrap64 (Int.tdiv (rd l0_1 x4_1) 2))] rfl aa ?_; (with_reducible refine (inbox_Begin.calls kj43 _ _ t521 (wrap64 (Int.tdiv (rd l0_1 x4_1) 2)) t548 t549 t550 _ ?side1 ?side2 A49.out).mono ?_); (case side1 => repeat (first | exact (Kd.R_reads' HO_6.out).2.2 | (with_reducible refine Kd.C_alloc ?_ _) | (with_reducible refine Kd.C_drewN ?_ _) | (with_reducible refine Kd.C_drew ?_))); (case side2 => exact (Kd.R_reads' HO_6.out).2.1); rintro e w53 ⟨v551, rfl, ho0, hb⟩; refine ⟨_, rfl, ?_⟩; have HO552 := Aside0.mk (Kd.R_lower (Kd.R_new' (Kd.R_new' (Kd.R_new' (Kd.R_new' ho0 (Kd.R_lt (rk HO_3.out))) (Kd.R_lt (rk HO_6.out))) (Kd.R_lt (rk HO_10.out))) (Kd.R_lt (rk HO547.out))) (below_size bo)); replace HO_3 := Aside0.mk (Kd.R_elder' (rk HO_3.out) (Kd.R_base ho0) hb); replace HO_6 := Aside0.mk (Kd.R_elder' (rk HO_6.out) (Kd.R_base ho0) hb); replace HO_10 := Aside0.mk (Kd.R_elder' (rk HO_10.out) (Kd.R_base ho0) hb); replace HO547 := Aside0.mk (Kd.R_elder' (rk HO547.out) (Kd.R_base ho0) hb); replace BK514 := Aside0.mk (blk_below (g := gb514) (o := .cells #[.slice A0_0 l0_0.length c0_0, .slice (some ad524) l0_1.length c0_1] 56 (0, 0)) (bk BK514.out) hb); replace HB := Aside0.mk (below_step bo hb); (try clear hb); (try clear hb2); (try clear hk); (try clear hi); (try clear ho0)))
               go_ret
               exact ⟨er, bo⟩
              ·rw [if_neg c50] at H
               have c50b0 : (t549 != t544) = false := by simpa using c50
               (try (have c50b1 : decide (t549 = t544) = true := by simpa using c50))
               (try (have c50b2 : (t549 == t544) = true := by simpa using c50))
               clear c50
               have H' := Aside0.mk H
               clear H
               go_wp2_with (first | ((with_reducible refine gate_callee (f := 33) rfl ?_); refine goesL_ (some 77) rfl rfl Try.func33 (by kernel_rfl) rfl #[.slice Ao23 x3_1.length co23, .int .i64 (wrap64 (Int.tdiv (rd l0_1 x4_1) 2))] rfl aa ?_; (with_reducible refine (fairwayref17_Begin.calls kj43 _ _ x3_1 (wrap64 (Int.tdiv (rd l0_1 x4_1) 2)) t543 t544 t545 _ ?side1 ?side2 A48.out).mono ?_); (case side1 => repeat (first | exact (Kd.R_reads' HO_3.out).2.2 | (with_reducible refine Kd.C_alloc ?_ _) | (with_reducible refine Kd.C_drewN ?_ _) | (with_reducible refine Kd.C_drew ?_))); (case side2 => exact (Kd.R_reads' HO_3.out).2.1); rintro e w54 ⟨v546, rfl, ho0, hb⟩; refine ⟨_, rfl, ?_⟩; have HO547 := Aside0.mk (Kd.R_lower (Kd.R_new' (Kd.R_new' (Kd.R_new' ho0 (Kd.R_lt (rk HO_3.out))) (Kd.R_lt (rk HO_6.out))) (Kd.R_lt (rk HO_10.out))) (below_size bo)); replace HO_3 := Aside0.mk (Kd.R_elder' (rk HO_3.out) (Kd.R_base ho0) hb); replace HO_6 := Aside0.mk (Kd.R_elder' (rk HO_6.out) (Kd.R_base ho0) hb); replace HO_10 := Aside0.mk (Kd.R_elder' (rk HO_10.out) (Kd.R_base ho0) hb); replace BK514 := Aside0.mk (blk_below (g := gb514) (o := .cells #[.slice A0_0 l0_0.length c0_0, .slice (some ad524) l0_1.length c0_1] 56 (0, 0)) (bk BK514.out) hb); replace HB := Aside0.mk (below_step bo hb); (try clear hb); (try clear hb2); (try clear hk); (try clear hi); (try clear ho0); obtain ⟨Ao55, co55, eo55⟩ := Kd.R_slice HO_6.out; subst eo55) | ((with_reducible refine gate_callee (f := 34) rfl ?_); refine goesL_ (some 84) rfl rfl Try.func34 (by kernel_rfl) rfl #[.slice Ao55 t521.length co55, .int .i64 (wrap64 (Int.tdiv (rd l0_1 x4_1) 2))] rfl aa ?_; (with_reducible refine (inbox_Begin.calls kj43 _ _ t521 (wrap64 (Int.tdiv (rd l0_1 x4_1) 2)) t548 t549 t550 _ ?side1 ?side2 A49.out).mono ?_); (case side1 => repeat (first | exact (Kd.R_reads' HO_6.out).2.2 | (with_reducible refine Kd.C_alloc ?_ _) | (with_reducible refine Kd.C_drewN ?_ _) | (with_reducible refine Kd.C_drew ?_))); (case side2 => exact (Kd.R_reads' HO_6.out).2.1); rintro e w56 ⟨v551, rfl, ho0, hb⟩; refine ⟨_, rfl, ?_⟩; have HO552 := Aside0.mk (Kd.R_lower (Kd.R_new' (Kd.R_new' (Kd.R_new' (Kd.R_new' ho0 (Kd.R_lt (rk HO_3.out))) (Kd.R_lt (rk HO_6.out))) (Kd.R_lt (rk HO_10.out))) (Kd.R_lt (rk HO547.out))) (below_size bo)); replace HO_3 := Aside0.mk (Kd.R_elder' (rk HO_3.out) (Kd.R_base ho0) hb); replace HO_6 := Aside0.mk (Kd.R_elder' (rk HO_6.out) (Kd.R_base ho0) hb); replace HO_10 := Aside0.mk (Kd.R_elder' (rk HO_10.out) (Kd.R_base ho0) hb); replace HO547 := Aside0.mk (Kd.R_elder' (rk HO547.out) (Kd.R_base ho0) hb); replace BK514 := Aside0.mk (blk_below (g := gb514) (o := .cells #[.slice A0_0 l0_0.length c0_0, .slice (some ad524) l0_1.length c0_1] 56 (0, 0)) (bk BK514.out) hb); replace HB := Aside0.mk (below_step bo hb); (try clear hb); (try clear hb2); (try clear hk); (try clear hi); (try clear ho0)))
               go_meet
               case rel => exact ⟨_, (t545), (t543), (t548), (t550), ap, ap, H', ⟨by have := HK1.out; have := HJ12.out; have := HJ43.out; first | omega | exact Nat.le_refl _⟩, ⟨by (with_reducible repeat (first | apply Kd.R_alloc | apply Kd.R_drewN | apply Kd.R_drew)); exact Kd.R_mono HO_3.out (fun _ hk => ⟨hk.1.1.1, ⟨hk.1.2, hk.2⟩⟩)⟩, ⟨by (with_reducible repeat (first | apply Kd.R_alloc | apply Kd.R_drewN | apply Kd.R_drew)); exact Kd.R_mono HO_6.out (fun _ hk => ⟨hk.1.1.1, ⟨hk.1.2, hk.2⟩⟩)⟩, ⟨by (with_reducible repeat (first | apply Kd.R_alloc | apply Kd.R_drewN | apply Kd.R_drew)); exact Kd.R_mono HO547.out (fun _ hk => ⟨hk.1.1.1.2, ⟨hk.1.1.2, hk.2⟩⟩)⟩, ⟨by (with_reducible repeat (first | apply Kd.R_alloc | apply Kd.R_drewN | apply Kd.R_drew)); exact Kd.R_mono HO552.out (fun _ hk => ⟨hk.1.1.1.2, ⟨hk.1.1.2, hk.2⟩⟩)⟩, ⟨by (with_reducible repeat (first | refine blk_drewN ?_ _ | refine blk_drew ?_ | refine blk_alloc ?_ _)); exact BK514.out⟩, ⟨bo⟩⟩
             ·replace c47 := Bool.eq_false_iff.mpr c47
              subst c47
              have H1 : ((inbox_Begin.f kj43 t521 (wrap64 (Int.tdiv (rd l0_1 x4_1) 2))).bind fun bt553 => (if (bt553.2.1 != false) = true then (some false) else (fairwaylaw19_InboxExact.j4 kj43 x3_1 x4_1 t520 t521 1 ([] : List Int) bt553.1 bt553.2.2 l0_0 l0_1))) = some r := by rw [if_neg (show ¬ (false = true) by decide)] at H; exact H
              clear H
              have H := H1
              clear H1
              replace H := Option.bind_eq_some_iff.mp H
              obtain ⟨⟨t553, t554, t555⟩, A570, H⟩ := H
              replace H : (if (t554 != false) = true then (some false) else (fairwaylaw19_InboxExact.j4 kj43 x3_1 x4_1 t520 t521 1 ([] : List Int) t553 t555 l0_0 l0_1)) = some r := H
              have A57 := Aside0.mk A570
              clear A570
              by_cases c58 : (t554 != false) = true
              ·rw [if_pos c58] at H
               have c58b0 : (t554 != false) = true := c58
               (try (have c58b1 : decide (t554 = false) = false := by simpa using c58))
               (try (have c58b2 : (t554 == false) = false := by simpa using c58))
               (try (have c58b3 : ¬ (t554 = false) := by simpa using c58))
               clear c58
               obtain rfl := Option.some.inj H
               obtain ⟨Ao59, co59, eo59⟩ := Kd.R_slice HO_6.out
               subst eo59
               go_wp2_with (first | ((with_reducible refine gate_callee (f := 34) rfl ?_); refine goesL_ (some 84) rfl rfl Try.func34 (by kernel_rfl) rfl #[.slice Ao59 t521.length co59, .int .i64 (wrap64 (Int.tdiv (rd l0_1 x4_1) 2))] rfl aa ?_; (with_reducible refine (inbox_Begin.calls kj43 _ _ t521 (wrap64 (Int.tdiv (rd l0_1 x4_1) 2)) t553 t554 t555 _ ?side1 ?side2 A57.out).mono ?_); (case side1 => repeat (first | exact (Kd.R_reads' HO_6.out).2.2 | (with_reducible refine Kd.C_alloc ?_ _) | (with_reducible refine Kd.C_drewN ?_ _) | (with_reducible refine Kd.C_drew ?_))); (case side2 => exact (Kd.R_reads' HO_6.out).2.1); rintro e w60 ⟨v556, rfl, ho0, hb⟩; refine ⟨_, rfl, ?_⟩; have HO557 := Aside0.mk (Kd.R_lower (Kd.R_new' (Kd.R_new' (Kd.R_new' ho0 (Kd.R_lt (rk HO_3.out))) (Kd.R_lt (rk HO_6.out))) (Kd.R_lt (rk HO_10.out))) (below_size bo)); replace HO_3 := Aside0.mk (Kd.R_elder' (rk HO_3.out) (Kd.R_base ho0) hb); replace HO_6 := Aside0.mk (Kd.R_elder' (rk HO_6.out) (Kd.R_base ho0) hb); replace HO_10 := Aside0.mk (Kd.R_elder' (rk HO_10.out) (Kd.R_base ho0) hb); replace BK514 := Aside0.mk (blk_below (g := gb514) (o := .cells #[.slice A0_0 l0_0.length c0_0, .slice (some ad524) l0_1.length c0_1] 56 (0, 0)) (bk BK514.out) hb); replace HB := Aside0.mk (below_step bo hb); (try clear hb); (try clear hb2); (try clear hk); (try clear hi); (try clear ho0)))
               go_ret
               exact ⟨er, bo⟩
              ·rw [if_neg c58] at H
               have c58b0 : (t554 != false) = false := by simpa using c58
               (try (have c58b1 : decide (t554 = false) = true := by simpa using c58))
               (try (have c58b2 : (t554 == false) = true := by simpa using c58))
               clear c58
               have H' := Aside0.mk H
               clear H
               obtain ⟨Ao61, co61, eo61⟩ := Kd.R_slice HO_6.out
               subst eo61
               go_wp2_with (first | ((with_reducible refine gate_callee (f := 34) rfl ?_); refine goesL_ (some 84) rfl rfl Try.func34 (by kernel_rfl) rfl #[.slice Ao61 t521.length co61, .int .i64 (wrap64 (Int.tdiv (rd l0_1 x4_1) 2))] rfl aa ?_; (with_reducible refine (inbox_Begin.calls kj43 _ _ t521 (wrap64 (Int.tdiv (rd l0_1 x4_1) 2)) t553 t554 t555 _ ?side1 ?side2 A57.out).mono ?_); (case side1 => repeat (first | exact (Kd.R_reads' HO_6.out).2.2 | (with_reducible refine Kd.C_alloc ?_ _) | (with_reducible refine Kd.C_drewN ?_ _) | (with_reducible refine Kd.C_drew ?_))); (case side2 => exact (Kd.R_reads' HO_6.out).2.1); rintro e w62 ⟨v556, rfl, ho0, hb⟩; refine ⟨_, rfl, ?_⟩; have HO557 := Aside0.mk (Kd.R_lower (Kd.R_new' (Kd.R_new' (Kd.R_new' ho0 (Kd.R_lt (rk HO_3.out))) (Kd.R_lt (rk HO_6.out))) (Kd.R_lt (rk HO_10.out))) (below_size bo)); replace HO_3 := Aside0.mk (Kd.R_elder' (rk HO_3.out) (Kd.R_base ho0) hb); replace HO_6 := Aside0.mk (Kd.R_elder' (rk HO_6.out) (Kd.R_base ho0) hb); replace HO_10 := Aside0.mk (Kd.R_elder' (rk HO_10.out) (Kd.R_base ho0) hb); replace BK514 := Aside0.mk (blk_below (g := gb514) (o := .cells #[.slice A0_0 l0_0.length c0_0, .slice (some ad524) l0_1.length c0_1] 56 (0, 0)) (bk BK514.out) hb); replace HB := Aside0.mk (below_step bo hb); (try clear hb); (try clear hb2); (try clear hk); (try clear hi); (try clear ho0)))
               go_meet
               case rel => exact ⟨_, (1), (([] : List Int)), (t553), (t555), ap, ap, H', ⟨by have := HK1.out; have := HJ12.out; have := HJ43.out; first | omega | exact Nat.le_refl _⟩, ⟨by (with_reducible repeat (first | apply Kd.R_alloc | apply Kd.R_drewN | apply Kd.R_drew)); exact Kd.R_mono HO_3.out (fun _ hk => ⟨hk.1.1, ⟨hk.1.2, hk.2⟩⟩)⟩, ⟨by (with_reducible repeat (first | apply Kd.R_alloc | apply Kd.R_drewN | apply Kd.R_drew)); exact Kd.R_mono HO_6.out (fun _ hk => ⟨hk.1.1, ⟨hk.1.2, hk.2⟩⟩)⟩, ⟨by (with_reducible repeat (first | apply Kd.R_alloc | apply Kd.R_drewN | apply Kd.R_drew)); exact Kd.R_mono HO_10.out (fun _ hk => ⟨hk.1.1, ⟨hk.1.2, hk.2⟩⟩)⟩, ⟨by (with_reducible repeat (first | apply Kd.R_alloc | apply Kd.R_drewN | apply Kd.R_drew)); exact Kd.R_mono HO557.out (fun _ hk => ⟨hk.1.1.2, ⟨hk.1.2, hk.2⟩⟩)⟩, ⟨by (with_reducible repeat (first | refine blk_drewN ?_ _ | refine blk_drew ?_ | refine blk_alloc ?_ _)); exact BK514.out⟩, ⟨bo⟩⟩
         case rest =>
          clear HC22
          try clear c1
          try clear c2
          try clear p2
          try clear c3
          try clear c4
          try clear c5
          try clear p5
          try clear q5
          try clear hx5
          try clear p6
          try clear c7
          try clear c14
          try clear c14b0
          try clear c17
          try clear c20
          try clear c20b0
          try clear c21
          try clear c21b0
          try clear c26
          try clear c26b0
          try clear c26b1
          try clear c27
          try clear c28
          try clear c29
          try clear c30
          try clear c31
          try clear c32
          try clear c33
          try clear c34
          try clear c45
          try clear c47
          try clear c50
          try clear c50b0
          try clear c50b1
          try clear c50b2
          try clear p52
          try clear q52
          try clear hx52
          try clear c58
          try clear c58b0
          try clear c58b1
          try clear c58b2
          try clear hcz11_0
          try clear hcz11_1
          try clear hcz15_0
          try clear hcz15_1
          try clear hcz16_0
          try clear hcz16_1
          try clear hcz25_0
          try clear hcz25_1
          try clear hcz5_0
          try clear hcz5_1
          try clear hcz9_0
          try clear hcz9_1
          try clear hfz11_0
          try clear hfz11_1
          try clear hfz15_0
          try clear hfz15_1
          try clear hfz16_0
          try clear hfz16_1
          try clear hfz25_0
          try clear hfz25_1
          try clear hfz5_0
          try clear hfz5_1
          try clear hfz9_0
          try clear hfz9_1
          try clear hx524_0
          try clear p2
          try clear p5
          try clear p524
          try clear p6
          try clear q5
          try clear q524
          obtain ⟨kq, x9_21, x10_21, x11_21, x12_21, rfl, rfl, HA, HJ21, HO_3, HO_6, HO_10, HO_11, BK514, HB⟩ := hcut
          cases kq with
          | zero => exact absurd HA.out (by simp [fairwaylaw19_InboxExact.j4])
          | succ kj21 =>
           have H := HA.out
           clear HA
           simp only [fairwaylaw19_InboxExact.j4] at H
           have HC63 := Aside0.mk H
           clear H
           go_upto_region 29 with (fail)
           go_cut [116] (fun v116 wc => ∃ (kq : Nat) (x116_62 : Bool), v116 = .bool x116_62 ∧ Aside0 (fairwaylaw19_InboxExact.j5 kq x3_1 x4_1 t521 x9_21 x10_21 x11_21 x116_62 l0_0 l0_1 = some r) ∧ Aside0 (kq ≤ kj21) ∧ Aside0 (Kd.R (Kd.int .i64) 3 wc w.heap.size (fun k_ => some k_ ≠ (v522 : Value).ownBlock ∧ some k_ ≠ (u10 : Value).ownBlock ∧ some k_ ≠ (u11 : Value).ownBlock) (.slice Ao23 x3_1.length co23) x3_1) ∧ Aside0 (Kd.R (Kd.int .i64) 3 wc w.heap.size (fun k_ => some k_ ≠ ((.slice Ao23 x3_1.length co23) : Value).ownBlock ∧ some k_ ≠ (u10 : Value).ownBlock ∧ some k_ ≠ (u11 : Value).ownBlock) v522 t521) ∧ Aside0 (Kd.R (Kd.int .i64) 3 wc w.heap.size (fun k_ => some k_ ≠ ((.slice Ao23 x3_1.length co23) : Value).ownBlock ∧ some k_ ≠ (v522 : Value).ownBlock ∧ some k_ ≠ (u11 : Value).ownBlock) u10 x10_21) ∧ Aside0 (Kd.R (Kd.int .i64) 3 wc w.heap.size (fun k_ => some k_ ≠ ((.slice Ao23 x3_1.length co23) : Value).ownBlock ∧ some k_ ≠ (v522 : Value).ownBlock ∧ some k_ ≠ (u10 : Value).ownBlock) u11 x11_21) ∧ Aside0 (wc.heap[gb514]? = some (.cells #[(.slice A0_0 l0_0.length c0_0), (.slice (some ad524) l0_1.length c0_1)] 56 (0, 0))) ∧ Aside0 (Below w.heap.size w wc))
           case first =>
            have H := HC63.out
            clear HC63
            replace H := Option.bind_eq_some_iff.mp H
            obtain ⟨t558, A640, H⟩ := H
            replace H : ((fairwaylaw19_num.f t558).bind fun t559 => (if ((t559 == 0) != t520) = true then (fairwaylaw19_InboxExact.j5 kj21 x3_1 x4_1 t521 x9_21 x10_21 x11_21 true l0_0 l0_1) else ((fairwaylaw19_num.f x12_21).bind fun t560 => (if t560 = x9_21 then ((fairwayref0_EqNumbers.f kj21 x11_21 x10_21).bind fun t561 => (if t561 = true then ((fairwayref0_EqNumbers.f kj21 t521 x3_1).bind fun t562 => (fairwaylaw19_InboxExact.j5 kj21 x3_1 x4_1 t521 x9_21 x10_21 x11_21 (!t562) l0_0 l0_1)) else (fairwaylaw19_InboxExact.j5 kj21 x3_1 x4_1 t521 x9_21 x10_21 x11_21 true l0_0 l0_1))) else (fairwaylaw19_InboxExact.j5 kj21 x3_1 x4_1 t521 x9_21 x10_21 x11_21 true l0_0 l0_1))))) = some r := H
            have A64 := Aside0.mk A640
            clear A640
            replace H := Option.bind_eq_some_iff.mp H
            obtain ⟨t559, A650, H⟩ := H
            replace H : (if ((t559 == 0) != t520) = true then (fairwaylaw19_InboxExact.j5 kj21 x3_1 x4_1 t521 x9_21 x10_21 x11_21 true l0_0 l0_1) else ((fairwaylaw19_num.f x12_21).bind fun t560 => (if t560 = x9_21 then ((fairwayref0_EqNumbers.f kj21 x11_21 x10_21).bind fun t561 => (if t561 = true then ((fairwayref0_EqNumbers.f kj21 t521 x3_1).bind fun t562 => (fairwaylaw19_InboxExact.j5 kj21 x3_1 x4_1 t521 x9_21 x10_21 x11_21 (!t562) l0_0 l0_1)) else (fairwaylaw19_InboxExact.j5 kj21 x3_1 x4_1 t521 x9_21 x10_21 x11_21 true l0_0 l0_1))) else (fairwaylaw19_InboxExact.j5 kj21 x3_1 x4_1 t521 x9_21 x10_21 x11_21 true l0_0 l0_1)))) = some r := H
            have A65 := Aside0.mk A650
            clear A650
            by_cases c66 : ((t559 == 0) != t520) = true
            ·rw [if_pos c66] at H
             have c66b0 : ((t559 == 0) != t520) = true := c66
             (try (have c66b1 : decide ((t559 == 0) = t520) = false := by simpa using c66))
             (try (have c66b2 : ((t559 == 0) == t520) = false := by simpa using c66))
             (try (have c66b3 : ¬ ((t559 == 0) = t520) := by simpa using c66))
             clear c66
             (first | rw [c66b0] | (simp only [i64_w, i32_w]; rw [c66b0]) | skip)
             have H' := Aside0.mk H
             clear H
             go_wp2_with (first | ((with_reducible refine gate_callee (f := 36) rfl ?_); refine goesL_ (some 94) rfl rfl Try.func36 (by kernel_rfl) rfl #[.slice Ao23 x3_1.length co23] rfl aa ?_; (with_reducible refine (inbox_Check.calls kj21 _ _ x3_1 t558 _ ?side1 ?side2 A64.out).mono ?_); (case side1 => repeat (first | exact (Kd.R_reads' HO_3.out).2.2 | (with_reducible refine Kd.C_alloc ?_ _) | (with_reducible refine Kd.C_drewN ?_ _) | (with_reducible refine Kd.C_drew ?_))); (case side2 => exact (Kd.R_reads' HO_3.out).2.1); rintro e w' ⟨rfl, ⟨nd, rfl⟩⟩; refine ⟨_, rfl, ?_⟩) | ((with_reducible refine gate_callee (f := 35) rfl ?_); refine goesL_ (some 95) rfl rfl Try.func35 (by kernel_rfl) rfl #[.int .i64 t558] rfl aa ?_; (with_reducible refine (fairwaylaw19_num.calls t558 t559 _ A65.out).mono ?_); rintro e w' ⟨rfl, ⟨nd, rfl⟩⟩; refine ⟨_, rfl, ?_⟩))
             go_meet
             case rel => exact ⟨_, (true), ap, H', ⟨by have := HK1.out; have := HJ12.out; have := HJ21.out; first | omega | exact Nat.le_refl _⟩, ⟨by (with_reducible repeat (first | apply Kd.R_alloc | apply Kd.R_drewN | apply Kd.R_drew)); exact HO_3.out⟩, ⟨by (with_reducible repeat (first | apply Kd.R_alloc | apply Kd.R_drewN | apply Kd.R_drew)); exact HO_6.out⟩, ⟨by (with_reducible repeat (first | apply Kd.R_alloc | apply Kd.R_drewN | apply Kd.R_drew)); exact HO_10.out⟩, ⟨by (with_reducible repeat (first | apply Kd.R_alloc | apply Kd.R_drewN | apply Kd.R_drew)); exact HO_11.out⟩, ⟨by (with_reducible repeat (first | refine blk_drewN ?_ _ | refine blk_drew ?_ | refine blk_alloc ?_ _)); exact BK514.out⟩, ⟨bo⟩⟩
            ·rw [if_neg c66] at H
             have c66b0 : ((t559 == 0) != t520) = false := by simpa using c66
             (try (have c66b1 : decide ((t559 == 0) = t520) = true := by simpa using c66))
             (try (have c66b2 : ((t559 == 0) == t520) = true := by simpa using c66))
             clear c66
             (first | rw [c66b0] | (simp only [i64_w, i32_w]; rw [c66b0]) | skip)
             replace H := Option.bind_eq_some_iff.mp H
             obtain ⟨t560, A670, H⟩ := H
             replace H : (if t560 = x9_21 then ((fairwayref0_EqNumbers.f kj21 x11_21 x10_21).bind fun t561 => (if t561 = true then ((fairwayref0_EqNumbers.f kj21 t521 x3_1).bind fun t562 => (fairwaylaw19_InboxExact.j5 kj21 x3_1 x4_1 t521 x9_21 x10_21 x11_21 (!t562) l0_0 l0_1)) else (fairwaylaw19_InboxExact.j5 kj21 x3_1 x4_1 t521 x9_21 x10_21 x11_21 true l0_0 l0_1))) else (fairwaylaw19_InboxExact.j5 kj21 x3_1 x4_1 t521 x9_21 x10_21 x11_21 true l0_0 l0_1)) = some r := H
             have A67 := Aside0.mk A670
             clear A670
             by_cases c68 : t560 = x9_21
             ·rw [if_pos c68] at H
              have c68b0 : (t560 == x9_21) = true := beq_iff_eq.mpr c68
              have c68b1 : (t560 != x9_21) = false := bne_eq_false_iff_eq.mpr c68
              clear c68
              replace H := Option.bind_eq_some_iff.mp H
              obtain ⟨t561, A690, H⟩ := H
              replace H : (if t561 = true then ((fairwayref0_EqNumbers.f kj21 t521 x3_1).bind fun t562 => (fairwaylaw19_InboxExact.j5 kj21 x3_1 x4_1 t521 x9_21 x10_21 x11_21 (!t562) l0_0 l0_1)) else (fairwaylaw19_InboxExact.j5 kj21 x3_1 x4_1 t521 x9_21 x10_21 x11_21 true l0_0 l0_1)) = some r := H
              have A69 := Aside0.mk A690
              clear A690
              by_cases c70 : t561 = true
              ·subst c70
               have H1 : ((fairwayref0_EqNumbers.f kj21 t521 x3_1).bind fun t562 => (fairwaylaw19_InboxExact.j5 kj21 x3_1 x4_1 t521 x9_21 x10_21 x11_21 (!t562) l0_0 l0_1)) = some r := by rw [if_pos rfl] at H; exact H
               clear H
               have H := H1
               clear H1
               replace H := Option.bind_eq_some_iff.mp H
               obtain ⟨t562, A710, H⟩ := H
               replace H : (fairwaylaw19_InboxExact.j5 kj21 x3_1 x4_1 t521 x9_21 x10_21 x11_21 (!t562) l0_0 l0_1) = some r := H
               have A71 := Aside0.mk A710
               clear A710
               have H' := Aside0.mk H
               clear H
               go_wp2_with (first | ((with_reducible refine gate_callee (f := 36) rfl ?_); refine goesL_ (some 94) rfl rfl Try.func36 (by kernel_rfl) rfl #[.slice Ao23 x3_1.length co23] rfl aa ?_; (with_reducible refine (inbox_Check.calls kj21 _ _ x3_1 t558 _ ?side1 ?side2 A64.out).mono ?_); (case side1 => repeat (first | exact (Kd.R_reads' HO_3.out).2.2 | (with_reducible refine Kd.C_alloc ?_ _) | (with_reducible refine Kd.C_drewN ?_ _) | (with_reducible refine Kd.C_drew ?_))); (case side2 => exact (Kd.R_reads' HO_3.out).2.1); rintro e w' ⟨rfl, ⟨nd, rfl⟩⟩; refine ⟨_, rfl, ?_⟩) | ((with_reducible refine gate_callee (f := 35) rfl ?_); refine goesL_ (some 95) rfl rfl Try.func35 (by kernel_rfl) rfl #[.int .i64 t558] rfl aa ?_; (with_reducible refine (fairwaylaw19_num.calls t558 t559 _ A65.out).mono ?_); rintro e w' ⟨rfl, ⟨nd, rfl⟩⟩; refine ⟨_, rfl, ?_⟩) | (go_at_call 35; (with_reducible refine (fairwaylaw19_num.calls x12_21 t560 _ A67.out).mono ?_); rintro e w' ⟨rfl, ⟨nd, rfl⟩⟩; obtain ⟨Ao72, co72, eo72⟩ := Kd.R_slice HO_11.out; subst eo72; obtain ⟨Ao73, co73, eo73⟩ := Kd.R_slice HO_10.out; subst eo73) | (go_at_call 37; (with_reducible refine (fairwayref0_EqNumbers.calls kj21 _ _ x11_21 _ _ x10_21 true _ ?side1 ?side2 ?side3 ?side4 A69.out).mono ?_); (case side1 => repeat (first | exact (Kd.R_reads' HO_11.out).2.2 | (with_reducible refine Kd.C_alloc ?_ _) | (with_reducible refine Kd.C_drewN ?_ _) | (with_reducible refine Kd.C_drew ?_))); (case side2 => exact (Kd.R_reads' HO_11.out).2.1); (case side3 => repeat (first | exact (Kd.R_reads' HO_10.out).2.2 | (with_reducible refine Kd.C_alloc ?_ _) | (with_reducible refine Kd.C_drewN ?_ _) | (with_reducible refine Kd.C_drew ?_))); (case side4 => exact (Kd.R_reads' HO_10.out).2.1); rintro e w' ⟨rfl, ⟨nd, rfl⟩⟩; obtain ⟨Ao74, co74, eo74⟩ := Kd.R_slice HO_6.out; subst eo74) | (go_at_call 37; (with_reducible refine (fairwayref0_EqNumbers.calls kj21 _ _ t521 _ _ x3_1 t562 _ ?side1 ?side2 ?side3 ?side4 A71.out).mono ?_); (case side1 => repeat (first | exact (Kd.R_reads' HO_6.out).2.2 | (with_reducible refine Kd.C_alloc ?_ _) | (with_reducible refine Kd.C_drewN ?_ _) | (with_reducible refine Kd.C_drew ?_))); (case side2 => exact (Kd.R_reads' HO_6.out).2.1); (case side3 => repeat (first | exact (Kd.R_reads' HO_3.out).2.2 | (with_reducible refine Kd.C_alloc ?_ _) | (with_reducible refine Kd.C_drewN ?_ _) | (with_reducible refine Kd.C_drew ?_))); (case side4 => exact (Kd.R_reads' HO_3.out).2.1); rintro e w' ⟨rfl, ⟨nd, rfl⟩⟩))
               go_meet
               case rel => exact ⟨_, (!t562), ap, H', ⟨by have := HK1.out; have := HJ12.out; have := HJ21.out; first | omega | exact Nat.le_refl _⟩, ⟨by (with_reducible repeat (first | apply Kd.R_alloc | apply Kd.R_drewN | apply Kd.R_drew)); exact HO_3.out⟩, ⟨by (with_reducible repeat (first | apply Kd.R_alloc | apply Kd.R_drewN | apply Kd.R_drew)); exact HO_6.out⟩, ⟨by (with_reducible repeat (first | apply Kd.R_alloc | apply Kd.R_drewN | apply Kd.R_drew)); exact HO_10.out⟩, ⟨by (with_reducible repeat (first | apply Kd.R_alloc | apply Kd.R_drewN | apply Kd.R_drew)); exact HO_11.out⟩, ⟨by (with_reducible repeat (first | refine blk_drewN ?_ _ | refine blk_drew ?_ | refine blk_alloc ?_ _)); exact BK514.out⟩, ⟨bo⟩⟩
              ·replace c70 := Bool.eq_false_iff.mpr c70
               subst c70
               have H1 : (fairwaylaw19_InboxExact.j5 kj21 x3_1 x4_1 t521 x9_21 x10_21 x11_21 true l0_0 l0_1) = some r := by rw [if_neg (show ¬ (false = true) by decide)] at H; exact H
               clear H
               have H := H1
               clear H1
               have H' := Aside0.mk H
               clear H
               go_wp2_with (first | ((with_reducible refine gate_callee (f := 36) rfl ?_); refine goesL_ (some 94) rfl rfl Try.func36 (by kernel_rfl) rfl #[.slice Ao23 x3_1.length co23] rfl aa ?_; (with_reducible refine (inbox_Check.calls kj21 _ _ x3_1 t558 _ ?side1 ?side2 A64.out).mono ?_); (case side1 => repeat (first | exact (Kd.R_reads' HO_3.out).2.2 | (with_reducible refine Kd.C_alloc ?_ _) | (with_reducible refine Kd.C_drewN ?_ _) | (with_reducible refine Kd.C_drew ?_))); (case side2 => exact (Kd.R_reads' HO_3.out).2.1); rintro e w' ⟨rfl, ⟨nd, rfl⟩⟩; refine ⟨_, rfl, ?_⟩) | ((with_reducible refine gate_callee (f := 35) rfl ?_); refine goesL_ (some 95) rfl rfl Try.func35 (by kernel_rfl) rfl #[.int .i64 t558] rfl aa ?_; (with_reducible refine (fairwaylaw19_num.calls t558 t559 _ A65.out).mono ?_); rintro e w' ⟨rfl, ⟨nd, rfl⟩⟩; refine ⟨_, rfl, ?_⟩) | (go_at_call 35; (with_reducible refine (fairwaylaw19_num.calls x12_21 t560 _ A67.out).mono ?_); rintro e w' ⟨rfl, ⟨nd, rfl⟩⟩; obtain ⟨Ao75, co75, eo75⟩ := Kd.R_slice HO_11.out; subst eo75; obtain ⟨Ao76, co76, eo76⟩ := Kd.R_slice HO_10.out; subst eo76) | (go_at_call 37; (with_reducible refine (fairwayref0_EqNumbers.calls kj21 _ _ x11_21 _ _ x10_21 false _ ?side1 ?side2 ?side3 ?side4 A69.out).mono ?_); (case side1 => repeat (first | exact (Kd.R_reads' HO_11.out).2.2 | (with_reducible refine Kd.C_alloc ?_ _) | (with_reducible refine Kd.C_drewN ?_ _) | (with_reducible refine Kd.C_drew ?_))); (case side2 => exact (Kd.R_reads' HO_11.out).2.1); (case side3 => repeat (first | exact (Kd.R_reads' HO_10.out).2.2 | (with_reducible refine Kd.C_alloc ?_ _) | (with_reducible refine Kd.C_drewN ?_ _) | (with_reducible refine Kd.C_drew ?_))); (case side4 => exact (Kd.R_reads' HO_10.out).2.1); rintro e w' ⟨rfl, ⟨nd, rfl⟩⟩))
               go_meet
               case rel => exact ⟨_, (true), ap, H', ⟨by have := HK1.out; have := HJ12.out; have := HJ21.out; first | omega | exact Nat.le_refl _⟩, ⟨by (with_reducible repeat (first | apply Kd.R_alloc | apply Kd.R_drewN | apply Kd.R_drew)); exact HO_3.out⟩, ⟨by (with_reducible repeat (first | apply Kd.R_alloc | apply Kd.R_drewN | apply Kd.R_drew)); exact HO_6.out⟩, ⟨by (with_reducible repeat (first | apply Kd.R_alloc | apply Kd.R_drewN | apply Kd.R_drew)); exact HO_10.out⟩, ⟨by (with_reducible repeat (first | apply Kd.R_alloc | apply Kd.R_drewN | apply Kd.R_drew)); exact HO_11.out⟩, ⟨by (with_reducible repeat (first | refine blk_drewN ?_ _ | refine blk_drew ?_ | refine blk_alloc ?_ _)); exact BK514.out⟩, ⟨bo⟩⟩
             ·rw [if_neg c68] at H
              have c68b0 : (t560 == x9_21) = false := beq_eq_false_iff_ne.mpr c68
              have c68b1 : (t560 != x9_21) = true := bne_iff_ne.mpr c68
              have H' := Aside0.mk H
              clear H
              go_wp2_with (first | ((with_reducible refine gate_callee (f := 36) rfl ?_); refine goesL_ (some 94) rfl rfl Try.func36 (by kernel_rfl) rfl #[.slice Ao23 x3_1.length co23] rfl aa ?_; (with_reducible refine (inbox_Check.calls kj21 _ _ x3_1 t558 _ ?side1 ?side2 A64.out).mono ?_); (case side1 => repeat (first | exact (Kd.R_reads' HO_3.out).2.2 | (with_reducible refine Kd.C_alloc ?_ _) | (with_reducible refine Kd.C_drewN ?_ _) | (with_reducible refine Kd.C_drew ?_))); (case side2 => exact (Kd.R_reads' HO_3.out).2.1); rintro e w' ⟨rfl, ⟨nd, rfl⟩⟩; refine ⟨_, rfl, ?_⟩) | ((with_reducible refine gate_callee (f := 35) rfl ?_); refine goesL_ (some 95) rfl rfl Try.func35 (by kernel_rfl) rfl #[.int .i64 t558] rfl aa ?_; (with_reducible refine (fairwaylaw19_num.calls t558 t559 _ A65.out).mono ?_); rintro e w' ⟨rfl, ⟨nd, rfl⟩⟩; refine ⟨_, rfl, ?_⟩) | (go_at_call 35; (with_reducible refine (fairwaylaw19_num.calls x12_21 t560 _ A67.out).mono ?_); rintro e w' ⟨rfl, ⟨nd, rfl⟩⟩))
              go_meet
              case rel => exact ⟨_, (true), ap, H', ⟨by have := HK1.out; have := HJ12.out; have := HJ21.out; first | omega | exact Nat.le_refl _⟩, ⟨by (with_reducible repeat (first | apply Kd.R_alloc | apply Kd.R_drewN | apply Kd.R_drew)); exact HO_3.out⟩, ⟨by (with_reducible repeat (first | apply Kd.R_alloc | apply Kd.R_drewN | apply Kd.R_drew)); exact HO_6.out⟩, ⟨by (with_reducible repeat (first | apply Kd.R_alloc | apply Kd.R_drewN | apply Kd.R_drew)); exact HO_10.out⟩, ⟨by (with_reducible repeat (first | apply Kd.R_alloc | apply Kd.R_drewN | apply Kd.R_drew)); exact HO_11.out⟩, ⟨by (with_reducible repeat (first | refine blk_drewN ?_ _ | refine blk_drew ?_ | refine blk_alloc ?_ _)); exact BK514.out⟩, ⟨bo⟩⟩
           case rest =>
            clear HC63
            try clear c1
            try clear c2
            try clear p2
            try clear c3
            try clear c4
            try clear c5
            try clear p5
            try clear q5
            try clear hx5
            try clear c6
            try clear p6
            try clear c7
            try clear c14
            try clear c14b0
            try clear c17
            try clear c20
            try clear c20b0
            try clear c21
            try clear c21b0
            try clear c26
            try clear c26b0
            try clear c26b1
            try clear c27
            try clear c28
            try clear c29
            try clear c30
            try clear c31
            try clear c32
            try clear c33
            try clear c34
            try clear c35
            try clear c36
            try clear c45
            try clear c47
            try clear c50
            try clear c50b0
            try clear c50b1
            try clear c50b2
            try clear p52
            try clear q52
            try clear hx52
            try clear c58
            try clear c58b0
            try clear c58b1
            try clear c58b2
            try clear p64
            try clear c66
            try clear c66b0
            try clear c66b1
            try clear c66b2
            try clear c68
            try clear c68b0
            try clear c68b1
            try clear c70
            try clear hcz11_0
            try clear hcz11_1
            try clear hcz15_0
            try clear hcz15_1
            try clear hcz16_0
            try clear hcz16_1
            try clear hcz25_0
            try clear hcz25_1
            try clear hcz5_0
            try clear hcz5_1
            try clear hcz9_0
            try clear hcz9_1
            try clear hfz11_0
            try clear hfz11_1
            try clear hfz15_0
            try clear hfz15_1
            try clear hfz16_0
            try clear hfz16_1
            try clear hfz25_0
            try clear hfz25_1
            try clear hfz5_0
            try clear hfz5_1
            try clear hfz9_0
            try clear hfz9_1
            try clear hx524_0
            try clear p2
            try clear p5
            try clear p52
            try clear p524
            try clear p6
            try clear q5
            try clear q52
            try clear q524
            obtain ⟨kq, x116_62, rfl, HA, HJ62, HO_3, HO_6, HO_10, HO_11, BK514, HB⟩ := hcut
            cases kq with
            | zero => exact absurd HA.out (by simp [fairwaylaw19_InboxExact.j5])
            | succ kj62 =>
             have H := HA.out
             clear HA
             simp only [fairwaylaw19_InboxExact.j5] at H
             by_cases c77 : x116_62 = true
             ·subst c77
              have H1 : (some false) = some r := by rw [if_pos rfl] at H; exact H
              clear H
              have H := H1
              clear H1
              obtain rfl := Option.some.inj H
              go_wp2
              go_ret
              exact ⟨er, bo⟩
             ·replace c77 := Bool.eq_false_iff.mpr c77
              subst c77
              have H1 : ((fairwaylaw0_Numbers.f kj62 x11_21).bind fun _ => ((fairwayref0_EqNumbers.f kj62 t521 x3_1).bind fun t563 => (if t563 = true then (if x9_21 = 0 then ((fairwayref0_CopyNumbers.f kj62 x10_21).bind fun t564 => (fairwaylaw19_InboxExact.l0 kj62 t564 (wrap64 (x4_1 + 1)) l0_0 l0_1)) else (fairwaylaw19_InboxExact.l0 kj62 x3_1 (wrap64 (x4_1 + 1)) l0_0 l0_1)) else (some false)))) = some r := by rw [if_neg (show ¬ (false = true) by decide)] at H; exact H
              clear H
              have H := H1
              clear H1
              replace H := Option.bind_eq_some_iff.mp H
              obtain ⟨_, A780, H⟩ := H
              replace H : ((fairwayref0_EqNumbers.f kj62 t521 x3_1).bind fun t563 => (if t563 = true then (if x9_21 = 0 then ((fairwayref0_CopyNumbers.f kj62 x10_21).bind fun t564 => (fairwaylaw19_InboxExact.l0 kj62 t564 (wrap64 (x4_1 + 1)) l0_0 l0_1)) else (fairwaylaw19_InboxExact.l0 kj62 x3_1 (wrap64 (x4_1 + 1)) l0_0 l0_1)) else (some false))) = some r := H
              have A78 := Aside0.mk A780
              clear A780
              replace H := Option.bind_eq_some_iff.mp H
              obtain ⟨t563, A790, H⟩ := H
              replace H : (if t563 = true then (if x9_21 = 0 then ((fairwayref0_CopyNumbers.f kj62 x10_21).bind fun t564 => (fairwaylaw19_InboxExact.l0 kj62 t564 (wrap64 (x4_1 + 1)) l0_0 l0_1)) else (fairwaylaw19_InboxExact.l0 kj62 x3_1 (wrap64 (x4_1 + 1)) l0_0 l0_1)) else (some false)) = some r := H
              have A79 := Aside0.mk A790
              clear A790
              by_cases c80 : t563 = true
              ·subst c80
               have H1 : (if x9_21 = 0 then ((fairwayref0_CopyNumbers.f kj62 x10_21).bind fun t564 => (fairwaylaw19_InboxExact.l0 kj62 t564 (wrap64 (x4_1 + 1)) l0_0 l0_1)) else (fairwaylaw19_InboxExact.l0 kj62 x3_1 (wrap64 (x4_1 + 1)) l0_0 l0_1)) = some r := by rw [if_pos rfl] at H; exact H
               clear H
               have H := H1
               clear H1
               by_cases c81 : x9_21 = 0
               ·rw [if_pos c81] at H
                have c81b0 : (x9_21 == 0) = true := beq_iff_eq.mpr c81
                have c81b1 : (x9_21 != 0) = false := bne_eq_false_iff_eq.mpr c81
                clear c81
                replace H := Option.bind_eq_some_iff.mp H
                obtain ⟨t564, A820, H⟩ := H
                replace H : (fairwaylaw19_InboxExact.l0 kj62 t564 (wrap64 (x4_1 + 1)) l0_0 l0_1) = some r := H
                have A82 := Aside0.mk A820
                clear A820
                have H' := Aside0.mk H
                clear H
                obtain ⟨Ao83, co83, eo83⟩ := Kd.R_slice HO_11.out
                subst eo83
                go_wp2_with (first | ((with_reducible refine gate_callee (f := 38) rfl ?_); refine goesL_ (some 118) rfl rfl Try.func38 (by kernel_rfl) rfl #[.slice Ao83 x11_21.length co83] rfl aa ?_; (with_reducible refine (fairwaylaw0_Numbers.calls kj62 (fun k_ => some k_ = (.slice Ao83 x11_21.length co83 : Value).ownBlock) (.slice Ao83 x11_21.length co83) x11_21  w _ ?side1 ?side2 A78.out).mono ?_); (case side1 => repeat (first | (with_reducible first | exact HB.out | apply below_alloc | apply pw_below_drewN | apply below_drew1 | refine below_set ?_ GE514.out) | exact HB.out)); (case side2 => exact Kd.R_tight rfl HO_11.out); rintro e w84 ⟨rfl, hb, hkp⟩; refine ⟨_, rfl, ?_⟩; have n0_ := Aside0.mk (Kd.R_mono (ok' := fun k_ => some k_ ≠ (v522 : Value).ownBlock ∧ some k_ ≠ (u10 : Value).ownBlock) (Kd.R_keptB (HO_3.out) hkp (fun k_ hk_ hs_ => (hk_.2.2) hs_)) (fun k_ hk_ => ⟨hk_.1.1, hk_.1.2.1⟩)); have n1_ := Aside0.mk (Kd.R_mono (ok' := fun k_ => some k_ ≠ (.slice Ao23 x3_1.length co23 : Value).ownBlock ∧ some k_ ≠ (u10 : Value).ownBlock) (Kd.R_keptB (HO_6.out) hkp (fun k_ hk_ hs_ => (hk_.2.2) hs_)) (fun k_ hk_ => ⟨hk_.1.1, hk_.1.2.1⟩)); have n2_ := Aside0.mk (Kd.R_mono (ok' := fun k_ => some k_ ≠ (.slice Ao23 x3_1.length co23 : Value).ownBlock ∧ some k_ ≠ (v522 : Value).ownBlock) (Kd.R_keptB (HO_10.out) hkp (fun k_ hk_ hs_ => (hk_.2.2) hs_)) (fun k_ hk_ => ⟨hk_.1.1, hk_.1.2.1⟩)); have n3_ := Aside0.mk (blk_kept (bk BK514.out) hkp (fun hs_ => (fun e_ => (Kd.R_ne HO_11.out BK514.out (by decide)) e_) hs_)); have n4_ := Aside0.mk (hb); clear HO_3; clear HO_6; clear HO_10; clear BK514; clear HB; clear HO_11; have HO_3 := n0_; have HO_6 := n1_; have HO_10 := n2_; have BK514 := n3_; have HB := n4_; clear n0_ n1_ n2_ n3_ n4_; (try clear hb); (try clear hkp); obtain ⟨Ao85, co85, eo85⟩ := Kd.R_slice HO_6.out; subst eo85) | ((with_reducible refine gate_callee (f := 37) rfl ?_); refine goesL_ (some 121) rfl rfl Try.func37 (by kernel_rfl) rfl #[.slice Ao85 t521.length co85, .slice Ao23 x3_1.length co23] rfl aa ?_; (with_reducible refine (fairwayref0_EqNumbers.calls kj62 _ _ t521 _ _ x3_1 true _ ?side1 ?side2 ?side3 ?side4 A79.out).mono ?_); (case side1 => repeat (first | exact (Kd.R_reads' HO_6.out).2.2 | (with_reducible refine Kd.C_alloc ?_ _) | (with_reducible refine Kd.C_drewN ?_ _) | (with_reducible refine Kd.C_drew ?_))); (case side2 => exact (Kd.R_reads' HO_6.out).2.1); (case side3 => repeat (first | exact (Kd.R_reads' HO_3.out).2.2 | (with_reducible refine Kd.C_alloc ?_ _) | (with_reducible refine Kd.C_drewN ?_ _) | (with_reducible refine Kd.C_drew ?_))); (case side4 => exact (Kd.R_reads' HO_3.out).2.1); rintro e w' ⟨rfl, ⟨nd, rfl⟩⟩; refine ⟨_, rfl, ?_⟩; obtain ⟨Ao86, co86, eo86⟩ := Kd.R_slice HO_10.out; subst eo86) | ((with_reducible refine gate_callee (f := 28) rfl ?_); refine goesL_ (some 126) rfl rfl Try.func28 (by kernel_rfl) rfl #[.slice Ao86 x10_21.length co86] rfl aa ?_; (with_reducible refine (fairwayref0_CopyNumbers.calls kj62 _ _ x10_21 t564 _ ?side1 ?side2 A82.out).mono ?_); (case side1 => repeat (first | exact (Kd.R_reads' HO_10.out).2.2 | (with_reducible refine Kd.C_alloc ?_ _) | (with_reducible refine Kd.C_drewN ?_ _) | (with_reducible refine Kd.C_drew ?_))); (case side2 => exact (Kd.R_reads' HO_10.out).2.1); rintro e w87 ⟨v565, rfl, ho0, hb⟩; refine ⟨_, rfl, ?_⟩; have HO566 := Aside0.mk (Kd.R_lower (Kd.R_new' (Kd.R_new' (Kd.R_new' ho0 (Kd.R_lt (rk HO_3.out))) (Kd.R_lt (rk HO_6.out))) (Kd.R_lt (rk HO_10.out))) (below_size bo)); replace HO_3 := Aside0.mk (Kd.R_elder' (rk HO_3.out) (Kd.R_base ho0) hb); replace HO_6 := Aside0.mk (Kd.R_elder' (rk HO_6.out) (Kd.R_base ho0) hb); replace HO_10 := Aside0.mk (Kd.R_elder' (rk HO_10.out) (Kd.R_base ho0) hb); replace BK514 := Aside0.mk (blk_below (g := gb514) (o := .cells #[.slice A0_0 l0_0.length c0_0, .slice (some ad524) l0_1.length c0_1] 56 (0, 0)) (bk BK514.out) hb); replace HB := Aside0.mk (below_step bo hb); (try clear hb); (try clear hb2); (try clear hk); (try clear hi); (try clear ho0)))
                go_roundg kj62
                case measure => have := HK1.out; have := HJ12.out; have := HJ21.out; have := HJ62.out; omega
                case rel => exact ⟨(t564), (wrap64 (x4_1 + 1)), ap, H', ⟨by have := HK1.out; have := HJ12.out; have := HJ21.out; have := HJ62.out; omega⟩, ⟨by (with_reducible repeat (first | apply Kd.R_alloc | apply Kd.R_drewN | apply Kd.R_drew)); exact Kd.R_mono HO566.out (fun _ hk => trivial)⟩, ⟨by (with_reducible repeat (first | refine blk_drewN ?_ _ | refine blk_drew ?_ | refine blk_alloc ?_ _)); exact BK514.out⟩, ⟨bo⟩⟩
               ·rw [if_neg c81] at H
                have c81b0 : (x9_21 == 0) = false := beq_eq_false_iff_ne.mpr c81
                have c81b1 : (x9_21 != 0) = true := bne_iff_ne.mpr c81
                have H' := Aside0.mk H
                clear H
                obtain ⟨Ao88, co88, eo88⟩ := Kd.R_slice HO_11.out
                subst eo88
                go_wp2_with (first | ((with_reducible refine gate_callee (f := 38) rfl ?_); refine goesL_ (some 118) rfl rfl Try.func38 (by kernel_rfl) rfl #[.slice Ao88 x11_21.length co88] rfl aa ?_; (with_reducible refine (fairwaylaw0_Numbers.calls kj62 (fun k_ => some k_ = (.slice Ao88 x11_21.length co88 : Value).ownBlock) (.slice Ao88 x11_21.length co88) x11_21  w _ ?side1 ?side2 A78.out).mono ?_); (case side1 => repeat (first | (with_reducible first | exact HB.out | apply below_alloc | apply pw_below_drewN | apply below_drew1 | refine below_set ?_ GE514.out) | exact HB.out)); (case side2 => exact Kd.R_tight rfl HO_11.out); rintro e w89 ⟨rfl, hb, hkp⟩; refine ⟨_, rfl, ?_⟩; have n0_ := Aside0.mk (Kd.R_mono (ok' := fun k_ => some k_ ≠ (v522 : Value).ownBlock ∧ some k_ ≠ (u10 : Value).ownBlock) (Kd.R_keptB (HO_3.out) hkp (fun k_ hk_ hs_ => (hk_.2.2) hs_)) (fun k_ hk_ => ⟨hk_.1.1, hk_.1.2.1⟩)); have n1_ := Aside0.mk (Kd.R_mono (ok' := fun k_ => some k_ ≠ (.slice Ao23 x3_1.length co23 : Value).ownBlock ∧ some k_ ≠ (u10 : Value).ownBlock) (Kd.R_keptB (HO_6.out) hkp (fun k_ hk_ hs_ => (hk_.2.2) hs_)) (fun k_ hk_ => ⟨hk_.1.1, hk_.1.2.1⟩)); have n2_ := Aside0.mk (Kd.R_mono (ok' := fun k_ => some k_ ≠ (.slice Ao23 x3_1.length co23 : Value).ownBlock ∧ some k_ ≠ (v522 : Value).ownBlock) (Kd.R_keptB (HO_10.out) hkp (fun k_ hk_ hs_ => (hk_.2.2) hs_)) (fun k_ hk_ => ⟨hk_.1.1, hk_.1.2.1⟩)); have n3_ := Aside0.mk (blk_kept (bk BK514.out) hkp (fun hs_ => (fun e_ => (Kd.R_ne HO_11.out BK514.out (by decide)) e_) hs_)); have n4_ := Aside0.mk (hb); clear HO_3; clear HO_6; clear HO_10; clear BK514; clear HB; clear HO_11; have HO_3 := n0_; have HO_6 := n1_; have HO_10 := n2_; have BK514 := n3_; have HB := n4_; clear n0_ n1_ n2_ n3_ n4_; (try clear hb); (try clear hkp); obtain ⟨Ao90, co90, eo90⟩ := Kd.R_slice HO_6.out; subst eo90) | ((with_reducible refine gate_callee (f := 37) rfl ?_); refine goesL_ (some 121) rfl rfl Try.func37 (by kernel_rfl) rfl #[.slice Ao90 t521.length co90, .slice Ao23 x3_1.length co23] rfl aa ?_; (with_reducible refine (fairwayref0_EqNumbers.calls kj62 _ _ t521 _ _ x3_1 true _ ?side1 ?side2 ?side3 ?side4 A79.out).mono ?_); (case side1 => repeat (first | exact (Kd.R_reads' HO_6.out).2.2 | (with_reducible refine Kd.C_alloc ?_ _) | (with_reducible refine Kd.C_drewN ?_ _) | (with_reducible refine Kd.C_drew ?_))); (case side2 => exact (Kd.R_reads' HO_6.out).2.1); (case side3 => repeat (first | exact (Kd.R_reads' HO_3.out).2.2 | (with_reducible refine Kd.C_alloc ?_ _) | (with_reducible refine Kd.C_drewN ?_ _) | (with_reducible refine Kd.C_drew ?_))); (case side4 => exact (Kd.R_reads' HO_3.out).2.1); rintro e w' ⟨rfl, ⟨nd, rfl⟩⟩; refine ⟨_, rfl, ?_⟩))
                go_roundg kj62
                case measure => have := HK1.out; have := HJ12.out; have := HJ21.out; have := HJ62.out; omega
                case rel => exact ⟨(x3_1), (wrap64 (x4_1 + 1)), ap, H', ⟨by have := HK1.out; have := HJ12.out; have := HJ21.out; have := HJ62.out; omega⟩, ⟨by (with_reducible repeat (first | apply Kd.R_alloc | apply Kd.R_drewN | apply Kd.R_drew)); exact Kd.R_mono HO_3.out (fun _ hk => trivial)⟩, ⟨by (with_reducible repeat (first | refine blk_drewN ?_ _ | refine blk_drew ?_ | refine blk_alloc ?_ _)); exact BK514.out⟩, ⟨bo⟩⟩
              ·replace c80 := Bool.eq_false_iff.mpr c80
               subst c80
               have H1 : (some false) = some r := by rw [if_neg (show ¬ (false = true) by decide)] at H; exact H
               clear H
               have H := H1
               clear H1
               obtain rfl := Option.some.inj H
               obtain ⟨Ao91, co91, eo91⟩ := Kd.R_slice HO_11.out
               subst eo91
               go_wp2_with (first | ((with_reducible refine gate_callee (f := 38) rfl ?_); refine goesL_ (some 118) rfl rfl Try.func38 (by kernel_rfl) rfl #[.slice Ao91 x11_21.length co91] rfl aa ?_; (with_reducible refine (fairwaylaw0_Numbers.calls kj62 (fun k_ => some k_ = (.slice Ao91 x11_21.length co91 : Value).ownBlock) (.slice Ao91 x11_21.length co91) x11_21  w _ ?side1 ?side2 A78.out).mono ?_); (case side1 => repeat (first | (with_reducible first | exact HB.out | apply below_alloc | apply pw_below_drewN | apply below_drew1 | refine below_set ?_ GE514.out) | exact HB.out)); (case side2 => exact Kd.R_tight rfl HO_11.out); rintro e w92 ⟨rfl, hb, hkp⟩; refine ⟨_, rfl, ?_⟩; have n0_ := Aside0.mk (Kd.R_mono (ok' := fun k_ => some k_ ≠ (v522 : Value).ownBlock ∧ some k_ ≠ (u10 : Value).ownBlock) (Kd.R_keptB (HO_3.out) hkp (fun k_ hk_ hs_ => (hk_.2.2) hs_)) (fun k_ hk_ => ⟨hk_.1.1, hk_.1.2.1⟩)); have n1_ := Aside0.mk (Kd.R_mono (ok' := fun k_ => some k_ ≠ (.slice Ao23 x3_1.length co23 : Value).ownBlock ∧ some k_ ≠ (u10 : Value).ownBlock) (Kd.R_keptB (HO_6.out) hkp (fun k_ hk_ hs_ => (hk_.2.2) hs_)) (fun k_ hk_ => ⟨hk_.1.1, hk_.1.2.1⟩)); have n2_ := Aside0.mk (Kd.R_mono (ok' := fun k_ => some k_ ≠ (.slice Ao23 x3_1.length co23 : Value).ownBlock ∧ some k_ ≠ (v522 : Value).ownBlock) (Kd.R_keptB (HO_10.out) hkp (fun k_ hk_ hs_ => (hk_.2.2) hs_)) (fun k_ hk_ => ⟨hk_.1.1, hk_.1.2.1⟩)); have n3_ := Aside0.mk (blk_kept (bk BK514.out) hkp (fun hs_ => (fun e_ => (Kd.R_ne HO_11.out BK514.out (by decide)) e_) hs_)); have n4_ := Aside0.mk (hb); clear HO_3; clear HO_6; clear HO_10; clear BK514; clear HB; clear HO_11; have HO_3 := n0_; have HO_6 := n1_; have HO_10 := n2_; have BK514 := n3_; have HB := n4_; clear n0_ n1_ n2_ n3_ n4_; (try clear hb); (try clear hkp); obtain ⟨Ao93, co93, eo93⟩ := Kd.R_slice HO_6.out; subst eo93) | ((with_reducible refine gate_callee (f := 37) rfl ?_); refine goesL_ (some 121) rfl rfl Try.func37 (by kernel_rfl) rfl #[.slice Ao93 t521.length co93, .slice Ao23 x3_1.length co23] rfl aa ?_; (with_reducible refine (fairwayref0_EqNumbers.calls kj62 _ _ t521 _ _ x3_1 false _ ?side1 ?side2 ?side3 ?side4 A79.out).mono ?_); (case side1 => repeat (first | exact (Kd.R_reads' HO_6.out).2.2 | (with_reducible refine Kd.C_alloc ?_ _) | (with_reducible refine Kd.C_drewN ?_ _) | (with_reducible refine Kd.C_drew ?_))); (case side2 => exact (Kd.R_reads' HO_6.out).2.1); (case side3 => repeat (first | exact (Kd.R_reads' HO_3.out).2.2 | (with_reducible refine Kd.C_alloc ?_ _) | (with_reducible refine Kd.C_drewN ?_ _) | (with_reducible refine Kd.C_drew ?_))); (case side4 => exact (Kd.R_reads' HO_3.out).2.1); rintro e w' ⟨rfl, ⟨nd, rfl⟩⟩; refine ⟨_, rfl, ?_⟩))
               go_ret
               exact ⟨er, bo⟩
        ·rw [if_neg c21] at H
         exact absurd H (by simp)
       ·rw [if_neg c20] at H
        exact absurd H (by simp)
      ·replace c17 := Bool.eq_false_iff.mpr c17
       subst c17
       have H1 : ((fairwaylaw19_wakes.f kj12).bind fun t519 => (some t519)) = some r := by rw [if_neg (show ¬ (false = true) by decide)] at H; exact H
       clear H
       have H := H1
       clear H1
       replace H := Option.bind_eq_some_iff.mp H
       obtain ⟨t519, A940, H⟩ := H
       replace H : (some t519) = some r := H
       have A94 := Aside0.mk A940
       clear A940
       obtain rfl := Option.some.inj H
       go_wp2_with (first | ((with_reducible refine gate_callee (f := 39) rfl ?_); refine goesL_ (some 127) rfl rfl Try.func39 (by kernel_rfl) rfl #[] rfl aa ?_; (with_reducible refine (fairwaylaw19_wakes.calls kj12  t519 _ A94.out).mono ?_); rintro e w95 ⟨rfl, hb⟩; refine ⟨_, rfl, ?_⟩; replace HO_3 := Aside0.mk (Kd.R_below (rk HO_3.out) hb); replace BK514 := Aside0.mk (blk_below (g := gb514) (o := .cells #[.slice A0_0 l0_0.length c0_0, .slice A0_1 l0_1.length c0_1] 56 (0, 0)) (bk BK514.out) hb); replace HB := Aside0.mk (below_step bo hb); (try clear hb); (try clear hb2); (try clear hk); (try clear hi)))
       go_ret
       exact ⟨er, bo⟩

end Go.Proofs.Ytigmekgknhoidaa.P

/- From data to typed values: whatever the claim's reader reads at a type is told by the print's kinds, with the bounds of the reach. -/
namespace Go.Proofs.Ytigmekgknhoidaa.Open
open Go.RowKit Go.Proofs.YtigmekgknhoidaaW.PrintWords Go.Proofs.YtigmekgknhoidaaW.PrintLast
set_option linter.unusedVariables false

/-- What is read at type t is told by kind k, and is good. -/
structure Rd {α : Type} (P : Program) (t : TypeId) (k : Kd α) (good : α → Prop) : Prop where
  sz : P.cellsOf t = k.sz
  rd : ∀ {H : Type} (enc : TypeId × Value → H) (w : World) (fuel : Nat) (cs : List Value) (d : DataW H) (ps : List MemPlace),
    DataW.trod enc P w 0 (fun _ => true) true fuel t cs = some (d, ps) → (∀ n ∈ d.weights P t, n ≤ reachBytes) → ∃ x, k.K w x cs ∧ good x

theorem rd_int {P : Program} {t : TypeId} {k : IntKind} (hu : P.underlying t = some (.int k)) (hc : P.cellsOf t = 1) : Rd P t (Kd.int k) (fun n => (Lit.int k n).wf = true) where
  sz := hc
  rd := by
    intro H enc w fuel cs d ps h _
    obtain ⟨n, rfl, _, hw⟩ := DataW.trod_int hu h
    exact ⟨n, rfl, hw⟩

theorem rd_bool {P : Program} {t : TypeId} (hu : P.underlying t = some .bool) (hc : P.cellsOf t = 1) : Rd P t Kd.bool (fun _ => True) where
  sz := hc
  rd := by
    intro H enc w fuel cs d ps h _
    obtain ⟨b, rfl, _⟩ := DataW.trod_bool hu h
    exact ⟨b, rfl, trivial⟩

theorem rd_string {P : Program} {t : TypeId} (hu : P.underlying t = some .string) (hc : P.cellsOf t = 1) : Rd P t Kd.string (fun s => s.size ≤ 140737488351232) where
  sz := hc
  rd := by
    intro H enc w fuel cs d ps h hw
    obtain ⟨s, rfl, hx, _⟩ := DataW.trod_string hu h
    obtain ⟨rfl, rfl⟩ := Prod.mk.inj hx
    refine ⟨s, rfl, ?_⟩
    have := hw s.data.toList.length (by simp [DataW.weights])
    simpa [reachBytes] using this

/-- A struct's fields, from one on: their cells in line. -/
structure Fs {α : Type} (P : Program) (fs : List Field) (off : Nat) (k : Kd α) (good : α → Prop) : Prop where
  rd : ∀ {H : Type} (enc : TypeId × Value → H) (w : World) (fuel : Nat) (cs : List Value) (ds : List (DataW H × List MemPlace)),
    ds.length = fs.length → (∀ (i : Nat) f, fs[i]? = some f → DataW.trod enc P w 0 (fun _ => true) true fuel f.type ((cs.drop f.offset).take (P.cellsOf f.type)) = ds[i]?) →
    (∀ n ∈ DataW.weightsEach P (fs.map (·.type)) (ds.map (·.1)), n ≤ reachBytes) → cs.length = off + k.sz → ∃ x, k.K w x (cs.drop off) ∧ good x

theorem fs_last {α : Type} {P : Program} {f : Field} {k : Kd α} {good : α → Prop} (h : Rd P f.type k good) : Fs P [f] f.offset k good where
  rd := by
    intro H enc w fuel cs ds hl hd hw hc
    match ds, hl with
    | [y], _ =>
      have h0 := hd 0 f rfl
      simp only [List.getElem?_cons_zero] at h0
      obtain ⟨x, hk, hg⟩ := h.rd enc w fuel _ y.1 y.2 h0 (fun n hn => hw n (by simp [DataW.weightsEach]; exact hn))
      rw [h.sz, List.take_of_length_le (by rw [List.length_drop]; omega)] at hk
      exact ⟨x, hk, hg⟩

theorem fs_cons {α β : Type} {P : Program} {f : Field} {fs : List Field} {off : Nat} {k : Kd α} {k' : Kd β} {good : α → Prop} {good' : β → Prop} (h : Rd P f.type k good) (hs : Fs P fs off k' good')
    (ho : f.offset + k.sz = off) : Fs P (f :: fs) f.offset (Kd.pair k k') (fun x => good x.1 ∧ good' x.2) where
  rd := by
    intro H enc w fuel cs ds hl hd hw hc
    match ds, hl with
    | y :: ys, hl =>
      have hsz : (Kd.pair k k').sz = k.sz + k'.sz := rfl
      rw [hsz] at hc
      have h0 := hd 0 f rfl
      simp only [List.getElem?_cons_zero] at h0
      obtain ⟨x, hk, hg⟩ := h.rd enc w fuel _ y.1 y.2 h0 (fun n hn => hw n (by simp only [List.map_cons, DataW.weightsEach, List.mem_append]; exact .inl hn))
      obtain ⟨x', hk', hg'⟩ := hs.rd enc w fuel cs ys (by simpa using hl) (fun i g hi => by simpa using hd (i + 1) g (by simpa using hi))
        (fun n hn => hw n (by simp only [List.map_cons, DataW.weightsEach, List.mem_append]; exact .inr hn)) (by omega)
      rw [h.sz] at hk
      refine ⟨(x, x'), ⟨_, _, ?_, hk, hk'⟩, hg, hg'⟩
      rw [← ho, ← List.drop_drop, List.take_append_drop]

theorem rd_struct {α β : Type} {P : Program} {t : TypeId} {fs : Array Field} {k : Kd β} {good : β → Prop} {fw : α → β} {back : β → α} (hu : P.underlying t = some (.struct fs)) (h : Fs P fs.toList 0 k good)
    (hc : P.cellsOf t = k.sz) (hb : ∀ y, fw (back y) = y) : Rd P t (Kd.iso k fw) (fun x => good (fw x)) where
  sz := hc
  rd := by
    intro H enc w fuel cs d ps hr hw
    obtain ⟨xs, n, _, hx, hl, hlen, hf⟩ := DataW.trod_struct hu hr
    obtain ⟨rfl, rfl⟩ := Prod.mk.inj hx
    obtain ⟨x, hk, hg⟩ := h.rd enc w n cs xs (by simpa using hlen) (fun i f hi => by simpa using hf i f (by simpa using hi))
      (fun m hm => hw m (by simp only [DataW.weights, hu]; exact hm)) (by rw [hl, hc]; omega)
    refine ⟨back x, ?_, ?_⟩
    · show k.K w (fw (back x)) cs
      rw [hb]
      simpa using hk
    · show good (fw (back x))
      rw [hb]; exact hg

theorem list_of {α : Type} {p : Nat → α → Prop} : ∀ n, (∀ i, i < n → ∃ x, p i x) → ∃ xs : List α, xs.length = n ∧ ∀ i x, xs[i]? = some x → p i x
  | 0, _ => ⟨[], rfl, fun i x h => by simp at h⟩
  | n + 1, h => by
    obtain ⟨xs, hl, hx⟩ := list_of n (fun i hi => h i (by omega))
    obtain ⟨y, hy⟩ := h n (by omega)
    refine ⟨xs ++ [y], by simp [hl], fun i x hi => ?_⟩
    by_cases hin : i < xs.length
    · rw [List.getElem?_append_left hin] at hi
      exact hx i x hi
    · rw [List.getElem?_append_right (by omega)] at hi
      have : i = xs.length := by
        by_cases e : i - xs.length = 0
        · omega
        · rw [List.getElem?_eq_none (by simp; omega)] at hi
          exact absurd hi (by simp)
      subst this
      simp at hi
      rw [hl, ← hi]
      exact hy

theorem weights_all {H : Type} {P : Program} {e : TypeId} : ∀ {l : List (DataW H)} {d : DataW H}, d ∈ l → ∀ n ∈ d.weights P e, n ∈ DataW.weightsAll P e l
  | [], _, h, _, _ => by simp at h
  | x :: l, d, h, n, hn => by
    simp only [DataW.weightsAll, List.mem_append]
    rcases List.mem_cons.1 h with rfl | h
    · exact .inl hn
    · exact .inr (weights_all h n hn)

theorem rd_slice {α : Type} {P : Program} {t e : TypeId} {k : Kd α} {good : α → Prop} (B : Nat) (hu : P.underlying t = some (.slice e)) (hc : P.cellsOf t = 1) (hB : P.bytesOf e = B) (h : Rd P e k good) :
    Rd P t (Kd.slice e k) (fun xs => (∀ x ∈ xs, good x) ∧ xs.length * B ≤ 140737488351232) where
  sz := hc
  rd := by
    intro H enc w fuel cs d ps hr hw
    rcases DataW.trod_slice hu hr with ⟨rfl, hx⟩ | ⟨a, len, cap, elems, rest, n, _, rfl, hx, _, hl, hm, hlen, hel, _, _⟩
    · exact ⟨[], ⟨none, 0, rfl, Nat.le_refl 0, Kd.C_nil k w⟩, by simp, by simp⟩
    · obtain ⟨rfl, rfl⟩ := Prod.mk.inj hx
      have hw1 : ∀ x ∈ elems, ∀ n ∈ x.1.weights P e, n ≤ reachBytes := fun x hx n hn =>
        hw n (by simp only [DataW.weights, hu, List.mem_cons, List.mem_append]; exact .inr (.inl (weights_all (List.mem_map_of_mem hx) n hn)))
      have hw2 : (elems.length + rest.length) * P.bytesOf e ≤ reachBytes := hw _ (by simp only [DataW.weights, hu, List.mem_cons, List.length_map]; simp)
      have key : ∀ i, i < len → ∃ x, good x ∧ ∃ c, c.length = k.sz ∧ k.K w x c ∧ ∀ j u, c[j]? = some u → w.cell? (a.add (i * k.sz + j)) = some u := by
        intro i hi
        have h1 := hel i hi
        rw [List.getElem?_eq_getElem (by omega)] at h1
        obtain ⟨c, hcs, htr⟩ := Option.bind_eq_some_iff.1 h1
        obtain ⟨x, hk, hg⟩ := h.rd enc w n c _ _ htr (hw1 _ (List.getElem_mem _))
        obtain ⟨_, hcl, hcell⟩ := World.cells?_some hcs
        rw [h.sz] at hcl hcell
        refine ⟨x, hg, c, hcl, hk, fun j u hu => ?_⟩
        have hj : j < k.sz := by
          rw [← hcl]
          exact (List.getElem?_eq_some_iff.1 hu).1
        rw [← Go.Deep.add_add, hcell j hj, hu]
      obtain ⟨xs, hxl, hxs⟩ := list_of (α := α) len key
      subst hxl
      refine ⟨xs, ⟨some a, cap, rfl, hl, rfl, by unfold maxLen at hm; omega, fun _ => ⟨a, rfl, fun j p hp => ?_⟩⟩, fun x hx => ?_, ?_⟩
      · obtain ⟨_, c, h1, h2, h3⟩ := hxs j p hp
        exact ⟨c, h1, h2, h3⟩
      · obtain ⟨i, hi, rfl⟩ := List.mem_iff_getElem.1 hx
        exact (hxs i _ (List.getElem?_eq_getElem hi)).1
      · have : xs.length * P.bytesOf e ≤ (elems.length + rest.length) * P.bytesOf e := Nat.mul_le_mul_right _ (by omega)
        unfold reachBytes at hw2
        rw [hB] at hw2 this
        omega
end Go.Proofs.Ytigmekgknhoidaa.Open

/- Readers of the types that this seat's laws take. -/
namespace Go.Proofs.Ytigmekgknhoidaa.P
open Go.RowKit Go.Proofs.YtigmekgknhoidaaW.PrintWords Go.Proofs.YtigmekgknhoidaaW.PrintLast Go.Proofs.Ytigmekgknhoidaa.Open
set_option linter.unusedVariables false
def good25 (x : S25) : Prop := (Lit.int .i64 x.f0).wf = true ∧ (Lit.int .i64 x.f1).wf = true ∧ x.f2.size ≤ 140737488351232 ∧ x.f3.size ≤ 140737488351232 ∧ (Lit.int .i64 x.f4).wf = true ∧ True
theorem rd25 : Rd Try.prog 25 k25 good25 := rd_struct (back := fun y => ⟨y.1, y.2.1, y.2.2.1, y.2.2.2.1, y.2.2.2.2.1, y.2.2.2.2.2⟩) Try.underlying25 (fs_cons (rd_int Try.underlying3 (by kernel_rfl)) (fs_cons (rd_int Try.underlying3 (by kernel_rfl)) (fs_cons (rd_string Try.underlying9 (by kernel_rfl)) (fs_cons (rd_string Try.underlying9 (by kernel_rfl)) (fs_cons (rd_int Try.underlying3 (by kernel_rfl)) (fs_last (rd_bool Try.underlying4 (by kernel_rfl))) rfl) rfl) rfl) rfl) rfl) (by kernel_rfl) (fun _ => rfl)
def good29 (x : S29) : Prop := (Lit.int .i64 x.f0).wf = true ∧ ((∀ z ∈ x.f1, good25 z) ∧ x.f1.length * 64 ≤ 140737488351232)
theorem rd29 : Rd Try.prog 29 k29 good29 := rd_struct (back := fun y => ⟨y.1, y.2⟩) Try.underlying29 (fs_cons (rd_int Try.underlying3 (by kernel_rfl)) (fs_last (rd_slice 64 Try.underlying27 (by kernel_rfl) (by kernel_rfl) rd25)) rfl) (by kernel_rfl) (fun _ => rfl)
def good35 (x : S35) : Prop := (Lit.int .i64 x.f0).wf = true ∧ (Lit.int .i64 x.f1).wf = true ∧ (Lit.int .i64 x.f2).wf = true ∧ True ∧ (Lit.int .i64 x.f4).wf = true
theorem rd35 : Rd Try.prog 35 k35 good35 := rd_struct (back := fun y => ⟨y.1, y.2.1, y.2.2.1, y.2.2.2.1, y.2.2.2.2⟩) Try.underlying35 (fs_cons (rd_int Try.underlying3 (by kernel_rfl)) (fs_cons (rd_int Try.underlying3 (by kernel_rfl)) (fs_cons (rd_int Try.underlying3 (by kernel_rfl)) (fs_cons (rd_bool Try.underlying4 (by kernel_rfl)) (fs_last (rd_int Try.underlying3 (by kernel_rfl))) rfl) rfl) rfl) rfl) (by kernel_rfl) (fun _ => rfl)
def good41 (x : S41) : Prop := ((∀ z ∈ x.f0, good29 z) ∧ x.f0.length * 32 ≤ 140737488351232) ∧ good35 x.f1 ∧ (Lit.int .i64 x.f2).wf = true
theorem rd41 : Rd Try.prog 41 k41 good41 := rd_struct (back := fun y => ⟨y.1, y.2.1, y.2.2⟩) Try.underlying41 (fs_cons (rd_slice 32 Try.underlying23 (by kernel_rfl) (by kernel_rfl) rd29) (fs_cons rd35 (fs_last (rd_int Try.underlying3 (by kernel_rfl))) rfl) rfl) (by kernel_rfl) (fun _ => rfl)
structure S56 where
  f0 : List (Int)
  f1 : List (Int)
def k56 : Kd S56 := Kd.iso (Kd.pair (Kd.slice 3 (Kd.int .i64)) (Kd.slice 3 (Kd.int .i64))) (fun x : S56 => (x.f0, x.f1))
def good56 (x : S56) : Prop := ((∀ z ∈ x.f0, (Lit.int .i64 z).wf = true) ∧ x.f0.length * 8 ≤ 140737488351232) ∧ ((∀ z ∈ x.f1, (Lit.int .i64 z).wf = true) ∧ x.f1.length * 8 ≤ 140737488351232)
theorem rd56 : Rd Try.prog 56 k56 good56 := rd_struct (back := fun y => ⟨y.1, y.2⟩) Try.underlying56 (fs_cons (rd_slice 8 Try.underlying54 (by kernel_rfl) (by kernel_rfl) (rd_int Try.underlying3 (by kernel_rfl))) (fs_last (rd_slice 8 Try.underlying54 (by kernel_rfl) (by kernel_rfl) (rd_int Try.underlying3 (by kernel_rfl)))) rfl) (by kernel_rfl) (fun _ => rfl)
end Go.Proofs.Ytigmekgknhoidaa.P

/- The pure law InboxExact: whatever begins and ends, each call tells what the page says, or is refused. -/
namespace Go.Proofs.Ytigmekgknhoidaa.Pure
set_option linter.unusedVariables false
set_option linter.unusedSimpArgs false
open Go Go.RowKit Go.Proofs.Ytigmekgknhoidaa.P Go.Proofs.YtigmekgknhoidaaW.PrintWords Go.Proofs.YtigmekgknhoidaaW.PrintLast
theorem wakes_ev : Ev (fun k => fairwaylaw19_wakes.f k) true := Ev.of (fairwaylaw19_wakes.mono) (k := 30) (by decide +kernel)
theorem wrap_in {x : Int} (h0 : -9223372036854775808 ≤ x) (h1 : x ≤ 9223372036854775807) : wrap64 x = x := by
  unfold wrap64; omega
theorem wrap_succ (i : Nat) (h : i ≤ 1000000) : wrap64 ((i : Int) + 1) = ((i + 1 : Nat) : Int) := by rw [wrap_in (by omega) (by omega)]; rfl
theorem rd_get (l : List Int) (i : Nat) (h : i < l.length) : rd l (i : Int) = l[i] := by
  simp [rd, List.getD_eq_getElem?_getD, List.getElem?_eq_getElem h]

/-! ### lists that are copied and compared -/
theorem copy_loop (l : List Int) (hl : l.length ≤ 100000) : ∀ (d i : Nat), l.length = i + d → Ev (fun k => fairwayref0_CopyNumbers.l0 k l (l.take i) i) l
  | 0, i, h => by
    have e : ¬ (i : Int) < (l.length : Int) := by omega
    refine Ev.step (f := fun _ => some l) (fun k => ?_) (Ev.now _)
    rw [fairwayref0_CopyNumbers.l0, if_neg e, List.take_of_length_le (by omega)]
  | d + 1, i, h => by
    have ih := copy_loop l hl d (i + 1) (by omega)
    have e : (i : Int) < (l.length : Int) := by omega
    have e2 : (l.take i).length < 17592186044416 := by rw [List.length_take]; omega
    refine Ev.step (fun k => ?_) ih
    rw [fairwayref0_CopyNumbers.l0, if_pos e, if_pos (Int.natCast_nonneg i), if_pos e2, wrap_succ i (by omega), rd_get l i (by omega), List.take_append_getElem (by omega)]
theorem copy_ev (l : List Int) (hl : l.length ≤ 100000) : Ev (fun k => fairwayref0_CopyNumbers.f k l) l := copy_loop l hl l.length 0 (by omega)
theorem eq_loop (l : List Int) (hl : l.length ≤ 100000) : ∀ (d i : Nat), l.length = i + d → Ev (fun k => fairwayref0_EqNumbers.l0 k l l i) true
  | 0, i, h => by
    have e : ¬ (i : Int) < (l.length : Int) := by omega
    exact Ev.step (f := fun _ => some true) (fun k => by rw [fairwayref0_EqNumbers.l0, if_neg e]) (Ev.now _)
  | d + 1, i, h => by
    have ih := eq_loop l hl d (i + 1) (by omega)
    have e : (i : Int) < (l.length : Int) := by omega
    exact Ev.step (fun k => by rw [fairwayref0_EqNumbers.l0, if_pos e, if_pos (Int.natCast_nonneg i), if_pos e, if_pos rfl, wrap_succ i (by omega)]) ih
theorem eq_ev (l : List Int) (hl : l.length ≤ 100000) : Ev (fun k => fairwayref0_EqNumbers.f k l l) true :=
  Ev.congr (fun k => if_pos rfl) (eq_loop l hl l.length 0 (by omega))
theorem over_loop : ∀ (d i : Nat) (l : List Int), l.length ≤ 100000 → l.length = i + d → Ev (fun k => fairwaylaw0_Numbers.l0 k l i) ()
  | 0, i, l, hl, h => by
    have e : ¬ (i : Int) < (l.length : Int) := by omega
    have e2 : l.length < 17592186044416 := by omega
    exact Ev.step (f := fun _ => some ()) (fun k => by rw [fairwaylaw0_Numbers.l0, if_neg e, if_pos e2]) (Ev.now _)
  | d + 1, i, l, hl, h => by
    have ih := over_loop d (i + 1) (l.set i (-99)) (by rw [List.length_set]; exact hl) (by rw [List.length_set]; omega)
    have e : (i : Int) < (l.length : Int) := by omega
    exact Ev.step (fun k => by rw [fairwaylaw0_Numbers.l0, if_pos e, if_pos (Int.natCast_nonneg i), wrap_succ i (by omega), Int.toNat_natCast]) ih
theorem over_ev (l : List Int) (hl : l.length ≤ 100000) : Ev (fun k => fairwaylaw0_Numbers.f k l) () := over_loop l.length 0 l hl (by omega)

/-! ### what may be -/
def idOk (x : Int) : Prop := 1 ≤ x ∧ x ≤ 65535
theorem id_ev (x : Int) : ∃ b, fairwayref17_ID.f x = some b ∧ (b = true ↔ idOk x) := by
  unfold fairwayref17_ID.f idOk
  by_cases h : x ≥ 1
  · exact ⟨decide (x ≤ 65535), by rw [if_pos h], by rw [decide_eq_true_iff]; omega⟩
  · exact ⟨false, by rw [if_neg h], by constructor <;> intro g <;> first | (cases g; done) | (exact absurd g.1 (by omega))⟩
theorem may_ev (x : Int) : ∃ b, inbox_may.f x = some b ∧ (b = true ↔ idOk x) := by
  unfold inbox_may.f idOk
  by_cases h : x > 0
  · exact ⟨decide (x < 65536), by rw [if_pos h], by rw [decide_eq_true_iff]; omega⟩
  · exact ⟨false, by rw [if_neg h], by constructor <;> intro g <;> first | (cases g; done) | (exact absurd g.1 (by omega))⟩
def okAt (l : List Int) (i : Nat) : Prop := idOk (rd l (i : Int)) ∧ (0 < i → rd l ((i - 1 : Nat) : Int) < rd l (i : Int))
def ok (l : List Int) : Prop := l.length ≤ 16 ∧ ∀ i, i < l.length → okAt l i
theorem pred_in (i : Nat) (h : 0 < i) (h2 : i ≤ 100000) : wrap64 ((i : Int) - 1) = ((i - 1 : Nat) : Int) := by rw [wrap_in (by omega) (by omega)]; omega
theorem inbox_loop (l : List Int) (hl : l.length ≤ 100000) : ∀ (d i : Nat), l.length = i + d → ∃ b, Ev (fun k => fairwayref17_Inbox.l0 k l i) b ∧ (b = true ↔ (l.length ≤ 16 ∧ ∀ j, i ≤ j → j < l.length → okAt l j))
  | 0, i, h => by
    have e : ¬ (i : Int) < (l.length : Int) := by omega
    refine ⟨decide ((l.length : Int) ≤ 16), Ev.step (f := fun _ => some _) (fun k => by rw [fairwayref17_Inbox.l0, if_neg e]) (Ev.now _), ?_⟩
    rw [decide_eq_true_iff]
    exact ⟨fun g => ⟨by omega, fun j h1 h2 => absurd h2 (by omega)⟩, fun g => by have := g.1; omega⟩
  | d + 1, i, h => by
    obtain ⟨b, h1, h2⟩ := inbox_loop l hl d (i + 1) (by omega)
    have e : (i : Int) < (l.length : Int) := by omega
    obtain ⟨c, c1, c2⟩ := id_ev (rd l (i : Int))
    have more : okAt l i → (b = true ↔ (l.length ≤ 16 ∧ ∀ j, i ≤ j → j < l.length → okAt l j)) := fun g => h2.trans ⟨fun q => ⟨q.1, fun j h3 h4 => by
      rcases Nat.eq_or_lt_of_le h3 with rfl | h5
      · exact g
      · exact q.2 j h5 h4⟩, fun q => ⟨q.1, fun j h3 h4 => q.2 j (by omega) h4⟩⟩
    have none_ : ¬ okAt l i → ((false = true) ↔ (l.length ≤ 16 ∧ ∀ j, i ≤ j → j < l.length → okAt l j)) := fun g => ⟨fun q => (by cases q), fun q => absurd (q.2 i (Nat.le_refl _) (by omega)) g⟩
    cases c with
    | false =>
      have hno : ¬ okAt l i := fun g => by have := c2.2 g.1; cases this
      exact ⟨false, Ev.step (f := fun _ => some false) (fun k => by rw [fairwayref17_Inbox.l0, if_pos e, if_pos (Int.natCast_nonneg i), c1, Option.bind_some, if_neg Bool.false_ne_true]) (Ev.now _), none_ hno⟩
    | true =>
      have hid := c2.1 rfl
      by_cases hi : 0 < i
      · have e1 : (i : Int) > 0 := by omega
        have e2 := pred_in i hi (by omega)
        have e3 : ((i - 1 : Nat) : Int) < (l.length : Int) := by omega
        by_cases hlt : rd l ((i - 1 : Nat) : Int) < rd l (i : Int)
        · have e4 : ¬ rd l ((i - 1 : Nat) : Int) ≥ rd l (i : Int) := by omega
          exact ⟨b, Ev.step (fun k => by rw [fairwayref17_Inbox.l0, if_pos e, if_pos (Int.natCast_nonneg i), c1, Option.bind_some, if_pos rfl, if_pos e1, e2, if_pos (Int.natCast_nonneg _), if_pos e3, if_neg e4, wrap_succ i (by omega)]) h1, more ⟨hid, fun _ => hlt⟩⟩
        · have e4 : rd l ((i - 1 : Nat) : Int) ≥ rd l (i : Int) := by omega
          exact ⟨false, Ev.step (f := fun _ => some false) (fun k => by rw [fairwayref17_Inbox.l0, if_pos e, if_pos (Int.natCast_nonneg i), c1, Option.bind_some, if_pos rfl, if_pos e1, e2, if_pos (Int.natCast_nonneg _), if_pos e3, if_pos e4]) (Ev.now _), none_ (fun g => hlt (g.2 hi))⟩
      · have e1 : ¬ (i : Int) > 0 := by omega
        exact ⟨b, Ev.step (fun k => by rw [fairwayref17_Inbox.l0, if_pos e, if_pos (Int.natCast_nonneg i), c1, Option.bind_some, if_pos rfl, if_neg e1, wrap_succ i (by omega)]) h1, more ⟨hid, fun q => absurd q hi⟩⟩
theorem inbox_ev (l : List Int) (hl : l.length ≤ 100000) : ∃ b, Ev (fun k => fairwayref17_Inbox.f k l) b ∧ (b = true ↔ ok l) := by
  obtain ⟨b, h1, h2⟩ := inbox_loop l hl l.length 0 (by omega)
  exact ⟨b, h1, h2.trans ⟨fun q => ⟨q.1, fun i hi => q.2 i (Nat.zero_le _) hi⟩, fun q => ⟨q.1, fun i _ hi => q.2 i hi⟩⟩⟩
theorem check_loop (l : List Int) (hl : l.length ≤ 100000) : ∀ (d i : Nat), l.length = i + d → ∃ c : Int, Ev (fun k => inbox_Check.l0 k l l (l.length : Int) i) c ∧ ((c = 0 ∧ ∀ j, i ≤ j → j < l.length → okAt l j) ∨ (c = 1 ∧ ¬ ∀ j, i ≤ j → j < l.length → okAt l j))
  | 0, i, h => by
    have e : ¬ (i : Int) < (l.length : Int) := by omega
    exact ⟨0, Ev.step (f := fun _ => some _) (fun k => by rw [inbox_Check.l0, if_neg e]) (Ev.now _), .inl ⟨rfl, fun j h1 h2 => absurd h2 (by omega)⟩⟩
  | d + 1, i, h => by
    obtain ⟨c, h1, h2⟩ := check_loop l hl d (i + 1) (by omega)
    have e : (i : Int) < (l.length : Int) := by omega
    obtain ⟨m, c1, c2⟩ := may_ev (rd l (i : Int))
    have more : okAt l i → ((c = 0 ∧ ∀ j, i ≤ j → j < l.length → okAt l j) ∨ (c = 1 ∧ ¬ ∀ j, i ≤ j → j < l.length → okAt l j)) := fun g => by
      rcases h2 with ⟨p1, p2⟩ | ⟨p1, p2⟩
      · refine .inl ⟨p1, fun j h3 h4 => ?_⟩
        rcases Nat.eq_or_lt_of_le h3 with rfl | h5
        · exact g
        · exact p2 j h5 h4
      · exact .inr ⟨p1, fun q => p2 (fun j h3 h4 => q j (by omega) h4)⟩
    have none_ : ¬ okAt l i → (((1 : Int) = 0 ∧ ∀ j, i ≤ j → j < l.length → okAt l j) ∨ ((1 : Int) = 1 ∧ ¬ ∀ j, i ≤ j → j < l.length → okAt l j)) := fun g => .inr ⟨rfl, fun q => g (q i (Nat.le_refl _) (by omega))⟩
    cases m with
    | false =>
      have hno : ¬ okAt l i := fun g => by have := c2.2 g.1; cases this
      exact ⟨1, Ev.step (f := fun _ => some 1) (fun k => by rw [inbox_Check.l0, if_pos e, if_pos (Int.natCast_nonneg i), if_pos e, c1, Option.bind_some, if_neg Bool.false_ne_true]) (Ev.now _), none_ hno⟩
    | true =>
      have hid := c2.1 rfl
      by_cases hi : 0 < i
      · have e1 : (i : Int) > 0 := by omega
        have e2 := pred_in i hi (by omega)
        have e3 : ((i - 1 : Nat) : Int) < (l.length : Int) := by omega
        by_cases hlt : rd l ((i - 1 : Nat) : Int) < rd l (i : Int)
        · have e4 : ¬ rd l ((i - 1 : Nat) : Int) ≥ rd l (i : Int) := by omega
          exact ⟨c, Ev.step (fun k => by rw [inbox_Check.l0, if_pos e, if_pos (Int.natCast_nonneg i), if_pos e, c1, Option.bind_some, if_pos rfl, if_pos e1, e2, if_pos (Int.natCast_nonneg _), if_pos e3, if_neg e4, wrap_succ i (by omega)]) h1, more ⟨hid, fun _ => hlt⟩⟩
        · have e4 : rd l ((i - 1 : Nat) : Int) ≥ rd l (i : Int) := by omega
          exact ⟨1, Ev.step (f := fun _ => some 1) (fun k => by rw [inbox_Check.l0, if_pos e, if_pos (Int.natCast_nonneg i), if_pos e, c1, Option.bind_some, if_pos rfl, if_pos e1, e2, if_pos (Int.natCast_nonneg _), if_pos e3, if_pos e4]) (Ev.now _), none_ (fun g => hlt (g.2 hi))⟩
      · have e1 : ¬ (i : Int) > 0 := by omega
        exact ⟨c, Ev.step (fun k => by rw [inbox_Check.l0, if_pos e, if_pos (Int.natCast_nonneg i), if_pos e, c1, Option.bind_some, if_pos rfl, if_neg e1, wrap_succ i (by omega)]) h1, more ⟨hid, fun q => absurd q hi⟩⟩
theorem check_ev (l : List Int) (hl : l.length ≤ 100000) : ∃ c : Int, Ev (fun k => inbox_Check.f k l) c ∧ ((c = 0 ∧ ok l) ∨ (c = 1 ∧ ¬ ok l)) := by
  by_cases h : (l.length : Int) > 16
  · refine ⟨1, ?_, .inr ⟨rfl, fun q => by have := q.1; omega⟩⟩
    unfold inbox_Check.f
    exact Ev.congr (fun k => if_pos h) (Ev.now _)
  · obtain ⟨c, h1, h2⟩ := check_loop l hl l.length 0 (by omega)
    refine ⟨c, ?_, ?_⟩
    · unfold inbox_Check.f
      exact Ev.congr (fun k => if_neg h) h1
    · rcases h2 with ⟨p1, p2⟩ | ⟨p1, p2⟩
      · exact .inl ⟨p1, by omega, fun i hi => p2 i (Nat.zero_le _) hi⟩
      · exact .inr ⟨p1, fun q => p2 (fun i _ hi => q.2 i hi)⟩

/-! ### the place of an identifier -/
/-- How many of them are less: those ahead of n are, those from n on aren't. -/
def place (l : List Int) (x : Int) (n : Nat) : Prop := n ≤ l.length ∧ (∀ i, i < n → rd l (i : Int) < x) ∧ ∀ i, n ≤ i → i < l.length → x ≤ rd l (i : Int)
theorem first (p : Nat → Prop) : ∀ m, (∃ n, n < m ∧ p n ∧ ∀ i, i < n → ¬ p i) ∨ ∀ i, i < m → ¬ p i
  | 0 => .inr (fun i hi => absurd hi (Nat.not_lt_zero _))
  | m + 1 => by
    rcases first p m with ⟨n, h1, h2, h3⟩ | h
    · exact .inl ⟨n, by omega, h2, h3⟩
    · by_cases hp : p m
      · exact .inl ⟨m, by omega, hp, h⟩
      · refine .inr (fun i hi => ?_)
        rcases Nat.lt_succ_iff_lt_or_eq.1 hi with h1 | rfl
        · exact h i h1
        · exact hp
theorem rise (l : List Int) (h : ok l) (n : Nat) : ∀ d, n + d < l.length → rd l (n : Int) ≤ rd l ((n + d : Nat) : Int)
  | 0, _ => Int.le_refl _
  | d + 1, hd => by
    have ih := rise l h n d (by omega)
    have := (h.2 (n + (d + 1)) hd).2 (by omega)
    rw [show n + (d + 1) - 1 = n + d by omega] at this
    omega
theorem rises (l : List Int) (h : ok l) (n : Nat) : ∀ d, n + (d + 1) < l.length → rd l (n : Int) < rd l ((n + (d + 1) : Nat) : Int) := fun d hd => by
  have h1 := rise l h n d (by omega)
  have := (h.2 (n + (d + 1)) hd).2 (by omega)
  rw [show n + (d + 1) - 1 = n + d by omega] at this
  omega
theorem place_of (l : List Int) (h : ok l) (x : Int) : ∃ n, place l x n := by
  rcases first (fun i => x ≤ rd l (i : Int)) l.length with ⟨n, h1, h2, h3⟩ | h3
  · refine ⟨n, Nat.le_of_lt h1, fun i hi => by have := h3 i hi; omega, fun i h4 h5 => ?_⟩
    have := rise l h n (i - n) (by omega)
    rw [show n + (i - n) = i by omega] at this
    omega
  · exact ⟨l.length, Nat.le_refl _, fun i hi => by have := h3 i hi; omega, fun i h4 h5 => absurd h5 (by omega)⟩
theorem less_ev (a b : Int) : cmp_Less_int.f a b = some (decide (a < b)) := by
  have e : cmp_isNaN_int.f a = some false := by unfold cmp_isNaN_int.f; simp
  unfold cmp_Less_int.f
  rw [e, Option.bind_some, if_neg Bool.false_ne_true]
theorem nan_ev (a : Int) : slices_isNaN_int.f a = some false := by unfold slices_isNaN_int.f; simp
theorem half_in (i j : Nat) (hi : i ≤ 1000) (hj : j ≤ 1000) : wrap64 ((IntKind.u64.wrap (wrap64 ((i : Int) + (j : Int)))) / 2) = (((i + j) / 2 : Nat) : Int) := by
  have e : wrap64 ((i : Int) + (j : Int)) = ((i + j : Nat) : Int) := by rw [wrap_in (by omega) (by omega)]; omega
  have e2 : IntKind.u64.wrap (((i + j : Nat) : Int)) = ((i + j : Nat) : Int) := by
    simp [IntKind.wrap, IntKind.bits, IntKind.signed]; omega
  rw [e, e2, wrap_in (by omega) (by omega)]
  omega
theorem search_loop (l : List Int) (hl : l.length ≤ 1000) (x : Int) (n : Nat) (hp : place l x n) : ∀ (d i j : Nat), j ≤ i + d → i ≤ n → n ≤ j → j ≤ l.length →
    Ev (fun k => slices_BinarySearch_int_int.l0 k l x (l.length : Int) i j) ((n : Int), decide (n < l.length ∧ rd l (n : Int) = x))
  | d, i, j, hd, h1, h2, h3 => by
    by_cases hij : i < j
    · have e1 : (i : Int) < (j : Int) := by omega
      have hm := half_in i j (by omega) (by omega)
      have e2 : (((i + j) / 2 : Nat) : Int) < (l.length : Int) := by omega
      cases d with
      | zero => omega
      | succ d =>
        by_cases hlt : rd l (((i + j) / 2 : Nat) : Int) < x
        · have hn : (i + j) / 2 < n := by
            rcases Nat.lt_or_ge ((i + j) / 2) n with g | g
            · exact g
            · have := hp.2.2 _ g (by omega); omega
          have ih := search_loop l hl x n hp d ((i + j) / 2 + 1) j (by omega) (by omega) h2 h3
          refine Ev.step (fun k => ?_) ih
          rw [slices_BinarySearch_int_int.l0, if_pos e1, hm, if_pos (Int.natCast_nonneg _), if_pos e2, less_ev, Option.bind_some, decide_eq_true hlt, if_pos rfl, wrap_succ _ (by omega)]
        · have hn : n ≤ (i + j) / 2 := by
            rcases Nat.lt_or_ge ((i + j) / 2) n with g | g
            · exact absurd (hp.2.1 _ g) hlt
            · exact g
          have ih := search_loop l hl x n hp d i ((i + j) / 2) (by omega) h1 hn (by omega)
          refine Ev.step (fun k => ?_) ih
          rw [slices_BinarySearch_int_int.l0, if_pos e1, hm, if_pos (Int.natCast_nonneg _), if_pos e2, less_ev, Option.bind_some, decide_eq_false hlt, if_neg Bool.false_ne_true]
    · obtain rfl : i = n := by omega
      have e1 : ¬ (i : Int) < (j : Int) := by omega
      by_cases hin : i < l.length
      · have e2 : (i : Int) < (l.length : Int) := by omega
        by_cases he : rd l (i : Int) = x
        · refine Ev.step (f := fun _ => some _) (fun k => ?_) (Ev.now _)
          rw [slices_BinarySearch_int_int.l0, if_neg e1, if_pos e2, if_pos (Int.natCast_nonneg _), if_pos e2, if_pos he, decide_eq_true ⟨hin, he⟩]
        · refine Ev.step (f := fun _ => some _) (fun k => ?_) (Ev.now _)
          rw [slices_BinarySearch_int_int.l0, if_neg e1, if_pos e2, if_pos (Int.natCast_nonneg _), if_pos e2, if_neg he, nan_ev, Option.bind_some, if_neg Bool.false_ne_true, decide_eq_false (fun g => he g.2)]
      · have e2 : ¬ (i : Int) < (l.length : Int) := by omega
        refine Ev.step (f := fun _ => some _) (fun k => ?_) (Ev.now _)
        rw [slices_BinarySearch_int_int.l0, if_neg e1, if_neg e2, decide_eq_false (fun g => hin g.1)]
theorem search_ev (l : List Int) (h : ok l) (x : Int) (n : Nat) (hp : place l x n) : Ev (fun k => slices_BinarySearch_int_int.f k l x) ((n : Int), decide (n < l.length ∧ rd l (n : Int) = x)) := by
  have := search_loop l (by have := h.1; omega) x n hp l.length 0 l.length (by omega) (Nat.zero_le _) hp.1 (Nat.le_refl _)
  exact this
/-- The page's search: the first one that is it. -/
theorem in_loop (l : List Int) (hl : l.length ≤ 1000) (x : Int) : ∀ (d i m : Nat), l.length = i + d → i ≤ m → (∀ j, i ≤ j → j < m → j < l.length → rd l (j : Int) ≠ x) → (m < l.length → rd l (m : Int) = x) →
    Ev (fun k => fairwayref0_In.l0 k l x i) (if m < l.length then (m : Int) else -1)
  | 0, i, m, h, h1, h2, h3 => by
    have e : ¬ (i : Int) < (l.length : Int) := by omega
    rw [if_neg (show ¬ m < l.length by omega)]
    exact Ev.step (f := fun _ => some (-1)) (fun k => by rw [fairwayref0_In.l0, if_neg e]) (Ev.now _)
  | d + 1, i, m, h, h1, h2, h3 => by
    have e : (i : Int) < (l.length : Int) := by omega
    by_cases hm : i = m
    · subst hm
      rw [if_pos (show i < l.length by omega)]
      exact Ev.step (f := fun _ => some (i : Int)) (fun k => by rw [fairwayref0_In.l0, if_pos e, if_pos (Int.natCast_nonneg _), if_pos (h3 (by omega))]) (Ev.now _)
    · have ih := in_loop l hl x d (i + 1) m (by omega) (by omega) (fun j q1 q2 q3 => h2 j (by omega) q2 q3) h3
      exact Ev.step (fun k => by rw [fairwayref0_In.l0, if_pos e, if_pos (Int.natCast_nonneg _), if_neg (h2 i (Nat.le_refl _) (by omega) (by omega)), wrap_succ i (by omega)]) ih
theorem in_yes (l : List Int) (h : ok l) (x : Int) (n : Nat) (hp : place l x n) (h1 : n < l.length) (h2 : rd l (n : Int) = x) : Ev (fun k => fairwayref0_In.f k l x) (n : Int) := by
  have := in_loop l (by have := h.1; omega) x l.length 0 n (by omega) (Nat.zero_le _) (fun j _ hj _ => by have := hp.2.1 j hj; omega) (fun _ => h2)
  rw [if_pos h1] at this
  exact this
theorem in_no (l : List Int) (h : ok l) (x : Int) (n : Nat) (hp : place l x n) (h1 : ¬ (n < l.length ∧ rd l (n : Int) = x)) : Ev (fun k => fairwayref0_In.f k l x) (-1) := by
  have := in_loop l (by have := h.1; omega) x l.length 0 l.length (by omega) (Nat.zero_le _) (fun j _ hj _ => by
    rcases Nat.lt_or_ge j n with g | g
    · have := hp.2.1 j g; omega
    · intro he
      rcases Nat.eq_or_lt_of_le g with rfl | g2
      · exact h1 ⟨hj, he⟩
      · have h3 := hp.2.2 n (Nat.le_refl _) (by omega)
        have h4 := rises l h n (j - n - 1) (by omega)
        rw [show n + (j - n - 1 + 1) = j by omega] at h4
        omega) (fun g => absurd g (by omega))
  rw [if_neg (by omega)] at this
  exact this

/-! ### begin and end -/
theorem bool_of {b : Bool} {p : Prop} (h : b = true ↔ p) (hp : p) : b = true := h.2 hp
theorem bool_no {b : Bool} {p : Prop} (h : b = true ↔ p) (hp : ¬ p) : b = false := by
  cases b with
  | false => rfl
  | true => exact absurd (h.1 rfl) hp
theorem end_bad (l : List Int) (hl : l.length ≤ 1000) (x : Int) (h : ¬ (ok l ∧ idOk x)) : Ev (fun k => inbox_End.f k l x) (([] : List Int), 1) := by
  obtain ⟨c, c1, c2⟩ := check_ev l (by omega)
  have j0 : Ev (fun k => inbox_End.j0 k l x true) (([] : List Int), 1) := Ev.step (f := fun _ => some _) (fun k => by rw [inbox_End.j0, if_pos rfl]) (Ev.now _)
  unfold inbox_End.f
  refine Ev.bind c1 ?_
  rcases c2 with ⟨rfl, ho⟩ | ⟨rfl, ho⟩
  · obtain ⟨m, m1, m2⟩ := may_ev x
    have hm : m = false := bool_no m2 (fun q => h ⟨ho, q⟩)
    subst hm
    exact Ev.congr (fun k => by rw [if_pos rfl, m1, Option.bind_some]; rfl) j0
  · exact Ev.congr (fun k => if_neg (by decide)) j0
theorem begin_bad (l : List Int) (hl : l.length ≤ 1000) (x : Int) (h : ¬ (ok l ∧ idOk x)) : Ev (fun k => inbox_Begin.f k l x) (([] : List Int), false, 1) := by
  obtain ⟨c, c1, c2⟩ := check_ev l (by omega)
  have j0 : Ev (fun k => inbox_Begin.j0 k l x true) (([] : List Int), false, 1) := Ev.step (f := fun _ => some _) (fun k => by rw [inbox_Begin.j0, if_pos rfl]) (Ev.now _)
  unfold inbox_Begin.f
  refine Ev.bind c1 ?_
  rcases c2 with ⟨rfl, ho⟩ | ⟨rfl, ho⟩
  · obtain ⟨m, m1, m2⟩ := may_ev x
    have hm : m = false := bool_no m2 (fun q => h ⟨ho, q⟩)
    subst hm
    exact Ev.congr (fun k => by rw [if_pos rfl, m1, Option.bind_some]; rfl) j0
  · exact Ev.congr (fun k => if_neg (by decide)) j0
theorem clone_in (l : List Int) (h : ok l) : slices_Clone_int_int.f l = some l := by
  have := h.1
  unfold slices_Clone_int_int.f; rw [if_pos (by omega)]
theorem end_open (l : List Int) (h : ok l) (x : Int) (hx : idOk x) {r} (hr : Ev (fun k => inbox_End.j0 k l x false) r) : Ev (fun k => inbox_End.f k l x) r := by
  obtain ⟨c, c1, c2⟩ := check_ev l (by have := h.1; omega)
  obtain ⟨m, m1, m2⟩ := may_ev x
  obtain rfl := bool_of m2 hx
  unfold inbox_End.f
  refine Ev.bind c1 ?_
  rcases c2 with ⟨rfl, ho⟩ | ⟨rfl, ho⟩
  · exact Ev.congr (fun k => by rw [if_pos rfl, m1, Option.bind_some]; rfl) hr
  · exact absurd h ho
theorem begin_open (l : List Int) (h : ok l) (x : Int) (hx : idOk x) {r} (hr : Ev (fun k => inbox_Begin.j0 k l x false) r) : Ev (fun k => inbox_Begin.f k l x) r := by
  obtain ⟨c, c1, c2⟩ := check_ev l (by have := h.1; omega)
  obtain ⟨m, m1, m2⟩ := may_ev x
  obtain rfl := bool_of m2 hx
  unfold inbox_Begin.f
  refine Ev.bind c1 ?_
  rcases c2 with ⟨rfl, ho⟩ | ⟨rfl, ho⟩
  · exact Ev.congr (fun k => by rw [if_pos rfl, m1, Option.bind_some]; rfl) hr
  · exact absurd h ho
theorem end_both (l : List Int) (h : ok l) (x : Int) (hx : idOk x) : (∃ w, w.length ≤ 1000 ∧ Ev (fun k => fairwayref17_End.f k l x) (w, true) ∧ Ev (fun k => inbox_End.f k l x) (w, 0)) ∨ (Ev (fun k => fairwayref17_End.f k l x) (([] : List Int), false) ∧ Ev (fun k => inbox_End.f k l x) (([] : List Int), 3)) := by
  obtain ⟨n, hp⟩ := place_of l h x
  have hs := search_ev l h x n hp
  have h16 := h.1
  by_cases hf : n < l.length ∧ rd l (n : Int) = x
  · rw [decide_eq_true hf] at hs
    refine .inl ⟨l.take n ++ l.drop (n + 1), by rw [List.length_append, List.length_take, List.length_drop]; omega, ?_, ?_⟩
    · have e1 : ¬ (n : Int) < 0 := by omega
      have e2 : (n : Int) ≤ (l.length : Int) := by omega
      have e3 := wrap_succ n (by omega)
      have e4 : ((n + 1 : Nat) : Int) ≤ (l.length : Int) := by omega
      have e5 : (l.take n).length + (l.drop (n + 1)).length < 17592186044416 := by rw [List.length_take, List.length_drop]; omega
      unfold fairwayref17_End.f
      refine Ev.bind (in_yes l h x n hp hf.1 hf.2) ?_
      refine Ev.congr (fun k => by rw [if_neg e1, if_pos (Int.natCast_nonneg _), if_pos e2, Int.toNat_natCast]) ?_
      refine Ev.bind (copy_ev (l.take n) (by rw [List.length_take]; omega)) ?_
      refine Ev.congr (f := fun _ => some _) (fun k => ?_) (Ev.now _)
      rw [e3, if_pos (Int.natCast_nonneg _), if_pos e4, Int.toNat_natCast, if_pos e5]
    · have e3 := wrap_succ n (by omega)
      have ed : slices_Delete_int_int.f l (n : Int) ((n + 1 : Nat) : Int) = some (l.take n ++ l.drop (n + 1)) := by
        unfold slices_Delete_int_int.f
        rw [if_pos ⟨Int.natCast_nonneg _, by omega, by omega⟩, Int.toNat_natCast]
      refine end_open l h x hx (Ev.step (fun k => by rw [inbox_End.j0, if_neg Bool.false_ne_true]) (Ev.bind hs ?_))
      refine Ev.congr (f := fun _ => some _) (fun k => ?_) (Ev.now _)
      rw [if_pos rfl, clone_in l h, Option.bind_some, e3, ed, Option.bind_some]
  · rw [decide_eq_false hf] at hs
    refine .inr ⟨?_, ?_⟩
    · unfold fairwayref17_End.f
      refine Ev.bind (in_no l h x n hp hf) ?_
      exact Ev.congr (fun k => if_pos (by decide)) (Ev.now _)
    · refine end_open l h x hx (Ev.step (fun k => by rw [inbox_End.j0, if_neg Bool.false_ne_true]) (Ev.bind hs ?_))
      exact Ev.congr (fun k => if_neg Bool.false_ne_true) (Ev.now _)
theorem ref_loop (l : List Int) (h : ok l) (x : Int) (n : Nat) (hp : place l x n) (hl : l.length < 16) : ∀ d i : Nat, n = i + d → Ev (fun k => fairwayref17_Begin.l0 k l x i) (l.take n ++ x :: l.drop n, false, 0)
  | 0, i, hi => by
    obtain rfl : n = i := by omega
    have e2 : (n : Int) ≤ (l.length : Int) := by have := hp.1; omega
    have e3 : (l.take n).length < 17592186044416 := by rw [List.length_take]; omega
    have e5 : (l.take n ++ [x]).length + (l.drop n).length < 17592186044416 := by rw [List.length_append, List.length_take, List.length_drop, List.length_singleton]; omega
    have ec := copy_ev (l.take n) (by rw [List.length_take]; omega)
    have ea : (l.take n ++ [x]) ++ l.drop n = l.take n ++ x :: l.drop n := by rw [List.append_assoc]; rfl
    have fin : Ev (fun k => (fairwayref0_CopyNumbers.f k (l.take n)).bind fun t462 => (if t462.length < 17592186044416 then ((some (t462 ++ [x] : List Int)).bind fun y465 => (if y465.length + (l.drop n).length < 17592186044416 then (some ((y465 ++ (l.drop n)), false, (0 : Int))) else (none))) else (none))) (l.take n ++ x :: l.drop n, false, 0) := by
      refine Ev.bind ec ?_
      refine Ev.congr (f := fun _ => some _) (fun k => ?_) (Ev.now _)
      rw [if_pos e3, Option.bind_some, if_pos e5, ea]
    by_cases hn : n < l.length
    · have e1 : (n : Int) < (l.length : Int) := by omega
      have e4 : ¬ rd l (n : Int) < x := by have := hp.2.2 n (Nat.le_refl _) hn; omega
      refine Ev.step (fun k => ?_) fin
      rw [fairwayref17_Begin.l0, if_pos e1, if_pos (Int.natCast_nonneg _), if_neg e4, if_pos e2, Int.toNat_natCast]
    · have e1 : ¬ (n : Int) < (l.length : Int) := by omega
      refine Ev.step (fun k => ?_) fin
      rw [fairwayref17_Begin.l0, if_neg e1, if_pos (Int.natCast_nonneg _), if_pos e2, Int.toNat_natCast]
  | d + 1, i, hi => by
    have ih := ref_loop l h x n hp hl d (i + 1) (by omega)
    have hn := hp.1
    have e1 : (i : Int) < (l.length : Int) := by omega
    have e4 : rd l (i : Int) < x := hp.2.1 i (by omega)
    refine Ev.step (fun k => ?_) ih
    rw [fairwayref17_Begin.l0, if_pos e1, if_pos (Int.natCast_nonneg _), if_pos e4, wrap_succ i (by omega)]
theorem begin_both (l : List Int) (h : ok l) (x : Int) (hx : idOk x) : ∃ (w : List Int) (was : Bool) (e : Int), w.length ≤ 1000 ∧ Ev (fun k => fairwayref17_Begin.f k l x) (w, was, e) ∧ Ev (fun k => inbox_Begin.f k l x) (w, was, e) := by
  obtain ⟨n, hp⟩ := place_of l h x
  have hs := search_ev l h x n hp
  have h16 := h.1
  by_cases hf : n < l.length ∧ rd l (n : Int) = x
  · rw [decide_eq_true hf] at hs
    refine ⟨l, true, 0, by omega, ?_, ?_⟩
    · have e1 : (n : Int) ≥ 0 := by omega
      unfold fairwayref17_Begin.f
      refine Ev.bind (in_yes l h x n hp hf.1 hf.2) (Ev.congr (fun k => if_pos e1) (Ev.bind (copy_ev l (by omega)) (Ev.now _)))
    · refine begin_open l h x hx (Ev.step (fun k => by rw [inbox_Begin.j0, if_neg Bool.false_ne_true]) (Ev.bind hs ?_))
      refine Ev.congr (f := fun _ => some _) (fun k => ?_) (Ev.now _)
      rw [if_pos rfl, clone_in l h, Option.bind_some]
  · rw [decide_eq_false hf] at hs
    by_cases hfull : (l.length : Int) ≥ 16
    · refine ⟨[], false, 5, by simp, ?_, ?_⟩
      · unfold fairwayref17_Begin.f
        exact Ev.bind (in_no l h x n hp hf) (Ev.congr (fun k => by rw [if_neg (by decide), if_pos hfull]) (Ev.now _))
      · refine begin_open l h x hx (Ev.step (fun k => by rw [inbox_Begin.j0, if_neg Bool.false_ne_true]) (Ev.bind hs ?_))
        exact Ev.congr (fun k => by rw [if_neg Bool.false_ne_true, if_pos hfull]) (Ev.now _)
    · refine ⟨l.take n ++ x :: l.drop n, false, 0, by rw [List.length_append, List.length_take, List.length_cons, List.length_drop]; omega, ?_, ?_⟩
      · unfold fairwayref17_Begin.f
        exact Ev.bind (in_no l h x n hp hf) (Ev.congr (fun k => by rw [if_neg (by decide), if_neg hfull]) (by have h0 := ref_loop l h x n hp (by omega) n 0 (by omega); rw [Int.natCast_zero] at h0; exact h0))
      · have hn := hp.1
        have ei : slices_Insert_int_int.f l (n : Int) [x] = some (l.take n ++ x :: l.drop n) := by
          unfold slices_Insert_int_int.f
          rw [if_pos ⟨rfl, Int.natCast_nonneg _, by omega, by omega⟩, Int.toNat_natCast]
          rfl
        refine begin_open l h x hx (Ev.step (fun k => by rw [inbox_Begin.j0, if_neg Bool.false_ne_true]) (Ev.bind hs ?_))
        refine Ev.congr (f := fun _ => some _) (fun k => ?_) (Ev.now _)
        rw [if_neg Bool.false_ne_true, if_neg hfull, clone_in l h, Option.bind_some, ei, Option.bind_some]

/-! ### the script -/
theorem j4_ev (b : List Int) (hb : b.length ≤ 1000) (i : Nat) (t : Bool) (ht : t = true ↔ ok b) (e : Int) (w : List Int) (hw : w.length ≤ 1000) (P Q : List Int) (hi : i ≤ 100000)
    (next : ∀ b' : List Int, b'.length ≤ 1000 → Ev (fun k => fairwaylaw19_InboxExact.l0 k b' ((i + 1 : Nat) : Int) P Q) true) :
    Ev (fun k => fairwaylaw19_InboxExact.j4 k b i t b e w w e P Q) true := by
  obtain ⟨c, c1, c2⟩ := check_ev b (by omega)
  have hc : ((c == 0) != t) = false := by
    rcases c2 with ⟨rfl, ho⟩ | ⟨rfl, ho⟩
    · rw [bool_of ht ho]; rfl
    · rw [bool_no ht ho]; rfl
  have hbb := eq_ev b (by omega)
  have j5 : Ev (fun k => fairwaylaw19_InboxExact.j5 k b i b e w w (!true) P Q) true := by
    refine Ev.step (fun k => by rw [fairwaylaw19_InboxExact.j5, Bool.not_true, if_neg Bool.false_ne_true]) ?_
    refine Ev.bind (over_ev w (by omega)) (Ev.bind hbb (Ev.congr (fun k => if_pos rfl) ?_))
    by_cases he : e = 0
    · refine Ev.congr (fun k => if_pos he) (Ev.bind (copy_ev w (by omega)) ?_)
      rw [wrap_succ i (by omega)]
      exact next w hw
    · refine Ev.congr (fun k => if_neg he) ?_
      rw [wrap_succ i (by omega)]
      exact next b hb
  refine Ev.step (fun k => by rw [fairwaylaw19_InboxExact.j4]) (Ev.bind c1 ?_)
  refine Ev.congr (fun k => by rw [fairwaylaw19_num.f, Option.bind_some, hc, if_neg Bool.false_ne_true, fairwaylaw19_num.f, Option.bind_some, if_pos rfl]) ?_
  refine Ev.bind (eq_ev w (by omega)) (Ev.congr (fun k => if_pos rfl) ?_)
  exact Ev.bind hbb j5
theorem step_ev (b : List Int) (hb : b.length ≤ 1000) (i : Nat) (P Q : List Int) (hi : i < Q.length) (hi2 : i ≤ 100000)
    (next : ∀ b' : List Int, b'.length ≤ 1000 → Ev (fun k => fairwaylaw19_InboxExact.l0 k b' ((i + 1 : Nat) : Int) P Q) true) :
    Ev (fun k => fairwaylaw19_InboxExact.j1 k b i true P Q) true := by
  obtain ⟨t, t1, t2⟩ := inbox_ev b (by omega)
  have e1 : (i : Int) < (Q.length : Int) := by omega
  refine Ev.step (fun k => by rw [fairwaylaw19_InboxExact.j1, if_pos rfl]) (Ev.bind t1 (Ev.bind (copy_ev b (by omega)) ?_))
  refine Ev.congr (fun k => by rw [if_pos (Int.natCast_nonneg i), if_pos e1]) ?_
  generalize wrap64 (Int.tdiv (rd Q (i : Int)) 2) = a
  obtain ⟨d, d1, d2⟩ := id_ev a
  have endf : ¬ (ok b ∧ idOk a) → Ev (fun k => fairwaylaw19_InboxExact.j2 k b i t b a 1 ([] : List Int) false P Q) true := fun h =>
    Ev.step (fun k => by rw [fairwaylaw19_InboxExact.j2, if_neg Bool.false_ne_true]) (Ev.bind (end_bad b hb a h) (j4_ev b hb i t t2 1 [] (by simp) P Q hi2 next))
  have beginf : ¬ (ok b ∧ idOk a) → Ev (fun k => fairwaylaw19_InboxExact.j3 k b i t b a 1 ([] : List Int) false false P Q) true := fun h =>
    Ev.step (fun k => by rw [fairwaylaw19_InboxExact.j3, if_neg Bool.false_ne_true]) (Ev.bind (begin_bad b hb a h) (Ev.congr (fun k => if_neg (show ¬ ((false != false) = true) by decide)) (j4_ev b hb i t t2 1 [] (by simp) P Q hi2 next)))
  by_cases hpar : Int.tmod (rd Q (i : Int)) 2 = 0
  · refine Ev.congr (fun k => if_pos hpar) ?_
    by_cases ho : ok b
    · obtain rfl := bool_of t2 ho
      refine Ev.congr (fun k => by rw [if_pos rfl, d1, Option.bind_some]) ?_
      by_cases hd : idOk a
      · obtain rfl := bool_of d2 hd
        refine Ev.step (fun k => by rw [fairwaylaw19_InboxExact.j2, if_pos rfl]) ?_
        rcases end_both b ho a hd with ⟨w, hw, r1, r2⟩ | ⟨r1, r2⟩
        · exact Ev.bind r1 (Ev.congr (fun k => if_pos rfl) (Ev.bind r2 (j4_ev b hb i true t2 0 w hw P Q hi2 next)))
        · exact Ev.bind r1 (Ev.congr (fun k => if_neg Bool.false_ne_true) (Ev.bind r2 (j4_ev b hb i true t2 3 [] (by simp) P Q hi2 next)))
      · obtain rfl := bool_no d2 hd
        exact endf (fun q => hd q.2)
    · obtain rfl := bool_no t2 ho
      exact Ev.congr (fun k => if_neg Bool.false_ne_true) (endf (fun q => ho q.1))
  · refine Ev.congr (fun k => if_neg hpar) ?_
    by_cases ho : ok b
    · obtain rfl := bool_of t2 ho
      refine Ev.congr (fun k => by rw [if_pos rfl, d1, Option.bind_some]) ?_
      by_cases hd : idOk a
      · obtain rfl := bool_of d2 hd
        obtain ⟨w, was, e, hw, r1, r2⟩ := begin_both b ho a hd
        refine Ev.step (fun k => by rw [fairwaylaw19_InboxExact.j3, if_pos rfl]) (Ev.bind r1 (Ev.bind r2 ?_))
        exact Ev.congr (fun k => if_neg (by simp)) (j4_ev b hb i true t2 e w hw P Q hi2 next)
      · obtain rfl := bool_no d2 hd
        exact beginf (fun q => hd q.2)
    · obtain rfl := bool_no t2 ho
      exact Ev.congr (fun k => if_neg Bool.false_ne_true) (beginf (fun q => ho q.1))
theorem stop_ev (b : List Int) (i : Int) (P Q : List Int) : Ev (fun k => fairwaylaw19_InboxExact.j1 k b i false P Q) true :=
  Ev.step (fun k => by rw [fairwaylaw19_InboxExact.j1, if_neg Bool.false_ne_true]) (Ev.bind wakes_ev (Ev.now _))
theorem script_loop (P Q : List Int) : ∀ (d i : Nat) (b : List Int), 25 = i + d → b.length ≤ 1000 → Ev (fun k => fairwaylaw19_InboxExact.l0 k b i P Q) true
  | 0, i, b, h, hb => by
    have e : decide ((i : Int) < 25) = false := decide_eq_false (by omega)
    by_cases h1 : (i : Int) < (Q.length : Int)
    · exact Ev.step (fun k => by rw [fairwaylaw19_InboxExact.l0, if_pos h1, e]) (stop_ev b i P Q)
    · exact Ev.step (fun k => by rw [fairwaylaw19_InboxExact.l0, if_neg h1]) (stop_ev b i P Q)
  | d + 1, i, b, h, hb => by
    have e : decide ((i : Int) < 25) = true := decide_eq_true (by omega)
    by_cases h1 : (i : Int) < (Q.length : Int)
    · exact Ev.step (fun k => by rw [fairwaylaw19_InboxExact.l0, if_pos h1, e]) (step_ev b hb i P Q (by omega) (by omega) (fun b' hb' => script_loop P Q d (i + 1) b' (by omega) hb'))
    · exact Ev.step (fun k => by rw [fairwaylaw19_InboxExact.l0, if_neg h1]) (stop_ev b i P Q)
theorem InboxExact (p : S56) (hg : good56 p) : ∃ k, fairwaylaw19_InboxExact.f k p.f0 p.f1 = some true := by
  obtain ⟨⟨_, g1⟩, _, g2⟩ := hg
  refine Ev.rounds ?_
  unfold fairwaylaw19_InboxExact.f fairwaylaw19_heavy.f
  have hw : wrap64 ((p.f0.length : Int) + (p.f1.length : Int)) = (p.f0.length : Int) + (p.f1.length : Int) := wrap_in (by omega) (by omega)
  by_cases h : (p.f0.length : Int) + (p.f1.length : Int) > 1000
  · exact Ev.congr (fun k => by rw [hw, decide_eq_true h, Option.bind_some, if_pos rfl]) (Ev.now _)
  · refine Ev.congr (fun k => by rw [hw, decide_eq_false h, Option.bind_some, if_neg Bool.false_ne_true]) ?_
    exact Ev.bind (copy_ev p.f0 (by omega)) (script_loop p.f0 p.f1 25 0 p.f0 (by omega) (by omega))
end Go.Proofs.Ytigmekgknhoidaa.Pure

/- InboxExact: for every input of the row the law returns true, and the input reads afterwards as before. Conditions: none beside the row's own. -/
namespace Go.Proofs.Ytigmekgknhoidaa.inboxExact
open Go.ChangeShapes Go.WideShapes Go.ChangeAt Go.RowKit Go.Proofs.YtigmekgknhoidaaW.PrintWords Go.Proofs.Ytigmekgknhoidaa.Open Go.Proofs.Ytigmekgknhoidaa.P
set_option linter.unusedVariables false
theorem own : ownKnob Try.prog.godebug = none := by kernel_rfl
theorem laidOut : laidOutB Try.prog = true := by kernel_rfl
theorem openK56 {w : World} {x : S56} {cs : List Value} (h : k56.K w x cs) : ∃ (A0 : Option Addr) (c0 : Nat) (A1 : Option Addr) (c1 : Nat), cs = [.slice A0 x.f0.length c0, .slice A1 x.f1.length c1] ∧ Kd.C (Kd.int .i64) w A0 x.f0.length x.f0 ∧ x.f0.length ≤ c0 ∧ Kd.C (Kd.int .i64) w A1 x.f1.length x.f1 ∧ x.f1.length ≤ c1 := by
  obtain ⟨_, _, rfl, ⟨A0, c0, rfl, hc0, hr0⟩, ⟨A1, c1, rfl, hc1, hr1⟩⟩ := h
  exact ⟨A0, c0, A1, c1, rfl, hr0, hc0, hr1, hc1⟩
theorem purely (p : S56) (hg : good56 p) : ∃ k, fairwaylaw19_InboxExact.f k p.f0 p.f1 = some true := Pure.InboxExact p hg
set_option maxRecDepth 100000 in
theorem lifted (os : Os) (started : os.Started) (H : Type) (enc : TypeId × Value → H) :
    ReturnsInHanded {} Try.checked os 7 .any (Rows.inboxExactSpec.pre6 enc Try.prog Try.f7 Rows.inboxExactRow.domain false) (Rows.inboxExactSpec.post enc Try.prog Try.f7 false true false false) := by
  refine returnsInHanded_of_change_sized (C := Try.checked) own started (by kernel_rfl) Try.func7
    (ChangeSpec.witness6 (enc := enc) (C := Try.checked) false ⟨#[], #[.agg #[.slice none 0 0, .slice none 0 0]], []⟩ 8 (by kernel_rfl) (by kernel_rfl) (by kernel_rfl) (by kernel_rfl)) ?_
  intro W base args ds gs before hval0 hW hcnd hsz0 _
  have hsz : (DataW.weightsEach Try.prog (Try.f7.params.toList ++ Rows.inboxExactSpec.plain.varTypes Try.prog) (ds ++ gs)).all (· ≤ reachBytes) = true := hsz0
  have hval : ∀ (j : Nat) t v, Try.f7.params[j]? = some t → args[j]? = some v → Value.okWide Try.prog W .any base t v := hval0
  have hW' := hW
  obtain ⟨p_, q_, hA0, hV, rfl, hfz, hnd⟩ := hW
  have hA : DataW.TrodAll enc Try.prog W 0 (fun _ => true) true Try.f7.params.toList args.toList ds p_ := hA0
  rw [Try.params7] at hA hval hsz
  obtain ⟨v0, vs0, d0, ds0, p0, q0, hargs, rfl, rfl, h0, r0⟩ := trodAll_cons hA
  obtain ⟨rfl, rfl, rfl⟩ := trodAll_nil r0
  obtain rfl : args = #[v0] := by cases args; simp_all
  obtain ⟨rfl, rfl⟩ := trodVars_none hV
  obtain ⟨cs0, rfl, hsz0_⟩ := okWide_struct Try.underlying56 (hval 0 56 v0 rfl rfl)
  have k0 := h0
  have lt0 : ∀ x ∈ p0, x.block < W.heap.size := by obtain ⟨m, hm⟩ := k0; exact DataW.trod_lt m _ _ _ hm
  obtain ⟨p, hg0, A0, c0, A1, c1, rfl, hr0, hc0, hr1, hc1⟩ : ∃ p : S56, good56 p ∧ ∃ (A0 : Option Addr) (c0 : Nat) (A1 : Option Addr) (c1 : Nat), cs0 = #[.slice A0 p.f0.length c0, .slice A1 p.f1.length c1] ∧ Kd.C (Kd.int .i64) W A0 p.f0.length p.f0 ∧ p.f0.length ≤ c0 ∧ Kd.C (Kd.int .i64) W A1 p.f1.length p.f1 ∧ p.f1.length ≤ c1 := by
    obtain ⟨fuel, hf⟩ := h0
    obtain ⟨x, hK, hg⟩ := rd56.rd enc W fuel _ _ _ hf (fun m hm => of_decide_eq_true (List.all_eq_true.1 hsz m (DataW.weights_mem_each (j := 0) rfl rfl m hm)))
    obtain ⟨A0, c0, A1, c1, hcs, hr0, hc0, hr1, hc1⟩ := openK56 hK
    refine ⟨x, hg, A0, c0, A1, c1, ?_, hr0, hc0, hr1, hc1⟩
    have e_ := congrArg List.toArray hcs
    simpa [Value.cells] using e_
  clear hA0 hval0 hsz0 hsz
  obtain ⟨k, h⟩ := purely p hg0
  refine (fairwaylaw19_InboxExact.calls k A0 c0 p.f0 A1 c1 p.f1 true W hr0 hc0 hr1 hc1 h).mono fun e W' ⟨he, bel0⟩ => ?_
  have bel : Below W.heap.size W W' := bel0
  subst he
  exact ⟨_, rfl, _, _, _, [], _, [], hW', trodAll_mk1 (shut_bool Try.underlying4 _), (trodAll_cons_mk (Below.trod laidOut (by kernel_rfl) (of_decide_eq_true (by kernel_rfl)) k0 bel lt0) trodAll_mk0), rfl, bel.frame _, fun h => by cases h⟩
theorem over : Rows.inboxExactRow.holds Try.pinned (OpenSpec.ofChange Rows.inboxExactSpec) :=
  OpenClaim.holds_of_wide 7 Try.f7 rfl rfl rfl rfl rfl rfl rfl ⟨rfl, rfl, rfl, rfl, rfl⟩ rfl rfl rfl rfl rfl (by kernel_rfl) Try.func7 (by kernel_rfl)
    (of_decide_eq_true (by kernel_rfl)) (by unfold Func.isWrapper; first | (rw [if_pos (by decide +kernel)]; kernel_rfl) | (rw [if_neg (by decide +kernel)]; exact ⟨rfl, rfl⟩))
    (fun os started H enc _ => lifted os started H enc)
theorem proved : Rows.InboxExactSaid := over
#print axioms proved
end Go.Proofs.Ytigmekgknhoidaa.inboxExact
namespace Go.Proofs.Ytigmekgknhoidaa
theorem inboxExact_holds : Rows.InboxExactSaid := inboxExact.proved
end Go.Proofs.Ytigmekgknhoidaa

