/- The law IndexMarks: printed functions, their contracts, the plain laws and the row, part 2. -/
import Derived.Test.YtmabdfdmccbfnaaKIndexMarks0
import Derived.Test.YtmabdfdmccbfnaaKIndexMarks1
import Derived.Test.YtmabdfdmccbfnaaWWords
import Derived.Test.YtmabdfdmccbfnaaWLast
import Derived.Test.YtmabdfdmccbfnaaWMore
import Derived.ProofKit
import Derived.OpenShut
import Derived.SizedLaws
import Derived.Deep.Slices
-- written by a program of the proving session, out of the translation; Lean checks it
namespace Go.Proofs.Ytmabdfdmccbfnaa.P
open Go.RowKit Go.Proofs.Ytmabdfdmccbfnaa.Sq Go.Proofs.YtmabdfdmccbfnaaW.PrintWords Go.Proofs.YtmabdfdmccbfnaaW.PrintLast Go.Proofs.YtmabdfdmccbfnaaW.PrintMore
attribute [local go_sem] max2_int min2_int max_two min_two max_three min_three max_four min_four   -- for this text's walks alone
set_option linter.unusedVariables false
set_option linter.unusedSimpArgs false

/-! ### fairwaylaw12_IndexMarks: function 12 -/
mutual
def fairwaylaw12_IndexMarks.j0 : Nat → List (S77) → Bool → Int → List (S25) → List (S25) → List Int → ByteArray → Option (Bool)
 | 0, _, _, _, _, _, _, _ => none
 | k + 1, x7, x77, x571000, x571001, x571002, x571003, x571004 => if x77 = true then (some false) else (fairwaylaw12_IndexMarks.l0 k x7 0 x571000 x571001 x571002 x571003 x571004)
def fairwaylaw12_IndexMarks.l0 : Nat → List (S77) → Int → Int → List (S25) → List (S25) → List Int → ByteArray → Option (Bool)
 | 0, _, _, _, _, _, _, _ => none
 | k + 1, x7, x10, x571000, x571001, x571002, x571003, x571004 => if x10 < (x7.length : Int) then ((fairwayref0_CopyMarks.f k x7).bind fun t591 => (if 0 ≤ x10 then (if x10 < (t591.length : Int) then (if x10 ≤ (x7.length : Int) then ((index_Check.f k x571000 x571001 (x7.take (x10 : Int).toNat)).bind fun bt600 => ((index_Check.f k x571000 x571001 (t591.set (x10 : Int).toNat (⟨(rd_T77 t591 x10).f0, wrap64 (((rd_T77 t591 x10).f1) + 1)⟩ : S77))).bind fun bt602 => ((fairwaylaw12_num.f bt600.2).bind fun t604 => (if t604 = 0 then (if bt600.1 = true then (some false) else ((fairwaylaw12_num.f bt602.2).bind fun t605 => (if t605 = 0 then (if bt602.1 = true then (some false) else (fairwaylaw12_IndexMarks.l0 k x7 (wrap64 (x10 + 1)) x571000 x571001 x571002 x571003 x571004)) else (some false)))) else (some false))))) else (none)) else (none)) else (none))) else ((fairwaylaw12_wakes.f k).bind fun t590 => (some t590))
end
def fairwaylaw12_IndexMarks.f (k : Nat) (a0_0 : Int) (l0_1 : List (S25)) (l0_2 : List (S25)) (l0_3 : List Int) (a0_4 : ByteArray) : Option (Bool) := (fairwaylaw11_Heavy.f k a0_0 l0_1 l0_2 l0_3 a0_4).bind fun t571 => (if t571 = true then (some true) else ((index_Marks.f k a0_0 l0_1).bind fun bt572 => ((fairwayref10_Seg.f k a0_0 l0_1).bind fun t576 => (if t576 = true then ((fairwayref10_Marks.f k a0_0 l0_1).bind fun t582 => ((index_Check.f k a0_0 l0_1 t582).bind fun bt585 => ((fairwaylaw12_num.f bt572.2).bind fun t587 => (if t587 = 0 then ((fairwayref0_EqMarks.f k bt572.1 t582).bind fun t588 => (if t588 = true then ((fairwaylaw12_num.f bt585.2).bind fun t589 => (if t589 = 0 then (fairwaylaw12_IndexMarks.j0 k t582 (!bt585.1) a0_0 l0_1 l0_2 l0_3 a0_4) else (fairwaylaw12_IndexMarks.j0 k t582 true a0_0 l0_1 l0_2 l0_3 a0_4))) else (fairwaylaw12_IndexMarks.j0 k t582 true a0_0 l0_1 l0_2 l0_3 a0_4))) else (fairwaylaw12_IndexMarks.j0 k t582 true a0_0 l0_1 l0_2 l0_3 a0_4))))) else ((index_Check.f k a0_0 l0_1 ([] : List (S77))).bind fun bt577 => ((fairwaylaw12_num.f bt572.2).bind fun t579 => (if t579 = 1 then ((fairwaylaw12_num.f bt577.2).bind fun t580 => (if t580 = 1 then (if (bt572.1.length : Int) = 0 then ((fairwaylaw12_wakes.f k).bind fun t581 => (some t581)) else (some false)) else (some false))) else (some false))))))))
theorem fairwaylaw12_IndexMarks.mono_l : ∀ k, (∀ y0 y1 y2 y3 y4 y5 y6, LeO (fairwaylaw12_IndexMarks.j0 k y0 y1 y2 y3 y4 y5 y6) (fairwaylaw12_IndexMarks.j0 (k + 1) y0 y1 y2 y3 y4 y5 y6)) ∧ (∀ y0 y1 y2 y3 y4 y5 y6, LeO (fairwaylaw12_IndexMarks.l0 k y0 y1 y2 y3 y4 y5 y6) (fairwaylaw12_IndexMarks.l0 (k + 1) y0 y1 y2 y3 y4 y5 y6))
 | 0 => ⟨fun _ _ _ _ _ _ _ r h => by simp [fairwaylaw12_IndexMarks.j0] at h, fun _ _ _ _ _ _ _ r h => by simp [fairwaylaw12_IndexMarks.l0] at h⟩
 | k + 1 => by
  obtain ⟨ih0, ih1⟩ := fairwaylaw12_IndexMarks.mono_l k
  refine ⟨?_, ?_⟩
  ·intro y0 y1 y2 y3 y4 y5 y6
   unfold fairwaylaw12_IndexMarks.j0
   repeat' first
   | (with_reducible exact ih0 _ _ _ _ _ _ _)
   | (with_reducible exact ih1 _ _ _ _ _ _ _)
   | (with_reducible exact fairwaylaw11_Heavy.mono _ _ _ _ _ _)
   | (with_reducible exact fairwaylaw12_wakes.mono _)
   | (with_reducible exact fairwayref0_CopyMarks.mono _ _)
   | (with_reducible exact fairwayref0_EqMarks.mono _ _ _)
   | (with_reducible exact fairwayref10_Marks.mono _ _ _)
   | (with_reducible exact fairwayref10_Seg.mono _ _ _)
   | (with_reducible exact index_Check.mono _ _ _ _)
   | (with_reducible exact index_Marks.mono _ _ _)
   | (with_reducible exact LeO.refl _)
   | (with_reducible exact LeO.none _)
   | (with_reducible refine LeO.ite ?_ ?_)
   | (with_reducible refine LeO.bind ?_ (fun _ => ?_))
   | exact ih0 _ _ _ _ _ _ _
   | exact ih1 _ _ _ _ _ _ _
   | exact fairwaylaw11_Heavy.mono _ _ _ _ _ _
   | exact fairwaylaw12_wakes.mono _
   | exact fairwayref0_CopyMarks.mono _ _
   | exact fairwayref0_EqMarks.mono _ _ _
   | exact fairwayref10_Marks.mono _ _ _
   | exact fairwayref10_Seg.mono _ _ _
   | exact index_Check.mono _ _ _ _
   | exact index_Marks.mono _ _ _
   | exact LeO.none _
   | refine LeO.ite ?_ ?_
   | refine LeO.bind ?_ (fun _ => ?_)
  ·intro y0 y1 y2 y3 y4 y5 y6
   unfold fairwaylaw12_IndexMarks.l0
   repeat' first
   | (with_reducible exact ih0 _ _ _ _ _ _ _)
   | (with_reducible exact ih1 _ _ _ _ _ _ _)
   | (with_reducible exact fairwaylaw11_Heavy.mono _ _ _ _ _ _)
   | (with_reducible exact fairwaylaw12_wakes.mono _)
   | (with_reducible exact fairwayref0_CopyMarks.mono _ _)
   | (with_reducible exact fairwayref0_EqMarks.mono _ _ _)
   | (with_reducible exact fairwayref10_Marks.mono _ _ _)
   | (with_reducible exact fairwayref10_Seg.mono _ _ _)
   | (with_reducible exact index_Check.mono _ _ _ _)
   | (with_reducible exact index_Marks.mono _ _ _)
   | (with_reducible exact LeO.refl _)
   | (with_reducible exact LeO.none _)
   | (with_reducible refine LeO.ite ?_ ?_)
   | (with_reducible refine LeO.bind ?_ (fun _ => ?_))
   | exact ih0 _ _ _ _ _ _ _
   | exact ih1 _ _ _ _ _ _ _
   | exact fairwaylaw11_Heavy.mono _ _ _ _ _ _
   | exact fairwaylaw12_wakes.mono _
   | exact fairwayref0_CopyMarks.mono _ _
   | exact fairwayref0_EqMarks.mono _ _ _
   | exact fairwayref10_Marks.mono _ _ _
   | exact fairwayref10_Seg.mono _ _ _
   | exact index_Check.mono _ _ _ _
   | exact index_Marks.mono _ _ _
   | exact LeO.none _
   | refine LeO.ite ?_ ?_
   | refine LeO.bind ?_ (fun _ => ?_)
theorem fairwaylaw12_IndexMarks.mono : ∀ a0 a1 a2 a3 a4 k, LeO (fairwaylaw12_IndexMarks.f k a0 a1 a2 a3 a4) (fairwaylaw12_IndexMarks.f (k + 1) a0 a1 a2 a3 a4) := by
 intro a0 a1 a2 a3 a4 k
 obtain ⟨ih0, ih1⟩ := fairwaylaw12_IndexMarks.mono_l k
 unfold fairwaylaw12_IndexMarks.f
 repeat' first
  | (with_reducible exact ih0 _ _ _ _ _ _ _)
  | (with_reducible exact ih1 _ _ _ _ _ _ _)
  | (with_reducible exact fairwaylaw11_Heavy.mono _ _ _ _ _ _)
  | (with_reducible exact fairwaylaw12_wakes.mono _)
  | (with_reducible exact fairwayref0_CopyMarks.mono _ _)
  | (with_reducible exact fairwayref0_EqMarks.mono _ _ _)
  | (with_reducible exact fairwayref10_Marks.mono _ _ _)
  | (with_reducible exact fairwayref10_Seg.mono _ _ _)
  | (with_reducible exact index_Check.mono _ _ _ _)
  | (with_reducible exact index_Marks.mono _ _ _)
  | (with_reducible exact LeO.refl _)
  | (with_reducible exact LeO.none _)
  | (with_reducible refine LeO.ite ?_ ?_)
  | (with_reducible refine LeO.bind ?_ (fun _ => ?_))
  | exact ih0 _ _ _ _ _ _ _
  | exact ih1 _ _ _ _ _ _ _
  | exact fairwaylaw11_Heavy.mono _ _ _ _ _ _
  | exact fairwaylaw12_wakes.mono _
  | exact fairwayref0_CopyMarks.mono _ _
  | exact fairwayref0_EqMarks.mono _ _ _
  | exact fairwayref10_Marks.mono _ _ _
  | exact fairwayref10_Seg.mono _ _ _
  | exact index_Check.mono _ _ _ _
  | exact index_Marks.mono _ _ _
  | exact LeO.none _
  | refine LeO.ite ?_ ?_
  | refine LeO.bind ?_ (fun _ => ?_)
def fairwaylaw12_IndexMarks.T16 : Bool × List (List Nat × List Nat) := (true, [([], []), ([0], [0]), ([], []), ([], []), ([2, 3], [2, 3]), ([1, 4], [1, 4]), ([5], [5]), ([6], [6]), ([6], [6]), ([7, 5, 0, 1, 2, 3, 4, 5, 6, 7], [7]), ([8, 9, 0, 1, 2, 3, 4, 5, 6, 7, 8, 9], [8])])
def fairwaylaw12_IndexMarks.B16 : List Nat := [0, 1, 0, 0, 12, 31, 63, 127, 127, 255, 1023]
theorem fairwaylaw12_IndexMarks.tab16 : rtab .any (opsOf Try.f12 16) = fairwaylaw12_IndexMarks.T16 := by kernel_rfl
theorem fairwaylaw12_IndexMarks.bits16 : waitsOk fairwaylaw12_IndexMarks.T16.2 fairwaylaw12_IndexMarks.B16 = true := by kernel_rfl
set_option maxHeartbeats 8000000 in
set_option maxRecDepth 100000 in
theorem fairwaylaw12_IndexMarks.calls (k : Nat) (a0_0 : Int) (A0_1 : Option Addr) (c0_1 : Nat) (l0_1 : List (S25)) (A0_2 : Option Addr) (c0_2 : Nat) (l0_2 : List (S25)) (A0_3 : Option Addr) (c0_3 : Nat) (l0_3 : List Int) (a0_4 : ByteArray) (r : Bool) (w : World) (hr0_1 : Kd.C k25 w A0_1 l0_1.length l0_1) (hc0_1 : l0_1.length ≤ c0_1) (hr0_2 : Kd.C k25 w A0_2 l0_2.length l0_2) (hc0_2 : l0_2.length ≤ c0_2) (hr0_3 : Kd.C (Kd.int .i64) w A0_3 l0_3.length l0_3) (hc0_3 : l0_3.length ≤ c0_3) (h : fairwaylaw12_IndexMarks.f k a0_0 l0_1 l0_2 l0_3 a0_4 = some r) :
 Calls Try.prog 12 #[.agg #[.int .i64 a0_0, .slice A0_1 l0_1.length c0_1, .slice A0_2 l0_2.length c0_2, .slice A0_3 l0_3.length c0_3, .string a0_4]] w fun e w' => e = .returned (.bool r) ∧ Below w.heap.size w w' := by
 have hu55 := Try.underlying55
 have hu53 := Try.underlying53
 have HR0_1 := Aside0.mk hr0_1
 have HC0_1 := Aside0.mk hc0_1
 clear hr0_1 hc0_1
 have HR0_2 := Aside0.mk hr0_2
 have HC0_2 := Aside0.mk hc0_2
 clear hr0_2 hc0_2
 have HR0_3 := Aside0.mk hr0_3
 have HC0_3 := Aside0.mk hc0_3
 clear hr0_3 hc0_3
 have HB := Aside0.mk (Below.refl w.heap.size w)
 have H : ((fairwaylaw11_Heavy.f k a0_0 l0_1 l0_2 l0_3 a0_4).bind fun t571 => (if t571 = true then (some true) else ((index_Marks.f k a0_0 l0_1).bind fun bt572 => ((fairwayref10_Seg.f k a0_0 l0_1).bind fun t576 => (if t576 = true then ((fairwayref10_Marks.f k a0_0 l0_1).bind fun t582 => ((index_Check.f k a0_0 l0_1 t582).bind fun bt585 => ((fairwaylaw12_num.f bt572.2).bind fun t587 => (if t587 = 0 then ((fairwayref0_EqMarks.f k bt572.1 t582).bind fun t588 => (if t588 = true then ((fairwaylaw12_num.f bt585.2).bind fun t589 => (if t589 = 0 then (fairwaylaw12_IndexMarks.j0 k t582 (!bt585.1) a0_0 l0_1 l0_2 l0_3 a0_4) else (fairwaylaw12_IndexMarks.j0 k t582 true a0_0 l0_1 l0_2 l0_3 a0_4))) else (fairwaylaw12_IndexMarks.j0 k t582 true a0_0 l0_1 l0_2 l0_3 a0_4))) else (fairwaylaw12_IndexMarks.j0 k t582 true a0_0 l0_1 l0_2 l0_3 a0_4))))) else ((index_Check.f k a0_0 l0_1 ([] : List (S77))).bind fun bt577 => ((fairwaylaw12_num.f bt572.2).bind fun t579 => (if t579 = 1 then ((fairwaylaw12_num.f bt577.2).bind fun t580 => (if t580 = 1 then (if (bt572.1.length : Int) = 0 then ((fairwaylaw12_wakes.f k).bind fun t581 => (some t581)) else (some false)) else (some false))) else (some false))))))))) = some r := h
 clear h
 replace H := Option.bind_eq_some_iff.mp H
 obtain ⟨t571, A20, H⟩ := H
 replace H : (if t571 = true then (some true) else ((index_Marks.f k a0_0 l0_1).bind fun bt572 => ((fairwayref10_Seg.f k a0_0 l0_1).bind fun t576 => (if t576 = true then ((fairwayref10_Marks.f k a0_0 l0_1).bind fun t582 => ((index_Check.f k a0_0 l0_1 t582).bind fun bt585 => ((fairwaylaw12_num.f bt572.2).bind fun t587 => (if t587 = 0 then ((fairwayref0_EqMarks.f k bt572.1 t582).bind fun t588 => (if t588 = true then ((fairwaylaw12_num.f bt585.2).bind fun t589 => (if t589 = 0 then (fairwaylaw12_IndexMarks.j0 k t582 (!bt585.1) a0_0 l0_1 l0_2 l0_3 a0_4) else (fairwaylaw12_IndexMarks.j0 k t582 true a0_0 l0_1 l0_2 l0_3 a0_4))) else (fairwaylaw12_IndexMarks.j0 k t582 true a0_0 l0_1 l0_2 l0_3 a0_4))) else (fairwaylaw12_IndexMarks.j0 k t582 true a0_0 l0_1 l0_2 l0_3 a0_4))))) else ((index_Check.f k a0_0 l0_1 ([] : List (S77))).bind fun bt577 => ((fairwaylaw12_num.f bt572.2).bind fun t579 => (if t579 = 1 then ((fairwaylaw12_num.f bt577.2).bind fun t580 => (if t580 = 1 then (if (bt572.1.length : Int) = 0 then ((fairwaylaw12_wakes.f k).bind fun t581 => (some t581)) else (some false)) else (some false))) else (some false)))))))) = some r := H
 have A2 := Aside0.mk A20
 clear A20
 by_cases c3 : t571 = true
 ·subst c3
  have H1 : (some true) = some r := by rw [if_pos rfl] at H; exact H
  clear H
  have H := H1
  clear H1
  obtain rfl := Option.some.inj H
  go_enter Try.func12, Try.ntmps12
  go_wp2_with (first | ((with_reducible refine gate_dst (N := 1) rfl ?_); (try (refine gate_guard (by rfl) ?_; dsimp only)); refine box_event ?hg (N := 1) ?hd (cs := #[.int .i64 a0_0, .slice A0_1 l0_1.length c0_1, .slice A0_2 l0_2.length c0_2, .slice A0_3 l0_3.length c0_3, .string a0_4]) (t := 55) ?hr ?_; (case hd => rfl); (case hg => rfl); (case hr => first | (go_simp; done) | (go_simp; rfl)); intro gb570 hg w4 hbox hb; have n0_ := Aside0.mk (below_step bo hb); have n1_ := Aside0.mk (hbox); have n2_ := Aside0.mk ((by rw [hg]; exact (below_size bo) : w.heap.size ≤ gb570)); have n3_ := Aside0.mk ((by rw [hg]; exact (below_size bo) : w.heap.size ≤ gb570)); clear HB; have HB := n0_; have BK570 := n1_; have GW570 := n2_; have GE570 := n3_; clear n0_ n1_ n2_ n3_; clear hb hbox hg; obtain ⟨hcz5_0, hcz5_1, hcz5_2, hcz5_3, hcz5_4⟩ := cl5 BK570.out; obtain ⟨hfz5_0, hfz5_1, hfz5_2, hfz5_3, hfz5_4⟩ := fz5 BK570.out) | ((with_reducible refine gate_callee (f := 30) rfl ?_); refine goesL_ (some 17) rfl rfl Try.func30 (by kernel_rfl) rfl #[.agg #[.int .i64 a0_0, .slice A0_1 l0_1.length c0_1, .slice A0_2 l0_2.length c0_2, .slice A0_3 l0_3.length c0_3, .string a0_4]] rfl aa ?_; (with_reducible refine (fairwaylaw11_Heavy.calls k a0_0 _ _ l0_1 _ _ l0_2 _ _ l0_3 a0_4 true _ ?side1 ?side2 ?side3 ?side4 ?side5 ?side6 A2.out).mono ?_); (case side1 => repeat (first | exact (Kd.C_below HR0_1.out HB.out) | (with_reducible refine Kd.C_alloc ?_ _) | (with_reducible refine Kd.C_drewN ?_ _) | (with_reducible refine Kd.C_drew ?_))); (case side2 => exact HC0_1.out); (case side3 => repeat (first | exact (Kd.C_below HR0_2.out HB.out) | (with_reducible refine Kd.C_alloc ?_ _) | (with_reducible refine Kd.C_drewN ?_ _) | (with_reducible refine Kd.C_drew ?_))); (case side4 => exact HC0_2.out); (case side5 => repeat (first | exact (Kd.C_below HR0_3.out HB.out) | (with_reducible refine Kd.C_alloc ?_ _) | (with_reducible refine Kd.C_drewN ?_ _) | (with_reducible refine Kd.C_drew ?_))); (case side6 => exact HC0_3.out); rintro e w6 ⟨rfl, hb⟩; refine ⟨_, rfl, ?_⟩; replace BK570 := Aside0.mk (blk_below (g := gb570) (o := .cells #[.int .i64 a0_0, .slice A0_1 l0_1.length c0_1, .slice A0_2 l0_2.length c0_2, .slice A0_3 l0_3.length c0_3, .string a0_4] 55 (0, 0)) (bk BK570.out) hb); replace HB := Aside0.mk (below_step bo hb); (try clear hb); (try clear hb2); (try clear hk); (try clear hi)))
  go_ret
  exact ⟨er, bo⟩
 ·replace c3 := Bool.eq_false_iff.mpr c3
  subst c3
  have H1 : ((index_Marks.f k a0_0 l0_1).bind fun bt572 => ((fairwayref10_Seg.f k a0_0 l0_1).bind fun t576 => (if t576 = true then ((fairwayref10_Marks.f k a0_0 l0_1).bind fun t582 => ((index_Check.f k a0_0 l0_1 t582).bind fun bt585 => ((fairwaylaw12_num.f bt572.2).bind fun t587 => (if t587 = 0 then ((fairwayref0_EqMarks.f k bt572.1 t582).bind fun t588 => (if t588 = true then ((fairwaylaw12_num.f bt585.2).bind fun t589 => (if t589 = 0 then (fairwaylaw12_IndexMarks.j0 k t582 (!bt585.1) a0_0 l0_1 l0_2 l0_3 a0_4) else (fairwaylaw12_IndexMarks.j0 k t582 true a0_0 l0_1 l0_2 l0_3 a0_4))) else (fairwaylaw12_IndexMarks.j0 k t582 true a0_0 l0_1 l0_2 l0_3 a0_4))) else (fairwaylaw12_IndexMarks.j0 k t582 true a0_0 l0_1 l0_2 l0_3 a0_4))))) else ((index_Check.f k a0_0 l0_1 ([] : List (S77))).bind fun bt577 => ((fairwaylaw12_num.f bt572.2).bind fun t579 => (if t579 = 1 then ((fairwaylaw12_num.f bt577.2).bind fun t580 => (if t580 = 1 then (if (bt572.1.length : Int) = 0 then ((fairwaylaw12_wakes.f k).bind fun t581 => (some t581)) else (some false)) else (some false))) else (some false))))))) = some r := by rw [if_neg (show ¬ (false = true) by decide)] at H; exact H
  clear H
  have H := H1
  clear H1
  replace H := Option.bind_eq_some_iff.mp H
  obtain ⟨⟨t572, t575⟩, A70, H⟩ := H
  replace H : ((fairwayref10_Seg.f k a0_0 l0_1).bind fun t576 => (if t576 = true then ((fairwayref10_Marks.f k a0_0 l0_1).bind fun t582 => ((index_Check.f k a0_0 l0_1 t582).bind fun bt585 => ((fairwaylaw12_num.f t575).bind fun t587 => (if t587 = 0 then ((fairwayref0_EqMarks.f k t572 t582).bind fun t588 => (if t588 = true then ((fairwaylaw12_num.f bt585.2).bind fun t589 => (if t589 = 0 then (fairwaylaw12_IndexMarks.j0 k t582 (!bt585.1) a0_0 l0_1 l0_2 l0_3 a0_4) else (fairwaylaw12_IndexMarks.j0 k t582 true a0_0 l0_1 l0_2 l0_3 a0_4))) else (fairwaylaw12_IndexMarks.j0 k t582 true a0_0 l0_1 l0_2 l0_3 a0_4))) else (fairwaylaw12_IndexMarks.j0 k t582 true a0_0 l0_1 l0_2 l0_3 a0_4))))) else ((index_Check.f k a0_0 l0_1 ([] : List (S77))).bind fun bt577 => ((fairwaylaw12_num.f t575).bind fun t579 => (if t579 = 1 then ((fairwaylaw12_num.f bt577.2).bind fun t580 => (if t580 = 1 then (if (t572.length : Int) = 0 then ((fairwaylaw12_wakes.f k).bind fun t581 => (some t581)) else (some false)) else (some false))) else (some false)))))) = some r := H
  have A7 := Aside0.mk A70
  clear A70
  replace H := Option.bind_eq_some_iff.mp H
  obtain ⟨t576, A80, H⟩ := H
  replace H : (if t576 = true then ((fairwayref10_Marks.f k a0_0 l0_1).bind fun t582 => ((index_Check.f k a0_0 l0_1 t582).bind fun bt585 => ((fairwaylaw12_num.f t575).bind fun t587 => (if t587 = 0 then ((fairwayref0_EqMarks.f k t572 t582).bind fun t588 => (if t588 = true then ((fairwaylaw12_num.f bt585.2).bind fun t589 => (if t589 = 0 then (fairwaylaw12_IndexMarks.j0 k t582 (!bt585.1) a0_0 l0_1 l0_2 l0_3 a0_4) else (fairwaylaw12_IndexMarks.j0 k t582 true a0_0 l0_1 l0_2 l0_3 a0_4))) else (fairwaylaw12_IndexMarks.j0 k t582 true a0_0 l0_1 l0_2 l0_3 a0_4))) else (fairwaylaw12_IndexMarks.j0 k t582 true a0_0 l0_1 l0_2 l0_3 a0_4))))) else ((index_Check.f k a0_0 l0_1 ([] : List (S77))).bind fun bt577 => ((fairwaylaw12_num.f t575).bind fun t579 => (if t579 = 1 then ((fairwaylaw12_num.f bt577.2).bind fun t580 => (if t580 = 1 then (if (t572.length : Int) = 0 then ((fairwaylaw12_wakes.f k).bind fun t581 => (some t581)) else (some false)) else (some false))) else (some false))))) = some r := H
  have A8 := Aside0.mk A80
  clear A80
  by_cases c9 : t576 = true
  ·subst c9
   have H1 : ((fairwayref10_Marks.f k a0_0 l0_1).bind fun t582 => ((index_Check.f k a0_0 l0_1 t582).bind fun bt585 => ((fairwaylaw12_num.f t575).bind fun t587 => (if t587 = 0 then ((fairwayref0_EqMarks.f k t572 t582).bind fun t588 => (if t588 = true then ((fairwaylaw12_num.f bt585.2).bind fun t589 => (if t589 = 0 then (fairwaylaw12_IndexMarks.j0 k t582 (!bt585.1) a0_0 l0_1 l0_2 l0_3 a0_4) else (fairwaylaw12_IndexMarks.j0 k t582 true a0_0 l0_1 l0_2 l0_3 a0_4))) else (fairwaylaw12_IndexMarks.j0 k t582 true a0_0 l0_1 l0_2 l0_3 a0_4))) else (fairwaylaw12_IndexMarks.j0 k t582 true a0_0 l0_1 l0_2 l0_3 a0_4))))) = some r := by rw [if_pos rfl] at H; exact H
   clear H
   have H := H1
   clear H1
   replace H := Option.bind_eq_some_iff.mp H
   obtain ⟨t582, A100, H⟩ := H
   replace H : ((index_Check.f k a0_0 l0_1 t582).bind fun bt585 => ((fairwaylaw12_num.f t575).bind fun t587 => (if t587 = 0 then ((fairwayref0_EqMarks.f k t572 t582).bind fun t588 => (if t588 = true then ((fairwaylaw12_num.f bt585.2).bind fun t589 => (if t589 = 0 then (fairwaylaw12_IndexMarks.j0 k t582 (!bt585.1) a0_0 l0_1 l0_2 l0_3 a0_4) else (fairwaylaw12_IndexMarks.j0 k t582 true a0_0 l0_1 l0_2 l0_3 a0_4))) else (fairwaylaw12_IndexMarks.j0 k t582 true a0_0 l0_1 l0_2 l0_3 a0_4))) else (fairwaylaw12_IndexMarks.j0 k t582 true a0_0 l0_1 l0_2 l0_3 a0_4)))) = some r := H
   have A10 := Aside0.mk A100
   clear A100
   replace H := Option.bind_eq_some_iff.mp H
   obtain ⟨⟨t585, t586⟩, A110, H⟩ := H
   replace H : ((fairwaylaw12_num.f t575).bind fun t587 => (if t587 = 0 then ((fairwayref0_EqMarks.f k t572 t582).bind fun t588 => (if t588 = true then ((fairwaylaw12_num.f t586).bind fun t589 => (if t589 = 0 then (fairwaylaw12_IndexMarks.j0 k t582 (!t585) a0_0 l0_1 l0_2 l0_3 a0_4) else (fairwaylaw12_IndexMarks.j0 k t582 true a0_0 l0_1 l0_2 l0_3 a0_4))) else (fairwaylaw12_IndexMarks.j0 k t582 true a0_0 l0_1 l0_2 l0_3 a0_4))) else (fairwaylaw12_IndexMarks.j0 k t582 true a0_0 l0_1 l0_2 l0_3 a0_4))) = some r := H
   have A11 := Aside0.mk A110
   clear A110
   have HC12 := Aside0.mk H
   clear H
   go_enter Try.func12, Try.ntmps12
   go_upto_region 9 with (first | ((with_reducible refine gate_dst (N := 1) rfl ?_); (try (refine gate_guard (by rfl) ?_; dsimp only)); refine box_event ?hg (N := 1) ?hd (cs := #[.int .i64 a0_0, .slice A0_1 l0_1.length c0_1, .slice A0_2 l0_2.length c0_2, .slice A0_3 l0_3.length c0_3, .string a0_4]) (t := 55) ?hr ?_; (case hd => rfl); (case hg => rfl); (case hr => first | (go_simp; done) | (go_simp; rfl)); intro gb570 hg w13 hbox hb; have n0_ := Aside0.mk (below_step bo hb); have n1_ := Aside0.mk (hbox); have n2_ := Aside0.mk ((by rw [hg]; exact (below_size bo) : w.heap.size ≤ gb570)); have n3_ := Aside0.mk ((by rw [hg]; exact (below_size bo) : w.heap.size ≤ gb570)); clear HB; have HB := n0_; have BK570 := n1_; have GW570 := n2_; have GE570 := n3_; clear n0_ n1_ n2_ n3_; clear hb hbox hg; obtain ⟨hcz14_0, hcz14_1, hcz14_2, hcz14_3, hcz14_4⟩ := cl5 BK570.out; obtain ⟨hfz14_0, hfz14_1, hfz14_2, hfz14_3, hfz14_4⟩ := fz5 BK570.out) | ((with_reducible refine gate_callee (f := 30) rfl ?_); refine goesL_ (some 17) rfl rfl Try.func30 (by kernel_rfl) rfl #[.agg #[.int .i64 a0_0, .slice A0_1 l0_1.length c0_1, .slice A0_2 l0_2.length c0_2, .slice A0_3 l0_3.length c0_3, .string a0_4]] rfl aa ?_; (with_reducible refine (fairwaylaw11_Heavy.calls k a0_0 _ _ l0_1 _ _ l0_2 _ _ l0_3 a0_4 false _ ?side1 ?side2 ?side3 ?side4 ?side5 ?side6 A2.out).mono ?_); (case side1 => repeat (first | exact (Kd.C_below HR0_1.out HB.out) | (with_reducible refine Kd.C_alloc ?_ _) | (with_reducible refine Kd.C_drewN ?_ _) | (with_reducible refine Kd.C_drew ?_))); (case side2 => exact HC0_1.out); (case side3 => repeat (first | exact (Kd.C_below HR0_2.out HB.out) | (with_reducible refine Kd.C_alloc ?_ _) | (with_reducible refine Kd.C_drewN ?_ _) | (with_reducible refine Kd.C_drew ?_))); (case side4 => exact HC0_2.out); (case side5 => repeat (first | exact (Kd.C_below HR0_3.out HB.out) | (with_reducible refine Kd.C_alloc ?_ _) | (with_reducible refine Kd.C_drewN ?_ _) | (with_reducible refine Kd.C_drew ?_))); (case side6 => exact HC0_3.out); rintro e w15 ⟨rfl, hb⟩; refine ⟨_, rfl, ?_⟩; replace BK570 := Aside0.mk (blk_below (g := gb570) (o := .cells #[.int .i64 a0_0, .slice A0_1 l0_1.length c0_1, .slice A0_2 l0_2.length c0_2, .slice A0_3 l0_3.length c0_3, .string a0_4] 55 (0, 0)) (bk BK570.out) hb); replace HB := Aside0.mk (below_step bo hb); (try clear hb); (try clear hb2); (try clear hk); (try clear hi); obtain ⟨hcz16_0, hcz16_1, hcz16_2, hcz16_3, hcz16_4⟩ := cl5 BK570.out; obtain ⟨hfz16_0, hfz16_1, hfz16_2, hfz16_3, hfz16_4⟩ := fz5 BK570.out) | ((with_reducible refine gate_callee (f := 54) rfl ?_); refine goesL_ (some 21) rfl rfl Try.func54 (by kernel_rfl) rfl #[.agg #[.int .i64 a0_0, .slice A0_1 l0_1.length c0_1]] rfl aa ?_; (with_reducible refine (index_Marks.calls k a0_0 _ _ l0_1 t572 t575 _ ?side1 ?side2 A7.out).mono ?_); (case side1 => repeat (first | exact (Kd.C_below HR0_1.out HB.out) | (with_reducible refine Kd.C_alloc ?_ _) | (with_reducible refine Kd.C_drewN ?_ _) | (with_reducible refine Kd.C_drew ?_))); (case side2 => exact HC0_1.out); rintro e w17 ⟨v573, rfl, ho0, hb⟩; refine ⟨_, rfl, ?_⟩; have HO574 := Aside0.mk (Kd.R_lower ho0 (below_size bo)); replace BK570 := Aside0.mk (blk_below (g := gb570) (o := .cells #[.int .i64 a0_0, .slice A0_1 l0_1.length c0_1, .slice A0_2 l0_2.length c0_2, .slice A0_3 l0_3.length c0_3, .string a0_4] 55 (0, 0)) (bk BK570.out) hb); replace HB := Aside0.mk (below_step bo hb); (try clear hb); (try clear hb2); (try clear hk); (try clear hi); (try clear ho0); obtain ⟨hcz18_0, hcz18_1, hcz18_2, hcz18_3, hcz18_4⟩ := cl5 BK570.out; obtain ⟨hfz18_0, hfz18_1, hfz18_2, hfz18_3, hfz18_4⟩ := fz5 BK570.out) | ((with_reducible refine gate_callee (f := 31) rfl ?_); refine goesL_ (some 26) rfl rfl Try.func31 (by kernel_rfl) rfl #[.agg #[.int .i64 a0_0, .slice A0_1 l0_1.length c0_1]] rfl aa ?_; (with_reducible refine (fairwayref10_Seg.calls k a0_0 _ _ l0_1 true _ ?side1 ?side2 A8.out).mono ?_); (case side1 => repeat (first | exact (Kd.C_below HR0_1.out HB.out) | (with_reducible refine Kd.C_alloc ?_ _) | (with_reducible refine Kd.C_drewN ?_ _) | (with_reducible refine Kd.C_drew ?_))); (case side2 => exact HC0_1.out); rintro e w19 ⟨rfl, hb⟩; refine ⟨_, rfl, ?_⟩; replace HO574 := Aside0.mk (Kd.R_below (rk HO574.out) hb); replace BK570 := Aside0.mk (blk_below (g := gb570) (o := .cells #[.int .i64 a0_0, .slice A0_1 l0_1.length c0_1, .slice A0_2 l0_2.length c0_2, .slice A0_3 l0_3.length c0_3, .string a0_4] 55 (0, 0)) (bk BK570.out) hb); replace HB := Aside0.mk (below_step bo hb); (try clear hb); (try clear hb2); (try clear hk); (try clear hi); obtain ⟨hcz20_0, hcz20_1, hcz20_2, hcz20_3, hcz20_4⟩ := cl5 BK570.out; obtain ⟨hfz20_0, hfz20_1, hfz20_2, hfz20_3, hfz20_4⟩ := fz5 BK570.out) | ((with_reducible refine gate_callee (f := 56) rfl ?_); refine goesL_ (some 52) rfl rfl Try.func56 (by kernel_rfl) rfl #[.agg #[.int .i64 a0_0, .slice A0_1 l0_1.length c0_1]] rfl aa ?_; (with_reducible refine (fairwayref10_Marks.calls k a0_0 _ _ l0_1 t582 _ ?side1 ?side2 A10.out).mono ?_); (case side1 => repeat (first | exact (Kd.C_below HR0_1.out HB.out) | (with_reducible refine Kd.C_alloc ?_ _) | (with_reducible refine Kd.C_drewN ?_ _) | (with_reducible refine Kd.C_drew ?_))); (case side2 => exact HC0_1.out); rintro e w21 ⟨v583, rfl, ho0, hb⟩; refine ⟨_, rfl, ?_⟩; have n0_ := Aside0.mk (Kd.R_elder' (rk HO574.out) (Kd.R_base ho0) hb); have n1_ := Aside0.mk (Kd.R_lower (Kd.R_new' ho0 (Kd.R_lt (rk HO574.out))) (below_size bo)); have n2_ := Aside0.mk (blk_below (g := gb570) (o := .cells #[.int .i64 a0_0, .slice A0_1 l0_1.length c0_1, .slice A0_2 l0_2.length c0_2, .slice A0_3 l0_3.length c0_3, .string a0_4] 55 (0, 0)) (bk BK570.out) hb); have n3_ := Aside0.mk (below_step bo hb); clear HO574; clear BK570; clear HB; have HO574 := n0_; have HO584 := n1_; have BK570 := n2_; have HB := n3_; clear n0_ n1_ n2_ n3_; (try clear hb); (try clear hb2); (try clear hk); (try clear hi); (try clear ho0); obtain ⟨hcz22_0, hcz22_1, hcz22_2, hcz22_3, hcz22_4⟩ := cl5 BK570.out; obtain ⟨hfz22_0, hfz22_1, hfz22_2, hfz22_3, hfz22_4⟩ := fz5 BK570.out; obtain ⟨Ao23, co23, eo23⟩ := Kd.R_slice HO584.out; subst eo23) | ((with_reducible refine gate_callee (f := 55) rfl ?_); refine goesL_ (some 57) rfl rfl Try.func55 (by kernel_rfl) rfl #[.agg #[.int .i64 a0_0, .slice A0_1 l0_1.length c0_1], .slice Ao23 t582.length co23] rfl aa ?_; (with_reducible refine (index_Check.calls k a0_0 _ _ l0_1 _ _ t582 t585 t586 _ ?side1 ?side2 ?side3 ?side4 A11.out).mono ?_); (case side1 => repeat (first | exact (Kd.C_below HR0_1.out HB.out) | (with_reducible refine Kd.C_alloc ?_ _) | (with_reducible refine Kd.C_drewN ?_ _) | (with_reducible refine Kd.C_drew ?_))); (case side2 => exact HC0_1.out); (case side3 => repeat (first | exact (Kd.R_reads' HO584.out).2.2 | (with_reducible refine Kd.C_alloc ?_ _) | (with_reducible refine Kd.C_drewN ?_ _) | (with_reducible refine Kd.C_drew ?_))); (case side4 => exact (Kd.R_reads' HO584.out).2.1); rintro e w24 ⟨rfl, hb⟩; refine ⟨_, rfl, ?_⟩; replace HO574 := Aside0.mk (Kd.R_below (rk HO574.out) hb); replace HO584 := Aside0.mk (Kd.R_below (rk HO584.out) hb); replace BK570 := Aside0.mk (blk_below (g := gb570) (o := .cells #[.int .i64 a0_0, .slice A0_1 l0_1.length c0_1, .slice A0_2 l0_2.length c0_2, .slice A0_3 l0_3.length c0_3, .string a0_4] 55 (0, 0)) (bk BK570.out) hb); replace HB := Aside0.mk (below_step bo hb); (try clear hb); (try clear hb2); (try clear hk); (try clear hi)))
   (try simp only [Act.put, List.setIfInBounds_toArray, List.set_cons_zero, List.set_cons_succ])
   go_cut [77] (fun v77 wc => ∃ (kq : Nat) (x77_11 : Bool), v77 = .bool x77_11 ∧ Aside0 (fairwaylaw12_IndexMarks.j0 kq t582 x77_11 a0_0 l0_1 l0_2 l0_3 a0_4 = some r) ∧ Aside0 (kq ≤ k) ∧ Aside0 (Kd.R k77 77 wc w.heap.size (fun _ => True) (.slice Ao23 t582.length co23) t582) ∧ Aside0 (wc.heap[gb570]? = some (.cells #[.int .i64 a0_0, (.slice A0_1 l0_1.length c0_1), (.slice A0_2 l0_2.length c0_2), (.slice A0_3 l0_3.length c0_3), .string a0_4] 55 (0, 0))) ∧ Aside0 (Below w.heap.size w wc))
   case first =>
    have H := HC12.out
    clear HC12
    replace H := Option.bind_eq_some_iff.mp H
    obtain ⟨t587, A250, H⟩ := H
    replace H : (if t587 = 0 then ((fairwayref0_EqMarks.f k t572 t582).bind fun t588 => (if t588 = true then ((fairwaylaw12_num.f t586).bind fun t589 => (if t589 = 0 then (fairwaylaw12_IndexMarks.j0 k t582 (!t585) a0_0 l0_1 l0_2 l0_3 a0_4) else (fairwaylaw12_IndexMarks.j0 k t582 true a0_0 l0_1 l0_2 l0_3 a0_4))) else (fairwaylaw12_IndexMarks.j0 k t582 true a0_0 l0_1 l0_2 l0_3 a0_4))) else (fairwaylaw12_IndexMarks.j0 k t582 true a0_0 l0_1 l0_2 l0_3 a0_4)) = some r := H
    have A25 := Aside0.mk A250
    clear A250
    by_cases c26 : t587 = 0
    ·rw [if_pos c26] at H
     have c26b0 : (t587 == 0) = true := beq_iff_eq.mpr c26
     have c26b1 : (t587 != 0) = false := bne_eq_false_iff_eq.mpr c26
     clear c26
     (first | rw [c26b0] | (simp only [i64_w, i32_w]; rw [c26b0]) | skip)
     replace H := Option.bind_eq_some_iff.mp H
     obtain ⟨t588, A270, H⟩ := H
     replace H : (if t588 = true then ((fairwaylaw12_num.f t586).bind fun t589 => (if t589 = 0 then (fairwaylaw12_IndexMarks.j0 k t582 (!t585) a0_0 l0_1 l0_2 l0_3 a0_4) else (fairwaylaw12_IndexMarks.j0 k t582 true a0_0 l0_1 l0_2 l0_3 a0_4))) else (fairwaylaw12_IndexMarks.j0 k t582 true a0_0 l0_1 l0_2 l0_3 a0_4)) = some r := H
     have A27 := Aside0.mk A270
     clear A270
     by_cases c28 : t588 = true
     ·subst c28
      have H1 : ((fairwaylaw12_num.f t586).bind fun t589 => (if t589 = 0 then (fairwaylaw12_IndexMarks.j0 k t582 (!t585) a0_0 l0_1 l0_2 l0_3 a0_4) else (fairwaylaw12_IndexMarks.j0 k t582 true a0_0 l0_1 l0_2 l0_3 a0_4))) = some r := by rw [if_pos rfl] at H; exact H
      clear H
      have H := H1
      clear H1
      replace H := Option.bind_eq_some_iff.mp H
      obtain ⟨t589, A290, H⟩ := H
      replace H : (if t589 = 0 then (fairwaylaw12_IndexMarks.j0 k t582 (!t585) a0_0 l0_1 l0_2 l0_3 a0_4) else (fairwaylaw12_IndexMarks.j0 k t582 true a0_0 l0_1 l0_2 l0_3 a0_4)) = some r := H
      have A29 := Aside0.mk A290
      clear A290
      by_cases c30 : t589 = 0
      ·rw [if_pos c30] at H
       have c30b0 : (t589 == 0) = true := beq_iff_eq.mpr c30
       have c30b1 : (t589 != 0) = false := bne_eq_false_iff_eq.mpr c30
       clear c30
       have H' := Aside0.mk H
       clear H
       go_wp2_with (first | ((with_reducible refine gate_callee (f := 52) rfl ?_); refine goesL_ (some 61) rfl rfl Try.func52 (by kernel_rfl) rfl #[.int .i64 t575] rfl aa ?_; (with_reducible refine (fairwaylaw12_num.calls t575 t587 _ A25.out).mono ?_); rintro e w' ⟨rfl, ⟨nd, rfl⟩⟩; refine ⟨_, rfl, ?_⟩; obtain ⟨Ao31, co31, eo31⟩ := Kd.R_slice HO574.out; subst eo31) | (go_at_call 57; (with_reducible refine (fairwayref0_EqMarks.calls k _ _ t572 _ _ t582 true _ ?side1 ?side2 ?side3 ?side4 A27.out).mono ?_); (case side1 => repeat (first | exact (Kd.R_reads' HO574.out).2.2 | (with_reducible refine Kd.C_alloc ?_ _) | (with_reducible refine Kd.C_drewN ?_ _) | (with_reducible refine Kd.C_drew ?_))); (case side2 => exact (Kd.R_reads' HO574.out).2.1); (case side3 => repeat (first | exact (Kd.R_reads' HO584.out).2.2 | (with_reducible refine Kd.C_alloc ?_ _) | (with_reducible refine Kd.C_drewN ?_ _) | (with_reducible refine Kd.C_drew ?_))); (case side4 => exact (Kd.R_reads' HO584.out).2.1); rintro e w' ⟨rfl, ⟨nd, rfl⟩⟩) | (go_at_call 52; (with_reducible refine (fairwaylaw12_num.calls t586 t589 _ A29.out).mono ?_); rintro e w' ⟨rfl, ⟨nd, rfl⟩⟩))
       go_meet
       case rel => exact ⟨_, (!t585), ap, H', ⟨by first | omega | exact Nat.le_refl _⟩, ⟨by (with_reducible repeat (first | apply Kd.R_alloc | apply Kd.R_drewN | apply Kd.R_drew)); exact Kd.R_mono HO584.out (fun _ hk => trivial)⟩, ⟨by (with_reducible repeat (first | refine blk_drewN ?_ _ | refine blk_drew ?_ | refine blk_alloc ?_ _)); exact BK570.out⟩, ⟨bo⟩⟩
      ·rw [if_neg c30] at H
       have c30b0 : (t589 == 0) = false := beq_eq_false_iff_ne.mpr c30
       have c30b1 : (t589 != 0) = true := bne_iff_ne.mpr c30
       have H' := Aside0.mk H
       clear H
       go_wp2_with (first | ((with_reducible refine gate_callee (f := 52) rfl ?_); refine goesL_ (some 61) rfl rfl Try.func52 (by kernel_rfl) rfl #[.int .i64 t575] rfl aa ?_; (with_reducible refine (fairwaylaw12_num.calls t575 t587 _ A25.out).mono ?_); rintro e w' ⟨rfl, ⟨nd, rfl⟩⟩; refine ⟨_, rfl, ?_⟩; obtain ⟨Ao32, co32, eo32⟩ := Kd.R_slice HO574.out; subst eo32) | (go_at_call 57; (with_reducible refine (fairwayref0_EqMarks.calls k _ _ t572 _ _ t582 true _ ?side1 ?side2 ?side3 ?side4 A27.out).mono ?_); (case side1 => repeat (first | exact (Kd.R_reads' HO574.out).2.2 | (with_reducible refine Kd.C_alloc ?_ _) | (with_reducible refine Kd.C_drewN ?_ _) | (with_reducible refine Kd.C_drew ?_))); (case side2 => exact (Kd.R_reads' HO574.out).2.1); (case side3 => repeat (first | exact (Kd.R_reads' HO584.out).2.2 | (with_reducible refine Kd.C_alloc ?_ _) | (with_reducible refine Kd.C_drewN ?_ _) | (with_reducible refine Kd.C_drew ?_))); (case side4 => exact (Kd.R_reads' HO584.out).2.1); rintro e w' ⟨rfl, ⟨nd, rfl⟩⟩) | (go_at_call 52; (with_reducible refine (fairwaylaw12_num.calls t586 t589 _ A29.out).mono ?_); rintro e w' ⟨rfl, ⟨nd, rfl⟩⟩))
       go_meet
       case rel => exact ⟨_, (true), ap, H', ⟨by first | omega | exact Nat.le_refl _⟩, ⟨by (with_reducible repeat (first | apply Kd.R_alloc | apply Kd.R_drewN | apply Kd.R_drew)); exact Kd.R_mono HO584.out (fun _ hk => trivial)⟩, ⟨by (with_reducible repeat (first | refine blk_drewN ?_ _ | refine blk_drew ?_ | refine blk_alloc ?_ _)); exact BK570.out⟩, ⟨bo⟩⟩
     ·replace c28 := Bool.eq_false_iff.mpr c28
      subst c28
      have H1 : (fairwaylaw12_IndexMarks.j0 k t582 true a0_0 l0_1 l0_2 l0_3 a0_4) = some r := by rw [if_neg (show ¬ (false = true) by decide)] at H; exact H
      clear H
      have H := H1
      clear H1
      have H' := Aside0.mk H
      clear H
      go_wp2_with (first | ((with_reducible refine gate_callee (f := 52) rfl ?_); refine goesL_ (some 61) rfl rfl Try.func52 (by kernel_rfl) rfl #[.int .i64 t575] rfl aa ?_; (with_reducible refine (fairwaylaw12_num.calls t575 t587 _ A25.out).mono ?_); rintro e w' ⟨rfl, ⟨nd, rfl⟩⟩; refine ⟨_, rfl, ?_⟩; obtain ⟨Ao33, co33, eo33⟩ := Kd.R_slice HO574.out; subst eo33) | (go_at_call 57; (with_reducible refine (fairwayref0_EqMarks.calls k _ _ t572 _ _ t582 false _ ?side1 ?side2 ?side3 ?side4 A27.out).mono ?_); (case side1 => repeat (first | exact (Kd.R_reads' HO574.out).2.2 | (with_reducible refine Kd.C_alloc ?_ _) | (with_reducible refine Kd.C_drewN ?_ _) | (with_reducible refine Kd.C_drew ?_))); (case side2 => exact (Kd.R_reads' HO574.out).2.1); (case side3 => repeat (first | exact (Kd.R_reads' HO584.out).2.2 | (with_reducible refine Kd.C_alloc ?_ _) | (with_reducible refine Kd.C_drewN ?_ _) | (with_reducible refine Kd.C_drew ?_))); (case side4 => exact (Kd.R_reads' HO584.out).2.1); rintro e w' ⟨rfl, ⟨nd, rfl⟩⟩))
      go_meet
      case rel => exact ⟨_, (true), ap, H', ⟨by first | omega | exact Nat.le_refl _⟩, ⟨by (with_reducible repeat (first | apply Kd.R_alloc | apply Kd.R_drewN | apply Kd.R_drew)); exact Kd.R_mono HO584.out (fun _ hk => trivial)⟩, ⟨by (with_reducible repeat (first | refine blk_drewN ?_ _ | refine blk_drew ?_ | refine blk_alloc ?_ _)); exact BK570.out⟩, ⟨bo⟩⟩
    ·rw [if_neg c26] at H
     have c26b0 : (t587 == 0) = false := beq_eq_false_iff_ne.mpr c26
     have c26b1 : (t587 != 0) = true := bne_iff_ne.mpr c26
     (first | rw [c26b0] | (simp only [i64_w, i32_w]; rw [c26b0]) | skip)
     have H' := Aside0.mk H
     clear H
     go_wp2_with (first | ((with_reducible refine gate_callee (f := 52) rfl ?_); refine goesL_ (some 61) rfl rfl Try.func52 (by kernel_rfl) rfl #[.int .i64 t575] rfl aa ?_; (with_reducible refine (fairwaylaw12_num.calls t575 t587 _ A25.out).mono ?_); rintro e w' ⟨rfl, ⟨nd, rfl⟩⟩; refine ⟨_, rfl, ?_⟩))
     go_meet
     case rel => exact ⟨_, (true), ap, H', ⟨by first | omega | exact Nat.le_refl _⟩, ⟨by (with_reducible repeat (first | apply Kd.R_alloc | apply Kd.R_drewN | apply Kd.R_drew)); exact Kd.R_mono HO584.out (fun _ hk => trivial)⟩, ⟨by (with_reducible repeat (first | refine blk_drewN ?_ _ | refine blk_drew ?_ | refine blk_alloc ?_ _)); exact BK570.out⟩, ⟨bo⟩⟩
   case rest =>
    clear HC12
    try clear c1
    try clear c2
    try clear p2
    try clear c3
    try clear c5
    try clear c9
    try clear c12
    try clear c26
    try clear c26b0
    try clear c26b1
    try clear c28
    try clear c30
    try clear c30b0
    try clear c30b1
    try clear c31
    try clear hcz14_0
    try clear hcz14_1
    try clear hcz14_2
    try clear hcz14_3
    try clear hcz14_4
    try clear hcz16_0
    try clear hcz16_1
    try clear hcz16_2
    try clear hcz16_3
    try clear hcz16_4
    try clear hcz18_0
    try clear hcz18_1
    try clear hcz18_2
    try clear hcz18_3
    try clear hcz18_4
    try clear hcz20_0
    try clear hcz20_1
    try clear hcz20_2
    try clear hcz20_3
    try clear hcz20_4
    try clear hcz22_0
    try clear hcz22_1
    try clear hcz22_2
    try clear hcz22_3
    try clear hcz22_4
    try clear hcz5_0
    try clear hcz5_1
    try clear hcz5_2
    try clear hcz5_3
    try clear hcz5_4
    try clear hfz14_0
    try clear hfz14_1
    try clear hfz14_2
    try clear hfz14_3
    try clear hfz14_4
    try clear hfz16_0
    try clear hfz16_1
    try clear hfz16_2
    try clear hfz16_3
    try clear hfz16_4
    try clear hfz18_0
    try clear hfz18_1
    try clear hfz18_2
    try clear hfz18_3
    try clear hfz18_4
    try clear hfz20_0
    try clear hfz20_1
    try clear hfz20_2
    try clear hfz20_3
    try clear hfz20_4
    try clear hfz22_0
    try clear hfz22_1
    try clear hfz22_2
    try clear hfz22_3
    try clear hfz22_4
    try clear hfz5_0
    try clear hfz5_1
    try clear hfz5_2
    try clear hfz5_3
    try clear hfz5_4
    obtain ⟨kq, x77_11, rfl, HA, HJ11, HO_7, BK570, HB⟩ := hcut
    cases kq with
    | zero => exact absurd HA.out (by simp [fairwaylaw12_IndexMarks.j0])
    | succ kj11 =>
     have H := HA.out
     clear HA
     simp only [fairwaylaw12_IndexMarks.j0] at H
     by_cases c34 : x77_11 = true
     ·subst c34
      have H1 : (some false) = some r := by rw [if_pos rfl] at H; exact H
      clear H
      have H := H1
      clear H1
      obtain rfl := Option.some.inj H
      go_wp2
      go_ret
      exact ⟨er, bo⟩
     ·replace c34 := Bool.eq_false_iff.mpr c34
      subst c34
      have H1 : (fairwaylaw12_IndexMarks.l0 kj11 t582 0 a0_0 l0_1 l0_2 l0_3 a0_4) = some r := by rw [if_neg (show ¬ (false = true) by decide)] at H; exact H
      clear H
      have H := H1
      clear H1
      have H' := Aside0.mk H
      clear H
      go_wp2
      go_loopg [10] kj11 (fun kq v10 w' => ∃ (x7_2 : List (S77)) (x10_2 : Int), v10 = .int .i64 x10_2 ∧ Aside0 (fairwaylaw12_IndexMarks.l0 kq x7_2 x10_2 a0_0 l0_1 l0_2 l0_3 a0_4 = some r) ∧ Aside0 (kq ≤ kj11) ∧ Aside0 (Kd.R k77 77 w' w.heap.size (fun _ => True) (.slice Ao23 t582.length co23) x7_2) ∧ Aside0 (w'.heap[gb570]? = some (.cells #[.int .i64 a0_0, (.slice A0_1 l0_1.length c0_1), (.slice A0_2 l0_2.length c0_2), (.slice A0_3 l0_3.length c0_3), .string a0_4] 55 (0, 0))) ∧ Aside0 (Below w.heap.size w w'))
      case atStart => exact ⟨(t582), (0), ap, H', ⟨Nat.le_refl _⟩, ⟨by (with_reducible repeat (first | apply Kd.R_alloc | apply Kd.R_drewN | apply Kd.R_drew)); exact HO_7.out⟩, ⟨by (with_reducible repeat (first | refine blk_drewN ?_ _ | refine blk_drew ?_ | refine blk_alloc ?_ _)); exact BK570.out⟩, ⟨bo⟩⟩
      case round =>
       clear H'
       try clear c1
       try clear c2
       try clear p2
       try clear c3
       try clear c5
       try clear c9
       try clear c12
       try clear c26
       try clear c26b0
       try clear c26b1
       try clear c28
       try clear c30
       try clear c30b0
       try clear c30b1
       try clear c31
       try clear c34
       try clear hcz14_0
       try clear hcz14_1
       try clear hcz14_2
       try clear hcz14_3
       try clear hcz14_4
       try clear hcz16_0
       try clear hcz16_1
       try clear hcz16_2
       try clear hcz16_3
       try clear hcz16_4
       try clear hcz18_0
       try clear hcz18_1
       try clear hcz18_2
       try clear hcz18_3
       try clear hcz18_4
       try clear hcz20_0
       try clear hcz20_1
       try clear hcz20_2
       try clear hcz20_3
       try clear hcz20_4
       try clear hcz22_0
       try clear hcz22_1
       try clear hcz22_2
       try clear hcz22_3
       try clear hcz22_4
       try clear hcz5_0
       try clear hcz5_1
       try clear hcz5_2
       try clear hcz5_3
       try clear hcz5_4
       try clear hfz14_0
       try clear hfz14_1
       try clear hfz14_2
       try clear hfz14_3
       try clear hfz14_4
       try clear hfz16_0
       try clear hfz16_1
       try clear hfz16_2
       try clear hfz16_3
       try clear hfz16_4
       try clear hfz18_0
       try clear hfz18_1
       try clear hfz18_2
       try clear hfz18_3
       try clear hfz18_4
       try clear hfz20_0
       try clear hfz20_1
       try clear hfz20_2
       try clear hfz20_3
       try clear hfz20_4
       try clear hfz22_0
       try clear hfz22_1
       try clear hfz22_2
       try clear hfz22_3
       try clear hfz22_4
       try clear hfz5_0
       try clear hfz5_1
       try clear hfz5_2
       try clear hfz5_3
       try clear hfz5_4
       try clear p2
       obtain ⟨x7_2, x10_2, rfl, HA, HK2, HO_7, BK570, HB⟩ := hrel
       have hl7_2 := (Kd.R_reads' HO_7.out).1
       rw [hl7_2] at HO_7
       (try simp only [hl7_2])
       (try simp only [hl7_2] at BK570)
       cases gk with
       | zero => exact absurd HA.out (by simp [fairwaylaw12_IndexMarks.l0])
       | succ k2 =>
        have H := HA.out
        clear HA
        simp only [fairwaylaw12_IndexMarks.l0] at H
        by_cases c35 : x10_2 < (x7_2.length : Int)
        ·rw [if_pos c35] at H
         have c35b0 : decide (x10_2 < (x7_2.length : Int)) = true := decide_eq_true c35
         (try (have c35z0hl7_2 := c35b0; rw [hl7_2] at c35z0hl7_2))
         clear c35
         replace H := Option.bind_eq_some_iff.mp H
         obtain ⟨t591, A360, H⟩ := H
         replace H : (if 0 ≤ x10_2 then (if x10_2 < (t591.length : Int) then (if x10_2 ≤ (x7_2.length : Int) then ((index_Check.f k2 a0_0 l0_1 (x7_2.take (x10_2 : Int).toNat)).bind fun bt600 => ((index_Check.f k2 a0_0 l0_1 (t591.set (x10_2 : Int).toNat (⟨(rd_T77 t591 x10_2).f0, wrap64 (((rd_T77 t591 x10_2).f1) + 1)⟩ : S77))).bind fun bt602 => ((fairwaylaw12_num.f bt600.2).bind fun t604 => (if t604 = 0 then (if bt600.1 = true then (some false) else ((fairwaylaw12_num.f bt602.2).bind fun t605 => (if t605 = 0 then (if bt602.1 = true then (some false) else (fairwaylaw12_IndexMarks.l0 k2 x7_2 (wrap64 (x10_2 + 1)) a0_0 l0_1 l0_2 l0_3 a0_4)) else (some false)))) else (some false))))) else (none)) else (none)) else (none)) = some r := H
         have A36 := Aside0.mk A360
         clear A360
         by_cases c37 : 0 ≤ x10_2
         ·rw [if_pos c37] at H
          have c37b0 : decide (0 ≤ x10_2) = true := decide_eq_true c37
          clear c37
          by_cases c38 : x10_2 < (t591.length : Int)
          ·rw [if_pos c38] at H
           have c38b0 : decide (x10_2 < (t591.length : Int)) = true := decide_eq_true c38
           (try (have c38z0hl7_2 := c38b0; rw [hl7_2] at c38z0hl7_2))
           clear c38
           obtain ⟨y595, hy595⟩ : ∃ y_ : List (S77), y_ = (t591.set (x10_2 : Int).toNat (⟨(rd_T77 t591 x10_2).f0, wrap64 (((rd_T77 t591 x10_2).f1) + 1)⟩ : S77)) := ⟨_, rfl⟩
           replace H : (if x10_2 ≤ (x7_2.length : Int) then ((index_Check.f k2 a0_0 l0_1 (x7_2.take (x10_2 : Int).toNat)).bind fun bt600 => ((index_Check.f k2 a0_0 l0_1 y595).bind fun bt602 => ((fairwaylaw12_num.f bt600.2).bind fun t604 => (if t604 = 0 then (if bt600.1 = true then (some false) else ((fairwaylaw12_num.f bt602.2).bind fun t605 => (if t605 = 0 then (if bt602.1 = true then (some false) else (fairwaylaw12_IndexMarks.l0 k2 x7_2 (wrap64 (x10_2 + 1)) a0_0 l0_1 l0_2 l0_3 a0_4)) else (some false)))) else (some false))))) else (none)) = some r := by first | (rw [hy595]; with_reducible exact H) | (have H2_ := (Option.bind_some _ _).symm.trans H; rw [hy595]; with_reducible exact H2_) | (have H2_ := (Option.bind_some _ _).symm.trans H; with_reducible exact H2_) | with_reducible exact H | (rw [hy595]; exact H) | exact H
           have Ny595 := Aside0.mk hy595
           clear hy595
           have c40b0 := eq_true (od : 0 ≤ x10_2)
           by_cases c41 : x10_2 ≤ (x7_2.length : Int)
           ·rw [if_pos c41] at H
            have c41b0 := eq_true c41
            have c41b1 : decide (x10_2 ≤ (x7_2.length : Int)) = true := decide_eq_true c41
            clear c41
            obtain ⟨y596, hy596⟩ : ∃ y_ : List (S77), y_ = (x7_2.take (x10_2 : Int).toNat) := ⟨_, rfl⟩
            replace H : ((index_Check.f k2 a0_0 l0_1 y596).bind fun bt600 => ((index_Check.f k2 a0_0 l0_1 y595).bind fun bt602 => ((fairwaylaw12_num.f bt600.2).bind fun t604 => (if t604 = 0 then (if bt600.1 = true then (some false) else ((fairwaylaw12_num.f bt602.2).bind fun t605 => (if t605 = 0 then (if bt602.1 = true then (some false) else (fairwaylaw12_IndexMarks.l0 k2 x7_2 (wrap64 (x10_2 + 1)) a0_0 l0_1 l0_2 l0_3 a0_4)) else (some false)))) else (some false))))) = some r := by first | (rw [hy596]; with_reducible exact H) | (have H2_ := (Option.bind_some _ _).symm.trans H; rw [hy596]; with_reducible exact H2_) | (have H2_ := (Option.bind_some _ _).symm.trans H; with_reducible exact H2_) | with_reducible exact H | (rw [hy596]; exact H) | exact H
            have Ny596 := Aside0.mk hy596
            clear hy596
            replace H := Option.bind_eq_some_iff.mp H
            obtain ⟨⟨t600, t601⟩, A420, H⟩ := H
            replace H : ((index_Check.f k2 a0_0 l0_1 y595).bind fun bt602 => ((fairwaylaw12_num.f t601).bind fun t604 => (if t604 = 0 then (if t600 = true then (some false) else ((fairwaylaw12_num.f bt602.2).bind fun t605 => (if t605 = 0 then (if bt602.1 = true then (some false) else (fairwaylaw12_IndexMarks.l0 k2 x7_2 (wrap64 (x10_2 + 1)) a0_0 l0_1 l0_2 l0_3 a0_4)) else (some false)))) else (some false)))) = some r := H
            have A42 := Aside0.mk A420
            clear A420
            replace H := Option.bind_eq_some_iff.mp H
            obtain ⟨⟨t602, t603⟩, A430, H⟩ := H
            replace H : ((fairwaylaw12_num.f t601).bind fun t604 => (if t604 = 0 then (if t600 = true then (some false) else ((fairwaylaw12_num.f t603).bind fun t605 => (if t605 = 0 then (if t602 = true then (some false) else (fairwaylaw12_IndexMarks.l0 k2 x7_2 (wrap64 (x10_2 + 1)) a0_0 l0_1 l0_2 l0_3 a0_4)) else (some false)))) else (some false))) = some r := H
            have A43 := Aside0.mk A430
            clear A430
            replace H := Option.bind_eq_some_iff.mp H
            obtain ⟨t604, A440, H⟩ := H
            replace H : (if t604 = 0 then (if t600 = true then (some false) else ((fairwaylaw12_num.f t603).bind fun t605 => (if t605 = 0 then (if t602 = true then (some false) else (fairwaylaw12_IndexMarks.l0 k2 x7_2 (wrap64 (x10_2 + 1)) a0_0 l0_1 l0_2 l0_3 a0_4)) else (some false)))) else (some false)) = some r := H
            have A44 := Aside0.mk A440
            clear A440
            by_cases c45 : t604 = 0
            ·rw [if_pos c45] at H
             have c45b0 : (t604 == 0) = true := beq_iff_eq.mpr c45
             have c45b1 : (t604 != 0) = false := bne_eq_false_iff_eq.mpr c45
             clear c45
             by_cases c46 : t600 = true
             ·subst c46
              have H1 : (some false) = some r := by rw [if_pos rfl] at H; exact H
              clear H
              have H := H1
              clear H1
              obtain rfl := Option.some.inj H
              try go_wp2_with (first | ((with_reducible refine gate_callee (f := 58) rfl ?_); refine goesL_ (some 85) rfl rfl Try.func58 (by kernel_rfl) rfl #[.slice Ao23 x7_2.length co23] rfl aa ?_; (with_reducible refine (fairwayref0_CopyMarks.calls k2 _ _ x7_2 t591 _ ?side1 ?side2 A36.out).mono ?_); (case side1 => repeat (first | exact (Kd.R_reads' HO_7.out).2.2 | (with_reducible refine Kd.C_alloc ?_ _) | (with_reducible refine Kd.C_drewN ?_ _) | (with_reducible refine Kd.C_drew ?_))); (case side2 => exact (Kd.R_reads' HO_7.out).2.1); rintro e w47 ⟨v592, rfl, ho0, hb⟩; refine ⟨_, rfl, ?_⟩; have n0_ := Aside0.mk (Kd.R_elder' (rk HO_7.out) (Kd.R_base ho0) hb); have n1_ := Aside0.mk (Kd.R_lower (Kd.R_new' ho0 (Kd.R_lt (rk HO_7.out))) (below_size bo)); have n2_ := Aside0.mk (blk_below (g := gb570) (o := .cells #[.int .i64 a0_0, .slice A0_1 l0_1.length c0_1, .slice A0_2 l0_2.length c0_2, .slice A0_3 l0_3.length c0_3, .string a0_4] 55 (0, 0)) (bk BK570.out) hb); have n3_ := Aside0.mk (below_step bo hb); clear HO_7; clear BK570; clear HB; have HO_7 := n0_; have HO593 := n1_; have BK570 := n2_; have HB := n3_; clear n0_ n1_ n2_ n3_; (try clear hb); (try clear hb2); (try clear hk); (try clear hi); (try clear ho0); obtain ⟨Ao48, co48, eo48⟩ := Kd.R_slice HO593.out; subst eo48; have p594 : 0 ≤ (x10_2 : Int) := od; have q594 : x10_2 < (t591.length : Int) := od; obtain ⟨ad594, e594, hx594_0, hx594_1⟩ := at_T77 (Kd.R_reads' HO593.out).2.2 x10_2 p594 q594; cases e594; replace p594 := eq_true p594; replace q594 := eq_true q594; have p39 : 0 ≤ (x10_2 : Int) := od; have q39 : (x10_2 : Int) < ((t591.length : Int) : Int) := od; obtain ⟨go39, co39, eo39, gb39, gl39, cl39, HG39⟩ := Kd.R_form HO593.out (by omega); (first | cases eo39 | (injection eo39 with ea_ en_ ec_; (first | subst ea_ | (injection ea_ with ea_; subst ea_)); subst ec_; clear en_)); have GB39 := Aside0.mk gb39; have GG39 := Aside0.mk HG39; clear gb39 gl39 HG39; (first | simp only [add_plain] at hx594_0 | skip); (first | simp only [add_plain] at hx594_1 | skip); obtain ⟨ce39, hcl39, hM39, hcc39, hfr39⟩ := Kd.R_elem HO593.out z77 (x10_2 : Int) p39 q39; obtain rfl := k77_openM hM39; have hx39_0 : w47.cell? ⟨go39, (x10_2 : Int).toNat * 2, none⟩ = some (.int .i64 ((rd_T77 t591 x10_2).f0)) := hcc39 0 _ rfl; have hx39_1 : w47.cell? ⟨go39, (x10_2 : Int).toNat * 2 + 1, none⟩ = some (.int .i64 ((rd_T77 t591 x10_2).f1)) := hcc39 1 _ rfl; have hf39_0 : w47.frozen? ⟨go39, (x10_2 : Int).toNat * 2, none⟩ = false := hfr39 0; have hf39_1 : w47.frozen? ⟨go39, (x10_2 : Int).toNat * 2 + 1, none⟩ = false := hfr39 1; clear hcl39 hcc39 hfr39 hM39; replace p39 := eq_true p39; replace q39 := eq_true q39; have n_ := Aside0.mk (Kd.R_mono (ok' := (fun k_ => some k_ ≠ (.slice Ao23 x7_2.length co23 : Value).ownBlock)) HO593.out (fun k_ hk => hk.2)); clear HO593; have HO593 := n_; clear n_; have HX49 := Aside0.mk (show Kd.R k77 77 w47 w.heap.size (fun k_ => some k_ ≠ (.slice Ao23 x7_2.length co23 : Value).ownBlock) (.slice (some ⟨go39, 0, none⟩) t591.length co48) t591 from (rk HO593.out)); obtain ⟨ce49, hcl49, hM49, hcc49, hfr49⟩ := Kd.R_elem HX49.out z77 (x10_2 : Int) (od) (by have h_ : (x10_2 : Int) < ((t591.length : Int) : Int) := od; first | exact h_ | (have e_ := (Kd.R_reads' HO593.out).1; omega) | simpa using h_); obtain rfl := k77_openM hM49; have HP49 := Kd.R_seg HX49.out (x10_2 : Int) (od) (by have h_ : (x10_2 : Int) < ((t591.length : Int) : Int) := od; first | exact h_ | (have e_ := (Kd.R_reads' HO593.out).1; omega) | simpa using h_) (seg := [.int .i64 (wrap64 (((rd_T77 t591 x10_2).f1) + 1))]) (j := 1) hcl49 hcc49 (show 2 ≤ 2 from by decide) (x' := (⟨(rd_T77 t591 x10_2).f0, wrap64 (((rd_T77 t591 x10_2).f1) + 1)⟩ : S77)) (k77_mkM _ _ _ (⟨(rd_T77 t591 x10_2).f0, wrap64 (((rd_T77 t591 x10_2).f1) + 1)⟩ : S77) ) (fun _ hk => hk); have hx49_1 := hcc49 1 _ rfl; (try simp only [show (k77).sz = 2 from rfl, Nat.mul_one, Nat.add_zero] at hx49_1); have hf49_1 := hfr49 1; (try simp only [show (k77).sz = 2 from rfl, Nat.mul_one, Nat.add_zero] at hf49_1); clear hcl49 hcc49 hfr49 hM49) | ((with_reducible refine gate_store (t := 3) (p := 93) rfl ?_); refine store_event (t := 3) (p := 93) (v := ?vo_w50) (w1 := (w47.setCell ⟨go39, (x10_2 : Int).toNat * 2 + 1, none⟩ (.int .i64 (wrap64 (((rd_T77 t591 x10_2).f1) + 1))))) ?hg ?ho ?hn ?hr ?_; (case ho => rfl); (case hg => rfl); (case hn => rfl); (case hr => first | (go_simp; done) | (go_simp; rfl)); intro w50 hw; have hg : w47.grownBy w50 (some go39) := (by rw [hw]; exact HP49.2); have hp_ : Kd.R k77 77 w50 w.heap.size (fun k_ => some k_ ≠ (.slice Ao23 x7_2.length co23 : Value).ownBlock) (.slice (some ⟨go39, 0, none⟩) t591.length co48) y595 := (by rw [hw, Ny595.out]; exact HP49.1); clear HP49; replace HO_7 := Aside0.mk (Kd.R_after (v := (.slice (some ⟨go39, 0, none⟩) t591.length co48)) (v1 := (.slice (some ⟨go39, 0, none⟩) t591.length co48)) (ok := (fun _ => True)) (rk HO_7.out) hg (.inl rfl)); replace BK570 := Aside0.mk (blk_grown (g := gb570) (o := .cells #[.int .i64 a0_0, .slice A0_1 l0_1.length c0_1, .slice A0_2 l0_2.length c0_2, .slice A0_3 l0_3.length c0_3, .string a0_4] 55 (0, 0)) (bk BK570.out) hg (Kd.R_ne HO593.out BK570.out (by decide))); replace HO593 := Aside0.mk (hp_); replace HB := Aside0.mk ((by rw [hw]; exact below_set (HB.out) GB39.out : Below w.heap.size w w50)); clear hg hw hp_))
              have n0_ := Aside0.mk (Kd.R_drew HO_7.out)
              have n1_ := Aside0.mk (Kd.R_drew HO593.out)
              have n2_ := Aside0.mk (blk_drew BK570.out)
              have n3_ := Aside0.mk (below_drew1 HB.out)
              clear HO_7
              clear HO593
              clear BK570
              clear HB
              have HO_7 := n0_
              have HO593 := n1_
              have BK570 := n2_
              have HB := n3_
              clear n0_ n1_ n2_ n3_
              have q52 : (x10_2 : Int) ≤ ((x7_2.length : Int) : Int) := od
              obtain ⟨i052, hi052, _, hsz52, _⟩ := info_parts info77
              have hroom52 : x7_2.length ≤ co23 := (Kd.R_reads' HO_7.out).2.1
              have hC52 : Kd.C k77 _ Ao23 x7_2.length x7_2 := (Kd.R_reads' HO_7.out).2.2
              have hcut52 := cut_to (P := Try.prog) 75 77 .i64 Try.underlying75 hi052 Ao23 x7_2.length co23 x10_2 (od) q52 hroom52
              have hr52 := Kd.C_take (m := (x10_2 : Int).toNat) hC52 (by omega)
              have hy52 : y596.length = (x10_2 : Int).toNat := (by rw [Ny596.out, List.length_take]; omega)
              rw [← Ny596.out] at hr52
              rw [← hy52] at hcut52
              have HR599 := Aside0.mk hr52
              have HC599 := Aside0.mk (show y596.length ≤ co23 from by omega)
              clear hr52 hC52 hroom52 hi052 hsz52
              have KY52 := Aside0.mk hy52
              clear hy52
              have KL52 := Aside0.mk (show (x10_2 : Int).toNat ≤ x7_2.length from by omega)
              replace q52 := eq_true q52
              refine start_ (n := 11) (S := fun w' => w'.cell? ⟨gb570, 0, none⟩ = some (.int .i64 a0_0) ∧ w'.cell? ⟨gb570, 1, none⟩ = some (.slice A0_1 l0_1.length c0_1) ∧ w'.cell? ⟨gb570, 2, none⟩ = some (.slice A0_2 l0_2.length c0_2) ∧ w'.cell? ⟨gb570, 3, none⟩ = some (.slice A0_3 l0_3.length c0_3) ∧ w'.cell? ⟨gb570, 4, none⟩ = some (.string a0_4)) (ds := []) #[O,O,O,O,O,O,O,O,O,O,O] (by kernel_rfl) rfl rfl ⟨(blk_cell BK570.out 0).trans rfl, (blk_cell BK570.out 1).trans rfl, (blk_cell BK570.out 2).trans rfl, (blk_cell BK570.out 3).trans rfl, (blk_cell BK570.out 4).trans rfl⟩ (fun hHeld => ?_); refine with_tabW fairwaylaw12_IndexMarks.tab16 fairwaylaw12_IndexMarks.bits16 (fun HT_ HW_ => ?_)
              generalize w50.drew = w51 at HO_7 HO593 BK570 HB HR599 hHeld ⊢
              refine pz (i := 0) (N := some 95) #[I,O,O,O,O,O,O,O,O,O,O] ?_
              refine pz (i := 2) (N := some 97) #[I,O,I,O,O,O,O,O,O,O,O] ?_
              refine pz (i := 3) (N := some 98) #[I,O,I,I,O,O,O,O,O,O,O] ?_
              refine pz (i := 4) (N := some 99) #[I,O,I,I,I,O,O,O,O,O,O] ?_
              refine tz (i := 1) (N := some 96) #[I,I,I,I,I,O,O,O,O,O,O] ?_
              refine one_ (i := 5) (N := some 100) #[I,I,I,I,I,I,O,O,O,O,O] rfl rfl (one_of HT_.out (by kernel_rfl)) (by decide) (fun K hK => ?_)
              refine goes_ Try.func55 (by kernel_rfl) rfl #[.agg #[.int .i64 a0_0, .slice A0_1 l0_1.length c0_1], .slice Ao23 y596.length co23] (by rfl) rfl rfl aa ?_
              with_reducible refine (index_Check.calls k2 a0_0 _ _ l0_1 _ _ y596 true t601 _ ?side1 ?side2 ?side3 ?side4 A42.out).mono ?_
              (case side1 => repeat (first | exact (Kd.C_below HR0_1.out HB.out) | (with_reducible refine Kd.C_alloc ?_ _) | (with_reducible refine Kd.C_drewN ?_ _) | (with_reducible refine Kd.C_drew ?_)))
              (case side2 => exact HC0_1.out)
              (case side3 => repeat (first | exact (by repeat (first | (with_reducible exact HR599.out) | (with_reducible refine Kd.C_alloc ?_ _) | (with_reducible refine Kd.C_drewN ?_ _) | (with_reducible refine Kd.C_drew ?_) | exact HR599.out)) | (with_reducible refine Kd.C_alloc ?_ _) | (with_reducible refine Kd.C_drewN ?_ _) | (with_reducible refine Kd.C_drew ?_)))
              (case side4 => exact HC599.out)
              rintro e w53 ⟨rfl, hb⟩
              refine ⟨_, rfl, ?_⟩
              have n0_ := Aside0.mk (Kd.R_below (rk HO_7.out) hb)
              have n1_ := Aside0.mk (Kd.R_below (rk HO593.out) hb)
              have n2_ := Aside0.mk (blk_below (g := gb570) (o := .cells #[.int .i64 a0_0, .slice A0_1 l0_1.length c0_1, .slice A0_2 l0_2.length c0_2, .slice A0_3 l0_3.length c0_3, .string a0_4] 55 (0, 0)) (bk BK570.out) hb)
              have n3_ := Aside0.mk (Kd.C_below (by repeat (first | (with_reducible exact HR599.out) | (with_reducible refine Kd.C_alloc ?_ _) | (with_reducible refine Kd.C_drewN ?_ _) | (with_reducible refine Kd.C_drew ?_) | exact HR599.out)) hb)
              have n4_ := Aside0.mk (below_step bo hb)
              clear HO_7
              clear HO593
              clear BK570
              clear HR599
              clear HB
              have HO_7 := n0_
              have HO593 := n1_
              have BK570 := n2_
              have HR599 := n3_
              have HB := n4_
              clear n0_ n1_ n2_ n3_ n4_
              (try clear hb)
              (try clear hb2)
              (try clear hk)
              (try clear hi)
              refine hK.out _ _ ⟨(blk_cell BK570.out 0).trans rfl, (blk_cell BK570.out 1).trans rfl, (blk_cell BK570.out 2).trans rfl, (blk_cell BK570.out 3).trans rfl, (blk_cell BK570.out 4).trans rfl⟩ (fun hHeld => ?_)
              clear hK K
              refine norm_ (a' := ?_) ?_ ?_
              rotate_left
              ·show Act.put _ (some 100) _ = _
               simp only [Act.put, List.setIfInBounds_toArray, List.set_cons_zero, List.set_cons_succ, i64_w, i32_w]
               rfl
              refine pz (i := 6) (N := some 94) #[I,I,I,I,I,I,I,O,O,O,O] ?_
              refine pz (i := 7) (N := some 101) #[I,I,I,I,I,I,I,I,O,O,O] ?_
              refine pz (i := 8) (N := some 102) #[I,I,I,I,I,I,I,I,I,O,O] ?_
              refine pz (i := 9) (N := some 12) #[I,I,I,I,I,I,I,I,I,I,O] ?_
              refine pz (i := 10) (N := some 13) #[I,I,I,I,I,I,I,I,I,I,I] ?_
              refine done_ (done_of HT_.out (by kernel_rfl)) ?_
              have hcz54_0 : w53.cell? ⟨gb570, 0, none⟩ = some (.int .i64 a0_0) := (blk_cell BK570.out 0).trans rfl
              have hcz54_1 : w53.cell? ⟨gb570, 1, none⟩ = some (.slice A0_1 l0_1.length c0_1) := (blk_cell BK570.out 1).trans rfl
              have hcz54_2 : w53.cell? ⟨gb570, 2, none⟩ = some (.slice A0_2 l0_2.length c0_2) := (blk_cell BK570.out 2).trans rfl
              have hcz54_3 : w53.cell? ⟨gb570, 3, none⟩ = some (.slice A0_3 l0_3.length c0_3) := (blk_cell BK570.out 3).trans rfl
              have hcz54_4 : w53.cell? ⟨gb570, 4, none⟩ = some (.string a0_4) := (blk_cell BK570.out 4).trans rfl
              have hfz54_0 := blk_frozen BK570.out 0
              have hfz54_1 := blk_frozen BK570.out 1
              have hfz54_2 := blk_frozen BK570.out 2
              have hfz54_3 := blk_frozen BK570.out 3
              have hfz54_4 := blk_frozen BK570.out 4
              try go_wp2_with (first | ((with_reducible refine gate_callee (f := 55) rfl ?_); refine goesL_ (some 107) rfl rfl Try.func55 (by kernel_rfl) rfl #[.agg #[.int .i64 a0_0, .slice A0_1 l0_1.length c0_1], .slice (some ⟨go39, 0, none⟩) y595.length co48] rfl (by (try simp only [List.map_toArray, List.map_cons, List.map_nil]); first | done | (rw [show y595.length = t591.length from (Kd.R_reads' HO593.out).1.symm] <;> rfl) | rfl | (simp only [List.length_drop, List.length_take]; rfl) | (simp only [ByteArray.size_append]; rfl) | (simp; done)) ?_; (with_reducible refine (index_Check.calls k2 a0_0 _ _ l0_1 _ _ y595 t602 t603 _ ?side1 ?side2 ?side3 ?side4 A43.out).mono ?_); (case side1 => repeat (first | exact (Kd.C_below HR0_1.out HB.out) | (with_reducible refine Kd.C_alloc ?_ _) | (with_reducible refine Kd.C_drewN ?_ _) | (with_reducible refine Kd.C_drew ?_))); (case side2 => exact HC0_1.out); (case side3 => repeat (first | exact (Kd.R_reads' HO593.out).2.2 | (with_reducible refine Kd.C_alloc ?_ _) | (with_reducible refine Kd.C_drewN ?_ _) | (with_reducible refine Kd.C_drew ?_))); (case side4 => rw [show y595.length = t591.length from (Kd.R_reads' HO593.out).1.symm]; exact (Kd.R_reads' HO593.out).2.1); rintro e w55 ⟨rfl, hb⟩; refine ⟨_, rfl, ?_⟩; replace HO_7 := Aside0.mk (Kd.R_below (rk HO_7.out) hb); replace HO593 := Aside0.mk (Kd.R_below (rk HO593.out) hb); replace BK570 := Aside0.mk (blk_below (g := gb570) (o := .cells #[.int .i64 a0_0, .slice A0_1 l0_1.length c0_1, .slice A0_2 l0_2.length c0_2, .slice A0_3 l0_3.length c0_3, .string a0_4] 55 (0, 0)) (bk BK570.out) hb); replace HR599 := Aside0.mk (Kd.C_below (by repeat (first | (with_reducible exact HR599.out) | (with_reducible refine Kd.C_alloc ?_ _) | (with_reducible refine Kd.C_drewN ?_ _) | (with_reducible refine Kd.C_drew ?_) | exact HR599.out)) hb); replace HB := Aside0.mk (below_step bo hb); (try clear hb); (try clear hb2); (try clear hk); (try clear hi)) | ((with_reducible refine gate_callee (f := 52) rfl ?_); refine goesL_ (some 111) rfl rfl Try.func52 (by kernel_rfl) rfl #[.int .i64 t601] rfl aa ?_; (with_reducible refine (fairwaylaw12_num.calls t601 t604 _ A44.out).mono ?_); rintro e w' ⟨rfl, ⟨nd, rfl⟩⟩; refine ⟨_, rfl, ?_⟩))
              go_ret
              exact ⟨er, bo⟩
             ·replace c46 := Bool.eq_false_iff.mpr c46
              subst c46
              have H1 : ((fairwaylaw12_num.f t603).bind fun t605 => (if t605 = 0 then (if t602 = true then (some false) else (fairwaylaw12_IndexMarks.l0 k2 x7_2 (wrap64 (x10_2 + 1)) a0_0 l0_1 l0_2 l0_3 a0_4)) else (some false))) = some r := by rw [if_neg (show ¬ (false = true) by decide)] at H; exact H
              clear H
              have H := H1
              clear H1
              replace H := Option.bind_eq_some_iff.mp H
              obtain ⟨t605, A560, H⟩ := H
              replace H : (if t605 = 0 then (if t602 = true then (some false) else (fairwaylaw12_IndexMarks.l0 k2 x7_2 (wrap64 (x10_2 + 1)) a0_0 l0_1 l0_2 l0_3 a0_4)) else (some false)) = some r := H
              have A56 := Aside0.mk A560
              clear A560
              by_cases c57 : t605 = 0
              ·rw [if_pos c57] at H
               have c57b0 : (t605 == 0) = true := beq_iff_eq.mpr c57
               have c57b1 : (t605 != 0) = false := bne_eq_false_iff_eq.mpr c57
               clear c57
               by_cases c58 : t602 = true
               ·subst c58
                have H1 : (some false) = some r := by rw [if_pos rfl] at H; exact H
                clear H
                have H := H1
                clear H1
                obtain rfl := Option.some.inj H
                try go_wp2_with (first | ((with_reducible refine gate_callee (f := 58) rfl ?_); refine goesL_ (some 85) rfl rfl Try.func58 (by kernel_rfl) rfl #[.slice Ao23 x7_2.length co23] rfl aa ?_; (with_reducible refine (fairwayref0_CopyMarks.calls k2 _ _ x7_2 t591 _ ?side1 ?side2 A36.out).mono ?_); (case side1 => repeat (first | exact (Kd.R_reads' HO_7.out).2.2 | (with_reducible refine Kd.C_alloc ?_ _) | (with_reducible refine Kd.C_drewN ?_ _) | (with_reducible refine Kd.C_drew ?_))); (case side2 => exact (Kd.R_reads' HO_7.out).2.1); rintro e w59 ⟨v592, rfl, ho0, hb⟩; refine ⟨_, rfl, ?_⟩; have n0_ := Aside0.mk (Kd.R_elder' (rk HO_7.out) (Kd.R_base ho0) hb); have n1_ := Aside0.mk (Kd.R_lower (Kd.R_new' ho0 (Kd.R_lt (rk HO_7.out))) (below_size bo)); have n2_ := Aside0.mk (blk_below (g := gb570) (o := .cells #[.int .i64 a0_0, .slice A0_1 l0_1.length c0_1, .slice A0_2 l0_2.length c0_2, .slice A0_3 l0_3.length c0_3, .string a0_4] 55 (0, 0)) (bk BK570.out) hb); have n3_ := Aside0.mk (below_step bo hb); clear HO_7; clear BK570; clear HB; have HO_7 := n0_; have HO593 := n1_; have BK570 := n2_; have HB := n3_; clear n0_ n1_ n2_ n3_; (try clear hb); (try clear hb2); (try clear hk); (try clear hi); (try clear ho0); obtain ⟨Ao60, co60, eo60⟩ := Kd.R_slice HO593.out; subst eo60; have p594 : 0 ≤ (x10_2 : Int) := od; have q594 : x10_2 < (t591.length : Int) := od; obtain ⟨ad594, e594, hx594_0, hx594_1⟩ := at_T77 (Kd.R_reads' HO593.out).2.2 x10_2 p594 q594; cases e594; replace p594 := eq_true p594; replace q594 := eq_true q594; have p39 : 0 ≤ (x10_2 : Int) := od; have q39 : (x10_2 : Int) < ((t591.length : Int) : Int) := od; obtain ⟨go39, co39, eo39, gb39, gl39, cl39, HG39⟩ := Kd.R_form HO593.out (by omega); (first | cases eo39 | (injection eo39 with ea_ en_ ec_; (first | subst ea_ | (injection ea_ with ea_; subst ea_)); subst ec_; clear en_)); have GB39 := Aside0.mk gb39; have GG39 := Aside0.mk HG39; clear gb39 gl39 HG39; (first | simp only [add_plain] at hx594_0 | skip); (first | simp only [add_plain] at hx594_1 | skip); obtain ⟨ce39, hcl39, hM39, hcc39, hfr39⟩ := Kd.R_elem HO593.out z77 (x10_2 : Int) p39 q39; obtain rfl := k77_openM hM39; have hx39_0 : w59.cell? ⟨go39, (x10_2 : Int).toNat * 2, none⟩ = some (.int .i64 ((rd_T77 t591 x10_2).f0)) := hcc39 0 _ rfl; have hx39_1 : w59.cell? ⟨go39, (x10_2 : Int).toNat * 2 + 1, none⟩ = some (.int .i64 ((rd_T77 t591 x10_2).f1)) := hcc39 1 _ rfl; have hf39_0 : w59.frozen? ⟨go39, (x10_2 : Int).toNat * 2, none⟩ = false := hfr39 0; have hf39_1 : w59.frozen? ⟨go39, (x10_2 : Int).toNat * 2 + 1, none⟩ = false := hfr39 1; clear hcl39 hcc39 hfr39 hM39; replace p39 := eq_true p39; replace q39 := eq_true q39; have n_ := Aside0.mk (Kd.R_mono (ok' := (fun k_ => some k_ ≠ (.slice Ao23 x7_2.length co23 : Value).ownBlock)) HO593.out (fun k_ hk => hk.2)); clear HO593; have HO593 := n_; clear n_; have HX61 := Aside0.mk (show Kd.R k77 77 w59 w.heap.size (fun k_ => some k_ ≠ (.slice Ao23 x7_2.length co23 : Value).ownBlock) (.slice (some ⟨go39, 0, none⟩) t591.length co60) t591 from (rk HO593.out)); obtain ⟨ce61, hcl61, hM61, hcc61, hfr61⟩ := Kd.R_elem HX61.out z77 (x10_2 : Int) (od) (by have h_ : (x10_2 : Int) < ((t591.length : Int) : Int) := od; first | exact h_ | (have e_ := (Kd.R_reads' HO593.out).1; omega) | simpa using h_); obtain rfl := k77_openM hM61; have HP61 := Kd.R_seg HX61.out (x10_2 : Int) (od) (by have h_ : (x10_2 : Int) < ((t591.length : Int) : Int) := od; first | exact h_ | (have e_ := (Kd.R_reads' HO593.out).1; omega) | simpa using h_) (seg := [.int .i64 (wrap64 (((rd_T77 t591 x10_2).f1) + 1))]) (j := 1) hcl61 hcc61 (show 2 ≤ 2 from by decide) (x' := (⟨(rd_T77 t591 x10_2).f0, wrap64 (((rd_T77 t591 x10_2).f1) + 1)⟩ : S77)) (k77_mkM _ _ _ (⟨(rd_T77 t591 x10_2).f0, wrap64 (((rd_T77 t591 x10_2).f1) + 1)⟩ : S77) ) (fun _ hk => hk); have hx61_1 := hcc61 1 _ rfl; (try simp only [show (k77).sz = 2 from rfl, Nat.mul_one, Nat.add_zero] at hx61_1); have hf61_1 := hfr61 1; (try simp only [show (k77).sz = 2 from rfl, Nat.mul_one, Nat.add_zero] at hf61_1); clear hcl61 hcc61 hfr61 hM61) | ((with_reducible refine gate_store (t := 3) (p := 93) rfl ?_); refine store_event (t := 3) (p := 93) (v := ?vo_w62) (w1 := (w59.setCell ⟨go39, (x10_2 : Int).toNat * 2 + 1, none⟩ (.int .i64 (wrap64 (((rd_T77 t591 x10_2).f1) + 1))))) ?hg ?ho ?hn ?hr ?_; (case ho => rfl); (case hg => rfl); (case hn => rfl); (case hr => first | (go_simp; done) | (go_simp; rfl)); intro w62 hw; have hg : w59.grownBy w62 (some go39) := (by rw [hw]; exact HP61.2); have hp_ : Kd.R k77 77 w62 w.heap.size (fun k_ => some k_ ≠ (.slice Ao23 x7_2.length co23 : Value).ownBlock) (.slice (some ⟨go39, 0, none⟩) t591.length co60) y595 := (by rw [hw, Ny595.out]; exact HP61.1); clear HP61; replace HO_7 := Aside0.mk (Kd.R_after (v := (.slice (some ⟨go39, 0, none⟩) t591.length co60)) (v1 := (.slice (some ⟨go39, 0, none⟩) t591.length co60)) (ok := (fun _ => True)) (rk HO_7.out) hg (.inl rfl)); replace BK570 := Aside0.mk (blk_grown (g := gb570) (o := .cells #[.int .i64 a0_0, .slice A0_1 l0_1.length c0_1, .slice A0_2 l0_2.length c0_2, .slice A0_3 l0_3.length c0_3, .string a0_4] 55 (0, 0)) (bk BK570.out) hg (Kd.R_ne HO593.out BK570.out (by decide))); replace HO593 := Aside0.mk (hp_); replace HB := Aside0.mk ((by rw [hw]; exact below_set (HB.out) GB39.out : Below w.heap.size w w62)); clear hg hw hp_))
                have n0_ := Aside0.mk (Kd.R_drew HO_7.out)
                have n1_ := Aside0.mk (Kd.R_drew HO593.out)
                have n2_ := Aside0.mk (blk_drew BK570.out)
                have n3_ := Aside0.mk (below_drew1 HB.out)
                clear HO_7
                clear HO593
                clear BK570
                clear HB
                have HO_7 := n0_
                have HO593 := n1_
                have BK570 := n2_
                have HB := n3_
                clear n0_ n1_ n2_ n3_
                have q64 : (x10_2 : Int) ≤ ((x7_2.length : Int) : Int) := od
                obtain ⟨i064, hi064, _, hsz64, _⟩ := info_parts info77
                have hroom64 : x7_2.length ≤ co23 := (Kd.R_reads' HO_7.out).2.1
                have hC64 : Kd.C k77 _ Ao23 x7_2.length x7_2 := (Kd.R_reads' HO_7.out).2.2
                have hcut64 := cut_to (P := Try.prog) 75 77 .i64 Try.underlying75 hi064 Ao23 x7_2.length co23 x10_2 (od) q64 hroom64
                have hr64 := Kd.C_take (m := (x10_2 : Int).toNat) hC64 (by omega)
                have hy64 : y596.length = (x10_2 : Int).toNat := (by rw [Ny596.out, List.length_take]; omega)
                rw [← Ny596.out] at hr64
                rw [← hy64] at hcut64
                have HR599 := Aside0.mk hr64
                have HC599 := Aside0.mk (show y596.length ≤ co23 from by omega)
                clear hr64 hC64 hroom64 hi064 hsz64
                have KY64 := Aside0.mk hy64
                clear hy64
                have KL64 := Aside0.mk (show (x10_2 : Int).toNat ≤ x7_2.length from by omega)
                replace q64 := eq_true q64
                refine start_ (n := 11) (S := fun w' => w'.cell? ⟨gb570, 0, none⟩ = some (.int .i64 a0_0) ∧ w'.cell? ⟨gb570, 1, none⟩ = some (.slice A0_1 l0_1.length c0_1) ∧ w'.cell? ⟨gb570, 2, none⟩ = some (.slice A0_2 l0_2.length c0_2) ∧ w'.cell? ⟨gb570, 3, none⟩ = some (.slice A0_3 l0_3.length c0_3) ∧ w'.cell? ⟨gb570, 4, none⟩ = some (.string a0_4)) (ds := []) #[O,O,O,O,O,O,O,O,O,O,O] (by kernel_rfl) rfl rfl ⟨(blk_cell BK570.out 0).trans rfl, (blk_cell BK570.out 1).trans rfl, (blk_cell BK570.out 2).trans rfl, (blk_cell BK570.out 3).trans rfl, (blk_cell BK570.out 4).trans rfl⟩ (fun hHeld => ?_); refine with_tabW fairwaylaw12_IndexMarks.tab16 fairwaylaw12_IndexMarks.bits16 (fun HT_ HW_ => ?_)
                generalize w62.drew = w63 at HO_7 HO593 BK570 HB HR599 hHeld ⊢
                refine pz (i := 0) (N := some 95) #[I,O,O,O,O,O,O,O,O,O,O] ?_
                refine pz (i := 2) (N := some 97) #[I,O,I,O,O,O,O,O,O,O,O] ?_
                refine pz (i := 3) (N := some 98) #[I,O,I,I,O,O,O,O,O,O,O] ?_
                refine pz (i := 4) (N := some 99) #[I,O,I,I,I,O,O,O,O,O,O] ?_
                refine tz (i := 1) (N := some 96) #[I,I,I,I,I,O,O,O,O,O,O] ?_
                refine one_ (i := 5) (N := some 100) #[I,I,I,I,I,I,O,O,O,O,O] rfl rfl (one_of HT_.out (by kernel_rfl)) (by decide) (fun K hK => ?_)
                refine goes_ Try.func55 (by kernel_rfl) rfl #[.agg #[.int .i64 a0_0, .slice A0_1 l0_1.length c0_1], .slice Ao23 y596.length co23] (by rfl) rfl rfl aa ?_
                with_reducible refine (index_Check.calls k2 a0_0 _ _ l0_1 _ _ y596 false t601 _ ?side1 ?side2 ?side3 ?side4 A42.out).mono ?_
                (case side1 => repeat (first | exact (Kd.C_below HR0_1.out HB.out) | (with_reducible refine Kd.C_alloc ?_ _) | (with_reducible refine Kd.C_drewN ?_ _) | (with_reducible refine Kd.C_drew ?_)))
                (case side2 => exact HC0_1.out)
                (case side3 => repeat (first | exact (by repeat (first | (with_reducible exact HR599.out) | (with_reducible refine Kd.C_alloc ?_ _) | (with_reducible refine Kd.C_drewN ?_ _) | (with_reducible refine Kd.C_drew ?_) | exact HR599.out)) | (with_reducible refine Kd.C_alloc ?_ _) | (with_reducible refine Kd.C_drewN ?_ _) | (with_reducible refine Kd.C_drew ?_)))
                (case side4 => exact HC599.out)
                rintro e w65 ⟨rfl, hb⟩
                refine ⟨_, rfl, ?_⟩
                have n0_ := Aside0.mk (Kd.R_below (rk HO_7.out) hb)
                have n1_ := Aside0.mk (Kd.R_below (rk HO593.out) hb)
                have n2_ := Aside0.mk (blk_below (g := gb570) (o := .cells #[.int .i64 a0_0, .slice A0_1 l0_1.length c0_1, .slice A0_2 l0_2.length c0_2, .slice A0_3 l0_3.length c0_3, .string a0_4] 55 (0, 0)) (bk BK570.out) hb)
                have n3_ := Aside0.mk (Kd.C_below (by repeat (first | (with_reducible exact HR599.out) | (with_reducible refine Kd.C_alloc ?_ _) | (with_reducible refine Kd.C_drewN ?_ _) | (with_reducible refine Kd.C_drew ?_) | exact HR599.out)) hb)
                have n4_ := Aside0.mk (below_step bo hb)
                clear HO_7
                clear HO593
                clear BK570
                clear HR599
                clear HB
                have HO_7 := n0_
                have HO593 := n1_
                have BK570 := n2_
                have HR599 := n3_
                have HB := n4_
                clear n0_ n1_ n2_ n3_ n4_
                (try clear hb)
                (try clear hb2)
                (try clear hk)
                (try clear hi)
                refine hK.out _ _ ⟨(blk_cell BK570.out 0).trans rfl, (blk_cell BK570.out 1).trans rfl, (blk_cell BK570.out 2).trans rfl, (blk_cell BK570.out 3).trans rfl, (blk_cell BK570.out 4).trans rfl⟩ (fun hHeld => ?_)
                clear hK K
                refine norm_ (a' := ?_) ?_ ?_
                rotate_left
                ·show Act.put _ (some 100) _ = _
                 simp only [Act.put, List.setIfInBounds_toArray, List.set_cons_zero, List.set_cons_succ, i64_w, i32_w]
                 rfl
                refine pz (i := 6) (N := some 94) #[I,I,I,I,I,I,I,O,O,O,O] ?_
                refine pz (i := 7) (N := some 101) #[I,I,I,I,I,I,I,I,O,O,O] ?_
                refine pz (i := 8) (N := some 102) #[I,I,I,I,I,I,I,I,I,O,O] ?_
                refine pz (i := 9) (N := some 12) #[I,I,I,I,I,I,I,I,I,I,O] ?_
                refine pz (i := 10) (N := some 13) #[I,I,I,I,I,I,I,I,I,I,I] ?_
                refine done_ (done_of HT_.out (by kernel_rfl)) ?_
                have hcz66_0 : w65.cell? ⟨gb570, 0, none⟩ = some (.int .i64 a0_0) := (blk_cell BK570.out 0).trans rfl
                have hcz66_1 : w65.cell? ⟨gb570, 1, none⟩ = some (.slice A0_1 l0_1.length c0_1) := (blk_cell BK570.out 1).trans rfl
                have hcz66_2 : w65.cell? ⟨gb570, 2, none⟩ = some (.slice A0_2 l0_2.length c0_2) := (blk_cell BK570.out 2).trans rfl
                have hcz66_3 : w65.cell? ⟨gb570, 3, none⟩ = some (.slice A0_3 l0_3.length c0_3) := (blk_cell BK570.out 3).trans rfl
                have hcz66_4 : w65.cell? ⟨gb570, 4, none⟩ = some (.string a0_4) := (blk_cell BK570.out 4).trans rfl
                have hfz66_0 := blk_frozen BK570.out 0
                have hfz66_1 := blk_frozen BK570.out 1
                have hfz66_2 := blk_frozen BK570.out 2
                have hfz66_3 := blk_frozen BK570.out 3
                have hfz66_4 := blk_frozen BK570.out 4
                try go_wp2_with (first | ((with_reducible refine gate_callee (f := 55) rfl ?_); refine goesL_ (some 107) rfl rfl Try.func55 (by kernel_rfl) rfl #[.agg #[.int .i64 a0_0, .slice A0_1 l0_1.length c0_1], .slice (some ⟨go39, 0, none⟩) y595.length co60] rfl (by (try simp only [List.map_toArray, List.map_cons, List.map_nil]); first | done | (rw [show y595.length = t591.length from (Kd.R_reads' HO593.out).1.symm] <;> rfl) | rfl | (simp only [List.length_drop, List.length_take]; rfl) | (simp only [ByteArray.size_append]; rfl) | (simp; done)) ?_; (with_reducible refine (index_Check.calls k2 a0_0 _ _ l0_1 _ _ y595 true t603 _ ?side1 ?side2 ?side3 ?side4 A43.out).mono ?_); (case side1 => repeat (first | exact (Kd.C_below HR0_1.out HB.out) | (with_reducible refine Kd.C_alloc ?_ _) | (with_reducible refine Kd.C_drewN ?_ _) | (with_reducible refine Kd.C_drew ?_))); (case side2 => exact HC0_1.out); (case side3 => repeat (first | exact (Kd.R_reads' HO593.out).2.2 | (with_reducible refine Kd.C_alloc ?_ _) | (with_reducible refine Kd.C_drewN ?_ _) | (with_reducible refine Kd.C_drew ?_))); (case side4 => rw [show y595.length = t591.length from (Kd.R_reads' HO593.out).1.symm]; exact (Kd.R_reads' HO593.out).2.1); rintro e w67 ⟨rfl, hb⟩; refine ⟨_, rfl, ?_⟩; replace HO_7 := Aside0.mk (Kd.R_below (rk HO_7.out) hb); replace HO593 := Aside0.mk (Kd.R_below (rk HO593.out) hb); replace BK570 := Aside0.mk (blk_below (g := gb570) (o := .cells #[.int .i64 a0_0, .slice A0_1 l0_1.length c0_1, .slice A0_2 l0_2.length c0_2, .slice A0_3 l0_3.length c0_3, .string a0_4] 55 (0, 0)) (bk BK570.out) hb); replace HR599 := Aside0.mk (Kd.C_below (by repeat (first | (with_reducible exact HR599.out) | (with_reducible refine Kd.C_alloc ?_ _) | (with_reducible refine Kd.C_drewN ?_ _) | (with_reducible refine Kd.C_drew ?_) | exact HR599.out)) hb); replace HB := Aside0.mk (below_step bo hb); (try clear hb); (try clear hb2); (try clear hk); (try clear hi)) | ((with_reducible refine gate_callee (f := 52) rfl ?_); refine goesL_ (some 111) rfl rfl Try.func52 (by kernel_rfl) rfl #[.int .i64 t601] rfl aa ?_; (with_reducible refine (fairwaylaw12_num.calls t601 t604 _ A44.out).mono ?_); rintro e w' ⟨rfl, ⟨nd, rfl⟩⟩; refine ⟨_, rfl, ?_⟩) | (go_at_call 52; (with_reducible refine (fairwaylaw12_num.calls t603 t605 _ A56.out).mono ?_); rintro e w' ⟨rfl, ⟨nd, rfl⟩⟩))
                go_ret
                exact ⟨er, bo⟩
               ·replace c58 := Bool.eq_false_iff.mpr c58
                subst c58
                have H1 : (fairwaylaw12_IndexMarks.l0 k2 x7_2 (wrap64 (x10_2 + 1)) a0_0 l0_1 l0_2 l0_3 a0_4) = some r := by rw [if_neg (show ¬ (false = true) by decide)] at H; exact H
                clear H
                have H := H1
                clear H1
                have H' := Aside0.mk H
                clear H
                try go_wp2_with (first | ((with_reducible refine gate_callee (f := 58) rfl ?_); refine goesL_ (some 85) rfl rfl Try.func58 (by kernel_rfl) rfl #[.slice Ao23 x7_2.length co23] rfl aa ?_; (with_reducible refine (fairwayref0_CopyMarks.calls k2 _ _ x7_2 t591 _ ?side1 ?side2 A36.out).mono ?_); (case side1 => repeat (first | exact (Kd.R_reads' HO_7.out).2.2 | (with_reducible refine Kd.C_alloc ?_ _) | (with_reducible refine Kd.C_drewN ?_ _) | (with_reducible refine Kd.C_drew ?_))); (case side2 => exact (Kd.R_reads' HO_7.out).2.1); rintro e w68 ⟨v592, rfl, ho0, hb⟩; refine ⟨_, rfl, ?_⟩; have n0_ := Aside0.mk (Kd.R_elder' (rk HO_7.out) (Kd.R_base ho0) hb); have n1_ := Aside0.mk (Kd.R_lower (Kd.R_new' ho0 (Kd.R_lt (rk HO_7.out))) (below_size bo)); have n2_ := Aside0.mk (blk_below (g := gb570) (o := .cells #[.int .i64 a0_0, .slice A0_1 l0_1.length c0_1, .slice A0_2 l0_2.length c0_2, .slice A0_3 l0_3.length c0_3, .string a0_4] 55 (0, 0)) (bk BK570.out) hb); have n3_ := Aside0.mk (below_step bo hb); clear HO_7; clear BK570; clear HB; have HO_7 := n0_; have HO593 := n1_; have BK570 := n2_; have HB := n3_; clear n0_ n1_ n2_ n3_; (try clear hb); (try clear hb2); (try clear hk); (try clear hi); (try clear ho0); obtain ⟨Ao69, co69, eo69⟩ := Kd.R_slice HO593.out; subst eo69; have p594 : 0 ≤ (x10_2 : Int) := od; have q594 : x10_2 < (t591.length : Int) := od; obtain ⟨ad594, e594, hx594_0, hx594_1⟩ := at_T77 (Kd.R_reads' HO593.out).2.2 x10_2 p594 q594; cases e594; replace p594 := eq_true p594; replace q594 := eq_true q594; have p39 : 0 ≤ (x10_2 : Int) := od; have q39 : (x10_2 : Int) < ((t591.length : Int) : Int) := od; obtain ⟨go39, co39, eo39, gb39, gl39, cl39, HG39⟩ := Kd.R_form HO593.out (by omega); (first | cases eo39 | (injection eo39 with ea_ en_ ec_; (first | subst ea_ | (injection ea_ with ea_; subst ea_)); subst ec_; clear en_)); have GB39 := Aside0.mk gb39; have GG39 := Aside0.mk HG39; clear gb39 gl39 HG39; (first | simp only [add_plain] at hx594_0 | skip); (first | simp only [add_plain] at hx594_1 | skip); obtain ⟨ce39, hcl39, hM39, hcc39, hfr39⟩ := Kd.R_elem HO593.out z77 (x10_2 : Int) p39 q39; obtain rfl := k77_openM hM39; have hx39_0 : w68.cell? ⟨go39, (x10_2 : Int).toNat * 2, none⟩ = some (.int .i64 ((rd_T77 t591 x10_2).f0)) := hcc39 0 _ rfl; have hx39_1 : w68.cell? ⟨go39, (x10_2 : Int).toNat * 2 + 1, none⟩ = some (.int .i64 ((rd_T77 t591 x10_2).f1)) := hcc39 1 _ rfl; have hf39_0 : w68.frozen? ⟨go39, (x10_2 : Int).toNat * 2, none⟩ = false := hfr39 0; have hf39_1 : w68.frozen? ⟨go39, (x10_2 : Int).toNat * 2 + 1, none⟩ = false := hfr39 1; clear hcl39 hcc39 hfr39 hM39; replace p39 := eq_true p39; replace q39 := eq_true q39; have n_ := Aside0.mk (Kd.R_mono (ok' := (fun k_ => some k_ ≠ (.slice Ao23 x7_2.length co23 : Value).ownBlock)) HO593.out (fun k_ hk => hk.2)); clear HO593; have HO593 := n_; clear n_; have HX70 := Aside0.mk (show Kd.R k77 77 w68 w.heap.size (fun k_ => some k_ ≠ (.slice Ao23 x7_2.length co23 : Value).ownBlock) (.slice (some ⟨go39, 0, none⟩) t591.length co69) t591 from (rk HO593.out)); obtain ⟨ce70, hcl70, hM70, hcc70, hfr70⟩ := Kd.R_elem HX70.out z77 (x10_2 : Int) (od) (by have h_ : (x10_2 : Int) < ((t591.length : Int) : Int) := od; first | exact h_ | (have e_ := (Kd.R_reads' HO593.out).1; omega) | simpa using h_); obtain rfl := k77_openM hM70; have HP70 := Kd.R_seg HX70.out (x10_2 : Int) (od) (by have h_ : (x10_2 : Int) < ((t591.length : Int) : Int) := od; first | exact h_ | (have e_ := (Kd.R_reads' HO593.out).1; omega) | simpa using h_) (seg := [.int .i64 (wrap64 (((rd_T77 t591 x10_2).f1) + 1))]) (j := 1) hcl70 hcc70 (show 2 ≤ 2 from by decide) (x' := (⟨(rd_T77 t591 x10_2).f0, wrap64 (((rd_T77 t591 x10_2).f1) + 1)⟩ : S77)) (k77_mkM _ _ _ (⟨(rd_T77 t591 x10_2).f0, wrap64 (((rd_T77 t591 x10_2).f1) + 1)⟩ : S77) ) (fun _ hk => hk); have hx70_1 := hcc70 1 _ rfl; (try simp only [show (k77).sz = 2 from rfl, Nat.mul_one, Nat.add_zero] at hx70_1); have hf70_1 := hfr70 1; (try simp only [show (k77).sz = 2 from rfl, Nat.mul_one, Nat.add_zero] at hf70_1); clear hcl70 hcc70 hfr70 hM70) | ((with_reducible refine gate_store (t := 3) (p := 93) rfl ?_); refine store_event (t := 3) (p := 93) (v := ?vo_w71) (w1 := (w68.setCell ⟨go39, (x10_2 : Int).toNat * 2 + 1, none⟩ (.int .i64 (wrap64 (((rd_T77 t591 x10_2).f1) + 1))))) ?hg ?ho ?hn ?hr ?_; (case ho => rfl); (case hg => rfl); (case hn => rfl); (case hr => first | (go_simp; done) | (go_simp; rfl)); intro w71 hw; have hg : w68.grownBy w71 (some go39) := (by rw [hw]; exact HP70.2); have hp_ : Kd.R k77 77 w71 w.heap.size (fun k_ => some k_ ≠ (.slice Ao23 x7_2.length co23 : Value).ownBlock) (.slice (some ⟨go39, 0, none⟩) t591.length co69) y595 := (by rw [hw, Ny595.out]; exact HP70.1); clear HP70; replace HO_7 := Aside0.mk (Kd.R_after (v := (.slice (some ⟨go39, 0, none⟩) t591.length co69)) (v1 := (.slice (some ⟨go39, 0, none⟩) t591.length co69)) (ok := (fun _ => True)) (rk HO_7.out) hg (.inl rfl)); replace BK570 := Aside0.mk (blk_grown (g := gb570) (o := .cells #[.int .i64 a0_0, .slice A0_1 l0_1.length c0_1, .slice A0_2 l0_2.length c0_2, .slice A0_3 l0_3.length c0_3, .string a0_4] 55 (0, 0)) (bk BK570.out) hg (Kd.R_ne HO593.out BK570.out (by decide))); replace HO593 := Aside0.mk (hp_); replace HB := Aside0.mk ((by rw [hw]; exact below_set (HB.out) GB39.out : Below w.heap.size w w71)); clear hg hw hp_))
                have n0_ := Aside0.mk (Kd.R_drew HO_7.out)
                have n1_ := Aside0.mk (Kd.R_drew HO593.out)
                have n2_ := Aside0.mk (blk_drew BK570.out)
                have n3_ := Aside0.mk (below_drew1 HB.out)
                clear HO_7
                clear HO593
                clear BK570
                clear HB
                have HO_7 := n0_
                have HO593 := n1_
                have BK570 := n2_
                have HB := n3_
                clear n0_ n1_ n2_ n3_
                have q73 : (x10_2 : Int) ≤ ((x7_2.length : Int) : Int) := od
                obtain ⟨i073, hi073, _, hsz73, _⟩ := info_parts info77
                have hroom73 : x7_2.length ≤ co23 := (Kd.R_reads' HO_7.out).2.1
                have hC73 : Kd.C k77 _ Ao23 x7_2.length x7_2 := (Kd.R_reads' HO_7.out).2.2
                have hcut73 := cut_to (P := Try.prog) 75 77 .i64 Try.underlying75 hi073 Ao23 x7_2.length co23 x10_2 (od) q73 hroom73
                have hr73 := Kd.C_take (m := (x10_2 : Int).toNat) hC73 (by omega)
                have hy73 : y596.length = (x10_2 : Int).toNat := (by rw [Ny596.out, List.length_take]; omega)
                rw [← Ny596.out] at hr73
                rw [← hy73] at hcut73
                have HR599 := Aside0.mk hr73
                have HC599 := Aside0.mk (show y596.length ≤ co23 from by omega)
                clear hr73 hC73 hroom73 hi073 hsz73
                have KY73 := Aside0.mk hy73
                clear hy73
                have KL73 := Aside0.mk (show (x10_2 : Int).toNat ≤ x7_2.length from by omega)
                replace q73 := eq_true q73
                refine start_ (n := 11) (S := fun w' => w'.cell? ⟨gb570, 0, none⟩ = some (.int .i64 a0_0) ∧ w'.cell? ⟨gb570, 1, none⟩ = some (.slice A0_1 l0_1.length c0_1) ∧ w'.cell? ⟨gb570, 2, none⟩ = some (.slice A0_2 l0_2.length c0_2) ∧ w'.cell? ⟨gb570, 3, none⟩ = some (.slice A0_3 l0_3.length c0_3) ∧ w'.cell? ⟨gb570, 4, none⟩ = some (.string a0_4)) (ds := []) #[O,O,O,O,O,O,O,O,O,O,O] (by kernel_rfl) rfl rfl ⟨(blk_cell BK570.out 0).trans rfl, (blk_cell BK570.out 1).trans rfl, (blk_cell BK570.out 2).trans rfl, (blk_cell BK570.out 3).trans rfl, (blk_cell BK570.out 4).trans rfl⟩ (fun hHeld => ?_); refine with_tabW fairwaylaw12_IndexMarks.tab16 fairwaylaw12_IndexMarks.bits16 (fun HT_ HW_ => ?_)
                generalize w71.drew = w72 at HO_7 HO593 BK570 HB HR599 hHeld ⊢
                refine pz (i := 0) (N := some 95) #[I,O,O,O,O,O,O,O,O,O,O] ?_
                refine pz (i := 2) (N := some 97) #[I,O,I,O,O,O,O,O,O,O,O] ?_
                refine pz (i := 3) (N := some 98) #[I,O,I,I,O,O,O,O,O,O,O] ?_
                refine pz (i := 4) (N := some 99) #[I,O,I,I,I,O,O,O,O,O,O] ?_
                refine tz (i := 1) (N := some 96) #[I,I,I,I,I,O,O,O,O,O,O] ?_
                refine one_ (i := 5) (N := some 100) #[I,I,I,I,I,I,O,O,O,O,O] rfl rfl (one_of HT_.out (by kernel_rfl)) (by decide) (fun K hK => ?_)
                refine goes_ Try.func55 (by kernel_rfl) rfl #[.agg #[.int .i64 a0_0, .slice A0_1 l0_1.length c0_1], .slice Ao23 y596.length co23] (by rfl) rfl rfl aa ?_
                with_reducible refine (index_Check.calls k2 a0_0 _ _ l0_1 _ _ y596 false t601 _ ?side1 ?side2 ?side3 ?side4 A42.out).mono ?_
                (case side1 => repeat (first | exact (Kd.C_below HR0_1.out HB.out) | (with_reducible refine Kd.C_alloc ?_ _) | (with_reducible refine Kd.C_drewN ?_ _) | (with_reducible refine Kd.C_drew ?_)))
                (case side2 => exact HC0_1.out)
                (case side3 => repeat (first | exact (by repeat (first | (with_reducible exact HR599.out) | (with_reducible refine Kd.C_alloc ?_ _) | (with_reducible refine Kd.C_drewN ?_ _) | (with_reducible refine Kd.C_drew ?_) | exact HR599.out)) | (with_reducible refine Kd.C_alloc ?_ _) | (with_reducible refine Kd.C_drewN ?_ _) | (with_reducible refine Kd.C_drew ?_)))
                (case side4 => exact HC599.out)
                rintro e w74 ⟨rfl, hb⟩
                refine ⟨_, rfl, ?_⟩
                have n0_ := Aside0.mk (Kd.R_below (rk HO_7.out) hb)
                have n1_ := Aside0.mk (Kd.R_below (rk HO593.out) hb)
                have n2_ := Aside0.mk (blk_below (g := gb570) (o := .cells #[.int .i64 a0_0, .slice A0_1 l0_1.length c0_1, .slice A0_2 l0_2.length c0_2, .slice A0_3 l0_3.length c0_3, .string a0_4] 55 (0, 0)) (bk BK570.out) hb)
                have n3_ := Aside0.mk (Kd.C_below (by repeat (first | (with_reducible exact HR599.out) | (with_reducible refine Kd.C_alloc ?_ _) | (with_reducible refine Kd.C_drewN ?_ _) | (with_reducible refine Kd.C_drew ?_) | exact HR599.out)) hb)
                have n4_ := Aside0.mk (below_step bo hb)
                clear HO_7
                clear HO593
                clear BK570
                clear HR599
                clear HB
                have HO_7 := n0_
                have HO593 := n1_
                have BK570 := n2_
                have HR599 := n3_
                have HB := n4_
                clear n0_ n1_ n2_ n3_ n4_
                (try clear hb)
                (try clear hb2)
                (try clear hk)
                (try clear hi)
                refine hK.out _ _ ⟨(blk_cell BK570.out 0).trans rfl, (blk_cell BK570.out 1).trans rfl, (blk_cell BK570.out 2).trans rfl, (blk_cell BK570.out 3).trans rfl, (blk_cell BK570.out 4).trans rfl⟩ (fun hHeld => ?_)
                clear hK K
                refine norm_ (a' := ?_) ?_ ?_
                rotate_left
                ·show Act.put _ (some 100) _ = _
                 simp only [Act.put, List.setIfInBounds_toArray, List.set_cons_zero, List.set_cons_succ, i64_w, i32_w]
                 rfl
                refine pz (i := 6) (N := some 94) #[I,I,I,I,I,I,I,O,O,O,O] ?_
                refine pz (i := 7) (N := some 101) #[I,I,I,I,I,I,I,I,O,O,O] ?_
                refine pz (i := 8) (N := some 102) #[I,I,I,I,I,I,I,I,I,O,O] ?_
                refine pz (i := 9) (N := some 12) #[I,I,I,I,I,I,I,I,I,I,O] ?_
                refine pz (i := 10) (N := some 13) #[I,I,I,I,I,I,I,I,I,I,I] ?_
                refine done_ (done_of HT_.out (by kernel_rfl)) ?_
                have hcz75_0 : w74.cell? ⟨gb570, 0, none⟩ = some (.int .i64 a0_0) := (blk_cell BK570.out 0).trans rfl
                have hcz75_1 : w74.cell? ⟨gb570, 1, none⟩ = some (.slice A0_1 l0_1.length c0_1) := (blk_cell BK570.out 1).trans rfl
                have hcz75_2 : w74.cell? ⟨gb570, 2, none⟩ = some (.slice A0_2 l0_2.length c0_2) := (blk_cell BK570.out 2).trans rfl
                have hcz75_3 : w74.cell? ⟨gb570, 3, none⟩ = some (.slice A0_3 l0_3.length c0_3) := (blk_cell BK570.out 3).trans rfl
                have hcz75_4 : w74.cell? ⟨gb570, 4, none⟩ = some (.string a0_4) := (blk_cell BK570.out 4).trans rfl
                have hfz75_0 := blk_frozen BK570.out 0
                have hfz75_1 := blk_frozen BK570.out 1
                have hfz75_2 := blk_frozen BK570.out 2
                have hfz75_3 := blk_frozen BK570.out 3
                have hfz75_4 := blk_frozen BK570.out 4
                try go_wp2_with (first | ((with_reducible refine gate_callee (f := 55) rfl ?_); refine goesL_ (some 107) rfl rfl Try.func55 (by kernel_rfl) rfl #[.agg #[.int .i64 a0_0, .slice A0_1 l0_1.length c0_1], .slice (some ⟨go39, 0, none⟩) y595.length co69] rfl (by (try simp only [List.map_toArray, List.map_cons, List.map_nil]); first | done | (rw [show y595.length = t591.length from (Kd.R_reads' HO593.out).1.symm] <;> rfl) | rfl | (simp only [List.length_drop, List.length_take]; rfl) | (simp only [ByteArray.size_append]; rfl) | (simp; done)) ?_; (with_reducible refine (index_Check.calls k2 a0_0 _ _ l0_1 _ _ y595 false t603 _ ?side1 ?side2 ?side3 ?side4 A43.out).mono ?_); (case side1 => repeat (first | exact (Kd.C_below HR0_1.out HB.out) | (with_reducible refine Kd.C_alloc ?_ _) | (with_reducible refine Kd.C_drewN ?_ _) | (with_reducible refine Kd.C_drew ?_))); (case side2 => exact HC0_1.out); (case side3 => repeat (first | exact (Kd.R_reads' HO593.out).2.2 | (with_reducible refine Kd.C_alloc ?_ _) | (with_reducible refine Kd.C_drewN ?_ _) | (with_reducible refine Kd.C_drew ?_))); (case side4 => rw [show y595.length = t591.length from (Kd.R_reads' HO593.out).1.symm]; exact (Kd.R_reads' HO593.out).2.1); rintro e w76 ⟨rfl, hb⟩; refine ⟨_, rfl, ?_⟩; replace HO_7 := Aside0.mk (Kd.R_below (rk HO_7.out) hb); replace HO593 := Aside0.mk (Kd.R_below (rk HO593.out) hb); replace BK570 := Aside0.mk (blk_below (g := gb570) (o := .cells #[.int .i64 a0_0, .slice A0_1 l0_1.length c0_1, .slice A0_2 l0_2.length c0_2, .slice A0_3 l0_3.length c0_3, .string a0_4] 55 (0, 0)) (bk BK570.out) hb); replace HR599 := Aside0.mk (Kd.C_below (by repeat (first | (with_reducible exact HR599.out) | (with_reducible refine Kd.C_alloc ?_ _) | (with_reducible refine Kd.C_drewN ?_ _) | (with_reducible refine Kd.C_drew ?_) | exact HR599.out)) hb); replace HB := Aside0.mk (below_step bo hb); (try clear hb); (try clear hb2); (try clear hk); (try clear hi)) | ((with_reducible refine gate_callee (f := 52) rfl ?_); refine goesL_ (some 111) rfl rfl Try.func52 (by kernel_rfl) rfl #[.int .i64 t601] rfl aa ?_; (with_reducible refine (fairwaylaw12_num.calls t601 t604 _ A44.out).mono ?_); rintro e w' ⟨rfl, ⟨nd, rfl⟩⟩; refine ⟨_, rfl, ?_⟩) | (go_at_call 52; (with_reducible refine (fairwaylaw12_num.calls t603 t605 _ A56.out).mono ?_); rintro e w' ⟨rfl, ⟨nd, rfl⟩⟩))
                (try simp only [← hl7_2])
                go_roundg k2
                case measure => have := HJ11.out; have := HK2.out; omega
                case rel => exact ⟨(x7_2), (wrap64 (x10_2 + 1)), ap, H', ⟨by have := HJ11.out; have := HK2.out; omega⟩, ⟨by (try simp only [hl7_2]); (with_reducible repeat (first | apply Kd.R_alloc | apply Kd.R_drewN | apply Kd.R_drew)); exact Kd.R_mono HO_7.out (fun _ hk => trivial)⟩, ⟨by (try simp only [hl7_2]); (with_reducible repeat (first | refine blk_drewN ?_ _ | refine blk_drew ?_ | refine blk_alloc ?_ _)); exact BK570.out⟩, ⟨bo⟩⟩
              ·rw [if_neg c57] at H
               have c57b0 : (t605 == 0) = false := beq_eq_false_iff_ne.mpr c57
               have c57b1 : (t605 != 0) = true := bne_iff_ne.mpr c57
               obtain rfl := Option.some.inj H
               try go_wp2_with (first | ((with_reducible refine gate_callee (f := 58) rfl ?_); refine goesL_ (some 85) rfl rfl Try.func58 (by kernel_rfl) rfl #[.slice Ao23 x7_2.length co23] rfl aa ?_; (with_reducible refine (fairwayref0_CopyMarks.calls k2 _ _ x7_2 t591 _ ?side1 ?side2 A36.out).mono ?_); (case side1 => repeat (first | exact (Kd.R_reads' HO_7.out).2.2 | (with_reducible refine Kd.C_alloc ?_ _) | (with_reducible refine Kd.C_drewN ?_ _) | (with_reducible refine Kd.C_drew ?_))); (case side2 => exact (Kd.R_reads' HO_7.out).2.1); rintro e w77 ⟨v592, rfl, ho0, hb⟩; refine ⟨_, rfl, ?_⟩; have n0_ := Aside0.mk (Kd.R_elder' (rk HO_7.out) (Kd.R_base ho0) hb); have n1_ := Aside0.mk (Kd.R_lower (Kd.R_new' ho0 (Kd.R_lt (rk HO_7.out))) (below_size bo)); have n2_ := Aside0.mk (blk_below (g := gb570) (o := .cells #[.int .i64 a0_0, .slice A0_1 l0_1.length c0_1, .slice A0_2 l0_2.length c0_2, .slice A0_3 l0_3.length c0_3, .string a0_4] 55 (0, 0)) (bk BK570.out) hb); have n3_ := Aside0.mk (below_step bo hb); clear HO_7; clear BK570; clear HB; have HO_7 := n0_; have HO593 := n1_; have BK570 := n2_; have HB := n3_; clear n0_ n1_ n2_ n3_; (try clear hb); (try clear hb2); (try clear hk); (try clear hi); (try clear ho0); obtain ⟨Ao78, co78, eo78⟩ := Kd.R_slice HO593.out; subst eo78; have p594 : 0 ≤ (x10_2 : Int) := od; have q594 : x10_2 < (t591.length : Int) := od; obtain ⟨ad594, e594, hx594_0, hx594_1⟩ := at_T77 (Kd.R_reads' HO593.out).2.2 x10_2 p594 q594; cases e594; replace p594 := eq_true p594; replace q594 := eq_true q594; have p39 : 0 ≤ (x10_2 : Int) := od; have q39 : (x10_2 : Int) < ((t591.length : Int) : Int) := od; obtain ⟨go39, co39, eo39, gb39, gl39, cl39, HG39⟩ := Kd.R_form HO593.out (by omega); (first | cases eo39 | (injection eo39 with ea_ en_ ec_; (first | subst ea_ | (injection ea_ with ea_; subst ea_)); subst ec_; clear en_)); have GB39 := Aside0.mk gb39; have GG39 := Aside0.mk HG39; clear gb39 gl39 HG39; (first | simp only [add_plain] at hx594_0 | skip); (first | simp only [add_plain] at hx594_1 | skip); obtain ⟨ce39, hcl39, hM39, hcc39, hfr39⟩ := Kd.R_elem HO593.out z77 (x10_2 : Int) p39 q39; obtain rfl := k77_openM hM39; have hx39_0 : w77.cell? ⟨go39, (x10_2 : Int).toNat * 2, none⟩ = some (.int .i64 ((rd_T77 t591 x10_2).f0)) := hcc39 0 _ rfl; have hx39_1 : w77.cell? ⟨go39, (x10_2 : Int).toNat * 2 + 1, none⟩ = some (.int .i64 ((rd_T77 t591 x10_2).f1)) := hcc39 1 _ rfl; have hf39_0 : w77.frozen? ⟨go39, (x10_2 : Int).toNat * 2, none⟩ = false := hfr39 0; have hf39_1 : w77.frozen? ⟨go39, (x10_2 : Int).toNat * 2 + 1, none⟩ = false := hfr39 1; clear hcl39 hcc39 hfr39 hM39; replace p39 := eq_true p39; replace q39 := eq_true q39; have n_ := Aside0.mk (Kd.R_mono (ok' := (fun k_ => some k_ ≠ (.slice Ao23 x7_2.length co23 : Value).ownBlock)) HO593.out (fun k_ hk => hk.2)); clear HO593; have HO593 := n_; clear n_; have HX79 := Aside0.mk (show Kd.R k77 77 w77 w.heap.size (fun k_ => some k_ ≠ (.slice Ao23 x7_2.length co23 : Value).ownBlock) (.slice (some ⟨go39, 0, none⟩) t591.length co78) t591 from (rk HO593.out)); obtain ⟨ce79, hcl79, hM79, hcc79, hfr79⟩ := Kd.R_elem HX79.out z77 (x10_2 : Int) (od) (by have h_ : (x10_2 : Int) < ((t591.length : Int) : Int) := od; first | exact h_ | (have e_ := (Kd.R_reads' HO593.out).1; omega) | simpa using h_); obtain rfl := k77_openM hM79; have HP79 := Kd.R_seg HX79.out (x10_2 : Int) (od) (by have h_ : (x10_2 : Int) < ((t591.length : Int) : Int) := od; first | exact h_ | (have e_ := (Kd.R_reads' HO593.out).1; omega) | simpa using h_) (seg := [.int .i64 (wrap64 (((rd_T77 t591 x10_2).f1) + 1))]) (j := 1) hcl79 hcc79 (show 2 ≤ 2 from by decide) (x' := (⟨(rd_T77 t591 x10_2).f0, wrap64 (((rd_T77 t591 x10_2).f1) + 1)⟩ : S77)) (k77_mkM _ _ _ (⟨(rd_T77 t591 x10_2).f0, wrap64 (((rd_T77 t591 x10_2).f1) + 1)⟩ : S77) ) (fun _ hk => hk); have hx79_1 := hcc79 1 _ rfl; (try simp only [show (k77).sz = 2 from rfl, Nat.mul_one, Nat.add_zero] at hx79_1); have hf79_1 := hfr79 1; (try simp only [show (k77).sz = 2 from rfl, Nat.mul_one, Nat.add_zero] at hf79_1); clear hcl79 hcc79 hfr79 hM79) | ((with_reducible refine gate_store (t := 3) (p := 93) rfl ?_); refine store_event (t := 3) (p := 93) (v := ?vo_w80) (w1 := (w77.setCell ⟨go39, (x10_2 : Int).toNat * 2 + 1, none⟩ (.int .i64 (wrap64 (((rd_T77 t591 x10_2).f1) + 1))))) ?hg ?ho ?hn ?hr ?_; (case ho => rfl); (case hg => rfl); (case hn => rfl); (case hr => first | (go_simp; done) | (go_simp; rfl)); intro w80 hw; have hg : w77.grownBy w80 (some go39) := (by rw [hw]; exact HP79.2); have hp_ : Kd.R k77 77 w80 w.heap.size (fun k_ => some k_ ≠ (.slice Ao23 x7_2.length co23 : Value).ownBlock) (.slice (some ⟨go39, 0, none⟩) t591.length co78) y595 := (by rw [hw, Ny595.out]; exact HP79.1); clear HP79; replace HO_7 := Aside0.mk (Kd.R_after (v := (.slice (some ⟨go39, 0, none⟩) t591.length co78)) (v1 := (.slice (some ⟨go39, 0, none⟩) t591.length co78)) (ok := (fun _ => True)) (rk HO_7.out) hg (.inl rfl)); replace BK570 := Aside0.mk (blk_grown (g := gb570) (o := .cells #[.int .i64 a0_0, .slice A0_1 l0_1.length c0_1, .slice A0_2 l0_2.length c0_2, .slice A0_3 l0_3.length c0_3, .string a0_4] 55 (0, 0)) (bk BK570.out) hg (Kd.R_ne HO593.out BK570.out (by decide))); replace HO593 := Aside0.mk (hp_); replace HB := Aside0.mk ((by rw [hw]; exact below_set (HB.out) GB39.out : Below w.heap.size w w80)); clear hg hw hp_))
               have n0_ := Aside0.mk (Kd.R_drew HO_7.out)
               have n1_ := Aside0.mk (Kd.R_drew HO593.out)
               have n2_ := Aside0.mk (blk_drew BK570.out)
               have n3_ := Aside0.mk (below_drew1 HB.out)
               clear HO_7
               clear HO593
               clear BK570
               clear HB
               have HO_7 := n0_
               have HO593 := n1_
               have BK570 := n2_
               have HB := n3_
               clear n0_ n1_ n2_ n3_
               have q82 : (x10_2 : Int) ≤ ((x7_2.length : Int) : Int) := od
               obtain ⟨i082, hi082, _, hsz82, _⟩ := info_parts info77
               have hroom82 : x7_2.length ≤ co23 := (Kd.R_reads' HO_7.out).2.1
               have hC82 : Kd.C k77 _ Ao23 x7_2.length x7_2 := (Kd.R_reads' HO_7.out).2.2
               have hcut82 := cut_to (P := Try.prog) 75 77 .i64 Try.underlying75 hi082 Ao23 x7_2.length co23 x10_2 (od) q82 hroom82
               have hr82 := Kd.C_take (m := (x10_2 : Int).toNat) hC82 (by omega)
               have hy82 : y596.length = (x10_2 : Int).toNat := (by rw [Ny596.out, List.length_take]; omega)
               rw [← Ny596.out] at hr82
               rw [← hy82] at hcut82
               have HR599 := Aside0.mk hr82
               have HC599 := Aside0.mk (show y596.length ≤ co23 from by omega)
               clear hr82 hC82 hroom82 hi082 hsz82
               have KY82 := Aside0.mk hy82
               clear hy82
               have KL82 := Aside0.mk (show (x10_2 : Int).toNat ≤ x7_2.length from by omega)
               replace q82 := eq_true q82
               refine start_ (n := 11) (S := fun w' => w'.cell? ⟨gb570, 0, none⟩ = some (.int .i64 a0_0) ∧ w'.cell? ⟨gb570, 1, none⟩ = some (.slice A0_1 l0_1.length c0_1) ∧ w'.cell? ⟨gb570, 2, none⟩ = some (.slice A0_2 l0_2.length c0_2) ∧ w'.cell? ⟨gb570, 3, none⟩ = some (.slice A0_3 l0_3.length c0_3) ∧ w'.cell? ⟨gb570, 4, none⟩ = some (.string a0_4)) (ds := []) #[O,O,O,O,O,O,O,O,O,O,O] (by kernel_rfl) rfl rfl ⟨(blk_cell BK570.out 0).trans rfl, (blk_cell BK570.out 1).trans rfl, (blk_cell BK570.out 2).trans rfl, (blk_cell BK570.out 3).trans rfl, (blk_cell BK570.out 4).trans rfl⟩ (fun hHeld => ?_); refine with_tabW fairwaylaw12_IndexMarks.tab16 fairwaylaw12_IndexMarks.bits16 (fun HT_ HW_ => ?_)
               generalize w80.drew = w81 at HO_7 HO593 BK570 HB HR599 hHeld ⊢
               refine pz (i := 0) (N := some 95) #[I,O,O,O,O,O,O,O,O,O,O] ?_
               refine pz (i := 2) (N := some 97) #[I,O,I,O,O,O,O,O,O,O,O] ?_
               refine pz (i := 3) (N := some 98) #[I,O,I,I,O,O,O,O,O,O,O] ?_
               refine pz (i := 4) (N := some 99) #[I,O,I,I,I,O,O,O,O,O,O] ?_
               refine tz (i := 1) (N := some 96) #[I,I,I,I,I,O,O,O,O,O,O] ?_
               refine one_ (i := 5) (N := some 100) #[I,I,I,I,I,I,O,O,O,O,O] rfl rfl (one_of HT_.out (by kernel_rfl)) (by decide) (fun K hK => ?_)
               refine goes_ Try.func55 (by kernel_rfl) rfl #[.agg #[.int .i64 a0_0, .slice A0_1 l0_1.length c0_1], .slice Ao23 y596.length co23] (by rfl) rfl rfl aa ?_
               with_reducible refine (index_Check.calls k2 a0_0 _ _ l0_1 _ _ y596 false t601 _ ?side1 ?side2 ?side3 ?side4 A42.out).mono ?_
               (case side1 => repeat (first | exact (Kd.C_below HR0_1.out HB.out) | (with_reducible refine Kd.C_alloc ?_ _) | (with_reducible refine Kd.C_drewN ?_ _) | (with_reducible refine Kd.C_drew ?_)))
               (case side2 => exact HC0_1.out)
               (case side3 => repeat (first | exact (by repeat (first | (with_reducible exact HR599.out) | (with_reducible refine Kd.C_alloc ?_ _) | (with_reducible refine Kd.C_drewN ?_ _) | (with_reducible refine Kd.C_drew ?_) | exact HR599.out)) | (with_reducible refine Kd.C_alloc ?_ _) | (with_reducible refine Kd.C_drewN ?_ _) | (with_reducible refine Kd.C_drew ?_)))
               (case side4 => exact HC599.out)
               rintro e w83 ⟨rfl, hb⟩
               refine ⟨_, rfl, ?_⟩
               have n0_ := Aside0.mk (Kd.R_below (rk HO_7.out) hb)
               have n1_ := Aside0.mk (Kd.R_below (rk HO593.out) hb)
               have n2_ := Aside0.mk (blk_below (g := gb570) (o := .cells #[.int .i64 a0_0, .slice A0_1 l0_1.length c0_1, .slice A0_2 l0_2.length c0_2, .slice A0_3 l0_3.length c0_3, .string a0_4] 55 (0, 0)) (bk BK570.out) hb)
               have n3_ := Aside0.mk (Kd.C_below (by repeat (first | (with_reducible exact HR599.out) | (with_reducible refine Kd.C_alloc ?_ _) | (with_reducible refine Kd.C_drewN ?_ _) | (with_reducible refine Kd.C_drew ?_) | exact HR599.out)) hb)
               have n4_ := Aside0.mk (below_step bo hb)
               clear HO_7
               clear HO593
               clear BK570
               clear HR599
               clear HB
               have HO_7 := n0_
               have HO593 := n1_
               have BK570 := n2_
               have HR599 := n3_
               have HB := n4_
               clear n0_ n1_ n2_ n3_ n4_
               (try clear hb)
               (try clear hb2)
               (try clear hk)
               (try clear hi)
               refine hK.out _ _ ⟨(blk_cell BK570.out 0).trans rfl, (blk_cell BK570.out 1).trans rfl, (blk_cell BK570.out 2).trans rfl, (blk_cell BK570.out 3).trans rfl, (blk_cell BK570.out 4).trans rfl⟩ (fun hHeld => ?_)
               clear hK K
               refine norm_ (a' := ?_) ?_ ?_
               rotate_left
               ·show Act.put _ (some 100) _ = _
                simp only [Act.put, List.setIfInBounds_toArray, List.set_cons_zero, List.set_cons_succ, i64_w, i32_w]
                rfl
               refine pz (i := 6) (N := some 94) #[I,I,I,I,I,I,I,O,O,O,O] ?_
               refine pz (i := 7) (N := some 101) #[I,I,I,I,I,I,I,I,O,O,O] ?_
               refine pz (i := 8) (N := some 102) #[I,I,I,I,I,I,I,I,I,O,O] ?_
               refine pz (i := 9) (N := some 12) #[I,I,I,I,I,I,I,I,I,I,O] ?_
               refine pz (i := 10) (N := some 13) #[I,I,I,I,I,I,I,I,I,I,I] ?_
               refine done_ (done_of HT_.out (by kernel_rfl)) ?_
               have hcz84_0 : w83.cell? ⟨gb570, 0, none⟩ = some (.int .i64 a0_0) := (blk_cell BK570.out 0).trans rfl
               have hcz84_1 : w83.cell? ⟨gb570, 1, none⟩ = some (.slice A0_1 l0_1.length c0_1) := (blk_cell BK570.out 1).trans rfl
               have hcz84_2 : w83.cell? ⟨gb570, 2, none⟩ = some (.slice A0_2 l0_2.length c0_2) := (blk_cell BK570.out 2).trans rfl
               have hcz84_3 : w83.cell? ⟨gb570, 3, none⟩ = some (.slice A0_3 l0_3.length c0_3) := (blk_cell BK570.out 3).trans rfl
               have hcz84_4 : w83.cell? ⟨gb570, 4, none⟩ = some (.string a0_4) := (blk_cell BK570.out 4).trans rfl
               have hfz84_0 := blk_frozen BK570.out 0
               have hfz84_1 := blk_frozen BK570.out 1
               have hfz84_2 := blk_frozen BK570.out 2
               have hfz84_3 := blk_frozen BK570.out 3
               have hfz84_4 := blk_frozen BK570.out 4
               try go_wp2_with (first | ((with_reducible refine gate_callee (f := 55) rfl ?_); refine goesL_ (some 107) rfl rfl Try.func55 (by kernel_rfl) rfl #[.agg #[.int .i64 a0_0, .slice A0_1 l0_1.length c0_1], .slice (some ⟨go39, 0, none⟩) y595.length co78] rfl (by (try simp only [List.map_toArray, List.map_cons, List.map_nil]); first | done | (rw [show y595.length = t591.length from (Kd.R_reads' HO593.out).1.symm] <;> rfl) | rfl | (simp only [List.length_drop, List.length_take]; rfl) | (simp only [ByteArray.size_append]; rfl) | (simp; done)) ?_; (with_reducible refine (index_Check.calls k2 a0_0 _ _ l0_1 _ _ y595 t602 t603 _ ?side1 ?side2 ?side3 ?side4 A43.out).mono ?_); (case side1 => repeat (first | exact (Kd.C_below HR0_1.out HB.out) | (with_reducible refine Kd.C_alloc ?_ _) | (with_reducible refine Kd.C_drewN ?_ _) | (with_reducible refine Kd.C_drew ?_))); (case side2 => exact HC0_1.out); (case side3 => repeat (first | exact (Kd.R_reads' HO593.out).2.2 | (with_reducible refine Kd.C_alloc ?_ _) | (with_reducible refine Kd.C_drewN ?_ _) | (with_reducible refine Kd.C_drew ?_))); (case side4 => rw [show y595.length = t591.length from (Kd.R_reads' HO593.out).1.symm]; exact (Kd.R_reads' HO593.out).2.1); rintro e w85 ⟨rfl, hb⟩; refine ⟨_, rfl, ?_⟩; replace HO_7 := Aside0.mk (Kd.R_below (rk HO_7.out) hb); replace HO593 := Aside0.mk (Kd.R_below (rk HO593.out) hb); replace BK570 := Aside0.mk (blk_below (g := gb570) (o := .cells #[.int .i64 a0_0, .slice A0_1 l0_1.length c0_1, .slice A0_2 l0_2.length c0_2, .slice A0_3 l0_3.length c0_3, .string a0_4] 55 (0, 0)) (bk BK570.out) hb); replace HR599 := Aside0.mk (Kd.C_below (by repeat (first | (with_reducible exact HR599.out) | (with_reducible refine Kd.C_alloc ?_ _) | (with_reducible refine Kd.C_drewN ?_ _) | (with_reducible refine Kd.C_drew ?_) | exact HR599.out)) hb); replace HB := Aside0.mk (below_step bo hb); (try clear hb); (try clear hb2); (try clear hk); (try clear hi)) | ((with_reducible refine gate_callee (f := 52) rfl ?_); refine goesL_ (some 111) rfl rfl Try.func52 (by kernel_rfl) rfl #[.int .i64 t601] rfl aa ?_; (with_reducible refine (fairwaylaw12_num.calls t601 t604 _ A44.out).mono ?_); rintro e w' ⟨rfl, ⟨nd, rfl⟩⟩; refine ⟨_, rfl, ?_⟩) | (go_at_call 52; (with_reducible refine (fairwaylaw12_num.calls t603 t605 _ A56.out).mono ?_); rintro e w' ⟨rfl, ⟨nd, rfl⟩⟩))
               go_ret
               exact ⟨er, bo⟩
            ·rw [if_neg c45] at H
             have c45b0 : (t604 == 0) = false := beq_eq_false_iff_ne.mpr c45
             have c45b1 : (t604 != 0) = true := bne_iff_ne.mpr c45
             obtain rfl := Option.some.inj H
             try go_wp2_with (first | ((with_reducible refine gate_callee (f := 58) rfl ?_); refine goesL_ (some 85) rfl rfl Try.func58 (by kernel_rfl) rfl #[.slice Ao23 x7_2.length co23] rfl aa ?_; (with_reducible refine (fairwayref0_CopyMarks.calls k2 _ _ x7_2 t591 _ ?side1 ?side2 A36.out).mono ?_); (case side1 => repeat (first | exact (Kd.R_reads' HO_7.out).2.2 | (with_reducible refine Kd.C_alloc ?_ _) | (with_reducible refine Kd.C_drewN ?_ _) | (with_reducible refine Kd.C_drew ?_))); (case side2 => exact (Kd.R_reads' HO_7.out).2.1); rintro e w86 ⟨v592, rfl, ho0, hb⟩; refine ⟨_, rfl, ?_⟩; have n0_ := Aside0.mk (Kd.R_elder' (rk HO_7.out) (Kd.R_base ho0) hb); have n1_ := Aside0.mk (Kd.R_lower (Kd.R_new' ho0 (Kd.R_lt (rk HO_7.out))) (below_size bo)); have n2_ := Aside0.mk (blk_below (g := gb570) (o := .cells #[.int .i64 a0_0, .slice A0_1 l0_1.length c0_1, .slice A0_2 l0_2.length c0_2, .slice A0_3 l0_3.length c0_3, .string a0_4] 55 (0, 0)) (bk BK570.out) hb); have n3_ := Aside0.mk (below_step bo hb); clear HO_7; clear BK570; clear HB; have HO_7 := n0_; have HO593 := n1_; have BK570 := n2_; have HB := n3_; clear n0_ n1_ n2_ n3_; (try clear hb); (try clear hb2); (try clear hk); (try clear hi); (try clear ho0); obtain ⟨Ao87, co87, eo87⟩ := Kd.R_slice HO593.out; subst eo87; have p594 : 0 ≤ (x10_2 : Int) := od; have q594 : x10_2 < (t591.length : Int) := od; obtain ⟨ad594, e594, hx594_0, hx594_1⟩ := at_T77 (Kd.R_reads' HO593.out).2.2 x10_2 p594 q594; cases e594; replace p594 := eq_true p594; replace q594 := eq_true q594; have p39 : 0 ≤ (x10_2 : Int) := od; have q39 : (x10_2 : Int) < ((t591.length : Int) : Int) := od; obtain ⟨go39, co39, eo39, gb39, gl39, cl39, HG39⟩ := Kd.R_form HO593.out (by omega); (first | cases eo39 | (injection eo39 with ea_ en_ ec_; (first | subst ea_ | (injection ea_ with ea_; subst ea_)); subst ec_; clear en_)); have GB39 := Aside0.mk gb39; have GG39 := Aside0.mk HG39; clear gb39 gl39 HG39; (first | simp only [add_plain] at hx594_0 | skip); (first | simp only [add_plain] at hx594_1 | skip); obtain ⟨ce39, hcl39, hM39, hcc39, hfr39⟩ := Kd.R_elem HO593.out z77 (x10_2 : Int) p39 q39; obtain rfl := k77_openM hM39; have hx39_0 : w86.cell? ⟨go39, (x10_2 : Int).toNat * 2, none⟩ = some (.int .i64 ((rd_T77 t591 x10_2).f0)) := hcc39 0 _ rfl; have hx39_1 : w86.cell? ⟨go39, (x10_2 : Int).toNat * 2 + 1, none⟩ = some (.int .i64 ((rd_T77 t591 x10_2).f1)) := hcc39 1 _ rfl; have hf39_0 : w86.frozen? ⟨go39, (x10_2 : Int).toNat * 2, none⟩ = false := hfr39 0; have hf39_1 : w86.frozen? ⟨go39, (x10_2 : Int).toNat * 2 + 1, none⟩ = false := hfr39 1; clear hcl39 hcc39 hfr39 hM39; replace p39 := eq_true p39; replace q39 := eq_true q39; have n_ := Aside0.mk (Kd.R_mono (ok' := (fun k_ => some k_ ≠ (.slice Ao23 x7_2.length co23 : Value).ownBlock)) HO593.out (fun k_ hk => hk.2)); clear HO593; have HO593 := n_; clear n_; have HX88 := Aside0.mk (show Kd.R k77 77 w86 w.heap.size (fun k_ => some k_ ≠ (.slice Ao23 x7_2.length co23 : Value).ownBlock) (.slice (some ⟨go39, 0, none⟩) t591.length co87) t591 from (rk HO593.out)); obtain ⟨ce88, hcl88, hM88, hcc88, hfr88⟩ := Kd.R_elem HX88.out z77 (x10_2 : Int) (od) (by have h_ : (x10_2 : Int) < ((t591.length : Int) : Int) := od; first | exact h_ | (have e_ := (Kd.R_reads' HO593.out).1; omega) | simpa using h_); obtain rfl := k77_openM hM88; have HP88 := Kd.R_seg HX88.out (x10_2 : Int) (od) (by have h_ : (x10_2 : Int) < ((t591.length : Int) : Int) := od; first | exact h_ | (have e_ := (Kd.R_reads' HO593.out).1; omega) | simpa using h_) (seg := [.int .i64 (wrap64 (((rd_T77 t591 x10_2).f1) + 1))]) (j := 1) hcl88 hcc88 (show 2 ≤ 2 from by decide) (x' := (⟨(rd_T77 t591 x10_2).f0, wrap64 (((rd_T77 t591 x10_2).f1) + 1)⟩ : S77)) (k77_mkM _ _ _ (⟨(rd_T77 t591 x10_2).f0, wrap64 (((rd_T77 t591 x10_2).f1) + 1)⟩ : S77) ) (fun _ hk => hk); have hx88_1 := hcc88 1 _ rfl; (try simp only [show (k77).sz = 2 from rfl, Nat.mul_one, Nat.add_zero] at hx88_1); have hf88_1 := hfr88 1; (try simp only [show (k77).sz = 2 from rfl, Nat.mul_one, Nat.add_zero] at hf88_1); clear hcl88 hcc88 hfr88 hM88) | ((with_reducible refine gate_store (t := 3) (p := 93) rfl ?_); refine store_event (t := 3) (p := 93) (v := ?vo_w89) (w1 := (w86.setCell ⟨go39, (x10_2 : Int).toNat * 2 + 1, none⟩ (.int .i64 (wrap64 (((rd_T77 t591 x10_2).f1) + 1))))) ?hg ?ho ?hn ?hr ?_; (case ho => rfl); (case hg => rfl); (case hn => rfl); (case hr => first | (go_simp; done) | (go_simp; rfl)); intro w89 hw; have hg : w86.grownBy w89 (some go39) := (by rw [hw]; exact HP88.2); have hp_ : Kd.R k77 77 w89 w.heap.size (fun k_ => some k_ ≠ (.slice Ao23 x7_2.length co23 : Value).ownBlock) (.slice (some ⟨go39, 0, none⟩) t591.length co87) y595 := (by rw [hw, Ny595.out]; exact HP88.1); clear HP88; replace HO_7 := Aside0.mk (Kd.R_after (v := (.slice (some ⟨go39, 0, none⟩) t591.length co87)) (v1 := (.slice (some ⟨go39, 0, none⟩) t591.length co87)) (ok := (fun _ => True)) (rk HO_7.out) hg (.inl rfl)); replace BK570 := Aside0.mk (blk_grown (g := gb570) (o := .cells #[.int .i64 a0_0, .slice A0_1 l0_1.length c0_1, .slice A0_2 l0_2.length c0_2, .slice A0_3 l0_3.length c0_3, .string a0_4] 55 (0, 0)) (bk BK570.out) hg (Kd.R_ne HO593.out BK570.out (by decide))); replace HO593 := Aside0.mk (hp_); replace HB := Aside0.mk ((by rw [hw]; exact below_set (HB.out) GB39.out : Below w.heap.size w w89)); clear hg hw hp_))
             have n0_ := Aside0.mk (Kd.R_drew HO_7.out)
             have n1_ := Aside0.mk (Kd.R_drew HO593.out)
             have n2_ := Aside0.mk (blk_drew BK570.out)
             have n3_ := Aside0.mk (below_drew1 HB.out)
             clear HO_7
             clear HO593
             clear BK570
             clear HB
             have HO_7 := n0_
             have HO593 := n1_
             have BK570 := n2_
             have HB := n3_
             clear n0_ n1_ n2_ n3_
             have q91 : (x10_2 : Int) ≤ ((x7_2.length : Int) : Int) := od
             obtain ⟨i091, hi091, _, hsz91, _⟩ := info_parts info77
             have hroom91 : x7_2.length ≤ co23 := (Kd.R_reads' HO_7.out).2.1
             have hC91 : Kd.C k77 _ Ao23 x7_2.length x7_2 := (Kd.R_reads' HO_7.out).2.2
             have hcut91 := cut_to (P := Try.prog) 75 77 .i64 Try.underlying75 hi091 Ao23 x7_2.length co23 x10_2 (od) q91 hroom91
             have hr91 := Kd.C_take (m := (x10_2 : Int).toNat) hC91 (by omega)
             have hy91 : y596.length = (x10_2 : Int).toNat := (by rw [Ny596.out, List.length_take]; omega)
             rw [← Ny596.out] at hr91
             rw [← hy91] at hcut91
             have HR599 := Aside0.mk hr91
             have HC599 := Aside0.mk (show y596.length ≤ co23 from by omega)
             clear hr91 hC91 hroom91 hi091 hsz91
             have KY91 := Aside0.mk hy91
             clear hy91
             have KL91 := Aside0.mk (show (x10_2 : Int).toNat ≤ x7_2.length from by omega)
             replace q91 := eq_true q91
             refine start_ (n := 11) (S := fun w' => w'.cell? ⟨gb570, 0, none⟩ = some (.int .i64 a0_0) ∧ w'.cell? ⟨gb570, 1, none⟩ = some (.slice A0_1 l0_1.length c0_1) ∧ w'.cell? ⟨gb570, 2, none⟩ = some (.slice A0_2 l0_2.length c0_2) ∧ w'.cell? ⟨gb570, 3, none⟩ = some (.slice A0_3 l0_3.length c0_3) ∧ w'.cell? ⟨gb570, 4, none⟩ = some (.string a0_4)) (ds := []) #[O,O,O,O,O,O,O,O,O,O,O] (by kernel_rfl) rfl rfl ⟨(blk_cell BK570.out 0).trans rfl, (blk_cell BK570.out 1).trans rfl, (blk_cell BK570.out 2).trans rfl, (blk_cell BK570.out 3).trans rfl, (blk_cell BK570.out 4).trans rfl⟩ (fun hHeld => ?_); refine with_tabW fairwaylaw12_IndexMarks.tab16 fairwaylaw12_IndexMarks.bits16 (fun HT_ HW_ => ?_)
             generalize w89.drew = w90 at HO_7 HO593 BK570 HB HR599 hHeld ⊢
             refine pz (i := 0) (N := some 95) #[I,O,O,O,O,O,O,O,O,O,O] ?_
             refine pz (i := 2) (N := some 97) #[I,O,I,O,O,O,O,O,O,O,O] ?_
             refine pz (i := 3) (N := some 98) #[I,O,I,I,O,O,O,O,O,O,O] ?_
             refine pz (i := 4) (N := some 99) #[I,O,I,I,I,O,O,O,O,O,O] ?_
             refine tz (i := 1) (N := some 96) #[I,I,I,I,I,O,O,O,O,O,O] ?_
             refine one_ (i := 5) (N := some 100) #[I,I,I,I,I,I,O,O,O,O,O] rfl rfl (one_of HT_.out (by kernel_rfl)) (by decide) (fun K hK => ?_)
             refine goes_ Try.func55 (by kernel_rfl) rfl #[.agg #[.int .i64 a0_0, .slice A0_1 l0_1.length c0_1], .slice Ao23 y596.length co23] (by rfl) rfl rfl aa ?_
             with_reducible refine (index_Check.calls k2 a0_0 _ _ l0_1 _ _ y596 t600 t601 _ ?side1 ?side2 ?side3 ?side4 A42.out).mono ?_
             (case side1 => repeat (first | exact (Kd.C_below HR0_1.out HB.out) | (with_reducible refine Kd.C_alloc ?_ _) | (with_reducible refine Kd.C_drewN ?_ _) | (with_reducible refine Kd.C_drew ?_)))
             (case side2 => exact HC0_1.out)
             (case side3 => repeat (first | exact (by repeat (first | (with_reducible exact HR599.out) | (with_reducible refine Kd.C_alloc ?_ _) | (with_reducible refine Kd.C_drewN ?_ _) | (with_reducible refine Kd.C_drew ?_) | exact HR599.out)) | (with_reducible refine Kd.C_alloc ?_ _) | (with_reducible refine Kd.C_drewN ?_ _) | (with_reducible refine Kd.C_drew ?_)))
             (case side4 => exact HC599.out)
             rintro e w92 ⟨rfl, hb⟩
             refine ⟨_, rfl, ?_⟩
             have n0_ := Aside0.mk (Kd.R_below (rk HO_7.out) hb)
             have n1_ := Aside0.mk (Kd.R_below (rk HO593.out) hb)
             have n2_ := Aside0.mk (blk_below (g := gb570) (o := .cells #[.int .i64 a0_0, .slice A0_1 l0_1.length c0_1, .slice A0_2 l0_2.length c0_2, .slice A0_3 l0_3.length c0_3, .string a0_4] 55 (0, 0)) (bk BK570.out) hb)
             have n3_ := Aside0.mk (Kd.C_below (by repeat (first | (with_reducible exact HR599.out) | (with_reducible refine Kd.C_alloc ?_ _) | (with_reducible refine Kd.C_drewN ?_ _) | (with_reducible refine Kd.C_drew ?_) | exact HR599.out)) hb)
             have n4_ := Aside0.mk (below_step bo hb)
             clear HO_7
             clear HO593
             clear BK570
             clear HR599
             clear HB
             have HO_7 := n0_
             have HO593 := n1_
             have BK570 := n2_
             have HR599 := n3_
             have HB := n4_
             clear n0_ n1_ n2_ n3_ n4_
             (try clear hb)
             (try clear hb2)
             (try clear hk)
             (try clear hi)
             refine hK.out _ _ ⟨(blk_cell BK570.out 0).trans rfl, (blk_cell BK570.out 1).trans rfl, (blk_cell BK570.out 2).trans rfl, (blk_cell BK570.out 3).trans rfl, (blk_cell BK570.out 4).trans rfl⟩ (fun hHeld => ?_)
             clear hK K
             refine norm_ (a' := ?_) ?_ ?_
             rotate_left
             ·show Act.put _ (some 100) _ = _
              simp only [Act.put, List.setIfInBounds_toArray, List.set_cons_zero, List.set_cons_succ, i64_w, i32_w]
              rfl
             refine pz (i := 6) (N := some 94) #[I,I,I,I,I,I,I,O,O,O,O] ?_
             refine pz (i := 7) (N := some 101) #[I,I,I,I,I,I,I,I,O,O,O] ?_
             refine pz (i := 8) (N := some 102) #[I,I,I,I,I,I,I,I,I,O,O] ?_
             refine pz (i := 9) (N := some 12) #[I,I,I,I,I,I,I,I,I,I,O] ?_
             refine pz (i := 10) (N := some 13) #[I,I,I,I,I,I,I,I,I,I,I] ?_
             refine done_ (done_of HT_.out (by kernel_rfl)) ?_
             have hcz93_0 : w92.cell? ⟨gb570, 0, none⟩ = some (.int .i64 a0_0) := (blk_cell BK570.out 0).trans rfl
             have hcz93_1 : w92.cell? ⟨gb570, 1, none⟩ = some (.slice A0_1 l0_1.length c0_1) := (blk_cell BK570.out 1).trans rfl
             have hcz93_2 : w92.cell? ⟨gb570, 2, none⟩ = some (.slice A0_2 l0_2.length c0_2) := (blk_cell BK570.out 2).trans rfl
             have hcz93_3 : w92.cell? ⟨gb570, 3, none⟩ = some (.slice A0_3 l0_3.length c0_3) := (blk_cell BK570.out 3).trans rfl
             have hcz93_4 : w92.cell? ⟨gb570, 4, none⟩ = some (.string a0_4) := (blk_cell BK570.out 4).trans rfl
             have hfz93_0 := blk_frozen BK570.out 0
             have hfz93_1 := blk_frozen BK570.out 1
             have hfz93_2 := blk_frozen BK570.out 2
             have hfz93_3 := blk_frozen BK570.out 3
             have hfz93_4 := blk_frozen BK570.out 4
             try go_wp2_with (first | ((with_reducible refine gate_callee (f := 55) rfl ?_); refine goesL_ (some 107) rfl rfl Try.func55 (by kernel_rfl) rfl #[.agg #[.int .i64 a0_0, .slice A0_1 l0_1.length c0_1], .slice (some ⟨go39, 0, none⟩) y595.length co87] rfl (by (try simp only [List.map_toArray, List.map_cons, List.map_nil]); first | done | (rw [show y595.length = t591.length from (Kd.R_reads' HO593.out).1.symm] <;> rfl) | rfl | (simp only [List.length_drop, List.length_take]; rfl) | (simp only [ByteArray.size_append]; rfl) | (simp; done)) ?_; (with_reducible refine (index_Check.calls k2 a0_0 _ _ l0_1 _ _ y595 t602 t603 _ ?side1 ?side2 ?side3 ?side4 A43.out).mono ?_); (case side1 => repeat (first | exact (Kd.C_below HR0_1.out HB.out) | (with_reducible refine Kd.C_alloc ?_ _) | (with_reducible refine Kd.C_drewN ?_ _) | (with_reducible refine Kd.C_drew ?_))); (case side2 => exact HC0_1.out); (case side3 => repeat (first | exact (Kd.R_reads' HO593.out).2.2 | (with_reducible refine Kd.C_alloc ?_ _) | (with_reducible refine Kd.C_drewN ?_ _) | (with_reducible refine Kd.C_drew ?_))); (case side4 => rw [show y595.length = t591.length from (Kd.R_reads' HO593.out).1.symm]; exact (Kd.R_reads' HO593.out).2.1); rintro e w94 ⟨rfl, hb⟩; refine ⟨_, rfl, ?_⟩; replace HO_7 := Aside0.mk (Kd.R_below (rk HO_7.out) hb); replace HO593 := Aside0.mk (Kd.R_below (rk HO593.out) hb); replace BK570 := Aside0.mk (blk_below (g := gb570) (o := .cells #[.int .i64 a0_0, .slice A0_1 l0_1.length c0_1, .slice A0_2 l0_2.length c0_2, .slice A0_3 l0_3.length c0_3, .string a0_4] 55 (0, 0)) (bk BK570.out) hb); replace HR599 := Aside0.mk (Kd.C_below (by repeat (first | (with_reducible exact HR599.out) | (with_reducible refine Kd.C_alloc ?_ _) | (with_reducible refine Kd.C_drewN ?_ _) | (with_reducible refine Kd.C_drew ?_) | exact HR599.out)) hb); replace HB := Aside0.mk (below_step bo hb); (try clear hb); (try clear hb2); (try clear hk); (try clear hi)) | ((with_reducible refine gate_callee (f := 52) rfl ?_); refine goesL_ (some 111) rfl rfl Try.func52 (by kernel_rfl) rfl #[.int .i64 t601] rfl aa ?_; (with_reducible refine (fairwaylaw12_num.calls t601 t604 _ A44.out).mono ?_); rintro e w' ⟨rfl, ⟨nd, rfl⟩⟩; refine ⟨_, rfl, ?_⟩))
             go_ret
             exact ⟨er, bo⟩
           ·rw [if_neg c41] at H
            exact absurd H (by simp)
          ·rw [if_neg c38] at H
           exact absurd H (by simp)
         ·rw [if_neg c37] at H
          exact absurd H (by simp)
        ·rw [if_neg c35] at H
         have c35b0 : decide (x10_2 < (x7_2.length : Int)) = false := decide_eq_false c35
         (try (have c35z0hl7_2 := c35b0; rw [hl7_2] at c35z0hl7_2))
         clear c35
         replace H := Option.bind_eq_some_iff.mp H
         obtain ⟨t590, A950, H⟩ := H
         replace H : (some t590) = some r := H
         have A95 := Aside0.mk A950
         clear A950
         obtain rfl := Option.some.inj H
         go_wp2_with (first | ((with_reducible refine gate_callee (f := 53) rfl ?_); refine goesL_ (some 124) rfl rfl Try.func53 (by kernel_rfl) rfl #[] rfl aa ?_; (with_reducible refine (fairwaylaw12_wakes.calls k2  t590 _ A95.out).mono ?_); rintro e w96 ⟨rfl, hb⟩; refine ⟨_, rfl, ?_⟩; replace HO_7 := Aside0.mk (Kd.R_below (rk HO_7.out) hb); replace BK570 := Aside0.mk (blk_below (g := gb570) (o := .cells #[.int .i64 a0_0, .slice A0_1 l0_1.length c0_1, .slice A0_2 l0_2.length c0_2, .slice A0_3 l0_3.length c0_3, .string a0_4] 55 (0, 0)) (bk BK570.out) hb); replace HB := Aside0.mk (below_step bo hb); (try clear hb); (try clear hb2); (try clear hk); (try clear hi)))
         go_ret
         exact ⟨er, bo⟩
  ·replace c9 := Bool.eq_false_iff.mpr c9
   subst c9
   have H1 : ((index_Check.f k a0_0 l0_1 ([] : List (S77))).bind fun bt577 => ((fairwaylaw12_num.f t575).bind fun t579 => (if t579 = 1 then ((fairwaylaw12_num.f bt577.2).bind fun t580 => (if t580 = 1 then (if (t572.length : Int) = 0 then ((fairwaylaw12_wakes.f k).bind fun t581 => (some t581)) else (some false)) else (some false))) else (some false)))) = some r := by rw [if_neg (show ¬ (false = true) by decide)] at H; exact H
   clear H
   have H := H1
   clear H1
   replace H := Option.bind_eq_some_iff.mp H
   obtain ⟨⟨t577, t578⟩, A970, H⟩ := H
   replace H : ((fairwaylaw12_num.f t575).bind fun t579 => (if t579 = 1 then ((fairwaylaw12_num.f t578).bind fun t580 => (if t580 = 1 then (if (t572.length : Int) = 0 then ((fairwaylaw12_wakes.f k).bind fun t581 => (some t581)) else (some false)) else (some false))) else (some false))) = some r := H
   have A97 := Aside0.mk A970
   clear A970
   replace H := Option.bind_eq_some_iff.mp H
   obtain ⟨t579, A980, H⟩ := H
   replace H : (if t579 = 1 then ((fairwaylaw12_num.f t578).bind fun t580 => (if t580 = 1 then (if (t572.length : Int) = 0 then ((fairwaylaw12_wakes.f k).bind fun t581 => (some t581)) else (some false)) else (some false))) else (some false)) = some r := H
   have A98 := Aside0.mk A980
   clear A980
   by_cases c99 : t579 = 1
   ·rw [if_pos c99] at H
    have c99b0 : (t579 == 1) = true := beq_iff_eq.mpr c99
    have c99b1 : (t579 != 1) = false := bne_eq_false_iff_eq.mpr c99
    clear c99
    replace H := Option.bind_eq_some_iff.mp H
    obtain ⟨t580, A1000, H⟩ := H
    replace H : (if t580 = 1 then (if (t572.length : Int) = 0 then ((fairwaylaw12_wakes.f k).bind fun t581 => (some t581)) else (some false)) else (some false)) = some r := H
    have A100 := Aside0.mk A1000
    clear A1000
    by_cases c101 : t580 = 1
    ·rw [if_pos c101] at H
     have c101b0 : (t580 == 1) = true := beq_iff_eq.mpr c101
     have c101b1 : (t580 != 1) = false := bne_eq_false_iff_eq.mpr c101
     clear c101
     by_cases c102 : (t572.length : Int) = 0
     ·rw [if_pos c102] at H
      have c102b0 : ((t572.length : Int) == 0) = true := beq_iff_eq.mpr c102
      have c102b1 : ((t572.length : Int) != 0) = false := bne_eq_false_iff_eq.mpr c102
      clear c102
      replace H := Option.bind_eq_some_iff.mp H
      obtain ⟨t581, A1030, H⟩ := H
      replace H : (some t581) = some r := H
      have A103 := Aside0.mk A1030
      clear A1030
      obtain rfl := Option.some.inj H
      go_enter Try.func12, Try.ntmps12
      go_wp2_with (first | ((with_reducible refine gate_dst (N := 1) rfl ?_); (try (refine gate_guard (by rfl) ?_; dsimp only)); refine box_event ?hg (N := 1) ?hd (cs := #[.int .i64 a0_0, .slice A0_1 l0_1.length c0_1, .slice A0_2 l0_2.length c0_2, .slice A0_3 l0_3.length c0_3, .string a0_4]) (t := 55) ?hr ?_; (case hd => rfl); (case hg => rfl); (case hr => first | (go_simp; done) | (go_simp; rfl)); intro gb570 hg w104 hbox hb; have n0_ := Aside0.mk (below_step bo hb); have n1_ := Aside0.mk (hbox); have n2_ := Aside0.mk ((by rw [hg]; exact (below_size bo) : w.heap.size ≤ gb570)); have n3_ := Aside0.mk ((by rw [hg]; exact (below_size bo) : w.heap.size ≤ gb570)); clear HB; have HB := n0_; have BK570 := n1_; have GW570 := n2_; have GE570 := n3_; clear n0_ n1_ n2_ n3_; clear hb hbox hg; obtain ⟨hcz105_0, hcz105_1, hcz105_2, hcz105_3, hcz105_4⟩ := cl5 BK570.out; obtain ⟨hfz105_0, hfz105_1, hfz105_2, hfz105_3, hfz105_4⟩ := fz5 BK570.out) | ((with_reducible refine gate_callee (f := 30) rfl ?_); refine goesL_ (some 17) rfl rfl Try.func30 (by kernel_rfl) rfl #[.agg #[.int .i64 a0_0, .slice A0_1 l0_1.length c0_1, .slice A0_2 l0_2.length c0_2, .slice A0_3 l0_3.length c0_3, .string a0_4]] rfl aa ?_; (with_reducible refine (fairwaylaw11_Heavy.calls k a0_0 _ _ l0_1 _ _ l0_2 _ _ l0_3 a0_4 false _ ?side1 ?side2 ?side3 ?side4 ?side5 ?side6 A2.out).mono ?_); (case side1 => repeat (first | exact (Kd.C_below HR0_1.out HB.out) | (with_reducible refine Kd.C_alloc ?_ _) | (with_reducible refine Kd.C_drewN ?_ _) | (with_reducible refine Kd.C_drew ?_))); (case side2 => exact HC0_1.out); (case side3 => repeat (first | exact (Kd.C_below HR0_2.out HB.out) | (with_reducible refine Kd.C_alloc ?_ _) | (with_reducible refine Kd.C_drewN ?_ _) | (with_reducible refine Kd.C_drew ?_))); (case side4 => exact HC0_2.out); (case side5 => repeat (first | exact (Kd.C_below HR0_3.out HB.out) | (with_reducible refine Kd.C_alloc ?_ _) | (with_reducible refine Kd.C_drewN ?_ _) | (with_reducible refine Kd.C_drew ?_))); (case side6 => exact HC0_3.out); rintro e w106 ⟨rfl, hb⟩; refine ⟨_, rfl, ?_⟩; replace BK570 := Aside0.mk (blk_below (g := gb570) (o := .cells #[.int .i64 a0_0, .slice A0_1 l0_1.length c0_1, .slice A0_2 l0_2.length c0_2, .slice A0_3 l0_3.length c0_3, .string a0_4] 55 (0, 0)) (bk BK570.out) hb); replace HB := Aside0.mk (below_step bo hb); (try clear hb); (try clear hb2); (try clear hk); (try clear hi); obtain ⟨hcz107_0, hcz107_1, hcz107_2, hcz107_3, hcz107_4⟩ := cl5 BK570.out; obtain ⟨hfz107_0, hfz107_1, hfz107_2, hfz107_3, hfz107_4⟩ := fz5 BK570.out) | ((with_reducible refine gate_callee (f := 54) rfl ?_); refine goesL_ (some 21) rfl rfl Try.func54 (by kernel_rfl) rfl #[.agg #[.int .i64 a0_0, .slice A0_1 l0_1.length c0_1]] rfl aa ?_; (with_reducible refine (index_Marks.calls k a0_0 _ _ l0_1 t572 t575 _ ?side1 ?side2 A7.out).mono ?_); (case side1 => repeat (first | exact (Kd.C_below HR0_1.out HB.out) | (with_reducible refine Kd.C_alloc ?_ _) | (with_reducible refine Kd.C_drewN ?_ _) | (with_reducible refine Kd.C_drew ?_))); (case side2 => exact HC0_1.out); rintro e w108 ⟨v573, rfl, ho0, hb⟩; refine ⟨_, rfl, ?_⟩; have HO574 := Aside0.mk (Kd.R_lower ho0 (below_size bo)); replace BK570 := Aside0.mk (blk_below (g := gb570) (o := .cells #[.int .i64 a0_0, .slice A0_1 l0_1.length c0_1, .slice A0_2 l0_2.length c0_2, .slice A0_3 l0_3.length c0_3, .string a0_4] 55 (0, 0)) (bk BK570.out) hb); replace HB := Aside0.mk (below_step bo hb); (try clear hb); (try clear hb2); (try clear hk); (try clear hi); (try clear ho0); obtain ⟨hcz109_0, hcz109_1, hcz109_2, hcz109_3, hcz109_4⟩ := cl5 BK570.out; obtain ⟨hfz109_0, hfz109_1, hfz109_2, hfz109_3, hfz109_4⟩ := fz5 BK570.out) | ((with_reducible refine gate_callee (f := 31) rfl ?_); refine goesL_ (some 26) rfl rfl Try.func31 (by kernel_rfl) rfl #[.agg #[.int .i64 a0_0, .slice A0_1 l0_1.length c0_1]] rfl aa ?_; (with_reducible refine (fairwayref10_Seg.calls k a0_0 _ _ l0_1 false _ ?side1 ?side2 A8.out).mono ?_); (case side1 => repeat (first | exact (Kd.C_below HR0_1.out HB.out) | (with_reducible refine Kd.C_alloc ?_ _) | (with_reducible refine Kd.C_drewN ?_ _) | (with_reducible refine Kd.C_drew ?_))); (case side2 => exact HC0_1.out); rintro e w110 ⟨rfl, hb⟩; refine ⟨_, rfl, ?_⟩; replace HO574 := Aside0.mk (Kd.R_below (rk HO574.out) hb); replace BK570 := Aside0.mk (blk_below (g := gb570) (o := .cells #[.int .i64 a0_0, .slice A0_1 l0_1.length c0_1, .slice A0_2 l0_2.length c0_2, .slice A0_3 l0_3.length c0_3, .string a0_4] 55 (0, 0)) (bk BK570.out) hb); replace HB := Aside0.mk (below_step bo hb); (try clear hb); (try clear hb2); (try clear hk); (try clear hi); obtain ⟨hcz111_0, hcz111_1, hcz111_2, hcz111_3, hcz111_4⟩ := cl5 BK570.out; obtain ⟨hfz111_0, hfz111_1, hfz111_2, hfz111_3, hfz111_4⟩ := fz5 BK570.out) | ((with_reducible refine gate_callee (f := 55) rfl ?_); refine goesL_ (some 31) rfl rfl Try.func55 (by kernel_rfl) rfl #[.agg #[.int .i64 a0_0, .slice A0_1 l0_1.length c0_1], .slice none 0 0] rfl aa ?_; (refine (index_Check.calls k a0_0 _ _ l0_1 _ _ ([] : List (S77)) t577 t578 _ ?side1 ?side2 ?side3 ?side4 A97.out).mono ?_); (case side1 => repeat (first | exact (Kd.C_below HR0_1.out HB.out) | (with_reducible refine Kd.C_alloc ?_ _) | (with_reducible refine Kd.C_drewN ?_ _) | (with_reducible refine Kd.C_drew ?_))); (case side2 => exact HC0_1.out); (case side3 => exact Kd.C_nil _ _); (case side4 => exact Nat.le_refl _); rintro e w112 ⟨rfl, hb⟩; refine ⟨_, rfl, ?_⟩; replace HO574 := Aside0.mk (Kd.R_below (rk HO574.out) hb); replace BK570 := Aside0.mk (blk_below (g := gb570) (o := .cells #[.int .i64 a0_0, .slice A0_1 l0_1.length c0_1, .slice A0_2 l0_2.length c0_2, .slice A0_3 l0_3.length c0_3, .string a0_4] 55 (0, 0)) (bk BK570.out) hb); replace HB := Aside0.mk (below_step bo hb); (try clear hb); (try clear hb2); (try clear hk); (try clear hi)) | ((with_reducible refine gate_callee (f := 52) rfl ?_); refine goesL_ (some 35) rfl rfl Try.func52 (by kernel_rfl) rfl #[.int .i64 t575] rfl aa ?_; (with_reducible refine (fairwaylaw12_num.calls t575 t579 _ A98.out).mono ?_); rintro e w' ⟨rfl, ⟨nd, rfl⟩⟩; refine ⟨_, rfl, ?_⟩) | (go_at_call 52; (with_reducible refine (fairwaylaw12_num.calls t578 t580 _ A100.out).mono ?_); rintro e w' ⟨rfl, ⟨nd, rfl⟩⟩; obtain ⟨Ao113, co113, eo113⟩ := Kd.R_slice HO574.out; subst eo113) | (go_at_call 53; (with_reducible refine (fairwaylaw12_wakes.calls k  t581 _ A103.out).mono ?_); rintro e w114 ⟨rfl, hb⟩; replace HO574 := Aside0.mk (Kd.R_below (rk HO574.out) hb); replace BK570 := Aside0.mk (blk_below (g := gb570) (o := .cells #[.int .i64 a0_0, .slice A0_1 l0_1.length c0_1, .slice A0_2 l0_2.length c0_2, .slice A0_3 l0_3.length c0_3, .string a0_4] 55 (0, 0)) (bk BK570.out) hb); replace HB := Aside0.mk (below_step bo hb); (try clear hb); (try clear hb2); (try clear hk); (try clear hi)))
      go_ret
      exact ⟨er, bo⟩
     ·rw [if_neg c102] at H
      have c102b0 : ((t572.length : Int) == 0) = false := beq_eq_false_iff_ne.mpr c102
      have c102b1 : ((t572.length : Int) != 0) = true := bne_iff_ne.mpr c102
      have c102b2 : ¬ (t572 = []) := fun h_ => c102 (by rw [h_]; rfl)
      obtain rfl := Option.some.inj H
      go_enter Try.func12, Try.ntmps12
      go_wp2_with (first | ((with_reducible refine gate_dst (N := 1) rfl ?_); (try (refine gate_guard (by rfl) ?_; dsimp only)); refine box_event ?hg (N := 1) ?hd (cs := #[.int .i64 a0_0, .slice A0_1 l0_1.length c0_1, .slice A0_2 l0_2.length c0_2, .slice A0_3 l0_3.length c0_3, .string a0_4]) (t := 55) ?hr ?_; (case hd => rfl); (case hg => rfl); (case hr => first | (go_simp; done) | (go_simp; rfl)); intro gb570 hg w115 hbox hb; have n0_ := Aside0.mk (below_step bo hb); have n1_ := Aside0.mk (hbox); have n2_ := Aside0.mk ((by rw [hg]; exact (below_size bo) : w.heap.size ≤ gb570)); have n3_ := Aside0.mk ((by rw [hg]; exact (below_size bo) : w.heap.size ≤ gb570)); clear HB; have HB := n0_; have BK570 := n1_; have GW570 := n2_; have GE570 := n3_; clear n0_ n1_ n2_ n3_; clear hb hbox hg; obtain ⟨hcz116_0, hcz116_1, hcz116_2, hcz116_3, hcz116_4⟩ := cl5 BK570.out; obtain ⟨hfz116_0, hfz116_1, hfz116_2, hfz116_3, hfz116_4⟩ := fz5 BK570.out) | ((with_reducible refine gate_callee (f := 30) rfl ?_); refine goesL_ (some 17) rfl rfl Try.func30 (by kernel_rfl) rfl #[.agg #[.int .i64 a0_0, .slice A0_1 l0_1.length c0_1, .slice A0_2 l0_2.length c0_2, .slice A0_3 l0_3.length c0_3, .string a0_4]] rfl aa ?_; (with_reducible refine (fairwaylaw11_Heavy.calls k a0_0 _ _ l0_1 _ _ l0_2 _ _ l0_3 a0_4 false _ ?side1 ?side2 ?side3 ?side4 ?side5 ?side6 A2.out).mono ?_); (case side1 => repeat (first | exact (Kd.C_below HR0_1.out HB.out) | (with_reducible refine Kd.C_alloc ?_ _) | (with_reducible refine Kd.C_drewN ?_ _) | (with_reducible refine Kd.C_drew ?_))); (case side2 => exact HC0_1.out); (case side3 => repeat (first | exact (Kd.C_below HR0_2.out HB.out) | (with_reducible refine Kd.C_alloc ?_ _) | (with_reducible refine Kd.C_drewN ?_ _) | (with_reducible refine Kd.C_drew ?_))); (case side4 => exact HC0_2.out); (case side5 => repeat (first | exact (Kd.C_below HR0_3.out HB.out) | (with_reducible refine Kd.C_alloc ?_ _) | (with_reducible refine Kd.C_drewN ?_ _) | (with_reducible refine Kd.C_drew ?_))); (case side6 => exact HC0_3.out); rintro e w117 ⟨rfl, hb⟩; refine ⟨_, rfl, ?_⟩; replace BK570 := Aside0.mk (blk_below (g := gb570) (o := .cells #[.int .i64 a0_0, .slice A0_1 l0_1.length c0_1, .slice A0_2 l0_2.length c0_2, .slice A0_3 l0_3.length c0_3, .string a0_4] 55 (0, 0)) (bk BK570.out) hb); replace HB := Aside0.mk (below_step bo hb); (try clear hb); (try clear hb2); (try clear hk); (try clear hi); obtain ⟨hcz118_0, hcz118_1, hcz118_2, hcz118_3, hcz118_4⟩ := cl5 BK570.out; obtain ⟨hfz118_0, hfz118_1, hfz118_2, hfz118_3, hfz118_4⟩ := fz5 BK570.out) | ((with_reducible refine gate_callee (f := 54) rfl ?_); refine goesL_ (some 21) rfl rfl Try.func54 (by kernel_rfl) rfl #[.agg #[.int .i64 a0_0, .slice A0_1 l0_1.length c0_1]] rfl aa ?_; (with_reducible refine (index_Marks.calls k a0_0 _ _ l0_1 t572 t575 _ ?side1 ?side2 A7.out).mono ?_); (case side1 => repeat (first | exact (Kd.C_below HR0_1.out HB.out) | (with_reducible refine Kd.C_alloc ?_ _) | (with_reducible refine Kd.C_drewN ?_ _) | (with_reducible refine Kd.C_drew ?_))); (case side2 => exact HC0_1.out); rintro e w119 ⟨v573, rfl, ho0, hb⟩; refine ⟨_, rfl, ?_⟩; have HO574 := Aside0.mk (Kd.R_lower ho0 (below_size bo)); replace BK570 := Aside0.mk (blk_below (g := gb570) (o := .cells #[.int .i64 a0_0, .slice A0_1 l0_1.length c0_1, .slice A0_2 l0_2.length c0_2, .slice A0_3 l0_3.length c0_3, .string a0_4] 55 (0, 0)) (bk BK570.out) hb); replace HB := Aside0.mk (below_step bo hb); (try clear hb); (try clear hb2); (try clear hk); (try clear hi); (try clear ho0); obtain ⟨hcz120_0, hcz120_1, hcz120_2, hcz120_3, hcz120_4⟩ := cl5 BK570.out; obtain ⟨hfz120_0, hfz120_1, hfz120_2, hfz120_3, hfz120_4⟩ := fz5 BK570.out) | ((with_reducible refine gate_callee (f := 31) rfl ?_); refine goesL_ (some 26) rfl rfl Try.func31 (by kernel_rfl) rfl #[.agg #[.int .i64 a0_0, .slice A0_1 l0_1.length c0_1]] rfl aa ?_; (with_reducible refine (fairwayref10_Seg.calls k a0_0 _ _ l0_1 false _ ?side1 ?side2 A8.out).mono ?_); (case side1 => repeat (first | exact (Kd.C_below HR0_1.out HB.out) | (with_reducible refine Kd.C_alloc ?_ _) | (with_reducible refine Kd.C_drewN ?_ _) | (with_reducible refine Kd.C_drew ?_))); (case side2 => exact HC0_1.out); rintro e w121 ⟨rfl, hb⟩; refine ⟨_, rfl, ?_⟩; replace HO574 := Aside0.mk (Kd.R_below (rk HO574.out) hb); replace BK570 := Aside0.mk (blk_below (g := gb570) (o := .cells #[.int .i64 a0_0, .slice A0_1 l0_1.length c0_1, .slice A0_2 l0_2.length c0_2, .slice A0_3 l0_3.length c0_3, .string a0_4] 55 (0, 0)) (bk BK570.out) hb); replace HB := Aside0.mk (below_step bo hb); (try clear hb); (try clear hb2); (try clear hk); (try clear hi); obtain ⟨hcz122_0, hcz122_1, hcz122_2, hcz122_3, hcz122_4⟩ := cl5 BK570.out; obtain ⟨hfz122_0, hfz122_1, hfz122_2, hfz122_3, hfz122_4⟩ := fz5 BK570.out) | ((with_reducible refine gate_callee (f := 55) rfl ?_); refine goesL_ (some 31) rfl rfl Try.func55 (by kernel_rfl) rfl #[.agg #[.int .i64 a0_0, .slice A0_1 l0_1.length c0_1], .slice none 0 0] rfl aa ?_; (refine (index_Check.calls k a0_0 _ _ l0_1 _ _ ([] : List (S77)) t577 t578 _ ?side1 ?side2 ?side3 ?side4 A97.out).mono ?_); (case side1 => repeat (first | exact (Kd.C_below HR0_1.out HB.out) | (with_reducible refine Kd.C_alloc ?_ _) | (with_reducible refine Kd.C_drewN ?_ _) | (with_reducible refine Kd.C_drew ?_))); (case side2 => exact HC0_1.out); (case side3 => exact Kd.C_nil _ _); (case side4 => exact Nat.le_refl _); rintro e w123 ⟨rfl, hb⟩; refine ⟨_, rfl, ?_⟩; replace HO574 := Aside0.mk (Kd.R_below (rk HO574.out) hb); replace BK570 := Aside0.mk (blk_below (g := gb570) (o := .cells #[.int .i64 a0_0, .slice A0_1 l0_1.length c0_1, .slice A0_2 l0_2.length c0_2, .slice A0_3 l0_3.length c0_3, .string a0_4] 55 (0, 0)) (bk BK570.out) hb); replace HB := Aside0.mk (below_step bo hb); (try clear hb); (try clear hb2); (try clear hk); (try clear hi)) | ((with_reducible refine gate_callee (f := 52) rfl ?_); refine goesL_ (some 35) rfl rfl Try.func52 (by kernel_rfl) rfl #[.int .i64 t575] rfl aa ?_; (with_reducible refine (fairwaylaw12_num.calls t575 t579 _ A98.out).mono ?_); rintro e w' ⟨rfl, ⟨nd, rfl⟩⟩; refine ⟨_, rfl, ?_⟩) | (go_at_call 52; (with_reducible refine (fairwaylaw12_num.calls t578 t580 _ A100.out).mono ?_); rintro e w' ⟨rfl, ⟨nd, rfl⟩⟩; obtain ⟨Ao124, co124, eo124⟩ := Kd.R_slice HO574.out; subst eo124))
      go_ret
      exact ⟨er, bo⟩
    ·rw [if_neg c101] at H
     have c101b0 : (t580 == 1) = false := beq_eq_false_iff_ne.mpr c101
     have c101b1 : (t580 != 1) = true := bne_iff_ne.mpr c101
     obtain rfl := Option.some.inj H
     go_enter Try.func12, Try.ntmps12
     go_wp2_with (first | ((with_reducible refine gate_dst (N := 1) rfl ?_); (try (refine gate_guard (by rfl) ?_; dsimp only)); refine box_event ?hg (N := 1) ?hd (cs := #[.int .i64 a0_0, .slice A0_1 l0_1.length c0_1, .slice A0_2 l0_2.length c0_2, .slice A0_3 l0_3.length c0_3, .string a0_4]) (t := 55) ?hr ?_; (case hd => rfl); (case hg => rfl); (case hr => first | (go_simp; done) | (go_simp; rfl)); intro gb570 hg w125 hbox hb; have n0_ := Aside0.mk (below_step bo hb); have n1_ := Aside0.mk (hbox); have n2_ := Aside0.mk ((by rw [hg]; exact (below_size bo) : w.heap.size ≤ gb570)); have n3_ := Aside0.mk ((by rw [hg]; exact (below_size bo) : w.heap.size ≤ gb570)); clear HB; have HB := n0_; have BK570 := n1_; have GW570 := n2_; have GE570 := n3_; clear n0_ n1_ n2_ n3_; clear hb hbox hg; obtain ⟨hcz126_0, hcz126_1, hcz126_2, hcz126_3, hcz126_4⟩ := cl5 BK570.out; obtain ⟨hfz126_0, hfz126_1, hfz126_2, hfz126_3, hfz126_4⟩ := fz5 BK570.out) | ((with_reducible refine gate_callee (f := 30) rfl ?_); refine goesL_ (some 17) rfl rfl Try.func30 (by kernel_rfl) rfl #[.agg #[.int .i64 a0_0, .slice A0_1 l0_1.length c0_1, .slice A0_2 l0_2.length c0_2, .slice A0_3 l0_3.length c0_3, .string a0_4]] rfl aa ?_; (with_reducible refine (fairwaylaw11_Heavy.calls k a0_0 _ _ l0_1 _ _ l0_2 _ _ l0_3 a0_4 false _ ?side1 ?side2 ?side3 ?side4 ?side5 ?side6 A2.out).mono ?_); (case side1 => repeat (first | exact (Kd.C_below HR0_1.out HB.out) | (with_reducible refine Kd.C_alloc ?_ _) | (with_reducible refine Kd.C_drewN ?_ _) | (with_reducible refine Kd.C_drew ?_))); (case side2 => exact HC0_1.out); (case side3 => repeat (first | exact (Kd.C_below HR0_2.out HB.out) | (with_reducible refine Kd.C_alloc ?_ _) | (with_reducible refine Kd.C_drewN ?_ _) | (with_reducible refine Kd.C_drew ?_))); (case side4 => exact HC0_2.out); (case side5 => repeat (first | exact (Kd.C_below HR0_3.out HB.out) | (with_reducible refine Kd.C_alloc ?_ _) | (with_reducible refine Kd.C_drewN ?_ _) | (with_reducible refine Kd.C_drew ?_))); (case side6 => exact HC0_3.out); rintro e w127 ⟨rfl, hb⟩; refine ⟨_, rfl, ?_⟩; replace BK570 := Aside0.mk (blk_below (g := gb570) (o := .cells #[.int .i64 a0_0, .slice A0_1 l0_1.length c0_1, .slice A0_2 l0_2.length c0_2, .slice A0_3 l0_3.length c0_3, .string a0_4] 55 (0, 0)) (bk BK570.out) hb); replace HB := Aside0.mk (below_step bo hb); (try clear hb); (try clear hb2); (try clear hk); (try clear hi); obtain ⟨hcz128_0, hcz128_1, hcz128_2, hcz128_3, hcz128_4⟩ := cl5 BK570.out; obtain ⟨hfz128_0, hfz128_1, hfz128_2, hfz128_3, hfz128_4⟩ := fz5 BK570.out) | ((with_reducible refine gate_callee (f := 54) rfl ?_); refine goesL_ (some 21) rfl rfl Try.func54 (by kernel_rfl) rfl #[.agg #[.int .i64 a0_0, .slice A0_1 l0_1.length c0_1]] rfl aa ?_; (with_reducible refine (index_Marks.calls k a0_0 _ _ l0_1 t572 t575 _ ?side1 ?side2 A7.out).mono ?_); (case side1 => repeat (first | exact (Kd.C_below HR0_1.out HB.out) | (with_reducible refine Kd.C_alloc ?_ _) | (with_reducible refine Kd.C_drewN ?_ _) | (with_reducible refine Kd.C_drew ?_))); (case side2 => exact HC0_1.out); rintro e w129 ⟨v573, rfl, ho0, hb⟩; refine ⟨_, rfl, ?_⟩; have HO574 := Aside0.mk (Kd.R_lower ho0 (below_size bo)); replace BK570 := Aside0.mk (blk_below (g := gb570) (o := .cells #[.int .i64 a0_0, .slice A0_1 l0_1.length c0_1, .slice A0_2 l0_2.length c0_2, .slice A0_3 l0_3.length c0_3, .string a0_4] 55 (0, 0)) (bk BK570.out) hb); replace HB := Aside0.mk (below_step bo hb); (try clear hb); (try clear hb2); (try clear hk); (try clear hi); (try clear ho0); obtain ⟨hcz130_0, hcz130_1, hcz130_2, hcz130_3, hcz130_4⟩ := cl5 BK570.out; obtain ⟨hfz130_0, hfz130_1, hfz130_2, hfz130_3, hfz130_4⟩ := fz5 BK570.out) | ((with_reducible refine gate_callee (f := 31) rfl ?_); refine goesL_ (some 26) rfl rfl Try.func31 (by kernel_rfl) rfl #[.agg #[.int .i64 a0_0, .slice A0_1 l0_1.length c0_1]] rfl aa ?_; (with_reducible refine (fairwayref10_Seg.calls k a0_0 _ _ l0_1 false _ ?side1 ?side2 A8.out).mono ?_); (case side1 => repeat (first | exact (Kd.C_below HR0_1.out HB.out) | (with_reducible refine Kd.C_alloc ?_ _) | (with_reducible refine Kd.C_drewN ?_ _) | (with_reducible refine Kd.C_drew ?_))); (case side2 => exact HC0_1.out); rintro e w131 ⟨rfl, hb⟩; refine ⟨_, rfl, ?_⟩; replace HO574 := Aside0.mk (Kd.R_below (rk HO574.out) hb); replace BK570 := Aside0.mk (blk_below (g := gb570) (o := .cells #[.int .i64 a0_0, .slice A0_1 l0_1.length c0_1, .slice A0_2 l0_2.length c0_2, .slice A0_3 l0_3.length c0_3, .string a0_4] 55 (0, 0)) (bk BK570.out) hb); replace HB := Aside0.mk (below_step bo hb); (try clear hb); (try clear hb2); (try clear hk); (try clear hi); obtain ⟨hcz132_0, hcz132_1, hcz132_2, hcz132_3, hcz132_4⟩ := cl5 BK570.out; obtain ⟨hfz132_0, hfz132_1, hfz132_2, hfz132_3, hfz132_4⟩ := fz5 BK570.out) | ((with_reducible refine gate_callee (f := 55) rfl ?_); refine goesL_ (some 31) rfl rfl Try.func55 (by kernel_rfl) rfl #[.agg #[.int .i64 a0_0, .slice A0_1 l0_1.length c0_1], .slice none 0 0] rfl aa ?_; (refine (index_Check.calls k a0_0 _ _ l0_1 _ _ ([] : List (S77)) t577 t578 _ ?side1 ?side2 ?side3 ?side4 A97.out).mono ?_); (case side1 => repeat (first | exact (Kd.C_below HR0_1.out HB.out) | (with_reducible refine Kd.C_alloc ?_ _) | (with_reducible refine Kd.C_drewN ?_ _) | (with_reducible refine Kd.C_drew ?_))); (case side2 => exact HC0_1.out); (case side3 => exact Kd.C_nil _ _); (case side4 => exact Nat.le_refl _); rintro e w133 ⟨rfl, hb⟩; refine ⟨_, rfl, ?_⟩; replace HO574 := Aside0.mk (Kd.R_below (rk HO574.out) hb); replace BK570 := Aside0.mk (blk_below (g := gb570) (o := .cells #[.int .i64 a0_0, .slice A0_1 l0_1.length c0_1, .slice A0_2 l0_2.length c0_2, .slice A0_3 l0_3.length c0_3, .string a0_4] 55 (0, 0)) (bk BK570.out) hb); replace HB := Aside0.mk (below_step bo hb); (try clear hb); (try clear hb2); (try clear hk); (try clear hi)) | ((with_reducible refine gate_callee (f := 52) rfl ?_); refine goesL_ (some 35) rfl rfl Try.func52 (by kernel_rfl) rfl #[.int .i64 t575] rfl aa ?_; (with_reducible refine (fairwaylaw12_num.calls t575 t579 _ A98.out).mono ?_); rintro e w' ⟨rfl, ⟨nd, rfl⟩⟩; refine ⟨_, rfl, ?_⟩) | (go_at_call 52; (with_reducible refine (fairwaylaw12_num.calls t578 t580 _ A100.out).mono ?_); rintro e w' ⟨rfl, ⟨nd, rfl⟩⟩))
     go_ret
     exact ⟨er, bo⟩
   ·rw [if_neg c99] at H
    have c99b0 : (t579 == 1) = false := beq_eq_false_iff_ne.mpr c99
    have c99b1 : (t579 != 1) = true := bne_iff_ne.mpr c99
    obtain rfl := Option.some.inj H
    go_enter Try.func12, Try.ntmps12
    go_wp2_with (first | ((with_reducible refine gate_dst (N := 1) rfl ?_); (try (refine gate_guard (by rfl) ?_; dsimp only)); refine box_event ?hg (N := 1) ?hd (cs := #[.int .i64 a0_0, .slice A0_1 l0_1.length c0_1, .slice A0_2 l0_2.length c0_2, .slice A0_3 l0_3.length c0_3, .string a0_4]) (t := 55) ?hr ?_; (case hd => rfl); (case hg => rfl); (case hr => first | (go_simp; done) | (go_simp; rfl)); intro gb570 hg w134 hbox hb; have n0_ := Aside0.mk (below_step bo hb); have n1_ := Aside0.mk (hbox); have n2_ := Aside0.mk ((by rw [hg]; exact (below_size bo) : w.heap.size ≤ gb570)); have n3_ := Aside0.mk ((by rw [hg]; exact (below_size bo) : w.heap.size ≤ gb570)); clear HB; have HB := n0_; have BK570 := n1_; have GW570 := n2_; have GE570 := n3_; clear n0_ n1_ n2_ n3_; clear hb hbox hg; obtain ⟨hcz135_0, hcz135_1, hcz135_2, hcz135_3, hcz135_4⟩ := cl5 BK570.out; obtain ⟨hfz135_0, hfz135_1, hfz135_2, hfz135_3, hfz135_4⟩ := fz5 BK570.out) | ((with_reducible refine gate_callee (f := 30) rfl ?_); refine goesL_ (some 17) rfl rfl Try.func30 (by kernel_rfl) rfl #[.agg #[.int .i64 a0_0, .slice A0_1 l0_1.length c0_1, .slice A0_2 l0_2.length c0_2, .slice A0_3 l0_3.length c0_3, .string a0_4]] rfl aa ?_; (with_reducible refine (fairwaylaw11_Heavy.calls k a0_0 _ _ l0_1 _ _ l0_2 _ _ l0_3 a0_4 false _ ?side1 ?side2 ?side3 ?side4 ?side5 ?side6 A2.out).mono ?_); (case side1 => repeat (first | exact (Kd.C_below HR0_1.out HB.out) | (with_reducible refine Kd.C_alloc ?_ _) | (with_reducible refine Kd.C_drewN ?_ _) | (with_reducible refine Kd.C_drew ?_))); (case side2 => exact HC0_1.out); (case side3 => repeat (first | exact (Kd.C_below HR0_2.out HB.out) | (with_reducible refine Kd.C_alloc ?_ _) | (with_reducible refine Kd.C_drewN ?_ _) | (with_reducible refine Kd.C_drew ?_))); (case side4 => exact HC0_2.out); (case side5 => repeat (first | exact (Kd.C_below HR0_3.out HB.out) | (with_reducible refine Kd.C_alloc ?_ _) | (with_reducible refine Kd.C_drewN ?_ _) | (with_reducible refine Kd.C_drew ?_))); (case side6 => exact HC0_3.out); rintro e w136 ⟨rfl, hb⟩; refine ⟨_, rfl, ?_⟩; replace BK570 := Aside0.mk (blk_below (g := gb570) (o := .cells #[.int .i64 a0_0, .slice A0_1 l0_1.length c0_1, .slice A0_2 l0_2.length c0_2, .slice A0_3 l0_3.length c0_3, .string a0_4] 55 (0, 0)) (bk BK570.out) hb); replace HB := Aside0.mk (below_step bo hb); (try clear hb); (try clear hb2); (try clear hk); (try clear hi); obtain ⟨hcz137_0, hcz137_1, hcz137_2, hcz137_3, hcz137_4⟩ := cl5 BK570.out; obtain ⟨hfz137_0, hfz137_1, hfz137_2, hfz137_3, hfz137_4⟩ := fz5 BK570.out) | ((with_reducible refine gate_callee (f := 54) rfl ?_); refine goesL_ (some 21) rfl rfl Try.func54 (by kernel_rfl) rfl #[.agg #[.int .i64 a0_0, .slice A0_1 l0_1.length c0_1]] rfl aa ?_; (with_reducible refine (index_Marks.calls k a0_0 _ _ l0_1 t572 t575 _ ?side1 ?side2 A7.out).mono ?_); (case side1 => repeat (first | exact (Kd.C_below HR0_1.out HB.out) | (with_reducible refine Kd.C_alloc ?_ _) | (with_reducible refine Kd.C_drewN ?_ _) | (with_reducible refine Kd.C_drew ?_))); (case side2 => exact HC0_1.out); rintro e w138 ⟨v573, rfl, ho0, hb⟩; refine ⟨_, rfl, ?_⟩; have HO574 := Aside0.mk (Kd.R_lower ho0 (below_size bo)); replace BK570 := Aside0.mk (blk_below (g := gb570) (o := .cells #[.int .i64 a0_0, .slice A0_1 l0_1.length c0_1, .slice A0_2 l0_2.length c0_2, .slice A0_3 l0_3.length c0_3, .string a0_4] 55 (0, 0)) (bk BK570.out) hb); replace HB := Aside0.mk (below_step bo hb); (try clear hb); (try clear hb2); (try clear hk); (try clear hi); (try clear ho0); obtain ⟨hcz139_0, hcz139_1, hcz139_2, hcz139_3, hcz139_4⟩ := cl5 BK570.out; obtain ⟨hfz139_0, hfz139_1, hfz139_2, hfz139_3, hfz139_4⟩ := fz5 BK570.out) | ((with_reducible refine gate_callee (f := 31) rfl ?_); refine goesL_ (some 26) rfl rfl Try.func31 (by kernel_rfl) rfl #[.agg #[.int .i64 a0_0, .slice A0_1 l0_1.length c0_1]] rfl aa ?_; (with_reducible refine (fairwayref10_Seg.calls k a0_0 _ _ l0_1 false _ ?side1 ?side2 A8.out).mono ?_); (case side1 => repeat (first | exact (Kd.C_below HR0_1.out HB.out) | (with_reducible refine Kd.C_alloc ?_ _) | (with_reducible refine Kd.C_drewN ?_ _) | (with_reducible refine Kd.C_drew ?_))); (case side2 => exact HC0_1.out); rintro e w140 ⟨rfl, hb⟩; refine ⟨_, rfl, ?_⟩; replace HO574 := Aside0.mk (Kd.R_below (rk HO574.out) hb); replace BK570 := Aside0.mk (blk_below (g := gb570) (o := .cells #[.int .i64 a0_0, .slice A0_1 l0_1.length c0_1, .slice A0_2 l0_2.length c0_2, .slice A0_3 l0_3.length c0_3, .string a0_4] 55 (0, 0)) (bk BK570.out) hb); replace HB := Aside0.mk (below_step bo hb); (try clear hb); (try clear hb2); (try clear hk); (try clear hi); obtain ⟨hcz141_0, hcz141_1, hcz141_2, hcz141_3, hcz141_4⟩ := cl5 BK570.out; obtain ⟨hfz141_0, hfz141_1, hfz141_2, hfz141_3, hfz141_4⟩ := fz5 BK570.out) | ((with_reducible refine gate_callee (f := 55) rfl ?_); refine goesL_ (some 31) rfl rfl Try.func55 (by kernel_rfl) rfl #[.agg #[.int .i64 a0_0, .slice A0_1 l0_1.length c0_1], .slice none 0 0] rfl aa ?_; (refine (index_Check.calls k a0_0 _ _ l0_1 _ _ ([] : List (S77)) t577 t578 _ ?side1 ?side2 ?side3 ?side4 A97.out).mono ?_); (case side1 => repeat (first | exact (Kd.C_below HR0_1.out HB.out) | (with_reducible refine Kd.C_alloc ?_ _) | (with_reducible refine Kd.C_drewN ?_ _) | (with_reducible refine Kd.C_drew ?_))); (case side2 => exact HC0_1.out); (case side3 => exact Kd.C_nil _ _); (case side4 => exact Nat.le_refl _); rintro e w142 ⟨rfl, hb⟩; refine ⟨_, rfl, ?_⟩; replace HO574 := Aside0.mk (Kd.R_below (rk HO574.out) hb); replace BK570 := Aside0.mk (blk_below (g := gb570) (o := .cells #[.int .i64 a0_0, .slice A0_1 l0_1.length c0_1, .slice A0_2 l0_2.length c0_2, .slice A0_3 l0_3.length c0_3, .string a0_4] 55 (0, 0)) (bk BK570.out) hb); replace HB := Aside0.mk (below_step bo hb); (try clear hb); (try clear hb2); (try clear hk); (try clear hi)) | ((with_reducible refine gate_callee (f := 52) rfl ?_); refine goesL_ (some 35) rfl rfl Try.func52 (by kernel_rfl) rfl #[.int .i64 t575] rfl aa ?_; (with_reducible refine (fairwaylaw12_num.calls t575 t579 _ A98.out).mono ?_); rintro e w' ⟨rfl, ⟨nd, rfl⟩⟩; refine ⟨_, rfl, ?_⟩))
    go_ret
    exact ⟨er, bo⟩

end Go.Proofs.Ytmabdfdmccbfnaa.P

/- From data to typed values: whatever the claim's reader reads at a type is told by the print's kinds, with the bounds of the reach. -/
namespace Go.Proofs.Ytmabdfdmccbfnaa.Open
open Go.RowKit Go.Proofs.YtmabdfdmccbfnaaW.PrintWords Go.Proofs.YtmabdfdmccbfnaaW.PrintLast
set_option linter.unusedVariables false

/-- What is read at type t is told by kind k, and is good. -/
structure Rd {α : Type} (P : Program) (t : TypeId) (k : Kd α) (good : α → Prop) : Prop where
  sz : P.cellsOf t = k.sz
  rd : ∀ {H : Type} (enc : TypeId × Value → H) (w : World) (fuel : Nat) (cs : List Value) (d : DataW H) (ps : List MemPlace),
    DataW.trod enc P w 0 (fun _ => true) true fuel t cs = some (d, ps) → (∀ n ∈ d.weights P t, n ≤ reachBytes) → ∃ x, k.K w x cs ∧ good x

theorem rd_int {P : Program} {t : TypeId} {k : IntKind} (hu : P.underlying t = some (.int k)) (hc : P.cellsOf t = 1) : Rd P t (Kd.int k) (fun n => (Lit.int k n).wf = true) where
  sz := hc
  rd := by
    intro H enc w fuel cs d ps h _
    obtain ⟨n, rfl, _, hw⟩ := DataW.trod_int hu h
    exact ⟨n, rfl, hw⟩

theorem rd_bool {P : Program} {t : TypeId} (hu : P.underlying t = some .bool) (hc : P.cellsOf t = 1) : Rd P t Kd.bool (fun _ => True) where
  sz := hc
  rd := by
    intro H enc w fuel cs d ps h _
    obtain ⟨b, rfl, _⟩ := DataW.trod_bool hu h
    exact ⟨b, rfl, trivial⟩

theorem rd_string {P : Program} {t : TypeId} (hu : P.underlying t = some .string) (hc : P.cellsOf t = 1) : Rd P t Kd.string (fun s => s.size ≤ 140737488351232) where
  sz := hc
  rd := by
    intro H enc w fuel cs d ps h hw
    obtain ⟨s, rfl, hx, _⟩ := DataW.trod_string hu h
    obtain ⟨rfl, rfl⟩ := Prod.mk.inj hx
    refine ⟨s, rfl, ?_⟩
    have := hw s.data.toList.length (by simp [DataW.weights])
    simpa [reachBytes] using this

/-- A struct's fields, from one on: their cells in line. -/
structure Fs {α : Type} (P : Program) (fs : List Field) (off : Nat) (k : Kd α) (good : α → Prop) : Prop where
  rd : ∀ {H : Type} (enc : TypeId × Value → H) (w : World) (fuel : Nat) (cs : List Value) (ds : List (DataW H × List MemPlace)),
    ds.length = fs.length → (∀ (i : Nat) f, fs[i]? = some f → DataW.trod enc P w 0 (fun _ => true) true fuel f.type ((cs.drop f.offset).take (P.cellsOf f.type)) = ds[i]?) →
    (∀ n ∈ DataW.weightsEach P (fs.map (·.type)) (ds.map (·.1)), n ≤ reachBytes) → cs.length = off + k.sz → ∃ x, k.K w x (cs.drop off) ∧ good x

theorem fs_last {α : Type} {P : Program} {f : Field} {k : Kd α} {good : α → Prop} (h : Rd P f.type k good) : Fs P [f] f.offset k good where
  rd := by
    intro H enc w fuel cs ds hl hd hw hc
    match ds, hl with
    | [y], _ =>
      have h0 := hd 0 f rfl
      simp only [List.getElem?_cons_zero] at h0
      obtain ⟨x, hk, hg⟩ := h.rd enc w fuel _ y.1 y.2 h0 (fun n hn => hw n (by simp [DataW.weightsEach]; exact hn))
      rw [h.sz, List.take_of_length_le (by rw [List.length_drop]; omega)] at hk
      exact ⟨x, hk, hg⟩

theorem fs_cons {α β : Type} {P : Program} {f : Field} {fs : List Field} {off : Nat} {k : Kd α} {k' : Kd β} {good : α → Prop} {good' : β → Prop} (h : Rd P f.type k good) (hs : Fs P fs off k' good')
    (ho : f.offset + k.sz = off) : Fs P (f :: fs) f.offset (Kd.pair k k') (fun x => good x.1 ∧ good' x.2) where
  rd := by
    intro H enc w fuel cs ds hl hd hw hc
    match ds, hl with
    | y :: ys, hl =>
      have hsz : (Kd.pair k k').sz = k.sz + k'.sz := rfl
      rw [hsz] at hc
      have h0 := hd 0 f rfl
      simp only [List.getElem?_cons_zero] at h0
      obtain ⟨x, hk, hg⟩ := h.rd enc w fuel _ y.1 y.2 h0 (fun n hn => hw n (by simp only [List.map_cons, DataW.weightsEach, List.mem_append]; exact .inl hn))
      obtain ⟨x', hk', hg'⟩ := hs.rd enc w fuel cs ys (by simpa using hl) (fun i g hi => by simpa using hd (i + 1) g (by simpa using hi))
        (fun n hn => hw n (by simp only [List.map_cons, DataW.weightsEach, List.mem_append]; exact .inr hn)) (by omega)
      rw [h.sz] at hk
      refine ⟨(x, x'), ⟨_, _, ?_, hk, hk'⟩, hg, hg'⟩
      rw [← ho, ← List.drop_drop, List.take_append_drop]

theorem rd_struct {α β : Type} {P : Program} {t : TypeId} {fs : Array Field} {k : Kd β} {good : β → Prop} {fw : α → β} {back : β → α} (hu : P.underlying t = some (.struct fs)) (h : Fs P fs.toList 0 k good)
    (hc : P.cellsOf t = k.sz) (hb : ∀ y, fw (back y) = y) : Rd P t (Kd.iso k fw) (fun x => good (fw x)) where
  sz := hc
  rd := by
    intro H enc w fuel cs d ps hr hw
    obtain ⟨xs, n, _, hx, hl, hlen, hf⟩ := DataW.trod_struct hu hr
    obtain ⟨rfl, rfl⟩ := Prod.mk.inj hx
    obtain ⟨x, hk, hg⟩ := h.rd enc w n cs xs (by simpa using hlen) (fun i f hi => by simpa using hf i f (by simpa using hi))
      (fun m hm => hw m (by simp only [DataW.weights, hu]; exact hm)) (by rw [hl, hc]; omega)
    refine ⟨back x, ?_, ?_⟩
    · show k.K w (fw (back x)) cs
      rw [hb]
      simpa using hk
    · show good (fw (back x))
      rw [hb]; exact hg

theorem list_of {α : Type} {p : Nat → α → Prop} : ∀ n, (∀ i, i < n → ∃ x, p i x) → ∃ xs : List α, xs.length = n ∧ ∀ i x, xs[i]? = some x → p i x
  | 0, _ => ⟨[], rfl, fun i x h => by simp at h⟩
  | n + 1, h => by
    obtain ⟨xs, hl, hx⟩ := list_of n (fun i hi => h i (by omega))
    obtain ⟨y, hy⟩ := h n (by omega)
    refine ⟨xs ++ [y], by simp [hl], fun i x hi => ?_⟩
    by_cases hin : i < xs.length
    · rw [List.getElem?_append_left hin] at hi
      exact hx i x hi
    · rw [List.getElem?_append_right (by omega)] at hi
      have : i = xs.length := by
        by_cases e : i - xs.length = 0
        · omega
        · rw [List.getElem?_eq_none (by simp; omega)] at hi
          exact absurd hi (by simp)
      subst this
      simp at hi
      rw [hl, ← hi]
      exact hy

theorem weights_all {H : Type} {P : Program} {e : TypeId} : ∀ {l : List (DataW H)} {d : DataW H}, d ∈ l → ∀ n ∈ d.weights P e, n ∈ DataW.weightsAll P e l
  | [], _, h, _, _ => by simp at h
  | x :: l, d, h, n, hn => by
    simp only [DataW.weightsAll, List.mem_append]
    rcases List.mem_cons.1 h with rfl | h
    · exact .inl hn
    · exact .inr (weights_all h n hn)

theorem rd_slice {α : Type} {P : Program} {t e : TypeId} {k : Kd α} {good : α → Prop} (B : Nat) (hu : P.underlying t = some (.slice e)) (hc : P.cellsOf t = 1) (hB : P.bytesOf e = B) (h : Rd P e k good) :
    Rd P t (Kd.slice e k) (fun xs => (∀ x ∈ xs, good x) ∧ xs.length * B ≤ 140737488351232) where
  sz := hc
  rd := by
    intro H enc w fuel cs d ps hr hw
    rcases DataW.trod_slice hu hr with ⟨rfl, hx⟩ | ⟨a, len, cap, elems, rest, n, _, rfl, hx, _, hl, hm, hlen, hel, _, _⟩
    · exact ⟨[], ⟨none, 0, rfl, Nat.le_refl 0, Kd.C_nil k w⟩, by simp, by simp⟩
    · obtain ⟨rfl, rfl⟩ := Prod.mk.inj hx
      have hw1 : ∀ x ∈ elems, ∀ n ∈ x.1.weights P e, n ≤ reachBytes := fun x hx n hn =>
        hw n (by simp only [DataW.weights, hu, List.mem_cons, List.mem_append]; exact .inr (.inl (weights_all (List.mem_map_of_mem hx) n hn)))
      have hw2 : (elems.length + rest.length) * P.bytesOf e ≤ reachBytes := hw _ (by simp only [DataW.weights, hu, List.mem_cons, List.length_map]; simp)
      have key : ∀ i, i < len → ∃ x, good x ∧ ∃ c, c.length = k.sz ∧ k.K w x c ∧ ∀ j u, c[j]? = some u → w.cell? (a.add (i * k.sz + j)) = some u := by
        intro i hi
        have h1 := hel i hi
        rw [List.getElem?_eq_getElem (by omega)] at h1
        obtain ⟨c, hcs, htr⟩ := Option.bind_eq_some_iff.1 h1
        obtain ⟨x, hk, hg⟩ := h.rd enc w n c _ _ htr (hw1 _ (List.getElem_mem _))
        obtain ⟨_, hcl, hcell⟩ := World.cells?_some hcs
        rw [h.sz] at hcl hcell
        refine ⟨x, hg, c, hcl, hk, fun j u hu => ?_⟩
        have hj : j < k.sz := by
          rw [← hcl]
          exact (List.getElem?_eq_some_iff.1 hu).1
        rw [← Go.Deep.add_add, hcell j hj, hu]
      obtain ⟨xs, hxl, hxs⟩ := list_of (α := α) len key
      subst hxl
      refine ⟨xs, ⟨some a, cap, rfl, hl, rfl, by unfold maxLen at hm; omega, fun _ => ⟨a, rfl, fun j p hp => ?_⟩⟩, fun x hx => ?_, ?_⟩
      · obtain ⟨_, c, h1, h2, h3⟩ := hxs j p hp
        exact ⟨c, h1, h2, h3⟩
      · obtain ⟨i, hi, rfl⟩ := List.mem_iff_getElem.1 hx
        exact (hxs i _ (List.getElem?_eq_getElem hi)).1
      · have : xs.length * P.bytesOf e ≤ (elems.length + rest.length) * P.bytesOf e := Nat.mul_le_mul_right _ (by omega)
        unfold reachBytes at hw2
        rw [hB] at hw2 this
        omega
end Go.Proofs.Ytmabdfdmccbfnaa.Open

/- Readers of the types that this seat's laws take. -/
namespace Go.Proofs.Ytmabdfdmccbfnaa.P
open Go.RowKit Go.Proofs.YtmabdfdmccbfnaaW.PrintWords Go.Proofs.YtmabdfdmccbfnaaW.PrintLast Go.Proofs.Ytmabdfdmccbfnaa.Open
set_option linter.unusedVariables false
def good25 (x : S25) : Prop := (Lit.int .i64 x.f0).wf = true ∧ (Lit.int .i64 x.f1).wf = true ∧ x.f2.size ≤ 140737488351232 ∧ x.f3.size ≤ 140737488351232 ∧ (Lit.int .i64 x.f4).wf = true ∧ True
theorem rd25 : Rd Try.prog 25 k25 good25 := rd_struct (back := fun y => ⟨y.1, y.2.1, y.2.2.1, y.2.2.2.1, y.2.2.2.2.1, y.2.2.2.2.2⟩) Try.underlying25 (fs_cons (rd_int Try.underlying3 (by kernel_rfl)) (fs_cons (rd_int Try.underlying3 (by kernel_rfl)) (fs_cons (rd_string Try.underlying9 (by kernel_rfl)) (fs_cons (rd_string Try.underlying9 (by kernel_rfl)) (fs_cons (rd_int Try.underlying3 (by kernel_rfl)) (fs_last (rd_bool Try.underlying4 (by kernel_rfl))) rfl) rfl) rfl) rfl) rfl) (by kernel_rfl) (fun _ => rfl)
def good38 (x : S38) : Prop := ((∀ z ∈ x.f0, good25 z) ∧ x.f0.length * 64 ≤ 140737488351232) ∧ x.f1.size ≤ 140737488351232
theorem rd38 : Rd Try.prog 38 k38 good38 := rd_struct (back := fun y => ⟨y.1, y.2⟩) Try.underlying38 (fs_cons (rd_slice 64 Try.underlying36 (by kernel_rfl) (by kernel_rfl) rd25) (fs_last (rd_string Try.underlying9 (by kernel_rfl))) rfl) (by kernel_rfl) (fun _ => rfl)
structure S53 where
  f0 : Int
  f1 : List (S25)
def k53 : Kd S53 := Kd.iso (Kd.pair (Kd.int .i64) (Kd.slice 25 k25)) (fun x : S53 => (x.f0, x.f1))
def good53 (x : S53) : Prop := (Lit.int .i64 x.f0).wf = true ∧ ((∀ z ∈ x.f1, good25 z) ∧ x.f1.length * 64 ≤ 140737488351232)
theorem rd53 : Rd Try.prog 53 k53 good53 := rd_struct (back := fun y => ⟨y.1, y.2⟩) Try.underlying53 (fs_cons (rd_int Try.underlying3 (by kernel_rfl)) (fs_last (rd_slice 64 Try.underlying36 (by kernel_rfl) (by kernel_rfl) rd25)) rfl) (by kernel_rfl) (fun _ => rfl)
structure S55 where
  f0 : S53
  f1 : List (S25)
  f2 : List (Int)
  f3 : ByteArray
def k55 : Kd S55 := Kd.iso (Kd.pair k53 (Kd.pair (Kd.slice 25 k25) (Kd.pair (Kd.slice 3 (Kd.int .i64)) Kd.string))) (fun x : S55 => (x.f0, x.f1, x.f2, x.f3))
def good55 (x : S55) : Prop := good53 x.f0 ∧ ((∀ z ∈ x.f1, good25 z) ∧ x.f1.length * 64 ≤ 140737488351232) ∧ ((∀ z ∈ x.f2, (Lit.int .i64 z).wf = true) ∧ x.f2.length * 8 ≤ 140737488351232) ∧ x.f3.size ≤ 140737488351232
theorem rd55 : Rd Try.prog 55 k55 good55 := rd_struct (back := fun y => ⟨y.1, y.2.1, y.2.2.1, y.2.2.2⟩) Try.underlying55 (fs_cons rd53 (fs_cons (rd_slice 64 Try.underlying36 (by kernel_rfl) (by kernel_rfl) rd25) (fs_cons (rd_slice 8 Try.underlying50 (by kernel_rfl) (by kernel_rfl) (rd_int Try.underlying3 (by kernel_rfl))) (fs_last (rd_string Try.underlying9 (by kernel_rfl))) rfl) rfl) rfl) (by kernel_rfl) (fun _ => rfl)
end Go.Proofs.Ytmabdfdmccbfnaa.P

/- Records: which may be, how many bytes they have. -/
namespace Go.Proofs.Ytmabdfdmccbfnaa.URec
open Go Go.RowKit Go.Proofs.Ytmabdfdmccbfnaa.P Go.Proofs.YtmabdfdmccbfnaaW.PrintWords Go.Proofs.YtmabdfdmccbfnaaW.PrintLast
set_option linter.unusedVariables false
set_option linter.unusedSimpArgs false

abbrev R := S25
/-- A record that may be. -/
def recOk (r : R) : Prop := 0 ≤ r.f0 ∧ r.f0 < 1099511627776 ∧ 0 ≤ r.f1 ∧ r.f1 ≤ 1099511627776 ∧ r.f2.size ≤ 1024 ∧ r.f3.size ≤ 1024 ∧ 0 ≤ r.f4 ∧ r.f4 ≤ 2 ∧ (r.f5 = true → r.f3.toList = [])

theorem check_yes (r : R) (h : recOk r) : Ev (fun k => rec_Check.f k r.f0 r.f1 r.f2 r.f3 r.f4 r.f5) 0 := by
  obtain ⟨h0, h1, h2, h3, h4, h5, h6, h7, h8⟩ := h
  refine Ev.step (f := fun _ => some 0) (fun k => ?_) (Ev.now _)
  simp only [rec_Check.f, rec_Check.j0]
  rw [if_neg (by omega), if_neg (by omega), if_neg (by omega), if_neg (by omega), if_neg (by omega), if_neg (by simp; omega), if_neg (by omega), if_neg (by omega)]
  split
  · rename_i hg
    rw [if_pos (h8 hg)]
  · rfl
theorem check_no (r : R) (h : ¬ recOk r) : Ev (fun k => rec_Check.f k r.f0 r.f1 r.f2 r.f3 r.f4 r.f5) 1 := by
  refine Ev.step (f := fun _ => some 1) (fun k => ?_) (Ev.now _)
  simp only [rec_Check.f, rec_Check.j0]
  by_cases h0 : r.f0 < 0
  · rw [if_pos h0]; rfl
  rw [if_neg h0]
  by_cases h1 : r.f0 ≥ 1099511627776
  · rw [if_pos h1]; rfl
  rw [if_neg h1]
  by_cases h2 : r.f1 < 0
  · rw [if_pos h2]; rfl
  rw [if_neg h2]
  by_cases h3 : r.f1 > 1099511627776
  · rw [if_pos h3]; rfl
  rw [if_neg h3]
  by_cases h4 : r.f4 < 0
  · rw [if_pos h4]; rfl
  rw [if_neg h4]
  by_cases h5 : r.f4 > 2
  · rw [if_pos (by simpa using h5)]
  rw [if_neg (by simpa using h5)]
  by_cases h6 : (r.f2.size : Int) > 1024
  · rw [if_pos h6]
  rw [if_neg h6]
  by_cases h7 : (r.f3.size : Int) > 1024
  · rw [if_pos h7]
  rw [if_neg h7]
  by_cases h8 : r.f5 = true
  · rw [if_pos h8]
    by_cases h9 : r.f3.toList = []
    · exact absurd ⟨by omega, by omega, by omega, by omega, by omega, by omega, by omega, by omega, fun _ => h9⟩ h
    · rw [if_neg h9]
  · exact absurd ⟨by omega, by omega, by omega, by omega, by omega, by omega, by omega, by omega, fun g => absurd g h8⟩ h

theorem num_f (a b : Int) : fairwayref0_Num.f a b = some (decide (0 ≤ a ∧ a ≤ b)) := by
  unfold fairwayref0_Num.f
  by_cases h : a ≥ 0
  · rw [if_pos h]; congr 1; simp; omega
  · rw [if_neg h]; congr 1; symm; simp; omega

theorem rec_yes (r : R) (h : recOk r) : fairwayref10_Rec.f r.f0 r.f1 r.f2 r.f3 r.f4 r.f5 = some true := by
  obtain ⟨h0, h1, h2, h3, h4, h5, h6, h7, h8⟩ := h
  unfold fairwayref10_Rec.f
  simp only [num_f, Option.bind_some]
  rw [if_pos (by simp; omega), if_pos (by simp; omega), if_pos (by omega), if_pos (by omega), if_pos (by simp; omega)]
  split
  · rename_i hg
    rw [h8 hg]; rfl
  · rfl
theorem rec_no (r : R) (h : ¬ recOk r) : fairwayref10_Rec.f r.f0 r.f1 r.f2 r.f3 r.f4 r.f5 = some false := by
  unfold fairwayref10_Rec.f
  simp only [num_f, Option.bind_some]
  by_cases h0 : 0 ≤ r.f0 ∧ r.f0 ≤ 1099511627775
  · rw [if_pos (by simpa using h0)]
    by_cases h1 : 0 ≤ r.f1 ∧ r.f1 ≤ 1099511627776
    · rw [if_pos (by simpa using h1)]
      by_cases h2 : (r.f2.size : Int) ≤ 1024
      · rw [if_pos h2]
        by_cases h3 : (r.f3.size : Int) ≤ 1024
        · rw [if_pos h3]
          by_cases h4 : 0 ≤ r.f4 ∧ r.f4 ≤ 2
          · rw [if_pos (by simpa using h4)]
            by_cases h8 : r.f5 = true
            · rw [if_pos h8]
              by_cases h9 : r.f3.toList = []
              · exact absurd ⟨by omega, by omega, by omega, by omega, by omega, by omega, by omega, by omega, fun _ => h9⟩ h
              · simpa using h9
            · exact absurd ⟨by omega, by omega, by omega, by omega, by omega, by omega, by omega, by omega, fun g => absurd g h8⟩ h
          · rw [if_neg (by simpa using h4)]
        · rw [if_neg h3]
      · rw [if_neg h2]
    · rw [if_neg (by simpa using h1)]
  · rw [if_neg (by simpa using h0)]

/-- How many bytes a record has. -/
def recLen (r : R) : Nat := 25 + r.f2.size + r.f3.size
theorem wrap_in {x : Int} (h0 : -9223372036854775808 ≤ x) (h1 : x ≤ 9223372036854775807) : wrap64 x = x := by
  unfold wrap64; omega
theorem size_yes (r : R) (h : recOk r) : Ev (fun k => rec_Size.f k r.f0 r.f1 r.f2 r.f3 r.f4 r.f5) ((recLen r : Int), 0) := by
  obtain ⟨h0, h1, h2, h3, h4, h5, h6, h7, h8⟩ := id h
  refine Ev.bind (check_yes r h) (Ev.congr (f := fun _ => some ((recLen r : Int), 0)) (fun k => ?_) (Ev.now _))
  simp only [if_pos]
  rw [wrap_in (x := 25 + (r.f2.size : Int)) (by omega) (by omega), wrap_in (by omega) (by omega)]
  simp [recLen]
theorem size_no (r : R) (h : ¬ recOk r) : Ev (fun k => rec_Size.f k r.f0 r.f1 r.f2 r.f3 r.f4 r.f5) (0, 1) := by
  refine Ev.bind (check_no r h) (Ev.congr (f := fun _ => some (0, 1)) (fun k => ?_) (Ev.now _))
  rw [if_neg (by decide)]

theorem rd_take (l : List R) (n i : Nat) (h : i < n) : rd_T25 (l.take n) i = rd_T25 l i := by
  unfold rd_T25
  simp [List.getD_eq_getElem?_getD, List.getElem?_take, h]
theorem rd_mem {l : List R} {i : Nat} (h : i < l.length) : rd_T25 l i ∈ l := by
  unfold rd_T25
  simp [List.getD_eq_getElem?_getD, List.getElem?_eq_getElem h]
theorem rd_get {l : List R} {i : Nat} (h : i < l.length) : rd_T25 l i = l[i] := by
  unfold rd_T25
  simp [List.getD_eq_getElem?_getD, List.getElem?_eq_getElem h]
end Go.Proofs.Ytmabdfdmccbfnaa.URec

/- Weights: how much of a script is played. -/
namespace Go.Proofs.Ytmabdfdmccbfnaa.UHeavy
open Go Go.RowKit Go.Proofs.Ytmabdfdmccbfnaa.P Go.Proofs.Ytmabdfdmccbfnaa.URec Go.Proofs.YtmabdfdmccbfnaaW.PrintWords Go.Proofs.YtmabdfdmccbfnaaW.PrintLast
set_option linter.unusedVariables false
set_option linter.unusedSimpArgs false

/-- The letters of records. -/
def letters : List R → Nat
  | [] => 0
  | r :: l => r.f2.size + r.f3.size + letters l
theorem letters_take (l : List R) (i : Nat) (h : i < l.length) : letters (l.take (i + 1)) = letters (l.take i) + (rd_T25 l i).f2.size + (rd_T25 l i).f3.size := by
  rw [rd_get h]
  induction l generalizing i with
  | nil => simp at h
  | cons r l ih =>
    cases i with
    | zero => simp [letters]
    | succ i =>
      have := ih i (by simpa using h)
      simp [letters, this]; omega
theorem letters_mem {l : List R} {r : R} (h : r ∈ l) : r.f2.size + r.f3.size ≤ letters l := by
  induction l with
  | nil => simp at h
  | cons x l ih =>
    simp only [letters]
    rcases List.mem_cons.1 h with rfl | h
    · omega
    · have := ih h; omega

theorem weight_loop (l : List R) (hl : l.length * 64 ≤ 140737488351232) (hg : ∀ x ∈ l, good25 x) : ∀ (d i : Nat) (x : Nat), l.length = i + d → x = l.length + letters (l.take i) → x ≤ 562949953421312 →
    ∃ n : Nat, Ev (fun k => fairwaylaw0_RecsWeight.l0 k l x i) (n : Int) ∧ n ≤ 562949953421312 ∧ (n < 1048576 → n = l.length + letters l)
  | 0, i, x, h, hx, hm => by
    refine ⟨x, Ev.step (f := fun _ => some _) (fun k => ?_) (Ev.now _), hm, fun _ => ?_⟩
    · simp only [fairwaylaw0_RecsWeight.l0]
      rw [if_neg (by omega)]
    · rw [hx, List.take_of_length_le (by omega)]
  | d + 1, i, x, h, hx, hm => by
    have hi : i < l.length := by omega
    by_cases hs : x < 1048576
    · have hgi := hg _ (rd_mem hi)
      obtain ⟨g0, g1, g2, g3, g4⟩ := hgi
      obtain ⟨n, hn, h1, h2⟩ := weight_loop l hl hg d (i + 1) (x + (rd_T25 l i).f2.size + (rd_T25 l i).f3.size) (by omega) (by rw [letters_take l i hi]; omega) (by omega)
      refine ⟨n, Ev.step (fun k => ?_) hn, h1, h2⟩
      simp only [fairwaylaw0_RecsWeight.l0]
      rw [if_pos (by omega), if_pos (by omega), if_pos (by omega), wrap_in (x := (x : Int) + ((rd_T25 l i).f2.size : Int)) (by omega) (by omega), wrap_in (by omega) (by omega), wrap_in (by omega) (by omega)]
      rfl
    · refine ⟨x, Ev.step (f := fun _ => some _) (fun k => ?_) (Ev.now _), hm, fun h => absurd h hs⟩
      simp only [fairwaylaw0_RecsWeight.l0]
      rw [if_pos (by omega), if_neg (by omega)]
theorem weight_ev (l : List R) (hl : l.length * 64 ≤ 140737488351232) (hg : ∀ x ∈ l, good25 x) :
    ∃ n : Nat, Ev (fun k => fairwaylaw0_RecsWeight.f k l) (n : Int) ∧ n ≤ 562949953421312 ∧ (n < 1048576 → n = l.length + letters l) :=
  weight_loop l hl hg l.length 0 l.length (by omega) (by simp [letters]) (by omega)

theorem heavy_ev (base : Int) (g l : List R) (ns : List Int) (s : ByteArray) (hg : ∀ x ∈ g, good25 x) (hg2 : g.length * 64 ≤ 140737488351232) (hl : ∀ x ∈ l, good25 x) (hl2 : l.length * 64 ≤ 140737488351232) :
    ∃ b, Ev (fun k => fairwaylaw11_Heavy.f k base g l ns s) b ∧ (b = false → g.length + letters g + (l.length + letters l) ≤ 8000 ∧ s.size ≤ 8000 ∧ ns.length ≤ 500) := by
  obtain ⟨n, h1, h2, h3⟩ := weight_ev g hg2 hg
  obtain ⟨m, k1, k2, k3⟩ := weight_ev l hl2 hl
  by_cases a : wrap64 ((n : Int) + (m : Int)) > 8000
  · exact ⟨true, Ev.bind h1 (Ev.bind k1 (Ev.congr (fun k => if_pos a) (Ev.now _))), fun e => by cases e⟩
  · have hw : (n : Int) + m ≤ 8000 := by rw [wrap_in (by omega) (by omega)] at a; omega
    by_cases b : (s.size : Int) > 8000
    · exact ⟨true, Ev.bind h1 (Ev.bind k1 (Ev.congr (fun k => if_neg a) (Ev.congr (fun k => if_pos b) (Ev.now _)))), fun e => by cases e⟩
    · refine ⟨_, Ev.bind h1 (Ev.bind k1 (Ev.congr (fun k => if_neg a) (Ev.congr (fun k => if_neg b) (Ev.now _)))), fun e => ?_⟩
      have := of_decide_eq_false e
      exact ⟨by rw [← h3 (by omega), ← k3 (by omega)]; omega, by omega, by omega⟩
end Go.Proofs.Ytmabdfdmccbfnaa.UHeavy

/- Segments: which may be: the program's answer and the page's are one. -/
namespace Go.Proofs.Ytmabdfdmccbfnaa.USeg
open Go Go.RowKit Go.Proofs.Ytmabdfdmccbfnaa.P Go.Proofs.Ytmabdfdmccbfnaa.URec Go.Proofs.YtmabdfdmccbfnaaW.PrintWords Go.Proofs.YtmabdfdmccbfnaaW.PrintLast
set_option linter.unusedVariables false
set_option linter.unusedSimpArgs false

/-- The record at a place may stand there. -/
def okAt (base : Int) (l : List R) (i : Nat) : Prop :=
  recOk (rd_T25 l i) ∧ base ≤ (rd_T25 l i).f0 ∧ (0 < i → (rd_T25 l (i - 1 : Nat)).f0 < (rd_T25 l i).f0 ∧ (rd_T25 l (i - 1 : Nat)).f1 ≤ (rd_T25 l i).f1)
/-- A segment that may be. -/
def segOk (base : Int) (l : List R) : Prop := 0 ≤ base ∧ base ≤ 1099511627776 ∧ l.length ≤ 200 ∧ ∀ i, i < l.length → okAt base l i

theorem segOk_rec {base : Int} {l : List R} (h : segOk base l) {i : Nat} (hi : i < l.length) : recOk (rd_T25 l i) := (h.2.2.2 i hi).1

theorem behind_yes (base : Int) (l : List R) (r : R) (h : recOk r) (hb : base ≤ r.f0) (hn : l.length < 200)
    (hp : 0 < l.length → (rd_T25 l (l.length - 1 : Nat)).f0 < r.f0 ∧ (rd_T25 l (l.length - 1 : Nat)).f1 ≤ r.f1) :
    Ev (fun k => seg_behind.f k base l r.f0 r.f1 r.f2 r.f3 r.f4 r.f5) true := by
  refine Ev.bind (check_yes r h) (Ev.congr (f := fun _ => some true) (fun k => ?_) (Ev.now _))
  rw [if_pos rfl, if_neg (by omega), if_neg (by omega)]
  by_cases h0 : (l.length : Int) = 0
  · rw [if_pos h0]
  · have hw : wrap64 ((l.length : Int) - 1) = ((l.length - 1 : Nat) : Int) := by rw [wrap_in (by omega) (by omega)]; omega
    obtain ⟨p0, p1⟩ := hp (by omega)
    rw [if_neg h0, hw, if_pos (by omega), if_pos (by omega), if_pos p0]
    simpa using p1
theorem behind_no (base : Int) (l : List R) (r : R) (hl : l.length ≤ 200) (h : ¬ (recOk r ∧ base ≤ r.f0 ∧ l.length < 200 ∧
    (0 < l.length → (rd_T25 l (l.length - 1 : Nat)).f0 < r.f0 ∧ (rd_T25 l (l.length - 1 : Nat)).f1 ≤ r.f1))) :
    Ev (fun k => seg_behind.f k base l r.f0 r.f1 r.f2 r.f3 r.f4 r.f5) false := by
  by_cases hr : recOk r
  · refine Ev.bind (check_yes r hr) (Ev.congr (f := fun _ => some false) (fun k => ?_) (Ev.now _))
    rw [if_pos rfl]
    by_cases hb : r.f0 < base
    · rw [if_pos hb]
    rw [if_neg hb]
    by_cases hn : (l.length : Int) ≥ 200
    · rw [if_pos hn]
    rw [if_neg hn]
    by_cases h0 : (l.length : Int) = 0
    · exact absurd ⟨hr, by omega, by omega, fun g => by omega⟩ h
    have hw : wrap64 ((l.length : Int) - 1) = ((l.length - 1 : Nat) : Int) := by rw [wrap_in (by omega) (by omega)]; omega
    rw [if_neg h0, hw, if_pos (by omega), if_pos (by omega)]
    by_cases p0 : (rd_T25 l (l.length - 1 : Nat)).f0 < r.f0
    · rw [if_pos p0]
      by_cases p1 : (rd_T25 l (l.length - 1 : Nat)).f1 ≤ r.f1
      · exact absurd ⟨hr, by omega, by omega, fun g => ⟨p0, p1⟩⟩ h
      · simpa using p1
    · rw [if_neg p0]
  · refine Ev.bind (check_no r hr) (Ev.congr (f := fun _ => some false) (fun k => ?_) (Ev.now _))
    rw [if_neg (by decide)]

theorem take_last (l : List R) (i : Nat) (h : i ≤ l.length) (h0 : 0 < i) : rd_T25 (l.take i) ((l.take i).length - 1 : Nat) = rd_T25 l (i - 1 : Nat) := by
  rw [List.length_take, Nat.min_eq_left h]
  exact rd_take l i (i - 1) (by omega)

theorem check_loop_yes (base : Int) (l : List R) (hl : l.length ≤ 200) (hok : ∀ i, i < l.length → okAt base l i) : ∀ (d i : Nat), l.length = i + d →
    Ev (fun k => seg_Check.l0 k l (l.length : Int) i base l) 0
  | 0, i, h => by
    refine Ev.step (f := fun _ => some 0) (fun k => ?_) (Ev.now _)
    simp only [seg_Check.l0]
    rw [if_neg (by omega)]
  | d + 1, i, h => by
    have hi : i < l.length := by omega
    obtain ⟨h1, h2, h3⟩ := hok i hi
    refine Ev.step (f := fun k => (seg_behind.f k base (l.take i) ((rd_T25 l i).f0) ((rd_T25 l i).f1) ((rd_T25 l i).f2) ((rd_T25 l i).f3) ((rd_T25 l i).f4) ((rd_T25 l i).f5)).bind fun t => if t = true then seg_Check.l0 k l (l.length : Int) (wrap64 (i + 1)) base l else some 1) (fun k => ?_) ?_
    · simp only [seg_Check.l0]
      rw [if_pos (by omega), if_pos (by omega), if_pos (by omega), if_pos (by omega), Int.toNat_natCast]
    · refine Ev.bind (behind_yes base (l.take i) (rd_T25 l i) h1 h2 (by rw [List.length_take]; omega) (fun g => ?_)) (Ev.congr (fun k => if_pos rfl) ?_)
      · have hi0 : 0 < i := by rw [List.length_take] at g; omega
        rw [take_last l i (by omega) hi0]
        exact h3 hi0
      · rw [wrap_in (by omega) (by omega)]
        exact check_loop_yes base l hl hok d (i + 1) (by omega)
theorem check_loop_no (base : Int) (l : List R) (j : Nat) (hj : j < l.length) (hj2 : j ≤ 200) (hbad : ¬ (okAt base l j ∧ j < 200)) (hok : ∀ i, i < j → okAt base l i) : ∀ (d i : Nat), j = i + d →
    Ev (fun k => seg_Check.l0 k l (l.length : Int) i base l) 1
  | 0, i, h => by
    obtain rfl : j = i := by omega
    refine Ev.step (f := fun k => (seg_behind.f k base (l.take j) ((rd_T25 l j).f0) ((rd_T25 l j).f1) ((rd_T25 l j).f2) ((rd_T25 l j).f3) ((rd_T25 l j).f4) ((rd_T25 l j).f5)).bind fun t => if t = true then seg_Check.l0 k l (l.length : Int) (wrap64 (j + 1)) base l else some 1) (fun k => ?_) ?_
    · simp only [seg_Check.l0]
      rw [if_pos (by omega), if_pos (by omega), if_pos (by omega), if_pos (by omega), Int.toNat_natCast]
    · refine Ev.bind (behind_no base (l.take j) (rd_T25 l j) (by rw [List.length_take]; omega) (fun g => hbad ?_)) (Ev.congr (f := fun _ => some 1) (fun k => if_neg (by decide)) (Ev.now _))
      obtain ⟨g1, g2, g3, g4⟩ := g
      rw [List.length_take, Nat.min_eq_left (by omega)] at g3
      refine ⟨⟨g1, g2, fun h0 => ?_⟩, g3⟩
      have := g4 (by rw [List.length_take]; omega)
      rw [take_last l j (by omega) h0] at this
      exact this
  | d + 1, i, h => by
    have hi : i < l.length := by omega
    obtain ⟨h1, h2, h3⟩ := hok i (by omega)
    refine Ev.step (f := fun k => (seg_behind.f k base (l.take i) ((rd_T25 l i).f0) ((rd_T25 l i).f1) ((rd_T25 l i).f2) ((rd_T25 l i).f3) ((rd_T25 l i).f4) ((rd_T25 l i).f5)).bind fun t => if t = true then seg_Check.l0 k l (l.length : Int) (wrap64 (i + 1)) base l else some 1) (fun k => ?_) ?_
    · simp only [seg_Check.l0]
      rw [if_pos (by omega), if_pos (by omega), if_pos (by omega), if_pos (by omega), Int.toNat_natCast]
    · refine Ev.bind (behind_yes base (l.take i) (rd_T25 l i) h1 h2 (by rw [List.length_take]; omega) (fun g => ?_)) (Ev.congr (fun k => if_pos rfl) ?_)
      · have hi0 : 0 < i := by rw [List.length_take] at g; omega
        rw [take_last l i (by omega) hi0]
        exact h3 hi0
      · rw [wrap_in (by omega) (by omega)]
        exact check_loop_no base l j hj hj2 hbad hok d (i + 1) (by omega)

theorem least {p : Nat → Prop} : ∀ n, (∃ i, i < n ∧ ¬ p i) → ∃ j, j < n ∧ ¬ p j ∧ ∀ i, i < j → p i
  | 0, ⟨i, h, _⟩ => by omega
  | n + 1, ⟨i, h, hp⟩ => by
    by_cases e : ∃ i, i < n ∧ ¬ p i
    · obtain ⟨j, h1, h2, h3⟩ := least n e
      exact ⟨j, by omega, h2, h3⟩
    · have e' : ∀ i, i < n → p i := fun i hi => Classical.byContradiction fun hn => e ⟨i, hi, hn⟩
      have : i = n := by
        by_cases hin : i < n
        · exact absurd (e' i hin) hp
        · omega
      subst this
      exact ⟨i, by omega, hp, e'⟩

theorem segcheck_yes (base : Int) (l : List R) (h : segOk base l) : Ev (fun k => seg_Check.f k base l) 0 := by
  obtain ⟨h0, h1, h2, h3⟩ := h
  refine Ev.step (f := fun k => seg_Check.l0 k l (l.length : Int) 0 base l) (fun k => ?_) (check_loop_yes base l h2 h3 l.length 0 (by omega))
  simp only [seg_Check.f, seg_Check.j0]
  rw [if_neg (by omega), if_neg (by simp; omega)]
theorem segcheck_no (base : Int) (l : List R) (h : ¬ segOk base l) : Ev (fun k => seg_Check.f k base l) 1 := by
  by_cases h0 : base < 0
  · refine Ev.step (f := fun _ => some 1) (fun k => ?_) (Ev.now _)
    simp only [seg_Check.f, seg_Check.j0]
    rw [if_pos h0]; rfl
  by_cases h1 : base > 1099511627776
  · refine Ev.step (f := fun _ => some 1) (fun k => ?_) (Ev.now _)
    simp only [seg_Check.f, seg_Check.j0]
    rw [if_neg h0, if_pos (by simpa using h1)]
  have hb : ∃ i, i < l.length ∧ ¬ (okAt base l i ∧ i < 200) := by
    refine Classical.byContradiction fun hn => h ⟨by omega, by omega, ?_, ?_⟩
    · by_cases hl : l.length ≤ 200
      · exact hl
      · exact absurd ⟨200, by omega, fun g => by omega⟩ hn
    · intro i hi
      exact Classical.byContradiction fun hc => hn ⟨i, hi, fun g => hc g.1⟩
  obtain ⟨j, hj, hbad, hok⟩ := least l.length hb
  have hj2 : j ≤ 200 := by
    by_cases e : j ≤ 200
    · exact e
    · have := (hok 200 (by omega)).2
      omega
  refine Ev.step (f := fun k => seg_Check.l0 k l (l.length : Int) 0 base l) (fun k => ?_) (check_loop_no base l j hj hj2 hbad (fun i hi => (hok i hi).1) j 0 (by omega))
  simp only [seg_Check.f, seg_Check.j0]
  rw [if_neg (by omega), if_neg (by simp; omega)]

/-! ### the page's own -/
theorem j2_no (base : Int) (l : List R) (i : Int) : Ev (fun k => fairwayref10_Seg.j2 k i true base l) false := by
  refine Ev.step (f := fun _ => some false) (fun k => ?_) (Ev.now _)
  simp only [fairwayref10_Seg.j2]
  rw [if_pos trivial]
theorem ref_step (base : Int) (l : List R) (hm : l.length ≤ 9223372036854775806) (i : Nat) (hi : i < l.length) (h : okAt base l i) {r : Bool} (hr : Ev (fun k => fairwayref10_Seg.l0 k ((i + 1 : Nat) : Int) base l) r) :
    Ev (fun k => fairwayref10_Seg.l0 k i base l) r := by
  obtain ⟨h1, h2, h3⟩ := h
  refine Ev.step (f := fun k => fairwayref10_Seg.j1 k i base l) (fun k => ?_) ?_
  · simp only [fairwayref10_Seg.l0]
    rw [if_pos (by omega)]
  · refine Ev.step (f := fun k => fairwayref10_Seg.j2 k i false base l) (fun k => ?_) ?_
    · simp only [fairwayref10_Seg.j1]
      rw [if_pos (by omega), if_pos (by omega), rec_yes _ h1]
      simp only [Option.bind_some]
      rw [if_pos trivial, if_neg (by omega)]
      by_cases h0 : (i : Int) > 0
      · obtain ⟨p0, p1⟩ := h3 (by omega)
        have hw : wrap64 ((i : Int) - 1) = ((i - 1 : Nat) : Int) := by rw [wrap_in (by omega) (by omega)]; omega
        rw [if_pos h0, hw, if_pos (by omega), if_pos (by omega), if_neg (by omega), decide_eq_false (by omega)]
      · rw [if_neg h0]
    · refine Ev.step (f := fun k => fairwayref10_Seg.l0 k ((i + 1 : Nat) : Int) base l) (fun k => ?_) hr
      simp only [fairwayref10_Seg.j2]
      rw [if_neg (by decide), wrap_in (by omega) (by omega)]
      rfl
theorem ref_stop (base : Int) (l : List R) (hm : l.length ≤ 9223372036854775806) (i : Nat) (hi : i < l.length) (h : ¬ okAt base l i) : Ev (fun k => fairwayref10_Seg.l0 k i base l) false := by
  refine Ev.step (f := fun k => fairwayref10_Seg.j1 k i base l) (fun k => ?_) ?_
  · simp only [fairwayref10_Seg.l0]
    rw [if_pos (by omega)]
  · refine Ev.step (f := fun k => fairwayref10_Seg.j2 k i true base l) (fun k => ?_) (j2_no base l i)
    simp only [fairwayref10_Seg.j1]
    rw [if_pos (by omega), if_pos (by omega)]
    by_cases h1 : recOk (rd_T25 l i)
    · rw [rec_yes _ h1]
      simp only [Option.bind_some]
      rw [if_pos trivial]
      by_cases h2 : (rd_T25 l i).f0 < base
      · rw [if_pos h2]
      rw [if_neg h2]
      by_cases h0 : (i : Int) > 0
      · have hw : wrap64 ((i : Int) - 1) = ((i - 1 : Nat) : Int) := by rw [wrap_in (by omega) (by omega)]; omega
        rw [if_pos h0, hw, if_pos (by omega), if_pos (by omega)]
        by_cases p0 : (rd_T25 l (i - 1 : Nat)).f0 ≥ (rd_T25 l i).f0
        · rw [if_pos p0]
        · rw [if_neg p0]
          by_cases p1 : (rd_T25 l (i - 1 : Nat)).f1 > (rd_T25 l i).f1
          · rw [decide_eq_true p1]
          · exact absurd ⟨h1, by omega, fun _ => ⟨by omega, by omega⟩⟩ h
      · exact absurd ⟨h1, by omega, fun g => by omega⟩ h
    · rw [rec_no _ h1]
      simp only [Option.bind_some]
      rw [if_neg (by decide)]
theorem ref_loop (base : Int) (l : List R) (hm : l.length ≤ 9223372036854775806) (n : Nat) (hn : n ≤ l.length) (hok : ∀ i, i < n → okAt base l i) {r : Bool} (hr : Ev (fun k => fairwayref10_Seg.l0 k n base l) r) : ∀ (d i : Nat), n = i + d →
    Ev (fun k => fairwayref10_Seg.l0 k i base l) r
  | 0, i, h => by
    obtain rfl : n = i := by omega
    exact hr
  | d + 1, i, h => ref_step base l hm i (by omega) (hok i (by omega)) (ref_loop base l hm n hn hok hr d (i + 1) (by omega))
theorem ref_end (base : Int) (l : List R) : Ev (fun k => fairwayref10_Seg.l0 k l.length base l) (decide (0 ≤ base ∧ base ≤ 1099511627776) && decide (l.length ≤ 200)) := by
  refine Ev.step (f := fun _ => some _) (fun k => ?_) (Ev.now _)
  simp only [fairwayref10_Seg.l0]
  rw [if_neg (by omega), num_f]
  simp only [Option.bind_some]
  by_cases h : 0 ≤ base ∧ base ≤ 1099511627776
  · rw [if_pos (by simpa using h), decide_eq_true h]
    simp only [Bool.true_and, Option.some.injEq, decide_eq_decide]
    omega
  · rw [if_neg (by simpa using h), decide_eq_false h]
    rfl
theorem refseg_yes (base : Int) (l : List R) (h : segOk base l) : Ev (fun k => fairwayref10_Seg.f k base l) true := by
  obtain ⟨h0, h1, h2, h3⟩ := h
  have e := ref_end base l
  rw [decide_eq_true ⟨h0, h1⟩, decide_eq_true h2] at e
  exact ref_loop base l (by omega) l.length (Nat.le_refl _) h3 e l.length 0 (by omega)
theorem refseg_no (base : Int) (l : List R) (hm : l.length ≤ 9223372036854775806) (h : ¬ segOk base l) : Ev (fun k => fairwayref10_Seg.f k base l) false := by
  by_cases e : ∃ i, i < l.length ∧ ¬ okAt base l i
  · obtain ⟨j, hj, hbad, hok⟩ := least l.length e
    exact ref_loop base l hm j (by omega) hok (ref_stop base l hm j hj hbad) j 0 (by omega)
  · have e' : ∀ i, i < l.length → okAt base l i := fun i hi => Classical.byContradiction fun hn => e ⟨i, hi, hn⟩
    have z := ref_end base l
    have : (decide (0 ≤ base ∧ base ≤ 1099511627776) && decide (l.length ≤ 200)) = false := by
      rw [Bool.and_eq_false_iff]
      by_cases hb : 0 ≤ base ∧ base ≤ 1099511627776
      · right
        exact decide_eq_false fun hl => h ⟨hb.1, hb.2, hl, e'⟩
      · left
        exact decide_eq_false hb
    rw [this] at z
    exact ref_loop base l hm l.length (Nat.le_refl _) e' z l.length 0 (by omega)
end Go.Proofs.Ytmabdfdmccbfnaa.USeg

-- written by a program of the proving session, out of the translation; Lean checks it
namespace Go.Proofs.Ytmabdfdmccbfnaa.P
open Go.RowKit Go.Proofs.Ytmabdfdmccbfnaa.Sq Go.Proofs.YtmabdfdmccbfnaaW.PrintWords Go.Proofs.YtmabdfdmccbfnaaW.PrintLast Go.Proofs.YtmabdfdmccbfnaaW.PrintMore
attribute [local go_sem] max2_int min2_int max_two min_two max_three min_three max_four min_four   -- for this text's walks alone
set_option linter.unusedVariables false
set_option linter.unusedSimpArgs false

/-! ### vbi_high: function 81 -/
mutual
def vbi_high.j0 : Nat → Int → Int → Bool → Option (ByteArray × Int)
 | 0, _, _, _ => none
 | k + 1, x0, x1, x16 => if x16 = true then (some ((⟨#[]⟩ : ByteArray), 2)) else (if 0 ≤ x1 then (if (x1 : Int).toNat ≤ 281474976710656 then ((some (List.replicate (x1 : Int).toNat 0 : List Int)).bind fun y102 => (vbi_high.l0 k x0 x1 y102 (y102.length : Int) 0)) else (none)) else (none))
def vbi_high.l0 : Nat → Int → Int → List Int → Int → Int → Option (ByteArray × Int)
 | 0, _, _, _, _, _ => none
 | k + 1, x0, x1, x6, x20, x21 => if x21 < x20 then (if 0 ≤ (wrap64 (8 * x21)) then (if 0 ≤ (wrap64 ((wrap64 (x1 - 1)) - x21)) then (if (wrap64 ((wrap64 (x1 - 1)) - x21)) < (x6.length : Int) then (vbi_high.l0 k x0 x1 (x6.set ((wrap64 ((wrap64 (x1 - 1)) - x21)) : Int).toNat ((shr .i64 x0 (wrap64 (8 * x21))) % 256)) x20 (wrap64 (x21 + 1))) else (none)) else (none)) else (none)) else (some (strOfNums x6, 0))
end
def vbi_high.f (k : Nat) (a0 : Int) (a1 : Int) : Option (ByteArray × Int) := if a0 < 0 then (vbi_high.j0 k a0 a1 true) else (if 0 ≤ (wrap64 (8 * a1)) then (vbi_high.j0 k a0 a1 ((shr .i64 a0 (wrap64 (8 * a1))) != 0)) else (none))
theorem vbi_high.mono_l : ∀ k, (∀ y0 y1 y2, LeO (vbi_high.j0 k y0 y1 y2) (vbi_high.j0 (k + 1) y0 y1 y2)) ∧ (∀ y0 y1 y2 y3 y4, LeO (vbi_high.l0 k y0 y1 y2 y3 y4) (vbi_high.l0 (k + 1) y0 y1 y2 y3 y4))
 | 0 => ⟨fun _ _ _ r h => by simp [vbi_high.j0] at h, fun _ _ _ _ _ r h => by simp [vbi_high.l0] at h⟩
 | k + 1 => by
  obtain ⟨ih0, ih1⟩ := vbi_high.mono_l k
  refine ⟨?_, ?_⟩
  ·intro y0 y1 y2
   unfold vbi_high.j0
   repeat' first
   | (with_reducible exact ih0 _ _ _)
   | (with_reducible exact ih1 _ _ _ _ _)
   | (with_reducible exact LeO.refl _)
   | (with_reducible exact LeO.none _)
   | (with_reducible refine LeO.ite ?_ ?_)
   | (with_reducible refine LeO.bind ?_ (fun _ => ?_))
   | exact ih0 _ _ _
   | exact ih1 _ _ _ _ _
   | exact LeO.none _
   | refine LeO.ite ?_ ?_
   | refine LeO.bind ?_ (fun _ => ?_)
  ·intro y0 y1 y2 y3 y4
   unfold vbi_high.l0
   repeat' first
   | (with_reducible exact ih0 _ _ _)
   | (with_reducible exact ih1 _ _ _ _ _)
   | (with_reducible exact LeO.refl _)
   | (with_reducible exact LeO.none _)
   | (with_reducible refine LeO.ite ?_ ?_)
   | (with_reducible refine LeO.bind ?_ (fun _ => ?_))
   | exact ih0 _ _ _
   | exact ih1 _ _ _ _ _
   | exact LeO.none _
   | refine LeO.ite ?_ ?_
   | refine LeO.bind ?_ (fun _ => ?_)
theorem vbi_high.mono : ∀ a0 a1 k, LeO (vbi_high.f k a0 a1) (vbi_high.f (k + 1) a0 a1) := by
 intro a0 a1 k
 obtain ⟨ih0, ih1⟩ := vbi_high.mono_l k
 unfold vbi_high.f
 repeat' first
  | (with_reducible exact ih0 _ _ _)
  | (with_reducible exact ih1 _ _ _ _ _)
  | (with_reducible exact LeO.refl _)
  | (with_reducible exact LeO.none _)
  | (with_reducible refine LeO.ite ?_ ?_)
  | (with_reducible refine LeO.bind ?_ (fun _ => ?_))
  | exact ih0 _ _ _
  | exact ih1 _ _ _ _ _
  | exact LeO.none _
  | refine LeO.ite ?_ ?_
  | refine LeO.bind ?_ (fun _ => ?_)
set_option maxHeartbeats 8000000 in
set_option maxRecDepth 100000 in
theorem vbi_high.calls (k : Nat) (a0 : Int) (a1 : Int) (r1 : ByteArray) (r2 : Int) (w : World) (h : vbi_high.f k a0 a1 = some (r1, r2)) :
 Calls Try.prog 81 #[.int .i64 a0, .int .i64 a1] w fun e w' => e = .returned (.tuple #[.string r1, .int .i64 r2]) ∧ Below w.heap.size w w' := by
 have HB := Aside0.mk (Below.refl w.heap.size w)
 have H : (if a0 < 0 then (vbi_high.j0 k a0 a1 true) else (if 0 ≤ (wrap64 (8 * a1)) then (vbi_high.j0 k a0 a1 ((shr .i64 a0 (wrap64 (8 * a1))) != 0)) else (none))) = some (r1, r2) := h
 clear h
 have HC3 := Aside0.mk H
 clear H
 go_enter Try.func81, Try.ntmps81
 go_upto_region 1 with (fail)
 go_cut [16] (fun v16 wc => ∃ (kq : Nat) (x16_2 : Bool), v16 = .bool x16_2 ∧ Aside0 (vbi_high.j0 kq a0 a1 x16_2 = some (r1, r2)) ∧ Aside0 (kq ≤ k) ∧ Aside0 (Below w.heap.size w wc))
 case first =>
  have H := HC3.out
  clear HC3
  by_cases c4 : a0 < 0
  ·rw [if_pos c4] at H
   have c4b0 : decide (a0 < 0) = true := decide_eq_true c4
   clear c4
   (first | rw [c4b0] | (simp only [i64_w, i32_w]; rw [c4b0]) | skip)
   have H' := Aside0.mk H
   clear H
   go_wp2
   go_meet
   case rel => exact ⟨_, (true), ap, H', ⟨by first | omega | exact Nat.le_refl _⟩, ⟨bo⟩⟩
  ·rw [if_neg c4] at H
   have c4b0 : decide (a0 < 0) = false := decide_eq_false c4
   clear c4
   (first | rw [c4b0] | (simp only [i64_w, i32_w]; rw [c4b0]) | skip)
   obtain ⟨ji5, hji5⟩ : ∃ j_ : Int, (wrap64 (8 * a1)) = j_ := ⟨_, rfl⟩
   replace H : (if 0 ≤ (ji5) then (vbi_high.j0 k a0 a1 ((shr .i64 a0 (ji5)) != 0)) else (none)) = some (r1, r2) := by first | (rw [hji5] at H; exact H) | (simp only [hji5] at H ⊢; exact H)
   have hji5w : (IntKind.i64.wrap (8 * a1)) = ji5 := (i64_w _).trans hji5
   by_cases c6 : 0 ≤ (ji5)
   ·rw [if_pos c6] at H
    have c6b0 := eq_true c6
    have c6b1 : decide (0 ≤ (ji5)) = true := decide_eq_true c6
    clear c6
    obtain ⟨ji7, hji7⟩ : ∃ j_ : Int, (shr .i64 a0 (ji5)) = j_ := ⟨_, rfl⟩
    replace H : (vbi_high.j0 k a0 a1 ((ji7) != 0)) = some (r1, r2) := by first | (rw [hji7] at H; exact H) | (simp only [hji7] at H ⊢; exact H)
    have hji7_ : (a0 / 2 ^ min (ji5).toNat 64) = ji7 := hji7
    have hji7z : (ji5) ≤ 64 → (a0 / 2 ^ (ji5).toNat) = ji7 := shr_small hji7
    have H' := Aside0.mk H
    clear H
    go_wp2
    go_meet
    case rel => exact ⟨_, (((ji7) != 0)), (by first | rfl | (simp; done) | (simp only [← hji7] <;> (first | rfl | simp)) | (simp [*]; done)), H', ⟨by first | omega | exact Nat.le_refl _⟩, ⟨bo⟩⟩
   ·rw [if_neg c6] at H
    exact absurd H (by simp)
 case rest =>
  clear HC3
  try clear p2
  try clear c4
  try clear c4b0
  try clear c6
  try clear c6b0
  try clear c6b1
  try clear p6
  obtain ⟨kq, x16_2, rfl, HA, HJ2, HB⟩ := hcut
  cases kq with
  | zero => exact absurd HA.out (by simp [vbi_high.j0])
  | succ kj2 =>
   have H := HA.out
   clear HA
   simp only [vbi_high.j0] at H
   by_cases c8 : x16_2 = true
   ·subst c8
    have H1 : (some ((⟨#[]⟩ : ByteArray), 2)) = some (r1, r2) := by rw [if_pos rfl] at H; exact H
    clear H
    have H := H1
    clear H1
    simp only [Option.some.injEq, Prod.mk.injEq] at H
    obtain ⟨rfl, rfl⟩ := H
    go_wp2
    go_ret2
    exact ⟨er, bo⟩
   ·replace c8 := Bool.eq_false_iff.mpr c8
    subst c8
    have H1 : (if 0 ≤ a1 then (if (a1 : Int).toNat ≤ 281474976710656 then ((some (List.replicate (a1 : Int).toNat 0 : List Int)).bind fun y102 => (vbi_high.l0 kj2 a0 a1 y102 (y102.length : Int) 0)) else (none)) else (none)) = some (r1, r2) := by rw [if_neg (show ¬ (false = true) by decide)] at H; exact H
    clear H
    have H := H1
    clear H1
    by_cases c9 : 0 ≤ a1
    ·rw [if_pos c9] at H
     have c9b0 := eq_true c9
     have c9b1 : decide (0 ≤ a1) = true := decide_eq_true c9
     clear c9
     by_cases c10 : (a1 : Int).toNat ≤ 281474976710656
     ·rw [if_pos c10] at H
      have c10b0 := eq_true c10
      have c10b1 : decide ((a1 : Int).toNat ≤ 281474976710656) = true := decide_eq_true c10
      clear c10
      obtain ⟨y102, hy102⟩ : ∃ y_ : List Int, y_ = (List.replicate (a1 : Int).toNat 0) := ⟨_, rfl⟩
      replace H : (vbi_high.l0 kj2 a0 a1 y102 (y102.length : Int) 0) = some (r1, r2) := by first | (rw [hy102]; with_reducible exact H) | (have H2_ := (Option.bind_some _ _).symm.trans H; rw [hy102]; with_reducible exact H2_) | (have H2_ := (Option.bind_some _ _).symm.trans H; with_reducible exact H2_) | with_reducible exact H | (rw [hy102]; exact H) | exact H
      have Ny102 := Aside0.mk hy102
      clear hy102
      have H' := Aside0.mk H
      clear H
      go_wp2_with (first | ((with_reducible refine gate_dst (N := 18) rfl ?_); refine Kd.R_make (Kd.int .u8) _ 5 rfl (N := 18) rfl 23 _ _ rfl a1 rfl rfl Try.underlying23 (.int .u8 0) 1 info5 rfl (by decide) (by omega) 0 (ok := fun _ => True) (okp := fun _ => True) rfl (fun _ hk => hk) trivial (od) (Nat.le_trans (Nat.mul_le_mul_right _ (od : a1.toNat ≤ 281474976710656)) (by omega)) (Below.refl _ _) (Nat.le_refl _) ?_; intro v103 w11 ho12 hb hg_ hnew_; clear hg_ hnew_; (first | rw [← Ny102.out] at ho12 | (simp only [Int.reduceToNat] at ho12; rw [← Ny102.out] at ho12)); have HO104 := Aside0.mk (Kd.R_lower ho12 (below_size bo)); replace HB := Aside0.mk (below_step bo hb); clear hb ho12; obtain ⟨Ao13, co13, eo13⟩ := Kd.R_slice HO104.out; subst eo13))
      go_loopg [21] kj2 (fun kq v21 w' => ∃ (x6_2 : List Int) (x21_2 : Int), v21 = .int .i64 x21_2 ∧ Aside0 (vbi_high.l0 kq a0 a1 x6_2 (y102.length : Int) x21_2 = some (r1, r2)) ∧ Aside0 (kq ≤ kj2) ∧ Aside0 (Kd.R (Kd.int .u8) 5 w' w.heap.size (fun _ => True) (.slice Ao13 y102.length co13) x6_2) ∧ Aside0 (Below w.heap.size w w'))
      case atStart => exact ⟨(y102), (0), ap, H', ⟨Nat.le_refl _⟩, ⟨by (with_reducible repeat (first | apply Kd.R_alloc | apply Kd.R_drewN | apply Kd.R_drew)); exact HO104.out⟩, ⟨bo⟩⟩
      case round =>
       clear H'
       try clear c1
       try clear p2
       try clear c4
       try clear c4b0
       try clear c6
       try clear c6b0
       try clear c6b1
       try clear p6
       try clear c8
       try clear c9
       try clear c9b0
       try clear c9b1
       try clear c10
       try clear c10b0
       try clear c10b1
       try clear p2
       try clear p6
       obtain ⟨x6_2, x21_2, rfl, HA, HK2, HO_6, HB⟩ := hrel
       have hl6_2 := (Kd.R_reads' HO_6.out).1
       rw [hl6_2] at HO_6
       (try simp only [hl6_2])
       cases gk with
       | zero => exact absurd HA.out (by simp [vbi_high.l0])
       | succ k2 =>
        have H := HA.out
        clear HA
        simp only [vbi_high.l0] at H
        by_cases c14 : x21_2 < (y102.length : Int)
        ·rw [if_pos c14] at H
         have c14b0 : decide (x21_2 < (y102.length : Int)) = true := decide_eq_true c14
         (try (have c14z0hl6_2 := c14b0; rw [hl6_2] at c14z0hl6_2))
         clear c14
         obtain ⟨ji15, hji15⟩ : ∃ j_ : Int, (wrap64 (8 * x21_2)) = j_ := ⟨_, rfl⟩
         replace H : (if 0 ≤ (ji15) then (if 0 ≤ (wrap64 ((wrap64 (a1 - 1)) - x21_2)) then (if (wrap64 ((wrap64 (a1 - 1)) - x21_2)) < (x6_2.length : Int) then (vbi_high.l0 k2 a0 a1 (x6_2.set ((wrap64 ((wrap64 (a1 - 1)) - x21_2)) : Int).toNat ((shr .i64 a0 (ji15)) % 256)) (y102.length : Int) (wrap64 (x21_2 + 1))) else (none)) else (none)) else (none)) = some (r1, r2) := by first | (rw [hji15] at H; exact H) | (simp only [hji15] at H ⊢; exact H)
         have hji15w : (IntKind.i64.wrap (8 * x21_2)) = ji15 := (i64_w _).trans hji15
         by_cases c16 : 0 ≤ (ji15)
         ·rw [if_pos c16] at H
          have c16b0 := eq_true c16
          have c16b1 : decide (0 ≤ (ji15)) = true := decide_eq_true c16
          clear c16
          obtain ⟨ji17, hji17⟩ : ∃ j_ : Int, (shr .i64 a0 (ji15)) = j_ := ⟨_, rfl⟩
          replace H : (if 0 ≤ (wrap64 ((wrap64 (a1 - 1)) - x21_2)) then (if (wrap64 ((wrap64 (a1 - 1)) - x21_2)) < (x6_2.length : Int) then (vbi_high.l0 k2 a0 a1 (x6_2.set ((wrap64 ((wrap64 (a1 - 1)) - x21_2)) : Int).toNat ((ji17) % 256)) (y102.length : Int) (wrap64 (x21_2 + 1))) else (none)) else (none)) = some (r1, r2) := by first | (rw [hji17] at H; exact H) | (simp only [hji17] at H ⊢; exact H)
          have hji17_ : (a0 / 2 ^ min (ji15).toNat 64) = ji17 := hji17
          have hji17z : (ji15) ≤ 64 → (a0 / 2 ^ (ji15).toNat) = ji17 := shr_small hji17
          obtain ⟨ji18, hji18⟩ : ∃ j_ : Int, (wrap64 ((wrap64 (a1 - 1)) - x21_2)) = j_ := ⟨_, rfl⟩
          replace H : (if 0 ≤ (ji18) then (if (ji18) < (x6_2.length : Int) then (vbi_high.l0 k2 a0 a1 (x6_2.set ((ji18) : Int).toNat ((ji17) % 256)) (y102.length : Int) (wrap64 (x21_2 + 1))) else (none)) else (none)) = some (r1, r2) := by first | (rw [hji18] at H; exact H) | (simp only [hji18] at H ⊢; exact H)
          have hji18w : (IntKind.i64.wrap ((wrap64 (a1 - 1)) - x21_2)) = ji18 := (i64_w _).trans hji18
          by_cases c19 : 0 ≤ (ji18)
          ·rw [if_pos c19] at H
           have c19b0 : decide (0 ≤ (ji18)) = true := decide_eq_true c19
           clear c19
           by_cases c20 : (ji18) < (x6_2.length : Int)
           ·rw [if_pos c20] at H
            have c20b0 : decide ((ji18) < (x6_2.length : Int)) = true := decide_eq_true c20
            (try (have c20z0hl6_2 := c20b0; rw [hl6_2] at c20z0hl6_2))
            clear c20
            obtain ⟨y105, hy105⟩ : ∃ y_ : List Int, y_ = (x6_2.set ((ji18) : Int).toNat ((ji17) % 256)) := ⟨_, rfl⟩
            replace H : (vbi_high.l0 k2 a0 a1 y105 (y102.length : Int) (wrap64 (x21_2 + 1))) = some (r1, r2) := by first | (rw [hy105]; with_reducible exact H) | (have H2_ := (Option.bind_some _ _).symm.trans H; rw [hy105]; with_reducible exact H2_) | (have H2_ := (Option.bind_some _ _).symm.trans H; with_reducible exact H2_) | with_reducible exact H | (rw [hy105]; exact H) | exact H
            have Ny105 := Aside0.mk hy105
            clear hy105
            have H' := Aside0.mk H
            clear H
            have p21 : 0 ≤ ((ji18) : Int) := od
            have q21 : ((ji18) : Int) < ((x6_2.length : Int) : Int) := od
            obtain ⟨go21, co21, eo21, gb21, gl21, cl21, HG21⟩ := Kd.R_form HO_6.out (by omega)
            (first | cases eo21 | (injection eo21 with ea_ en_ ec_; (first | subst ea_ | (injection ea_ with ea_; subst ea_)); subst ec_; clear en_))
            have GB21 := Aside0.mk gb21
            have GG21 := Aside0.mk HG21
            clear gb21 gl21 HG21
            obtain ⟨hx21_0, hf21_0⟩ := Kd.R_celln 0 HO_6.out ((ji18) : Int) p21 q21
            replace p21 := eq_true p21
            replace q21 := eq_true q21
            have HP22 := Kd.R_putg HO_6.out ((ji18) : Int) ((ji17) % 256)
            go_wp2_with (first | ((with_reducible refine gate_store (t := 5) (p := 34) rfl ?_); refine store_event (t := 5) (p := 34) (v := ?vo_w23) (w1 := (wr.setCell ⟨go21, ((ji18) : Int).toNat, none⟩ (.int .u8 ((ji17) % 256)))) ?hg ?ho ?hn ?hr ?_; (case ho => rfl); (case hg => rfl); (case hn => rfl); (case hr => first | (go_simp; done) | (go_simp; rfl)); intro w23 hw; have hg : wr.grownBy w23 (some go21) := (by rw [hw]; exact HP22.2); have hp_ : Kd.R (Kd.int .u8) 5 w23 w.heap.size (fun _ => True) (.slice (some ⟨go21, 0, none⟩) x6_2.length co13) y105 := (by rw [hw, Ny105.out]; exact HP22.1); clear HP22; replace HO_6 := Aside0.mk (hp_); replace HB := Aside0.mk ((by rw [hw]; exact below_set (HB.out) GB21.out : Below w.heap.size w w23)); clear hg hw hp_))
            (try simp only [← hl6_2])
            go_roundg k2
            case measure => have := HJ2.out; have := HK2.out; omega
            case rel => exact ⟨(y105), (wrap64 (x21_2 + 1)), ap, H', ⟨by have := HJ2.out; have := HK2.out; omega⟩, ⟨by (try simp only [hl6_2]); (with_reducible repeat (first | apply Kd.R_alloc | apply Kd.R_drewN | apply Kd.R_drew)); exact HO_6.out⟩, ⟨bo⟩⟩
           ·rw [if_neg c20] at H
            exact absurd H (by simp)
          ·rw [if_neg c19] at H
           exact absurd H (by simp)
         ·rw [if_neg c16] at H
          exact absurd H (by simp)
        ·rw [if_neg c14] at H
         have c14b0 : decide (x21_2 < (y102.length : Int)) = false := decide_eq_false c14
         (try (have c14z0hl6_2 := c14b0; rw [hl6_2] at c14z0hl6_2))
         clear c14
         simp only [Option.some.injEq, Prod.mk.injEq] at H
         obtain ⟨rfl, rfl⟩ := H
         have hcv24 := own_string (P := Try.prog) Try.underlying23 Try.underlying5 Try.underlying9 (Kd.own_of_R HO_6.out)
         go_wp2
         go_ret2
         exact ⟨er, bo⟩
     ·rw [if_neg c10] at H
      exact absurd H (by simp)
    ·rw [if_neg c9] at H
     exact absurd H (by simp)

end Go.Proofs.Ytmabdfdmccbfnaa.P

-- written by a program of the proving session, out of the translation; Lean checks it
namespace Go.Proofs.Ytmabdfdmccbfnaa.P
open Go.RowKit Go.Proofs.Ytmabdfdmccbfnaa.Sq Go.Proofs.YtmabdfdmccbfnaaW.PrintWords Go.Proofs.YtmabdfdmccbfnaaW.PrintLast Go.Proofs.YtmabdfdmccbfnaaW.PrintMore
attribute [local go_sem] max2_int min2_int max_two min_two max_three min_three max_four min_four   -- for this text's walks alone
set_option linter.unusedVariables false
set_option linter.unusedSimpArgs false

/-! ### vbi_Two: function 60 -/
def vbi_Two.f (k : Nat) (a0 : Int) : Option (ByteArray × Int) := (vbi_high.f k a0 2).bind fun bt106 => (some (bt106.1, bt106.2))
theorem vbi_Two.mono : ∀ a0 k, LeO (vbi_Two.f k a0) (vbi_Two.f (k + 1) a0) := by
 intro a0 k
 unfold vbi_Two.f
 repeat' first
  | (with_reducible exact vbi_high.mono _ _ _)
  | (with_reducible exact LeO.refl _)
  | (with_reducible exact LeO.none _)
  | (with_reducible refine LeO.ite ?_ ?_)
  | (with_reducible refine LeO.bind ?_ (fun _ => ?_))
  | exact vbi_high.mono _ _ _
  | exact LeO.none _
  | refine LeO.ite ?_ ?_
  | refine LeO.bind ?_ (fun _ => ?_)
set_option maxHeartbeats 8000000 in
set_option maxRecDepth 100000 in
theorem vbi_Two.calls (k : Nat) (a0 : Int) (r1 : ByteArray) (r2 : Int) (w : World) (h : vbi_Two.f k a0 = some (r1, r2)) :
 Calls Try.prog 60 #[.int .i64 a0] w fun e w' => e = .returned (.tuple #[.string r1, .int .i64 r2]) ∧ Below w.heap.size w w' := by
 have HB := Aside0.mk (Below.refl w.heap.size w)
 have H : ((vbi_high.f k a0 2).bind fun bt106 => (some (bt106.1, bt106.2))) = some (r1, r2) := h
 clear h
 replace H := Option.bind_eq_some_iff.mp H
 obtain ⟨⟨t106, t107⟩, A20, H⟩ := H
 replace H : (some (t106, t107)) = some (r1, r2) := H
 have A2 := Aside0.mk A20
 clear A20
 simp only [Option.some.injEq, Prod.mk.injEq] at H
 obtain ⟨rfl, rfl⟩ := H
 go_enter Try.func60, Try.ntmps60
 go_wp2_with (first | ((with_reducible refine gate_callee (f := 81) rfl ?_); refine goesL_ (some 5) rfl rfl Try.func81 (by kernel_rfl) rfl #[.int .i64 a0, .int .i64 2] rfl aa ?_; (with_reducible refine (vbi_high.calls k a0 2 t106 t107 _ A2.out).mono ?_); rintro e w3 ⟨rfl, hb⟩; refine ⟨_, rfl, ?_⟩; replace HB := Aside0.mk (below_step bo hb); (try clear hb); (try clear hb2); (try clear hk); (try clear hi)))
 go_ret2
 exact ⟨er, bo⟩

end Go.Proofs.Ytmabdfdmccbfnaa.P

-- written by a program of the proving session, out of the translation; Lean checks it
namespace Go.Proofs.Ytmabdfdmccbfnaa.P
open Go.RowKit Go.Proofs.Ytmabdfdmccbfnaa.Sq Go.Proofs.YtmabdfdmccbfnaaW.PrintWords Go.Proofs.YtmabdfdmccbfnaaW.PrintLast Go.Proofs.YtmabdfdmccbfnaaW.PrintMore
attribute [local go_sem] max2_int min2_int max_two min_two max_three min_three max_four min_four   -- for this text's walks alone
set_option linter.unusedVariables false
set_option linter.unusedSimpArgs false

/-! ### vbi_Four: function 62 -/
def vbi_Four.f (k : Nat) (a0 : Int) : Option (ByteArray × Int) := (vbi_high.f k a0 4).bind fun bt108 => (some (bt108.1, bt108.2))
theorem vbi_Four.mono : ∀ a0 k, LeO (vbi_Four.f k a0) (vbi_Four.f (k + 1) a0) := by
 intro a0 k
 unfold vbi_Four.f
 repeat' first
  | (with_reducible exact vbi_high.mono _ _ _)
  | (with_reducible exact LeO.refl _)
  | (with_reducible exact LeO.none _)
  | (with_reducible refine LeO.ite ?_ ?_)
  | (with_reducible refine LeO.bind ?_ (fun _ => ?_))
  | exact vbi_high.mono _ _ _
  | exact LeO.none _
  | refine LeO.ite ?_ ?_
  | refine LeO.bind ?_ (fun _ => ?_)
set_option maxHeartbeats 8000000 in
set_option maxRecDepth 100000 in
theorem vbi_Four.calls (k : Nat) (a0 : Int) (r1 : ByteArray) (r2 : Int) (w : World) (h : vbi_Four.f k a0 = some (r1, r2)) :
 Calls Try.prog 62 #[.int .i64 a0] w fun e w' => e = .returned (.tuple #[.string r1, .int .i64 r2]) ∧ Below w.heap.size w w' := by
 have HB := Aside0.mk (Below.refl w.heap.size w)
 have H : ((vbi_high.f k a0 4).bind fun bt108 => (some (bt108.1, bt108.2))) = some (r1, r2) := h
 clear h
 replace H := Option.bind_eq_some_iff.mp H
 obtain ⟨⟨t108, t109⟩, A20, H⟩ := H
 replace H : (some (t108, t109)) = some (r1, r2) := H
 have A2 := Aside0.mk A20
 clear A20
 simp only [Option.some.injEq, Prod.mk.injEq] at H
 obtain ⟨rfl, rfl⟩ := H
 go_enter Try.func62, Try.ntmps62
 go_wp2_with (first | ((with_reducible refine gate_callee (f := 81) rfl ?_); refine goesL_ (some 5) rfl rfl Try.func81 (by kernel_rfl) rfl #[.int .i64 a0, .int .i64 4] rfl aa ?_; (with_reducible refine (vbi_high.calls k a0 4 t108 t109 _ A2.out).mono ?_); rintro e w3 ⟨rfl, hb⟩; refine ⟨_, rfl, ?_⟩; replace HB := Aside0.mk (below_step bo hb); (try clear hb); (try clear hb2); (try clear hk); (try clear hi)))
 go_ret2
 exact ⟨er, bo⟩

end Go.Proofs.Ytmabdfdmccbfnaa.P

-- written by a program of the proving session, out of the translation; Lean checks it
namespace Go.Proofs.Ytmabdfdmccbfnaa.P
open Go.RowKit Go.Proofs.Ytmabdfdmccbfnaa.Sq Go.Proofs.YtmabdfdmccbfnaaW.PrintWords Go.Proofs.YtmabdfdmccbfnaaW.PrintLast Go.Proofs.YtmabdfdmccbfnaaW.PrintMore
attribute [local go_sem] max2_int min2_int max_two min_two max_three min_three max_four min_four   -- for this text's walks alone
set_option linter.unusedVariables false
set_option linter.unusedSimpArgs false

/-! ### rec_eight: function 61 -/
def rec_eight.f (k : Nat) (a0 : Int) : Option (ByteArray) := (vbi_Four.f k (a0 / 4294967296)).bind fun bt110 => ((vbi_Four.f k (Go.bits .and .i64 a0 4294967295)).bind fun bt112 => (if bt110.1.size + bt112.1.size ≤ 9223372036854775807 then (some (bt110.1 ++ bt112.1)) else (none)))
theorem rec_eight.mono : ∀ a0 k, LeO (rec_eight.f k a0) (rec_eight.f (k + 1) a0) := by
 intro a0 k
 unfold rec_eight.f
 repeat' first
  | (with_reducible exact vbi_Four.mono _ _)
  | (with_reducible exact LeO.refl _)
  | (with_reducible exact LeO.none _)
  | (with_reducible refine LeO.ite ?_ ?_)
  | (with_reducible refine LeO.bind ?_ (fun _ => ?_))
  | exact vbi_Four.mono _ _
  | exact LeO.none _
  | refine LeO.ite ?_ ?_
  | refine LeO.bind ?_ (fun _ => ?_)
set_option maxHeartbeats 8000000 in
set_option maxRecDepth 100000 in
theorem rec_eight.calls (k : Nat) (a0 : Int) (r : ByteArray) (w : World) (h : rec_eight.f k a0 = some r) :
 Calls Try.prog 61 #[.int .i64 a0] w fun e w' => e = .returned (.string r) ∧ Below w.heap.size w w' := by
 have HB := Aside0.mk (Below.refl w.heap.size w)
 have H : ((vbi_Four.f k (a0 / 4294967296)).bind fun bt110 => ((vbi_Four.f k (Go.bits .and .i64 a0 4294967295)).bind fun bt112 => (if bt110.1.size + bt112.1.size ≤ 9223372036854775807 then (some (bt110.1 ++ bt112.1)) else (none)))) = some r := h
 clear h
 replace H := Option.bind_eq_some_iff.mp H
 obtain ⟨⟨t110, t111⟩, A20, H⟩ := H
 replace H : ((vbi_Four.f k (Go.bits .and .i64 a0 4294967295)).bind fun bt112 => (if t110.size + bt112.1.size ≤ 9223372036854775807 then (some (t110 ++ bt112.1)) else (none))) = some r := H
 have A2 := Aside0.mk A20
 clear A20
 replace H := Option.bind_eq_some_iff.mp H
 obtain ⟨⟨t112, t113⟩, A30, H⟩ := H
 replace H : (if t110.size + t112.size ≤ 9223372036854775807 then (some (t110 ++ t112)) else (none)) = some r := H
 have A3 := Aside0.mk A30
 clear A30
 by_cases c4 : t110.size + t112.size ≤ 9223372036854775807
 ·rw [if_pos c4] at H
  have c4b0 := eq_true c4
  have c4b1 : decide (t110.size + t112.size ≤ 9223372036854775807) = true := decide_eq_true c4
  try have c4b2 : (9223372036854775807 < t110.size + t112.size) = False := eq_false (Nat.not_lt.2 c4)
  obtain rfl := Option.some.inj H
  go_enter Try.func61, Try.ntmps61
  go_wp2_with (first | ((with_reducible refine gate_callee (f := 62) rfl ?_); refine goesL_ (some 10) rfl rfl Try.func62 (by kernel_rfl) rfl #[.int .i64 (a0 / 4294967296)] rfl aa ?_; (with_reducible refine (vbi_Four.calls k (a0 / 4294967296) t110 t111 _ A2.out).mono ?_); rintro e w5 ⟨rfl, hb⟩; refine ⟨_, rfl, ?_⟩; replace HB := Aside0.mk (below_step bo hb); (try clear hb); (try clear hb2); (try clear hk); (try clear hi)) | ((with_reducible refine gate_callee (f := 62) rfl ?_); refine goesL_ (some 16) rfl rfl Try.func62 (by kernel_rfl) rfl #[.int .i64 (Go.bits .and .i64 a0 4294967295)] rfl aa ?_; (with_reducible refine (vbi_Four.calls k (Go.bits .and .i64 a0 4294967295) t112 t113 _ A3.out).mono ?_); rintro e w6 ⟨rfl, hb⟩; refine ⟨_, rfl, ?_⟩; replace HB := Aside0.mk (below_step bo hb); (try clear hb); (try clear hb2); (try clear hk); (try clear hi)))
  go_ret
  exact ⟨er, bo⟩
 ·rw [if_neg c4] at H
  exact absurd H (by simp)

end Go.Proofs.Ytmabdfdmccbfnaa.P

-- written by a program of the proving session, out of the translation; Lean checks it
namespace Go.Proofs.Ytmabdfdmccbfnaa.P
open Go.RowKit Go.Proofs.Ytmabdfdmccbfnaa.Sq Go.Proofs.YtmabdfdmccbfnaaW.PrintWords Go.Proofs.YtmabdfdmccbfnaaW.PrintLast Go.Proofs.YtmabdfdmccbfnaaW.PrintMore
attribute [local go_sem] max2_int min2_int max_two min_two max_three min_three max_four min_four   -- for this text's walks alone
set_option linter.unusedVariables false
set_option linter.unusedSimpArgs false

/-! ### sum_Sum: function 63 -/
mutual
def sum_Sum.l0 : Nat → Int → ByteArray → Int → Int → Option (Int)
 | 0, _, _, _, _ => none
 | k + 1, x0, x1, x9, x10 => if x10 < x9 then (if 0 ≤ x10 then (if x10 < (x1.size : Int) then (sum_Sum.l1 k (Go.bits .xor .u32 x0 ((bt x1 x10) % 4294967296)) x1 x9 x10 0) else (none)) else (none)) else (some (Go.bits .xor .u32 4294967295 x0))
def sum_Sum.l1 : Nat → Int → ByteArray → Int → Int → Int → Option (Int)
 | 0, _, _, _, _, _ => none
 | k + 1, x0, x1, x9, x10, x19 => if x19 < 8 then (sum_Sum.l1 k (Go.bits .xor .u32 (x0 / 2) (Go.bits .and .u32 2197175160 ((-(Go.bits .and .u32 x0 1)) % 4294967296))) x1 x9 x10 (wrap64 (x19 + 1))) else (sum_Sum.l0 k x0 x1 x9 (wrap64 (x10 + 1)))
end
def sum_Sum.f (k : Nat) (a0 : Int) (a1 : ByteArray) : Option (Int) := sum_Sum.l0 k (Go.bits .xor .u32 4294967295 a0) a1 (a1.size : Int) 0
theorem sum_Sum.mono_l : ∀ k, (∀ y0 y1 y2 y3, LeO (sum_Sum.l0 k y0 y1 y2 y3) (sum_Sum.l0 (k + 1) y0 y1 y2 y3)) ∧ (∀ y0 y1 y2 y3 y4, LeO (sum_Sum.l1 k y0 y1 y2 y3 y4) (sum_Sum.l1 (k + 1) y0 y1 y2 y3 y4))
 | 0 => ⟨fun _ _ _ _ r h => by simp [sum_Sum.l0] at h, fun _ _ _ _ _ r h => by simp [sum_Sum.l1] at h⟩
 | k + 1 => by
  obtain ⟨ih0, ih1⟩ := sum_Sum.mono_l k
  refine ⟨?_, ?_⟩
  ·intro y0 y1 y2 y3
   unfold sum_Sum.l0
   repeat' first
   | (with_reducible exact ih0 _ _ _ _)
   | (with_reducible exact ih1 _ _ _ _ _)
   | (with_reducible exact LeO.refl _)
   | (with_reducible exact LeO.none _)
   | (with_reducible refine LeO.ite ?_ ?_)
   | (with_reducible refine LeO.bind ?_ (fun _ => ?_))
   | exact ih0 _ _ _ _
   | exact ih1 _ _ _ _ _
   | exact LeO.none _
   | refine LeO.ite ?_ ?_
   | refine LeO.bind ?_ (fun _ => ?_)
  ·intro y0 y1 y2 y3 y4
   unfold sum_Sum.l1
   repeat' first
   | (with_reducible exact ih0 _ _ _ _)
   | (with_reducible exact ih1 _ _ _ _ _)
   | (with_reducible exact LeO.refl _)
   | (with_reducible exact LeO.none _)
   | (with_reducible refine LeO.ite ?_ ?_)
   | (with_reducible refine LeO.bind ?_ (fun _ => ?_))
   | exact ih0 _ _ _ _
   | exact ih1 _ _ _ _ _
   | exact LeO.none _
   | refine LeO.ite ?_ ?_
   | refine LeO.bind ?_ (fun _ => ?_)
theorem sum_Sum.mono : ∀ a0 a1 k, LeO (sum_Sum.f k a0 a1) (sum_Sum.f (k + 1) a0 a1) := by
 intro a0 a1 k
 obtain ⟨ih0, ih1⟩ := sum_Sum.mono_l k
 unfold sum_Sum.f
 repeat' first
  | (with_reducible exact ih0 _ _ _ _)
  | (with_reducible exact ih1 _ _ _ _ _)
  | (with_reducible exact LeO.refl _)
  | (with_reducible exact LeO.none _)
  | (with_reducible refine LeO.ite ?_ ?_)
  | (with_reducible refine LeO.bind ?_ (fun _ => ?_))
  | exact ih0 _ _ _ _
  | exact ih1 _ _ _ _ _
  | exact LeO.none _
  | refine LeO.ite ?_ ?_
  | refine LeO.bind ?_ (fun _ => ?_)
set_option maxHeartbeats 8000000 in
set_option maxRecDepth 100000 in
theorem sum_Sum.calls (k : Nat) (a0 : Int) (a1 : ByteArray) (r : Int) (w : World) (h : sum_Sum.f k a0 a1 = some r) :
 Calls Try.prog 63 #[.int .u32 a0, .string a1] w fun e w' => e = .returned (.int .u32 r) ∧ Drawn0 w w' := by
 have H : (sum_Sum.l0 k (Go.bits .xor .u32 4294967295 a0) a1 (a1.size : Int) 0) = some r := h
 clear h
 have H' := Aside0.mk H
 clear H
 go_enter Try.func63, Try.ntmps63
 go_wp2
 go_loopg [0, 10] k (fun kq v0 v10 w' => ∃ (x0_1 : Int) (x10_1 : Int), v0 = .int .u32 x0_1 ∧ v10 = .int .i64 x10_1 ∧ Aside0 (sum_Sum.l0 kq x0_1 a1 (a1.size : Int) x10_1 = some r) ∧ Aside0 (kq ≤ k) ∧ Drawn0 w w')
 case atStart => exact ⟨(Go.bits .xor .u32 4294967295 a0), (0), ap, ap, H', ⟨Nat.le_refl _⟩, dr⟩
 case round =>
  clear H'
  try clear p2
  obtain ⟨x0_1, x10_1, rfl, rfl, HA, HK1, ⟨m1, rfl⟩⟩ := hrel
  cases gk with
  | zero => exact absurd HA.out (by simp [sum_Sum.l0])
  | succ k1 =>
   have H := HA.out
   clear HA
   simp only [sum_Sum.l0] at H
   by_cases c3 : x10_1 < (a1.size : Int)
   ·rw [if_pos c3] at H
    have c3b0 : decide (x10_1 < (a1.size : Int)) = true := decide_eq_true c3
    clear c3
    by_cases c4 : 0 ≤ x10_1
    ·rw [if_pos c4] at H
     have c4b0 : decide (0 ≤ x10_1) = true := decide_eq_true c4
     clear c4
     by_cases c5 : x10_1 < (a1.size : Int)
     ·rw [if_pos c5] at H
      have c5b0 : decide (x10_1 < (a1.size : Int)) = true := decide_eq_true c5
      clear c5
      have H' := Aside0.mk H
      clear H
      have p6 : 0 ≤ (x10_1 : Int) := od
      have q6 : x10_1 < (a1.size : Int) := od
      have hx6 := bt_at a1 x10_1
      replace p6 := eq_true p6
      replace q6 := eq_true q6
      go_wp2
      go_loopg [0, 19] k1 (fun kq v0 v19 w' => ∃ (x0_2 : Int) (x19_2 : Int), v0 = .int .u32 x0_2 ∧ v19 = .int .i64 x19_2 ∧ Aside0 (sum_Sum.l1 kq x0_2 a1 (a1.size : Int) x10_1 x19_2 = some r) ∧ Aside0 (kq ≤ k1) ∧ Drawn0 w w')
      case atStart => exact ⟨(Go.bits .xor .u32 x0_1 ((bt a1 x10_1) % 4294967296)), (0), ap, ap, H', ⟨Nat.le_refl _⟩, dr⟩
      case round =>
       clear H'
       try clear p2
       try clear c3
       try clear c3b0
       try clear c4
       try clear c4b0
       try clear c5
       try clear c5b0
       try clear c6
       try clear p6
       try clear q6
       try clear hx6
       try clear p2
       try clear p6
       try clear q6
       obtain ⟨x0_2, x19_2, rfl, rfl, HA, HK2, ⟨m2, rfl⟩⟩ := hrel
       cases gk with
       | zero => exact absurd HA.out (by simp [sum_Sum.l1])
       | succ k2 =>
        have H := HA.out
        clear HA
        simp only [sum_Sum.l1] at H
        by_cases c7 : x19_2 < 8
        ·rw [if_pos c7] at H
         have c7b0 : decide (x19_2 < 8) = true := decide_eq_true c7
         clear c7
         have H' := Aside0.mk H
         clear H
         go_wp2
         go_roundg k2
         case measure => have := HK1.out; have := HK2.out; omega
         case rel => exact ⟨(Go.bits .xor .u32 (x0_2 / 2) (Go.bits .and .u32 2197175160 ((-(Go.bits .and .u32 x0_2 1)) % 4294967296))), (wrap64 (x19_2 + 1)), ap, ap, H', ⟨by have := HK1.out; have := HK2.out; omega⟩, dr⟩
        ·rw [if_neg c7] at H
         have c7b0 : decide (x19_2 < 8) = false := decide_eq_false c7
         clear c7
         have H' := Aside0.mk H
         clear H
         go_wp2
         go_roundg k2
         case measure => have := HK1.out; have := HK2.out; omega
         case rel => exact ⟨(x0_2), (wrap64 (x10_1 + 1)), ap, ap, H', ⟨by have := HK1.out; have := HK2.out; omega⟩, dr⟩
     ·rw [if_neg c5] at H
      exact absurd H (by simp)
    ·rw [if_neg c4] at H
     exact absurd H (by simp)
   ·rw [if_neg c3] at H
    have c3b0 : decide (x10_1 < (a1.size : Int)) = false := decide_eq_false c3
    clear c3
    obtain rfl := Option.some.inj H
    go_wp2
    go_ret
    exact ⟨ap, dr⟩

end Go.Proofs.Ytmabdfdmccbfnaa.P

