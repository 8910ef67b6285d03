/- RecBytes: for every input of the row the law returns true, and the input reads afterwards as before. Conditions: none beside the row's own. -/
import Derived.Test.YtmabdfdmccbfnaaKRecBytes0
import Derived.Test.YtmabdfdmccbfnaaKRecBytes1
import Derived.Test.YtmabdfdmccbfnaaRows
import Derived.WalkKit
import Derived.ProofKit
import Derived.OpenShut
import Derived.ShutString
import Derived.ChangeOld
import Derived.Below
import Derived.SizedLaws
-- written by a program of the proving session, out of the translation; Lean checks it
namespace Go.Proofs.Ytmabdfdmccbfnaa.P
open Go.RowKit Go.Proofs.Ytmabdfdmccbfnaa.Sq Go.Proofs.YtmabdfdmccbfnaaW.PrintWords Go.Proofs.YtmabdfdmccbfnaaW.PrintLast Go.Proofs.YtmabdfdmccbfnaaW.PrintMore
attribute [local go_sem] max2_int min2_int max_two min_two max_three min_three max_four min_four   -- for this text's walks alone
set_option linter.unusedVariables false
set_option linter.unusedSimpArgs false

/-! ### fairwaylaw11_Heavy: function 30 -/
def fairwaylaw11_Heavy.f (k : Nat) (a0_0 : Int) (l0_1 : List (S25)) (l0_2 : List (S25)) (l0_3 : List Int) (a0_4 : ByteArray) : Option (Bool) := (fairwaylaw0_RecsWeight.f k l0_1).bind fun t348 => ((fairwaylaw0_RecsWeight.f k l0_2).bind fun t349 => (if (wrap64 (t348 + t349)) > 8000 then (some true) else (if (a0_4.size : Int) > 8000 then (some true) else (some (decide ((l0_3.length : Int) > 500))))))
theorem fairwaylaw11_Heavy.mono : ∀ a0 a1 a2 a3 a4 k, LeO (fairwaylaw11_Heavy.f k a0 a1 a2 a3 a4) (fairwaylaw11_Heavy.f (k + 1) a0 a1 a2 a3 a4) := by
 intro a0 a1 a2 a3 a4 k
 unfold fairwaylaw11_Heavy.f
 repeat' first
  | (with_reducible exact fairwaylaw0_RecsWeight.mono _ _)
  | (with_reducible exact LeO.refl _)
  | (with_reducible exact LeO.none _)
  | (with_reducible refine LeO.ite ?_ ?_)
  | (with_reducible refine LeO.bind ?_ (fun _ => ?_))
  | exact fairwaylaw0_RecsWeight.mono _ _
  | exact LeO.none _
  | refine LeO.ite ?_ ?_
  | refine LeO.bind ?_ (fun _ => ?_)
set_option maxHeartbeats 8000000 in
set_option maxRecDepth 100000 in
theorem fairwaylaw11_Heavy.calls (k : Nat) (a0_0 : Int) (A0_1 : Option Addr) (c0_1 : Nat) (l0_1 : List (S25)) (A0_2 : Option Addr) (c0_2 : Nat) (l0_2 : List (S25)) (A0_3 : Option Addr) (c0_3 : Nat) (l0_3 : List Int) (a0_4 : ByteArray) (r : Bool) (w : World) (hr0_1 : Kd.C k25 w A0_1 l0_1.length l0_1) (hc0_1 : l0_1.length ≤ c0_1) (hr0_2 : Kd.C k25 w A0_2 l0_2.length l0_2) (hc0_2 : l0_2.length ≤ c0_2) (hr0_3 : Kd.C (Kd.int .i64) w A0_3 l0_3.length l0_3) (hc0_3 : l0_3.length ≤ c0_3) (h : fairwaylaw11_Heavy.f k a0_0 l0_1 l0_2 l0_3 a0_4 = some r) :
 Calls Try.prog 30 #[.agg #[.int .i64 a0_0, .slice A0_1 l0_1.length c0_1, .slice A0_2 l0_2.length c0_2, .slice A0_3 l0_3.length c0_3, .string a0_4]] w fun e w' => e = .returned (.bool r) ∧ Below w.heap.size w w' := by
 have hu55 := Try.underlying55
 have HR0_1 := Aside0.mk hr0_1
 have HC0_1 := Aside0.mk hc0_1
 clear hr0_1 hc0_1
 have HR0_2 := Aside0.mk hr0_2
 have HC0_2 := Aside0.mk hc0_2
 clear hr0_2 hc0_2
 have HR0_3 := Aside0.mk hr0_3
 have HC0_3 := Aside0.mk hc0_3
 clear hr0_3 hc0_3
 have HB := Aside0.mk (Below.refl w.heap.size w)
 have H : ((fairwaylaw0_RecsWeight.f k l0_1).bind fun t348 => ((fairwaylaw0_RecsWeight.f k l0_2).bind fun t349 => (if (wrap64 (t348 + t349)) > 8000 then (some true) else (if (a0_4.size : Int) > 8000 then (some true) else (some (decide ((l0_3.length : Int) > 500))))))) = some r := h
 clear h
 replace H := Option.bind_eq_some_iff.mp H
 obtain ⟨t348, A20, H⟩ := H
 replace H : ((fairwaylaw0_RecsWeight.f k l0_2).bind fun t349 => (if (wrap64 (t348 + t349)) > 8000 then (some true) else (if (a0_4.size : Int) > 8000 then (some true) else (some (decide ((l0_3.length : Int) > 500)))))) = some r := H
 have A2 := Aside0.mk A20
 clear A20
 replace H := Option.bind_eq_some_iff.mp H
 obtain ⟨t349, A30, H⟩ := H
 replace H : (if (wrap64 (t348 + t349)) > 8000 then (some true) else (if (a0_4.size : Int) > 8000 then (some true) else (some (decide ((l0_3.length : Int) > 500))))) = some r := H
 have A3 := Aside0.mk A30
 clear A30
 by_cases c4 : (wrap64 (t348 + t349)) > 8000
 ·rw [if_pos c4] at H
  have c4b0 : decide (8000 < (wrap64 (t348 + t349))) = true := decide_eq_true c4
  clear c4
  obtain rfl := Option.some.inj H
  go_enter Try.func30, Try.ntmps30
  go_wp2_with (first | ((with_reducible refine gate_dst (N := 1) rfl ?_); (try (refine gate_guard (by rfl) ?_; dsimp only)); refine box_event ?hg (N := 1) ?hd (cs := #[.int .i64 a0_0, .slice A0_1 l0_1.length c0_1, .slice A0_2 l0_2.length c0_2, .slice A0_3 l0_3.length c0_3, .string a0_4]) (t := 55) ?hr ?_; (case hd => rfl); (case hg => rfl); (case hr => first | (go_simp; done) | (go_simp; rfl)); intro gb347 hg w5 hbox hb; have n0_ := Aside0.mk (below_step bo hb); have n1_ := Aside0.mk (hbox); have n2_ := Aside0.mk ((by rw [hg]; exact (below_size bo) : w.heap.size ≤ gb347)); have n3_ := Aside0.mk ((by rw [hg]; exact (below_size bo) : w.heap.size ≤ gb347)); clear HB; have HB := n0_; have BK347 := n1_; have GW347 := n2_; have GE347 := n3_; clear n0_ n1_ n2_ n3_; clear hb hbox hg; obtain ⟨hcz6_0, hcz6_1, hcz6_2, hcz6_3, hcz6_4⟩ := cl5 BK347.out; obtain ⟨hfz6_0, hfz6_1, hfz6_2, hfz6_3, hfz6_4⟩ := fz5 BK347.out) | (go_at_call 68; (with_reducible refine (fairwaylaw0_RecsWeight.calls k _ _ l0_1 t348 _ ?side1 ?side2 A2.out).mono ?_); (case side1 => repeat (first | exact (Kd.C_below HR0_1.out HB.out) | (with_reducible refine Kd.C_alloc ?_ _) | (with_reducible refine Kd.C_drewN ?_ _) | (with_reducible refine Kd.C_drew ?_))); (case side2 => exact HC0_1.out); rintro e w' ⟨rfl, ⟨nd, rfl⟩⟩; (try first | exact ⟨rfl, _, World.drewN_drewN _ _ _⟩ | exact ⟨rfl, _, Eq.trans (World.drewN_drewN _ _ _) (congrArg (World.drewN _) (Nat.add_assoc _ _ _))⟩)) | (go_at_call 68; (with_reducible refine (fairwaylaw0_RecsWeight.calls k _ _ l0_2 t349 _ ?side1 ?side2 A3.out).mono ?_); (case side1 => repeat (first | exact (Kd.C_below HR0_2.out bo) | (with_reducible refine Kd.C_alloc ?_ _) | (with_reducible refine Kd.C_drewN ?_ _) | (with_reducible refine Kd.C_drew ?_))); (case side2 => exact HC0_2.out); rintro e w' ⟨rfl, ⟨nd, rfl⟩⟩; (try first | exact ⟨rfl, _, World.drewN_drewN _ _ _⟩ | exact ⟨rfl, _, Eq.trans (World.drewN_drewN _ _ _) (congrArg (World.drewN _) (Nat.add_assoc _ _ _))⟩)))
  repeat (go_quiet (first | ((with_reducible refine gate_dst (N := 1) rfl ?_); (try (refine gate_guard (by rfl) ?_; dsimp only)); refine box_event ?hg (N := 1) ?hd (cs := #[.int .i64 a0_0, .slice A0_1 l0_1.length c0_1, .slice A0_2 l0_2.length c0_2, .slice A0_3 l0_3.length c0_3, .string a0_4]) (t := 55) ?hr ?_; (case hd => rfl); (case hg => rfl); (case hr => first | (go_simp; done) | (go_simp; rfl)); intro gb347 hg w5 hbox hb; have n0_ := Aside0.mk (below_step bo hb); have n1_ := Aside0.mk (hbox); have n2_ := Aside0.mk ((by rw [hg]; exact (below_size bo) : w.heap.size ≤ gb347)); have n3_ := Aside0.mk ((by rw [hg]; exact (below_size bo) : w.heap.size ≤ gb347)); clear HB; have HB := n0_; have BK347 := n1_; have GW347 := n2_; have GE347 := n3_; clear n0_ n1_ n2_ n3_; clear hb hbox hg; obtain ⟨hcz6_0, hcz6_1, hcz6_2, hcz6_3, hcz6_4⟩ := cl5 BK347.out; obtain ⟨hfz6_0, hfz6_1, hfz6_2, hfz6_3, hfz6_4⟩ := fz5 BK347.out) | (go_at_call 68; (with_reducible refine (fairwaylaw0_RecsWeight.calls k _ _ l0_1 t348 _ ?side1 ?side2 A2.out).mono ?_); (case side1 => repeat (first | exact (Kd.C_below HR0_1.out HB.out) | (with_reducible refine Kd.C_alloc ?_ _) | (with_reducible refine Kd.C_drewN ?_ _) | (with_reducible refine Kd.C_drew ?_))); (case side2 => exact HC0_1.out); rintro e w' ⟨rfl, ⟨nd, rfl⟩⟩; (try first | exact ⟨rfl, _, World.drewN_drewN _ _ _⟩ | exact ⟨rfl, _, Eq.trans (World.drewN_drewN _ _ _) (congrArg (World.drewN _) (Nat.add_assoc _ _ _))⟩)) | (go_at_call 68; (with_reducible refine (fairwaylaw0_RecsWeight.calls k _ _ l0_2 t349 _ ?side1 ?side2 A3.out).mono ?_); (case side1 => repeat (first | exact (Kd.C_below HR0_2.out bo) | (with_reducible refine Kd.C_alloc ?_ _) | (with_reducible refine Kd.C_drewN ?_ _) | (with_reducible refine Kd.C_drew ?_))); (case side2 => exact HC0_2.out); rintro e w' ⟨rfl, ⟨nd, rfl⟩⟩; (try first | exact ⟨rfl, _, World.drewN_drewN _ _ _⟩ | exact ⟨rfl, _, Eq.trans (World.drewN_drewN _ _ _) (congrArg (World.drewN _) (Nat.add_assoc _ _ _))⟩))); try go_wp2_with (first | ((with_reducible refine gate_dst (N := 1) rfl ?_); (try (refine gate_guard (by rfl) ?_; dsimp only)); refine box_event ?hg (N := 1) ?hd (cs := #[.int .i64 a0_0, .slice A0_1 l0_1.length c0_1, .slice A0_2 l0_2.length c0_2, .slice A0_3 l0_3.length c0_3, .string a0_4]) (t := 55) ?hr ?_; (case hd => rfl); (case hg => rfl); (case hr => first | (go_simp; done) | (go_simp; rfl)); intro gb347 hg w5 hbox hb; have n0_ := Aside0.mk (below_step bo hb); have n1_ := Aside0.mk (hbox); have n2_ := Aside0.mk ((by rw [hg]; exact (below_size bo) : w.heap.size ≤ gb347)); have n3_ := Aside0.mk ((by rw [hg]; exact (below_size bo) : w.heap.size ≤ gb347)); clear HB; have HB := n0_; have BK347 := n1_; have GW347 := n2_; have GE347 := n3_; clear n0_ n1_ n2_ n3_; clear hb hbox hg; obtain ⟨hcz6_0, hcz6_1, hcz6_2, hcz6_3, hcz6_4⟩ := cl5 BK347.out; obtain ⟨hfz6_0, hfz6_1, hfz6_2, hfz6_3, hfz6_4⟩ := fz5 BK347.out) | (go_at_call 68; (with_reducible refine (fairwaylaw0_RecsWeight.calls k _ _ l0_1 t348 _ ?side1 ?side2 A2.out).mono ?_); (case side1 => repeat (first | exact (Kd.C_below HR0_1.out HB.out) | (with_reducible refine Kd.C_alloc ?_ _) | (with_reducible refine Kd.C_drewN ?_ _) | (with_reducible refine Kd.C_drew ?_))); (case side2 => exact HC0_1.out); rintro e w' ⟨rfl, ⟨nd, rfl⟩⟩; (try first | exact ⟨rfl, _, World.drewN_drewN _ _ _⟩ | exact ⟨rfl, _, Eq.trans (World.drewN_drewN _ _ _) (congrArg (World.drewN _) (Nat.add_assoc _ _ _))⟩)) | (go_at_call 68; (with_reducible refine (fairwaylaw0_RecsWeight.calls k _ _ l0_2 t349 _ ?side1 ?side2 A3.out).mono ?_); (case side1 => repeat (first | exact (Kd.C_below HR0_2.out bo) | (with_reducible refine Kd.C_alloc ?_ _) | (with_reducible refine Kd.C_drewN ?_ _) | (with_reducible refine Kd.C_drew ?_))); (case side2 => exact HC0_2.out); rintro e w' ⟨rfl, ⟨nd, rfl⟩⟩; (try first | exact ⟨rfl, _, World.drewN_drewN _ _ _⟩ | exact ⟨rfl, _, Eq.trans (World.drewN_drewN _ _ _) (congrArg (World.drewN _) (Nat.add_assoc _ _ _))⟩))))
  go_ret
  exact ⟨er, bo⟩
 ·rw [if_neg c4] at H
  have c4b0 : decide (8000 < (wrap64 (t348 + t349))) = false := decide_eq_false c4
  clear c4
  by_cases c7 : (a0_4.size : Int) > 8000
  ·rw [if_pos c7] at H
   have c7b0 : decide (8000 < (a0_4.size : Int)) = true := decide_eq_true c7
   have c7b1 : decide (8000 < a0_4.size) = true := decide_eq_true (by omega)
   clear c7
   obtain rfl := Option.some.inj H
   go_enter Try.func30, Try.ntmps30
   go_wp2_with (first | ((with_reducible refine gate_dst (N := 1) rfl ?_); (try (refine gate_guard (by rfl) ?_; dsimp only)); refine box_event ?hg (N := 1) ?hd (cs := #[.int .i64 a0_0, .slice A0_1 l0_1.length c0_1, .slice A0_2 l0_2.length c0_2, .slice A0_3 l0_3.length c0_3, .string a0_4]) (t := 55) ?hr ?_; (case hd => rfl); (case hg => rfl); (case hr => first | (go_simp; done) | (go_simp; rfl)); intro gb347 hg w8 hbox hb; have n0_ := Aside0.mk (below_step bo hb); have n1_ := Aside0.mk (hbox); have n2_ := Aside0.mk ((by rw [hg]; exact (below_size bo) : w.heap.size ≤ gb347)); have n3_ := Aside0.mk ((by rw [hg]; exact (below_size bo) : w.heap.size ≤ gb347)); clear HB; have HB := n0_; have BK347 := n1_; have GW347 := n2_; have GE347 := n3_; clear n0_ n1_ n2_ n3_; clear hb hbox hg; obtain ⟨hcz9_0, hcz9_1, hcz9_2, hcz9_3, hcz9_4⟩ := cl5 BK347.out; obtain ⟨hfz9_0, hfz9_1, hfz9_2, hfz9_3, hfz9_4⟩ := fz5 BK347.out) | (go_at_call 68; (with_reducible refine (fairwaylaw0_RecsWeight.calls k _ _ l0_1 t348 _ ?side1 ?side2 A2.out).mono ?_); (case side1 => repeat (first | exact (Kd.C_below HR0_1.out HB.out) | (with_reducible refine Kd.C_alloc ?_ _) | (with_reducible refine Kd.C_drewN ?_ _) | (with_reducible refine Kd.C_drew ?_))); (case side2 => exact HC0_1.out); rintro e w' ⟨rfl, ⟨nd, rfl⟩⟩; (try first | exact ⟨rfl, _, World.drewN_drewN _ _ _⟩ | exact ⟨rfl, _, Eq.trans (World.drewN_drewN _ _ _) (congrArg (World.drewN _) (Nat.add_assoc _ _ _))⟩)) | (go_at_call 68; (with_reducible refine (fairwaylaw0_RecsWeight.calls k _ _ l0_2 t349 _ ?side1 ?side2 A3.out).mono ?_); (case side1 => repeat (first | exact (Kd.C_below HR0_2.out bo) | (with_reducible refine Kd.C_alloc ?_ _) | (with_reducible refine Kd.C_drewN ?_ _) | (with_reducible refine Kd.C_drew ?_))); (case side2 => exact HC0_2.out); rintro e w' ⟨rfl, ⟨nd, rfl⟩⟩; (try first | exact ⟨rfl, _, World.drewN_drewN _ _ _⟩ | exact ⟨rfl, _, Eq.trans (World.drewN_drewN _ _ _) (congrArg (World.drewN _) (Nat.add_assoc _ _ _))⟩)))
   repeat (go_quiet (first | ((with_reducible refine gate_dst (N := 1) rfl ?_); (try (refine gate_guard (by rfl) ?_; dsimp only)); refine box_event ?hg (N := 1) ?hd (cs := #[.int .i64 a0_0, .slice A0_1 l0_1.length c0_1, .slice A0_2 l0_2.length c0_2, .slice A0_3 l0_3.length c0_3, .string a0_4]) (t := 55) ?hr ?_; (case hd => rfl); (case hg => rfl); (case hr => first | (go_simp; done) | (go_simp; rfl)); intro gb347 hg w8 hbox hb; have n0_ := Aside0.mk (below_step bo hb); have n1_ := Aside0.mk (hbox); have n2_ := Aside0.mk ((by rw [hg]; exact (below_size bo) : w.heap.size ≤ gb347)); have n3_ := Aside0.mk ((by rw [hg]; exact (below_size bo) : w.heap.size ≤ gb347)); clear HB; have HB := n0_; have BK347 := n1_; have GW347 := n2_; have GE347 := n3_; clear n0_ n1_ n2_ n3_; clear hb hbox hg; obtain ⟨hcz9_0, hcz9_1, hcz9_2, hcz9_3, hcz9_4⟩ := cl5 BK347.out; obtain ⟨hfz9_0, hfz9_1, hfz9_2, hfz9_3, hfz9_4⟩ := fz5 BK347.out) | (go_at_call 68; (with_reducible refine (fairwaylaw0_RecsWeight.calls k _ _ l0_1 t348 _ ?side1 ?side2 A2.out).mono ?_); (case side1 => repeat (first | exact (Kd.C_below HR0_1.out HB.out) | (with_reducible refine Kd.C_alloc ?_ _) | (with_reducible refine Kd.C_drewN ?_ _) | (with_reducible refine Kd.C_drew ?_))); (case side2 => exact HC0_1.out); rintro e w' ⟨rfl, ⟨nd, rfl⟩⟩; (try first | exact ⟨rfl, _, World.drewN_drewN _ _ _⟩ | exact ⟨rfl, _, Eq.trans (World.drewN_drewN _ _ _) (congrArg (World.drewN _) (Nat.add_assoc _ _ _))⟩)) | (go_at_call 68; (with_reducible refine (fairwaylaw0_RecsWeight.calls k _ _ l0_2 t349 _ ?side1 ?side2 A3.out).mono ?_); (case side1 => repeat (first | exact (Kd.C_below HR0_2.out bo) | (with_reducible refine Kd.C_alloc ?_ _) | (with_reducible refine Kd.C_drewN ?_ _) | (with_reducible refine Kd.C_drew ?_))); (case side2 => exact HC0_2.out); rintro e w' ⟨rfl, ⟨nd, rfl⟩⟩; (try first | exact ⟨rfl, _, World.drewN_drewN _ _ _⟩ | exact ⟨rfl, _, Eq.trans (World.drewN_drewN _ _ _) (congrArg (World.drewN _) (Nat.add_assoc _ _ _))⟩))); try go_wp2_with (first | ((with_reducible refine gate_dst (N := 1) rfl ?_); (try (refine gate_guard (by rfl) ?_; dsimp only)); refine box_event ?hg (N := 1) ?hd (cs := #[.int .i64 a0_0, .slice A0_1 l0_1.length c0_1, .slice A0_2 l0_2.length c0_2, .slice A0_3 l0_3.length c0_3, .string a0_4]) (t := 55) ?hr ?_; (case hd => rfl); (case hg => rfl); (case hr => first | (go_simp; done) | (go_simp; rfl)); intro gb347 hg w8 hbox hb; have n0_ := Aside0.mk (below_step bo hb); have n1_ := Aside0.mk (hbox); have n2_ := Aside0.mk ((by rw [hg]; exact (below_size bo) : w.heap.size ≤ gb347)); have n3_ := Aside0.mk ((by rw [hg]; exact (below_size bo) : w.heap.size ≤ gb347)); clear HB; have HB := n0_; have BK347 := n1_; have GW347 := n2_; have GE347 := n3_; clear n0_ n1_ n2_ n3_; clear hb hbox hg; obtain ⟨hcz9_0, hcz9_1, hcz9_2, hcz9_3, hcz9_4⟩ := cl5 BK347.out; obtain ⟨hfz9_0, hfz9_1, hfz9_2, hfz9_3, hfz9_4⟩ := fz5 BK347.out) | (go_at_call 68; (with_reducible refine (fairwaylaw0_RecsWeight.calls k _ _ l0_1 t348 _ ?side1 ?side2 A2.out).mono ?_); (case side1 => repeat (first | exact (Kd.C_below HR0_1.out HB.out) | (with_reducible refine Kd.C_alloc ?_ _) | (with_reducible refine Kd.C_drewN ?_ _) | (with_reducible refine Kd.C_drew ?_))); (case side2 => exact HC0_1.out); rintro e w' ⟨rfl, ⟨nd, rfl⟩⟩; (try first | exact ⟨rfl, _, World.drewN_drewN _ _ _⟩ | exact ⟨rfl, _, Eq.trans (World.drewN_drewN _ _ _) (congrArg (World.drewN _) (Nat.add_assoc _ _ _))⟩)) | (go_at_call 68; (with_reducible refine (fairwaylaw0_RecsWeight.calls k _ _ l0_2 t349 _ ?side1 ?side2 A3.out).mono ?_); (case side1 => repeat (first | exact (Kd.C_below HR0_2.out bo) | (with_reducible refine Kd.C_alloc ?_ _) | (with_reducible refine Kd.C_drewN ?_ _) | (with_reducible refine Kd.C_drew ?_))); (case side2 => exact HC0_2.out); rintro e w' ⟨rfl, ⟨nd, rfl⟩⟩; (try first | exact ⟨rfl, _, World.drewN_drewN _ _ _⟩ | exact ⟨rfl, _, Eq.trans (World.drewN_drewN _ _ _) (congrArg (World.drewN _) (Nat.add_assoc _ _ _))⟩))))
   go_ret
   exact ⟨er, bo⟩
  ·rw [if_neg c7] at H
   have c7b0 : decide (8000 < (a0_4.size : Int)) = false := decide_eq_false c7
   have c7b1 : decide (8000 < a0_4.size) = false := decide_eq_false (by omega)
   clear c7
   obtain rfl := Option.some.inj H
   go_enter Try.func30, Try.ntmps30
   go_wp2_with (first | ((with_reducible refine gate_dst (N := 1) rfl ?_); (try (refine gate_guard (by rfl) ?_; dsimp only)); refine box_event ?hg (N := 1) ?hd (cs := #[.int .i64 a0_0, .slice A0_1 l0_1.length c0_1, .slice A0_2 l0_2.length c0_2, .slice A0_3 l0_3.length c0_3, .string a0_4]) (t := 55) ?hr ?_; (case hd => rfl); (case hg => rfl); (case hr => first | (go_simp; done) | (go_simp; rfl)); intro gb347 hg w10 hbox hb; have n0_ := Aside0.mk (below_step bo hb); have n1_ := Aside0.mk (hbox); have n2_ := Aside0.mk ((by rw [hg]; exact (below_size bo) : w.heap.size ≤ gb347)); have n3_ := Aside0.mk ((by rw [hg]; exact (below_size bo) : w.heap.size ≤ gb347)); clear HB; have HB := n0_; have BK347 := n1_; have GW347 := n2_; have GE347 := n3_; clear n0_ n1_ n2_ n3_; clear hb hbox hg; obtain ⟨hcz11_0, hcz11_1, hcz11_2, hcz11_3, hcz11_4⟩ := cl5 BK347.out; obtain ⟨hfz11_0, hfz11_1, hfz11_2, hfz11_3, hfz11_4⟩ := fz5 BK347.out) | (go_at_call 68; (with_reducible refine (fairwaylaw0_RecsWeight.calls k _ _ l0_1 t348 _ ?side1 ?side2 A2.out).mono ?_); (case side1 => repeat (first | exact (Kd.C_below HR0_1.out HB.out) | (with_reducible refine Kd.C_alloc ?_ _) | (with_reducible refine Kd.C_drewN ?_ _) | (with_reducible refine Kd.C_drew ?_))); (case side2 => exact HC0_1.out); rintro e w' ⟨rfl, ⟨nd, rfl⟩⟩; (try first | exact ⟨rfl, _, World.drewN_drewN _ _ _⟩ | exact ⟨rfl, _, Eq.trans (World.drewN_drewN _ _ _) (congrArg (World.drewN _) (Nat.add_assoc _ _ _))⟩)) | (go_at_call 68; (with_reducible refine (fairwaylaw0_RecsWeight.calls k _ _ l0_2 t349 _ ?side1 ?side2 A3.out).mono ?_); (case side1 => repeat (first | exact (Kd.C_below HR0_2.out bo) | (with_reducible refine Kd.C_alloc ?_ _) | (with_reducible refine Kd.C_drewN ?_ _) | (with_reducible refine Kd.C_drew ?_))); (case side2 => exact HC0_2.out); rintro e w' ⟨rfl, ⟨nd, rfl⟩⟩; (try first | exact ⟨rfl, _, World.drewN_drewN _ _ _⟩ | exact ⟨rfl, _, Eq.trans (World.drewN_drewN _ _ _) (congrArg (World.drewN _) (Nat.add_assoc _ _ _))⟩)))
   repeat (go_quiet (first | ((with_reducible refine gate_dst (N := 1) rfl ?_); (try (refine gate_guard (by rfl) ?_; dsimp only)); refine box_event ?hg (N := 1) ?hd (cs := #[.int .i64 a0_0, .slice A0_1 l0_1.length c0_1, .slice A0_2 l0_2.length c0_2, .slice A0_3 l0_3.length c0_3, .string a0_4]) (t := 55) ?hr ?_; (case hd => rfl); (case hg => rfl); (case hr => first | (go_simp; done) | (go_simp; rfl)); intro gb347 hg w10 hbox hb; have n0_ := Aside0.mk (below_step bo hb); have n1_ := Aside0.mk (hbox); have n2_ := Aside0.mk ((by rw [hg]; exact (below_size bo) : w.heap.size ≤ gb347)); have n3_ := Aside0.mk ((by rw [hg]; exact (below_size bo) : w.heap.size ≤ gb347)); clear HB; have HB := n0_; have BK347 := n1_; have GW347 := n2_; have GE347 := n3_; clear n0_ n1_ n2_ n3_; clear hb hbox hg; obtain ⟨hcz11_0, hcz11_1, hcz11_2, hcz11_3, hcz11_4⟩ := cl5 BK347.out; obtain ⟨hfz11_0, hfz11_1, hfz11_2, hfz11_3, hfz11_4⟩ := fz5 BK347.out) | (go_at_call 68; (with_reducible refine (fairwaylaw0_RecsWeight.calls k _ _ l0_1 t348 _ ?side1 ?side2 A2.out).mono ?_); (case side1 => repeat (first | exact (Kd.C_below HR0_1.out HB.out) | (with_reducible refine Kd.C_alloc ?_ _) | (with_reducible refine Kd.C_drewN ?_ _) | (with_reducible refine Kd.C_drew ?_))); (case side2 => exact HC0_1.out); rintro e w' ⟨rfl, ⟨nd, rfl⟩⟩; (try first | exact ⟨rfl, _, World.drewN_drewN _ _ _⟩ | exact ⟨rfl, _, Eq.trans (World.drewN_drewN _ _ _) (congrArg (World.drewN _) (Nat.add_assoc _ _ _))⟩)) | (go_at_call 68; (with_reducible refine (fairwaylaw0_RecsWeight.calls k _ _ l0_2 t349 _ ?side1 ?side2 A3.out).mono ?_); (case side1 => repeat (first | exact (Kd.C_below HR0_2.out bo) | (with_reducible refine Kd.C_alloc ?_ _) | (with_reducible refine Kd.C_drewN ?_ _) | (with_reducible refine Kd.C_drew ?_))); (case side2 => exact HC0_2.out); rintro e w' ⟨rfl, ⟨nd, rfl⟩⟩; (try first | exact ⟨rfl, _, World.drewN_drewN _ _ _⟩ | exact ⟨rfl, _, Eq.trans (World.drewN_drewN _ _ _) (congrArg (World.drewN _) (Nat.add_assoc _ _ _))⟩))); try go_wp2_with (first | ((with_reducible refine gate_dst (N := 1) rfl ?_); (try (refine gate_guard (by rfl) ?_; dsimp only)); refine box_event ?hg (N := 1) ?hd (cs := #[.int .i64 a0_0, .slice A0_1 l0_1.length c0_1, .slice A0_2 l0_2.length c0_2, .slice A0_3 l0_3.length c0_3, .string a0_4]) (t := 55) ?hr ?_; (case hd => rfl); (case hg => rfl); (case hr => first | (go_simp; done) | (go_simp; rfl)); intro gb347 hg w10 hbox hb; have n0_ := Aside0.mk (below_step bo hb); have n1_ := Aside0.mk (hbox); have n2_ := Aside0.mk ((by rw [hg]; exact (below_size bo) : w.heap.size ≤ gb347)); have n3_ := Aside0.mk ((by rw [hg]; exact (below_size bo) : w.heap.size ≤ gb347)); clear HB; have HB := n0_; have BK347 := n1_; have GW347 := n2_; have GE347 := n3_; clear n0_ n1_ n2_ n3_; clear hb hbox hg; obtain ⟨hcz11_0, hcz11_1, hcz11_2, hcz11_3, hcz11_4⟩ := cl5 BK347.out; obtain ⟨hfz11_0, hfz11_1, hfz11_2, hfz11_3, hfz11_4⟩ := fz5 BK347.out) | (go_at_call 68; (with_reducible refine (fairwaylaw0_RecsWeight.calls k _ _ l0_1 t348 _ ?side1 ?side2 A2.out).mono ?_); (case side1 => repeat (first | exact (Kd.C_below HR0_1.out HB.out) | (with_reducible refine Kd.C_alloc ?_ _) | (with_reducible refine Kd.C_drewN ?_ _) | (with_reducible refine Kd.C_drew ?_))); (case side2 => exact HC0_1.out); rintro e w' ⟨rfl, ⟨nd, rfl⟩⟩; (try first | exact ⟨rfl, _, World.drewN_drewN _ _ _⟩ | exact ⟨rfl, _, Eq.trans (World.drewN_drewN _ _ _) (congrArg (World.drewN _) (Nat.add_assoc _ _ _))⟩)) | (go_at_call 68; (with_reducible refine (fairwaylaw0_RecsWeight.calls k _ _ l0_2 t349 _ ?side1 ?side2 A3.out).mono ?_); (case side1 => repeat (first | exact (Kd.C_below HR0_2.out bo) | (with_reducible refine Kd.C_alloc ?_ _) | (with_reducible refine Kd.C_drewN ?_ _) | (with_reducible refine Kd.C_drew ?_))); (case side2 => exact HC0_2.out); rintro e w' ⟨rfl, ⟨nd, rfl⟩⟩; (try first | exact ⟨rfl, _, World.drewN_drewN _ _ _⟩ | exact ⟨rfl, _, Eq.trans (World.drewN_drewN _ _ _) (congrArg (World.drewN _) (Nat.add_assoc _ _ _))⟩))))
   go_ret
   exact ⟨er, bo⟩

end Go.Proofs.Ytmabdfdmccbfnaa.P

/- Records: which may be, how many bytes they have. -/
namespace Go.Proofs.Ytmabdfdmccbfnaa.URec
open Go Go.RowKit Go.Proofs.Ytmabdfdmccbfnaa.P Go.Proofs.YtmabdfdmccbfnaaW.PrintWords Go.Proofs.YtmabdfdmccbfnaaW.PrintLast
set_option linter.unusedVariables false
set_option linter.unusedSimpArgs false

abbrev R := S25
/-- A record that may be. -/
def recOk (r : R) : Prop := 0 ≤ r.f0 ∧ r.f0 < 1099511627776 ∧ 0 ≤ r.f1 ∧ r.f1 ≤ 1099511627776 ∧ r.f2.size ≤ 1024 ∧ r.f3.size ≤ 1024 ∧ 0 ≤ r.f4 ∧ r.f4 ≤ 2 ∧ (r.f5 = true → r.f3.toList = [])

theorem check_yes (r : R) (h : recOk r) : Ev (fun k => rec_Check.f k r.f0 r.f1 r.f2 r.f3 r.f4 r.f5) 0 := by
  obtain ⟨h0, h1, h2, h3, h4, h5, h6, h7, h8⟩ := h
  refine Ev.step (f := fun _ => some 0) (fun k => ?_) (Ev.now _)
  simp only [rec_Check.f, rec_Check.j0]
  rw [if_neg (by omega), if_neg (by omega), if_neg (by omega), if_neg (by omega), if_neg (by omega), if_neg (by simp; omega), if_neg (by omega), if_neg (by omega)]
  split
  · rename_i hg
    rw [if_pos (h8 hg)]
  · rfl
theorem check_no (r : R) (h : ¬ recOk r) : Ev (fun k => rec_Check.f k r.f0 r.f1 r.f2 r.f3 r.f4 r.f5) 1 := by
  refine Ev.step (f := fun _ => some 1) (fun k => ?_) (Ev.now _)
  simp only [rec_Check.f, rec_Check.j0]
  by_cases h0 : r.f0 < 0
  · rw [if_pos h0]; rfl
  rw [if_neg h0]
  by_cases h1 : r.f0 ≥ 1099511627776
  · rw [if_pos h1]; rfl
  rw [if_neg h1]
  by_cases h2 : r.f1 < 0
  · rw [if_pos h2]; rfl
  rw [if_neg h2]
  by_cases h3 : r.f1 > 1099511627776
  · rw [if_pos h3]; rfl
  rw [if_neg h3]
  by_cases h4 : r.f4 < 0
  · rw [if_pos h4]; rfl
  rw [if_neg h4]
  by_cases h5 : r.f4 > 2
  · rw [if_pos (by simpa using h5)]
  rw [if_neg (by simpa using h5)]
  by_cases h6 : (r.f2.size : Int) > 1024
  · rw [if_pos h6]
  rw [if_neg h6]
  by_cases h7 : (r.f3.size : Int) > 1024
  · rw [if_pos h7]
  rw [if_neg h7]
  by_cases h8 : r.f5 = true
  · rw [if_pos h8]
    by_cases h9 : r.f3.toList = []
    · exact absurd ⟨by omega, by omega, by omega, by omega, by omega, by omega, by omega, by omega, fun _ => h9⟩ h
    · rw [if_neg h9]
  · exact absurd ⟨by omega, by omega, by omega, by omega, by omega, by omega, by omega, by omega, fun g => absurd g h8⟩ h

theorem num_f (a b : Int) : fairwayref0_Num.f a b = some (decide (0 ≤ a ∧ a ≤ b)) := by
  unfold fairwayref0_Num.f
  by_cases h : a ≥ 0
  · rw [if_pos h]; congr 1; simp; omega
  · rw [if_neg h]; congr 1; symm; simp; omega

theorem rec_yes (r : R) (h : recOk r) : fairwayref10_Rec.f r.f0 r.f1 r.f2 r.f3 r.f4 r.f5 = some true := by
  obtain ⟨h0, h1, h2, h3, h4, h5, h6, h7, h8⟩ := h
  unfold fairwayref10_Rec.f
  simp only [num_f, Option.bind_some]
  rw [if_pos (by simp; omega), if_pos (by simp; omega), if_pos (by omega), if_pos (by omega), if_pos (by simp; omega)]
  split
  · rename_i hg
    rw [h8 hg]; rfl
  · rfl
theorem rec_no (r : R) (h : ¬ recOk r) : fairwayref10_Rec.f r.f0 r.f1 r.f2 r.f3 r.f4 r.f5 = some false := by
  unfold fairwayref10_Rec.f
  simp only [num_f, Option.bind_some]
  by_cases h0 : 0 ≤ r.f0 ∧ r.f0 ≤ 1099511627775
  · rw [if_pos (by simpa using h0)]
    by_cases h1 : 0 ≤ r.f1 ∧ r.f1 ≤ 1099511627776
    · rw [if_pos (by simpa using h1)]
      by_cases h2 : (r.f2.size : Int) ≤ 1024
      · rw [if_pos h2]
        by_cases h3 : (r.f3.size : Int) ≤ 1024
        · rw [if_pos h3]
          by_cases h4 : 0 ≤ r.f4 ∧ r.f4 ≤ 2
          · rw [if_pos (by simpa using h4)]
            by_cases h8 : r.f5 = true
            · rw [if_pos h8]
              by_cases h9 : r.f3.toList = []
              · exact absurd ⟨by omega, by omega, by omega, by omega, by omega, by omega, by omega, by omega, fun _ => h9⟩ h
              · simpa using h9
            · exact absurd ⟨by omega, by omega, by omega, by omega, by omega, by omega, by omega, by omega, fun g => absurd g h8⟩ h
          · rw [if_neg (by simpa using h4)]
        · rw [if_neg h3]
      · rw [if_neg h2]
    · rw [if_neg (by simpa using h1)]
  · rw [if_neg (by simpa using h0)]

/-- How many bytes a record has. -/
def recLen (r : R) : Nat := 25 + r.f2.size + r.f3.size
theorem wrap_in {x : Int} (h0 : -9223372036854775808 ≤ x) (h1 : x ≤ 9223372036854775807) : wrap64 x = x := by
  unfold wrap64; omega
theorem size_yes (r : R) (h : recOk r) : Ev (fun k => rec_Size.f k r.f0 r.f1 r.f2 r.f3 r.f4 r.f5) ((recLen r : Int), 0) := by
  obtain ⟨h0, h1, h2, h3, h4, h5, h6, h7, h8⟩ := id h
  refine Ev.bind (check_yes r h) (Ev.congr (f := fun _ => some ((recLen r : Int), 0)) (fun k => ?_) (Ev.now _))
  simp only [if_pos]
  rw [wrap_in (x := 25 + (r.f2.size : Int)) (by omega) (by omega), wrap_in (by omega) (by omega)]
  simp [recLen]
theorem size_no (r : R) (h : ¬ recOk r) : Ev (fun k => rec_Size.f k r.f0 r.f1 r.f2 r.f3 r.f4 r.f5) (0, 1) := by
  refine Ev.bind (check_no r h) (Ev.congr (f := fun _ => some (0, 1)) (fun k => ?_) (Ev.now _))
  rw [if_neg (by decide)]

theorem rd_take (l : List R) (n i : Nat) (h : i < n) : rd_T25 (l.take n) i = rd_T25 l i := by
  unfold rd_T25
  simp [List.getD_eq_getElem?_getD, List.getElem?_take, h]
theorem rd_mem {l : List R} {i : Nat} (h : i < l.length) : rd_T25 l i ∈ l := by
  unfold rd_T25
  simp [List.getD_eq_getElem?_getD, List.getElem?_eq_getElem h]
theorem rd_get {l : List R} {i : Nat} (h : i < l.length) : rd_T25 l i = l[i] := by
  unfold rd_T25
  simp [List.getD_eq_getElem?_getD, List.getElem?_eq_getElem h]
end Go.Proofs.Ytmabdfdmccbfnaa.URec

/- Weights: how much of a script is played. -/
namespace Go.Proofs.Ytmabdfdmccbfnaa.UHeavy
open Go Go.RowKit Go.Proofs.Ytmabdfdmccbfnaa.P Go.Proofs.Ytmabdfdmccbfnaa.URec Go.Proofs.YtmabdfdmccbfnaaW.PrintWords Go.Proofs.YtmabdfdmccbfnaaW.PrintLast
set_option linter.unusedVariables false
set_option linter.unusedSimpArgs false

/-- The letters of records. -/
def letters : List R → Nat
  | [] => 0
  | r :: l => r.f2.size + r.f3.size + letters l
theorem letters_take (l : List R) (i : Nat) (h : i < l.length) : letters (l.take (i + 1)) = letters (l.take i) + (rd_T25 l i).f2.size + (rd_T25 l i).f3.size := by
  rw [rd_get h]
  induction l generalizing i with
  | nil => simp at h
  | cons r l ih =>
    cases i with
    | zero => simp [letters]
    | succ i =>
      have := ih i (by simpa using h)
      simp [letters, this]; omega
theorem letters_mem {l : List R} {r : R} (h : r ∈ l) : r.f2.size + r.f3.size ≤ letters l := by
  induction l with
  | nil => simp at h
  | cons x l ih =>
    simp only [letters]
    rcases List.mem_cons.1 h with rfl | h
    · omega
    · have := ih h; omega

theorem weight_loop (l : List R) (hl : l.length * 64 ≤ 140737488351232) (hg : ∀ x ∈ l, good25 x) : ∀ (d i : Nat) (x : Nat), l.length = i + d → x = l.length + letters (l.take i) → x ≤ 562949953421312 →
    ∃ n : Nat, Ev (fun k => fairwaylaw0_RecsWeight.l0 k l x i) (n : Int) ∧ n ≤ 562949953421312 ∧ (n < 1048576 → n = l.length + letters l)
  | 0, i, x, h, hx, hm => by
    refine ⟨x, Ev.step (f := fun _ => some _) (fun k => ?_) (Ev.now _), hm, fun _ => ?_⟩
    · simp only [fairwaylaw0_RecsWeight.l0]
      rw [if_neg (by omega)]
    · rw [hx, List.take_of_length_le (by omega)]
  | d + 1, i, x, h, hx, hm => by
    have hi : i < l.length := by omega
    by_cases hs : x < 1048576
    · have hgi := hg _ (rd_mem hi)
      obtain ⟨g0, g1, g2, g3, g4⟩ := hgi
      obtain ⟨n, hn, h1, h2⟩ := weight_loop l hl hg d (i + 1) (x + (rd_T25 l i).f2.size + (rd_T25 l i).f3.size) (by omega) (by rw [letters_take l i hi]; omega) (by omega)
      refine ⟨n, Ev.step (fun k => ?_) hn, h1, h2⟩
      simp only [fairwaylaw0_RecsWeight.l0]
      rw [if_pos (by omega), if_pos (by omega), if_pos (by omega), wrap_in (x := (x : Int) + ((rd_T25 l i).f2.size : Int)) (by omega) (by omega), wrap_in (by omega) (by omega), wrap_in (by omega) (by omega)]
      rfl
    · refine ⟨x, Ev.step (f := fun _ => some _) (fun k => ?_) (Ev.now _), hm, fun h => absurd h hs⟩
      simp only [fairwaylaw0_RecsWeight.l0]
      rw [if_pos (by omega), if_neg (by omega)]
theorem weight_ev (l : List R) (hl : l.length * 64 ≤ 140737488351232) (hg : ∀ x ∈ l, good25 x) :
    ∃ n : Nat, Ev (fun k => fairwaylaw0_RecsWeight.f k l) (n : Int) ∧ n ≤ 562949953421312 ∧ (n < 1048576 → n = l.length + letters l) :=
  weight_loop l hl hg l.length 0 l.length (by omega) (by simp [letters]) (by omega)

theorem heavy_ev (base : Int) (g l : List R) (ns : List Int) (s : ByteArray) (hg : ∀ x ∈ g, good25 x) (hg2 : g.length * 64 ≤ 140737488351232) (hl : ∀ x ∈ l, good25 x) (hl2 : l.length * 64 ≤ 140737488351232) :
    ∃ b, Ev (fun k => fairwaylaw11_Heavy.f k base g l ns s) b ∧ (b = false → g.length + letters g + (l.length + letters l) ≤ 8000 ∧ s.size ≤ 8000 ∧ ns.length ≤ 500) := by
  obtain ⟨n, h1, h2, h3⟩ := weight_ev g hg2 hg
  obtain ⟨m, k1, k2, k3⟩ := weight_ev l hl2 hl
  by_cases a : wrap64 ((n : Int) + (m : Int)) > 8000
  · exact ⟨true, Ev.bind h1 (Ev.bind k1 (Ev.congr (fun k => if_pos a) (Ev.now _))), fun e => by cases e⟩
  · have hw : (n : Int) + m ≤ 8000 := by rw [wrap_in (by omega) (by omega)] at a; omega
    by_cases b : (s.size : Int) > 8000
    · exact ⟨true, Ev.bind h1 (Ev.bind k1 (Ev.congr (fun k => if_neg a) (Ev.congr (fun k => if_pos b) (Ev.now _)))), fun e => by cases e⟩
    · refine ⟨_, Ev.bind h1 (Ev.bind k1 (Ev.congr (fun k => if_neg a) (Ev.congr (fun k => if_neg b) (Ev.now _)))), fun e => ?_⟩
      have := of_decide_eq_false e
      exact ⟨by rw [← h3 (by omega), ← k3 (by omega)]; omega, by omega, by omega⟩
end Go.Proofs.Ytmabdfdmccbfnaa.UHeavy

/- What the statements on records share: weights, the word that everybody asks. -/
namespace Go.Proofs.Ytmabdfdmccbfnaa.URec10
open Go Go.RowKit Go.Proofs.Ytmabdfdmccbfnaa.P Go.Proofs.Ytmabdfdmccbfnaa.URec Go.Proofs.Ytmabdfdmccbfnaa.UHeavy Go.Proofs.YtmabdfdmccbfnaaW.PrintWords Go.Proofs.YtmabdfdmccbfnaaW.PrintLast
set_option linter.unusedVariables false
set_option linter.unusedSimpArgs false
theorem wakes10_ev : Ev (fun k => fairwaylaw10_wakes.f k) true := Ev.of fairwaylaw10_wakes.mono (k := 400) (by decide +kernel)
theorem num10 (a : Int) : fairwaylaw10_num.f a = some a := rfl
theorem heavy10_ev (l : List R) (s : ByteArray) (hl : ∀ x ∈ l, good25 x) (hl2 : l.length * 64 ≤ 140737488351232) :
    ∃ b, Ev (fun k => fairwaylaw10_heavy.f k l s) b ∧ (b = false → l.length + letters l ≤ 8000 ∧ s.size ≤ 8000) := by
  obtain ⟨n, h1, h2, h3⟩ := weight_ev l hl2 hl
  by_cases a : (n : Int) > 8000
  · exact ⟨true, Ev.bind h1 (Ev.congr (fun k => if_pos a) (Ev.now _)), fun e => by cases e⟩
  · refine ⟨_, Ev.bind h1 (Ev.congr (fun k => if_neg a) (Ev.now _)), fun e => ?_⟩
    have := of_decide_eq_false e
    exact ⟨by rw [← h3 (by omega)]; omega, by omega⟩
theorem ask_mem {l : List S38} {i : Nat} (h : i < l.length) : rd_T38 l i ∈ l := by
  unfold rd_T38
  simp [List.getD_eq_getElem?_getD, List.getElem?_eq_getElem h]
end Go.Proofs.Ytmabdfdmccbfnaa.URec10

/- The check sum of bytes as a run over 32 bits: what sum.Sum and the page's Sum compute, and what the run is worth. -/
namespace Go.Proofs.Ytmabdfdmccbfnaa.USum
open Go Go.RowKit Go.Proofs.YtmabdfdmccbfnaaW.PrintWords Go.Proofs.YtmabdfdmccbfnaaW.PrintLast
set_option linter.unusedVariables false
theorem ofI (a : BitVec 32) : BitVec.ofInt (IntKind.bits .u32) (a.toNat : Int) = a := by
  show BitVec.ofInt 32 _ = a
  rw [BitVec.ofInt_natCast, BitVec.ofNat_toNat, BitVec.setWidth_eq]
theorem wrapI (a : BitVec 32) : IntKind.wrap .u32 (a.toNat : Int) = a.toNat := by
  have := a.isLt
  simp [IntKind.wrap, IntKind.bits, IntKind.signed]
  omega
theorem bits_xor (a b : BitVec 32) : Go.bits .xor .u32 (a.toNat : Int) (b.toNat : Int) = ((a ^^^ b).toNat : Int) := by
  unfold Go.bits
  simp only [ofI]
  exact wrapI _
theorem bits_and (a b : BitVec 32) : Go.bits .and .u32 (a.toNat : Int) (b.toNat : Int) = ((a &&& b).toNat : Int) := by
  unfold Go.bits
  simp only [ofI]
  exact wrapI _
theorem half (a : BitVec 32) : (a.toNat : Int) / (2 : Int) = ((a >>> 1).toNat : Int) := by
  rw [BitVec.toNat_ushiftRight, Nat.shiftRight_eq_div_pow]; rfl
theorem low (a : BitVec 32) : a &&& 1#32 = 0#32 ∨ a &&& 1#32 = 1#32 := by
  have : (a &&& 1#32).toNat = a.toNat % 2 := by simp [BitVec.toNat_and, Nat.and_one_is_mod]
  rcases Nat.mod_two_eq_zero_or_one a.toNat with h | h
  · left; apply BitVec.eq_of_toNat_eq; rw [this, h]; rfl
  · right; apply BitVec.eq_of_toNat_eq; rw [this, h]; rfl
def cstep (s : BitVec 32) : BitVec 32 := if s &&& 1#32 = 1#32 then (s >>> 1) ^^^ 2197175160#32 else s >>> 1
theorem pstep (s : BitVec 32) : Go.bits .xor .u32 ((s.toNat : Int) / 2) (Go.bits .and .u32 2197175160 ((-(Go.bits .and .u32 (s.toNat : Int) 1)) % 4294967296)) = ((cstep s).toNat : Int) := by
  have e1 : (1 : Int) = ((1#32 : BitVec 32).toNat : Int) := rfl
  have e2 : (2197175160 : Int) = ((2197175160#32 : BitVec 32).toNat : Int) := rfl
  have hb : Go.bits .and .u32 (s.toNat : Int) 1 = ((s &&& 1#32).toNat : Int) := bits_and s 1#32
  rw [hb, half]
  unfold cstep
  rcases low s with h | h
  · rw [h, if_neg (by decide)]
    have : Go.bits .and .u32 2197175160 ((-(((0#32 : BitVec 32).toNat : Nat) : Int)) % 4294967296) = ((0#32 : BitVec 32).toNat : Int) := bits_and 2197175160#32 0#32
    rw [this, bits_xor]
    simp
  · rw [h, if_pos rfl]
    have : Go.bits .and .u32 2197175160 ((-(((1#32 : BitVec 32).toNat : Nat) : Int)) % 4294967296) = ((2197175160#32 : BitVec 32).toNat : Int) := bits_and 2197175160#32 4294967295#32
    rw [this, bits_xor]
theorem rstep1 (s : BitVec 32) (h : Go.bits .and .u32 (s.toNat : Int) 1 = 1) : Go.bits .xor .u32 ((s.toNat : Int) / 2) 2197175160 = ((cstep s).toNat : Int) := by
  have hb : Go.bits .and .u32 (s.toNat : Int) 1 = ((s &&& 1#32).toNat : Int) := bits_and s 1#32
  rw [hb] at h
  rw [half, show (2197175160 : Int) = ((2197175160#32 : BitVec 32).toNat : Int) from rfl, bits_xor]
  unfold cstep
  rcases low s with h' | h'
  · rw [h'] at h; exact absurd h (by decide)
  · rw [if_pos h']
theorem rstep0 (s : BitVec 32) (h : ¬ Go.bits .and .u32 (s.toNat : Int) 1 = 1) : (s.toNat : Int) / 2 = ((cstep s).toNat : Int) := by
  have hb : Go.bits .and .u32 (s.toNat : Int) 1 = ((s &&& 1#32).toNat : Int) := bits_and s 1#32
  rw [hb] at h
  rw [half]
  unfold cstep
  rcases low s with h' | h'
  · rw [if_neg (by rw [h']; decide)]
  · rw [h'] at h; exact absurd rfl h

theorem wrap_one {x : Int} (h0 : 0 ≤ x) (h1 : x < 9223372036854775807) : wrap64 (x + 1) = x + 1 := by
  unfold wrap64; omega
def bstep (s : BitVec 32) (b : UInt8) : BitVec 32 := cstep (cstep (cstep (cstep (cstep (cstep (cstep (cstep (s ^^^ BitVec.ofNat 32 b.toNat))))))))
def run (s : BitVec 32) (l : List UInt8) : BitVec 32 := l.foldl bstep s
theorem bt_get (s : ByteArray) (i : Nat) (h : i < s.size) : bt s i = ((s.data.toList[i]'(by simpa using h)).toNat : Int) := by
  have := bt_at s i (by simpa using h)
  rw [← this]; simp; rfl
theorem bt_u32 (b : UInt8) : (b.toNat : Int) % 4294967296 = ((BitVec.ofNat 32 b.toNat).toNat : Int) := by
  have := b.toNat_lt
  rw [BitVec.toNat_ofNat]; omega
theorem not_eq (s : BitVec 32) : Go.bits .xor .u32 4294967295 (s.toNat : Int) = ((~~~s).toNat : Int) := by
  rw [show (4294967295 : Int) = ((4294967295#32 : BitVec 32).toNat : Int) from rfl, bits_xor]
  have : (4294967295#32 : BitVec 32) = BitVec.allOnes 32 := by decide
  rw [this, BitVec.allOnes_xor]
section
open Go.Proofs.Ytmabdfdmccbfnaa.P
/-- The eight rounds over a byte. -/
theorem l1_ev (x1 : ByteArray) (n i : Int) (r : Int) (s : BitVec 32)
    (h : Ev (fun k => sum_Sum.l0 k ((cstep (cstep (cstep (cstep (cstep (cstep (cstep (cstep s)))))))).toNat) x1 n (wrap64 (i + 1))) r) :
    Ev (fun k => sum_Sum.l1 k (s.toNat) x1 n i 0) r := by
  have one : ∀ (j : Int) (s : BitVec 32), 0 ≤ j → j < 8 → Ev (fun k => sum_Sum.l1 k ((cstep s).toNat) x1 n i (j + 1)) r → Ev (fun k => sum_Sum.l1 k (s.toNat) x1 n i j) r := by
    intro j s h0 h1 hh
    refine Ev.step (f := fun k => sum_Sum.l1 k ((cstep s).toNat) x1 n i (j + 1)) (fun k => ?_) hh
    simp only [sum_Sum.l1]
    rw [if_pos (by omega), pstep, wrap_one h0 (by omega)]
  refine one 0 _ (by omega) (by omega) (one 1 _ (by omega) (by omega) (one 2 _ (by omega) (by omega) (one 3 _ (by omega) (by omega) (one 4 _ (by omega) (by omega) (one 5 _ (by omega) (by omega) (one 6 _ (by omega) (by omega) (one 7 _ (by omega) (by omega) ?_)))))))
  refine Ev.step (fun k => ?_) h
  simp only [sum_Sum.l1]
  rw [if_neg (by omega)]
theorem l0_ev (x1 : ByteArray) (hx : x1.size ≤ 140737488351232) : ∀ (d i : Nat) (s : BitVec 32), x1.size = i + d →
    Ev (fun k => sum_Sum.l0 k (s.toNat) x1 (x1.size : Int) i) ((~~~ (run s (x1.data.toList.drop i))).toNat : Int)
  | 0, i, s, h => by
    refine Ev.step (f := fun _ => some _) (fun k => ?_) (Ev.now _)
    simp only [sum_Sum.l0]
    rw [if_neg (by omega), not_eq, List.drop_eq_nil_of_le (by simp; omega)]
    rfl
  | d + 1, i, s, h => by
    have hi : i < x1.size := by omega
    have ih := l0_ev x1 hx d (i + 1) (bstep s (x1.data.toList[i]'(by simpa using hi))) (by omega)
    refine Ev.step (f := fun k => sum_Sum.l1 k ((s ^^^ BitVec.ofNat 32 (x1.data.toList[i]'(by simpa using hi)).toNat).toNat) x1 (x1.size : Int) i 0) (fun k => ?_) (l1_ev x1 _ _ _ _ ?_)
    · simp only [sum_Sum.l0]
      rw [if_pos (by omega), if_pos (by omega), if_pos (by omega), bt_get x1 i hi, bt_u32, bits_xor]
    · rw [wrap_one (by omega) (by omega), List.drop_eq_getElem_cons (by simpa using hi)]
      exact ih
theorem sum_ev (s : BitVec 32) (x1 : ByteArray) (hx : x1.size ≤ 140737488351232) : Ev (fun k => sum_Sum.f k (s.toNat) x1) ((~~~ (run (~~~ s) x1.data.toList)).toNat : Int) := by
  unfold sum_Sum.f
  rw [not_eq]
  exact l0_ev x1 hx x1.size 0 (~~~s) (by omega)
/-- The eight rounds over a byte. -/
theorem rl1_ev (x1 : ByteArray) (i : Int) (r : Int) (s : BitVec 32)
    (h : Ev (fun k => fairwayref1_Sum.l0 k ((cstep (cstep (cstep (cstep (cstep (cstep (cstep (cstep s)))))))).toNat) x1 (wrap64 (i + 1))) r) :
    Ev (fun k => fairwayref1_Sum.l1 k (s.toNat) x1 i 0) r := by
  have one : ∀ (j : Int) (s : BitVec 32), 0 ≤ j → j < 8 → Ev (fun k => fairwayref1_Sum.l1 k ((cstep s).toNat) x1 i (j + 1)) r → Ev (fun k => fairwayref1_Sum.l1 k (s.toNat) x1 i j) r := by
    intro j s h0 h1 hh
    refine Ev.step (f := fun k => fairwayref1_Sum.l1 k ((cstep s).toNat) x1 i (j + 1)) (fun k => ?_) hh
    simp only [fairwayref1_Sum.l1]
    by_cases hb : Go.bits .and .u32 (s.toNat : Int) 1 = 1
    · rw [if_pos (by omega), if_pos hb, rstep1 s hb, wrap_one h0 (by omega)]
    · rw [if_pos (by omega), if_neg hb, rstep0 s hb, wrap_one h0 (by omega)]
  refine one 0 _ (by omega) (by omega) (one 1 _ (by omega) (by omega) (one 2 _ (by omega) (by omega) (one 3 _ (by omega) (by omega) (one 4 _ (by omega) (by omega) (one 5 _ (by omega) (by omega) (one 6 _ (by omega) (by omega) (one 7 _ (by omega) (by omega) ?_)))))))
  refine Ev.step (fun k => ?_) h
  simp only [fairwayref1_Sum.l1]
  rw [if_neg (by omega)]
theorem rl0_ev (x1 : ByteArray) (hx : x1.size ≤ 140737488351232) : ∀ (d i : Nat) (s : BitVec 32), x1.size = i + d →
    Ev (fun k => fairwayref1_Sum.l0 k (s.toNat) x1 i) ((~~~ (run s (x1.data.toList.drop i))).toNat : Int)
  | 0, i, s, h => by
    refine Ev.step (f := fun _ => some _) (fun k => ?_) (Ev.now _)
    simp only [fairwayref1_Sum.l0]
    rw [if_neg (by omega), not_eq, List.drop_eq_nil_of_le (by simp; omega)]
    rfl
  | d + 1, i, s, h => by
    have hi : i < x1.size := by omega
    have ih := rl0_ev x1 hx d (i + 1) (bstep s (x1.data.toList[i]'(by simpa using hi))) (by omega)
    refine Ev.step (f := fun k => fairwayref1_Sum.l1 k ((s ^^^ BitVec.ofNat 32 (x1.data.toList[i]'(by simpa using hi)).toNat).toNat) x1 i 0) (fun k => ?_) (rl1_ev x1 _ _ _ ?_)
    · simp only [fairwayref1_Sum.l0]
      rw [if_pos (by omega), if_pos (by omega), bt_get x1 i hi, bt_u32, bits_xor]
    · rw [wrap_one (by omega) (by omega), List.drop_eq_getElem_cons (by simpa using hi)]
      exact ih
theorem sumref_ev (s : BitVec 32) (x1 : ByteArray) (hx : x1.size ≤ 140737488351232) : Ev (fun k => fairwayref1_Sum.f k (s.toNat) x1) ((~~~ (run (~~~ s) x1.data.toList)).toNat : Int) := by
  unfold fairwayref1_Sum.f
  rw [not_eq]
  exact rl0_ev x1 hx x1.size 0 (~~~s) (by omega)
/-- A number of the kind u32 is a word's. -/
theorem of_wf {n : Int} (h : (Lit.int .u32 n).wf = true) : ∃ s : BitVec 32, n = (s.toNat : Int) := by
  simp [Lit.wf, IntKind.min, IntKind.max, IntKind.signed, IntKind.bits] at h
  refine ⟨BitVec.ofNat 32 n.toNat, ?_⟩
  rw [BitVec.toNat_ofNat]
  omega
end
end Go.Proofs.Ytmabdfdmccbfnaa.USum

/- Records as bytes: what the program puts together is what the page says. -/
namespace Go.Proofs.Ytmabdfdmccbfnaa.UBytes
open Go Go.RowKit Go.Proofs.Ytmabdfdmccbfnaa.P Go.Proofs.Ytmabdfdmccbfnaa.URec Go.Proofs.Ytmabdfdmccbfnaa.USum Go.Proofs.YtmabdfdmccbfnaaW.PrintWords Go.Proofs.YtmabdfdmccbfnaaW.PrintLast Go.Proofs.YtmabdfdmccbfnaaW.PrintMore
set_option linter.unusedVariables false
set_option linter.unusedSimpArgs false

/-- A number's bytes, the highest first. -/
def digits (x : Int) : Nat → List Int
  | 0 => []
  | n + 1 => (x / 2 ^ (8 * n)) % 256 :: digits x n
theorem digits_length (x : Int) : ∀ n, (digits x n).length = n
  | 0 => rfl
  | n + 1 => by simp [digits, digits_length x n]
def fixed (x : Int) (n : Nat) : ByteArray := strOfNums (digits x n)
theorem fixed_size (x : Int) (n : Nat) : (fixed x n).size = n := by rw [fixed, strOfNums_size, digits_length]
theorem shr_in (x : Int) (n : Nat) (h : n ≤ 64) : shr .i64 x (n : Int) = x / 2 ^ n := by
  unfold shr
  have : min (n : Int).toNat (IntKind.bits .i64) = n := by
    have : IntKind.bits .i64 = 64 := rfl
    omega
  rw [this]
theorem wrap8 (n : Nat) (h : n ≤ 8) : wrap64 (8 * (n : Int)) = ((8 * n : Nat) : Int) := by rw [wrap_in (by omega) (by omega)]; omega

theorem fixed_loop (x : Int) : ∀ (n : Nat) (acc : List Int), n ≤ 8 → acc.length + n ≤ 100 → Ev (fun k => fairwayref1_Fixed.l0 k x acc ((n : Int) - 1)) (strOfNums (acc ++ digits x n))
  | 0, acc, _, _ => by
    refine Ev.step (f := fun _ => some _) (fun k => ?_) (Ev.now _)
    simp only [fairwayref1_Fixed.l0]
    rw [if_neg (by omega)]
    simp [digits]
  | n + 1, acc, hn, hl => by
    have ih := fixed_loop x n (acc ++ [(x / 2 ^ (8 * n)) % 256]) (by omega) (by simp; omega)
    refine Ev.step (f := fun k => fairwayref1_Fixed.l0 k x (acc ++ [(x / 2 ^ (8 * n)) % 256]) ((n : Int) - 1)) (fun k => ?_) ?_
    · simp only [fairwayref1_Fixed.l0]
      have e : ((n + 1 : Nat) : Int) - 1 = (n : Int) := by omega
      rw [e, if_pos (by omega), wrap8 n (by omega), if_pos (by omega), if_pos (by omega), shr_in x (8 * n) (by omega), wrap_in (by omega) (by omega)]
    · simpa [digits] using ih
theorem fixed_ev (x : Int) (n : Nat) (h : n ≤ 8) : Ev (fun k => fairwayref1_Fixed.f k x n) (fixed x n) := by
  unfold fairwayref1_Fixed.f
  rw [wrap_in (by omega) (by omega)]
  simpa [fixed] using fixed_loop x n [] h (by simp; omega)

theorem set_row (m : Nat) (D : List Int) (v : Int) : ((List.replicate (m + 1) (0 : Int)) ++ D).set m v = List.replicate m 0 ++ (v :: D) := by
  rw [List.replicate_succ', List.append_assoc, List.set_append_right _ _ (by simp)]
  simp
theorem high_loop (x : Int) (wd : Nat) (hw : wd ≤ 8) : ∀ (d i : Nat), wd = i + d → Ev (fun k => vbi_high.l0 k x wd (List.replicate d 0 ++ digits x i) wd i) (fixed x wd, 0)
  | 0, i, h => by
    obtain rfl : wd = i := by omega
    refine Ev.step (f := fun _ => some _) (fun k => ?_) (Ev.now _)
    simp only [vbi_high.l0]
    rw [if_neg (by omega)]
    simp [fixed]
  | d + 1, i, h => by
    have ih := high_loop x wd hw d (i + 1) (by omega)
    refine Ev.step (f := fun k => vbi_high.l0 k x wd (List.replicate d 0 ++ digits x (i + 1)) wd ((i + 1 : Nat) : Int)) (fun k => ?_) ih
    simp only [vbi_high.l0]
    have e : wrap64 (wrap64 ((wd : Int) - 1) - (i : Int)) = ((d : Nat) : Int) := by rw [wrap_in (x := (wd : Int) - 1) (by omega) (by omega), wrap_in (by omega) (by omega)]; omega
    rw [if_pos (by omega), wrap8 i (by omega), if_pos (by omega), e, if_pos (by omega), if_pos (by simp [digits_length]; omega), shr_in x (8 * i) (by omega), wrap_in (by omega) (by omega), Int.toNat_natCast, set_row]
    rfl
theorem high_ev (x : Int) (wd : Nat) (hw : wd ≤ 8) (h0 : 0 ≤ x) (h1 : x / 2 ^ (8 * wd) = 0) : Ev (fun k => vbi_high.f k x wd) (fixed x wd, 0) := by
  have hl := high_loop x wd hw wd 0 (by omega)
  refine Ev.step (f := fun k => vbi_high.l0 k x wd (List.replicate wd 0) (wd : Int) 0) (fun k => ?_) (by simpa [digits] using hl)
  simp only [vbi_high.f, vbi_high.j0]
  rw [if_neg (by omega), wrap8 wd hw, if_pos (by omega), shr_in x (8 * wd) (by omega), h1, if_neg (by decide), if_pos (by omega), if_pos (by omega)]
  simp
theorem two_ev (x : Int) (h0 : 0 ≤ x) (h1 : x < 65536) : Ev (fun k => vbi_Two.f k x) (fixed x 2, 0) :=
  Ev.bind (g := fun k => vbi_high.f k x 2) (f := fun _ b => some (b.1, b.2)) (high_ev x 2 (by omega) h0 (by show x / 65536 = 0; omega)) (Ev.now _)
theorem four_ev (x : Int) (h0 : 0 ≤ x) (h1 : x < 4294967296) : Ev (fun k => vbi_Four.f k x) (fixed x 4, 0) :=
  Ev.bind (g := fun k => vbi_high.f k x 4) (f := fun _ b => some (b.1, b.2)) (high_ev x 4 (by omega) h0 (by show x / 4294967296 = 0; omega)) (Ev.now _)

theorem strOfNums_append (a b : List Int) : strOfNums (a ++ b) = strOfNums a ++ strOfNums b := by
  apply ByteArray.ext
  simp [strOfNums, ByteArray.data_append]
theorem low32 (x : Int) (h0 : 0 ≤ x) (h1 : x < 9223372036854775808) : Go.bits .and .i64 x 4294967295 = x % 4294967296 :=
  bits_mask .i64 63 (by decide) (fun n h0 h1 => by rw [IntKind.wrap_i64]; omega) 32 (by decide) x h0 h1
theorem digits8 (x : Int) (h0 : 0 ≤ x) : digits x 8 = digits (x / 4294967296) 4 ++ digits (x % 4294967296) 4 := by
  simp only [digits, List.cons_append, List.nil_append, List.cons.injEq, and_true]
  refine ⟨?_, ?_, ?_, ?_, ?_, ?_, ?_, ?_⟩ <;> omega
theorem eight_ev (x : Int) (h0 : 0 ≤ x) (h1 : x < 9223372036854775808) : Ev (fun k => rec_eight.f k x) (fixed x 8) := by
  refine Ev.bind (f := fun k b => (vbi_Four.f k (Go.bits .and .i64 x 4294967295)).bind fun c => (if b.1.size + c.1.size ≤ 9223372036854775807 then (some (b.1 ++ c.1)) else none)) (four_ev (x / 4294967296) (by omega) (by omega)) ?_
  rw [low32 x h0 h1]
  refine Ev.bind (f := fun k c => (if (fixed (x / 4294967296) 4).size + c.1.size ≤ 9223372036854775807 then (some ((fixed (x / 4294967296) 4) ++ c.1)) else none)) (four_ev (x % 4294967296) (by omega) (by omega)) ?_
  refine Ev.congr (f := fun _ => some _) (fun k => ?_) (Ev.now _)
  rw [if_pos (by simp [fixed_size])]
  rw [fixed, fixed, fixed, ← strOfNums_append, ← digits8 x h0]

/-- A record's first byte behind its numbers. -/
def flagOf (r : R) : Int := if r.f5 = true then r.f4 + 4 else r.f4
def bodyOf (r : R) : ByteArray := ((((fixed r.f0 8 ++ fixed r.f1 8) ++ strOfNums [flagOf r]) ++ fixed (r.f2.size : Int) 2) ++ r.f2) ++ r.f3
def headOf (r : R) : ByteArray := fixed ((bodyOf r).size : Int) 2
def sumOf (h b : ByteArray) : Int := ((~~~ (run (~~~ (0#32)) (h ++ b).data.toList)).toNat : Int)
/-- A record's bytes, by the page. -/
def recBytes (r : R) : ByteArray := (headOf r ++ fixed (sumOf (headOf r) (bodyOf r)) 4) ++ bodyOf r
theorem bodyOf_size (r : R) : (bodyOf r).size = 19 + r.f2.size + r.f3.size := by
  simp only [bodyOf, ByteArray.size_append, fixed_size, strOfNums_size, List.length_singleton]
theorem recBytes_size (r : R) : (recBytes r).size = recLen r := by
  simp only [recBytes, headOf, ByteArray.size_append, fixed_size, bodyOf_size, recLen]; omega
theorem sumOf_in (h b : ByteArray) : 0 ≤ sumOf h b ∧ sumOf h b < 4294967296 := by
  unfold sumOf
  have := (~~~ (run (~~~ (0#32)) (h ++ b).data.toList)).isLt
  omega

theorem ref_tail (r : R) (hr : recOk r) : Ev (fun k => fairwayref10_Bytes.j0 k (flagOf r) r.f0 r.f1 r.f2 r.f3 r.f4 r.f5) (recBytes r) := by
  obtain ⟨h0, h1, h2, h3, h4, h5, h6, h7, h8⟩ := hr
  have hb := bodyOf_size r
  have hf : 0 ≤ flagOf r ∧ flagOf r ≤ 6 := by unfold flagOf; split <;> omega
  have hs := sumOf_in (headOf r) (bodyOf r)
  have hh : (headOf r).size = 2 := fixed_size _ _
  refine Ev.step (fun k => by rw [fairwayref10_Bytes.j0]) ?_
  refine Ev.bind (fixed_ev r.f0 8 (by omega)) ?_
  refine Ev.bind (fixed_ev r.f1 8 (by omega)) ?_
  refine Ev.congr (fun k => if_pos (by simp [fixed_size])) ?_
  refine Ev.bind (Ev.now _) ?_
  rw [show flagOf r % 256 = flagOf r by omega]
  refine Ev.congr (fun k => if_pos (by simp [fixed_size, strOfNums_size])) ?_
  refine Ev.bind (fixed_ev (r.f2.size : Int) 2 (by omega)) ?_
  refine Ev.congr (fun k => if_pos (by simp [fixed_size, strOfNums_size])) ?_
  refine Ev.congr (fun k => if_pos (by simp [fixed_size, strOfNums_size]; omega)) ?_
  refine Ev.congr (fun k => if_pos (by simp [fixed_size, strOfNums_size]; omega)) ?_
  show Ev (fun k => (fairwayref1_Fixed.f k ((bodyOf r).size : Int) (2 : Nat)).bind fun t224 => (if t224.size + (bodyOf r).size ≤ 9223372036854775807 then ((fairwayref1_Sum.f k 0 (t224 ++ bodyOf r)).bind fun t225 => ((fairwayref1_Fixed.f k (wrap64 (t225)) (4 : Nat)).bind fun t226 => (if t224.size + t226.size ≤ 9223372036854775807 then (if (t224 ++ t226).size + (bodyOf r).size ≤ 9223372036854775807 then (some ((t224 ++ t226) ++ bodyOf r)) else (none)) else (none)))) else (none))) (recBytes r)
  refine Ev.bind (fixed_ev ((bodyOf r).size : Int) 2 (by omega)) ?_
  refine Ev.congr (fun k => if_pos (by rw [fixed_size]; omega)) ?_
  refine Ev.bind (sumref_ev 0#32 (headOf r ++ bodyOf r) (by rw [ByteArray.size_append]; omega)) ?_
  have hw : wrap64 ((~~~ (run (~~~ (0#32)) (headOf r ++ bodyOf r).data.toList)).toNat : Int) = sumOf (headOf r) (bodyOf r) := by
    rw [wrap_in (by have := hs; unfold sumOf at this; omega) (by have := hs; unfold sumOf at this; omega)]; rfl
  rw [hw]
  refine Ev.bind (fixed_ev (sumOf (headOf r) (bodyOf r)) 4 (by omega)) ?_
  refine Ev.congr (fun k => if_pos (by rw [fixed_size, fixed_size]; omega)) ?_
  refine Ev.congr (fun k => if_pos (by rw [ByteArray.size_append, fixed_size, fixed_size]; omega)) ?_
  exact Ev.now _
theorem refbytes_ev (r : R) (hr : recOk r) : Ev (fun k => fairwayref10_Bytes.f k r.f0 r.f1 r.f2 r.f3 r.f4 r.f5) (recBytes r) := by
  have ht := ref_tail r hr
  obtain ⟨h0, h1, h2, h3, h4, h5, h6, h7, h8⟩ := hr
  refine Ev.congr (fun k => ?_) ht
  unfold fairwayref10_Bytes.f flagOf
  split
  · rw [wrap_in (by omega) (by omega)]
  · rfl

theorem run_append (s : BitVec 32) (a b : List UInt8) : run s (a ++ b) = run (run s a) b := by simp [run]
theorem flag_u8 (r : R) (hr : recOk r) : (if r.f5 = true then Go.bits .or .u8 (r.f4 % 256) 4 else r.f4 % 256) = flagOf r := by
  obtain ⟨h0, h1, h2, h3, h4, h5, h6, h7, h8⟩ := hr
  have : r.f4 = 0 ∨ r.f4 = 1 ∨ r.f4 = 2 := by omega
  unfold flagOf
  rcases this with h | h | h <;> rw [h] <;> split <;> first | rfl | decide
theorem prog_tail (r : R) (hr : recOk r) : Ev (fun k => rec_Bytes.j0 k (flagOf r) r.f0 r.f1 r.f2 r.f3 r.f4 r.f5) (recBytes r, 0) := by
  obtain ⟨h0, h1, h2, h3, h4, h5, h6, h7, h8⟩ := hr
  have hb := bodyOf_size r
  have hs := sumOf_in (headOf r) (bodyOf r)
  have hh : (headOf r).size = 2 := fixed_size _ _
  refine Ev.step (fun k => by rw [rec_Bytes.j0]) ?_
  refine Ev.bind (two_ev (r.f2.size : Int) (by omega) (by omega)) ?_
  refine Ev.bind (eight_ev r.f0 (by omega) (by omega)) ?_
  refine Ev.bind (eight_ev r.f1 (by omega) (by omega)) ?_
  refine Ev.congr (fun k => if_pos (by simp [fixed_size])) ?_
  refine Ev.bind (Ev.now _) ?_
  refine Ev.congr (fun k => if_pos (by simp [fixed_size, strOfNums_size])) ?_
  refine Ev.congr (fun k => if_pos (by simp [fixed_size, strOfNums_size])) ?_
  refine Ev.congr (fun k => if_pos (by simp [fixed_size, strOfNums_size]; omega)) ?_
  refine Ev.congr (fun k => if_pos (by simp [fixed_size, strOfNums_size]; omega)) ?_
  show Ev (fun k => (vbi_Two.f k ((bodyOf r).size : Int)).bind fun b => ((sum_Sum.f k 0 b.1).bind fun t => ((sum_Sum.f k t (bodyOf r)).bind fun t2 => ((vbi_Four.f k (wrap64 t2)).bind fun c => (if b.1.size + c.1.size ≤ 9223372036854775807 then (if (b.1 ++ c.1).size + (bodyOf r).size ≤ 9223372036854775807 then (some ((b.1 ++ c.1) ++ bodyOf r, (0 : Int))) else none) else none))))) (recBytes r, 0)
  refine Ev.bind (two_ev ((bodyOf r).size : Int) (by omega) (by omega)) ?_
  refine Ev.bind (sum_ev 0#32 (headOf r) (by omega)) ?_
  refine Ev.bind (sum_ev (~~~ (run (~~~ (0#32)) (headOf r).data.toList)) (bodyOf r) (by omega)) ?_
  have hw : wrap64 ((~~~ (run (~~~ ~~~ (run (~~~ (0#32)) (headOf r).data.toList)) (bodyOf r).data.toList)).toNat : Int) = sumOf (headOf r) (bodyOf r) := by
    rw [BitVec.not_not, ← run_append]
    have e : (headOf r).data.toList ++ (bodyOf r).data.toList = (headOf r ++ bodyOf r).data.toList := by simp [ByteArray.data_append]
    rw [e]
    rw [wrap_in (by have := hs; unfold sumOf at this; omega) (by have := hs; unfold sumOf at this; omega)]; rfl
  rw [hw]
  refine Ev.bind (four_ev (sumOf (headOf r) (bodyOf r)) hs.1 hs.2) ?_
  refine Ev.congr (fun k => if_pos (by rw [fixed_size, fixed_size]; omega)) ?_
  refine Ev.congr (fun k => if_pos (by rw [ByteArray.size_append, fixed_size, fixed_size]; omega)) ?_
  exact Ev.now _
theorem bytes_yes (r : R) (hr : recOk r) : Ev (fun k => rec_Bytes.f k r.f0 r.f1 r.f2 r.f3 r.f4 r.f5) (recBytes r, 0) := by
  refine Ev.bind (check_yes r hr) (Ev.congr (fun k => if_pos rfl) ?_)
  have ht := prog_tail r hr
  rw [← flag_u8 r hr] at ht
  refine Ev.congr (fun k => ?_) ht
  split <;> rfl
theorem bytes_no (r : R) (hr : ¬ recOk r) : Ev (fun k => rec_Bytes.f k r.f0 r.f1 r.f2 r.f3 r.f4 r.f5) (⟨#[]⟩, 1) :=
  Ev.bind (check_no r hr) (Ev.congr (fun k => if_neg (by decide)) (Ev.now _))
end Go.Proofs.Ytmabdfdmccbfnaa.UBytes

/- The pure law RecBytes: whether a record may be, its bytes, and how many they are, are the page's. -/
namespace Go.Proofs.Ytmabdfdmccbfnaa.Pure
open Go Go.RowKit Go.Proofs.Ytmabdfdmccbfnaa.P Go.Proofs.Ytmabdfdmccbfnaa.URec Go.Proofs.Ytmabdfdmccbfnaa.UBytes Go.Proofs.Ytmabdfdmccbfnaa.UHeavy Go.Proofs.Ytmabdfdmccbfnaa.URec10 Go.Proofs.YtmabdfdmccbfnaaW.PrintWords Go.Proofs.YtmabdfdmccbfnaaW.PrintLast
set_option linter.unusedVariables false
set_option linter.unusedSimpArgs false

theorem rb_j4 (l : List S38) (i j : Nat) (hj : j < 10) (r : R) (h : Ev (fun k => fairwaylaw10_RecBytes.l1 k l i ((j + 1 : Nat) : Int)) true) :
    (recOk r → Ev (fun k => fairwaylaw10_RecBytes.j4 k l i j 0 (recBytes r) r.f0 r.f1 r.f2 r.f3 r.f4 r.f5) true) ∧ (¬ recOk r → Ev (fun k => fairwaylaw10_RecBytes.j4 k l i j 1 (⟨#[]⟩ : ByteArray) r.f0 r.f1 r.f2 r.f3 r.f4 r.f5) true) := by
  have hw : wrap64 ((j : Int) + 1) = ((j + 1 : Nat) : Int) := by rw [wrap_in (by omega) (by omega)]; omega
  constructor
  · intro hr
    refine Ev.step (fun k => by rw [fairwaylaw10_RecBytes.j4]) ?_
    refine Ev.bind (bytes_yes r hr) (Ev.bind (size_yes r hr) (Ev.bind (check_yes r hr) ?_))
    simp only [num10, Option.bind_some]
    refine Ev.congr (fun k => by rw [if_pos trivial, if_pos trivial, if_pos trivial, if_pos trivial, if_pos (by rw [recBytes_size]), hw]) h
  · intro hr
    refine Ev.step (fun k => by rw [fairwaylaw10_RecBytes.j4]) ?_
    refine Ev.bind (bytes_no r hr) (Ev.bind (size_no r hr) (Ev.bind (check_no r hr) ?_))
    simp only [num10, Option.bind_some]
    refine Ev.congr (fun k => by rw [if_pos trivial, if_pos trivial, if_pos trivial, if_pos trivial, if_pos (by rfl), hw]) h
theorem rb_inner (l : List S38) (i : Nat) (hi : i < l.length) (hi2 : i < 10) (h : Ev (fun k => fairwaylaw10_RecBytes.l0 k l ((i + 1 : Nat) : Int)) true) : ∀ (d j : Nat), 10 = j + d → Ev (fun k => fairwaylaw10_RecBytes.l1 k l i j) true := by
  have hw : wrap64 ((i : Int) + 1) = ((i + 1 : Nat) : Int) := by rw [wrap_in (by omega) (by omega)]; omega
  have stop : ∀ j : Int, Ev (fun k => fairwaylaw10_RecBytes.j3 k l i j false) true := fun j =>
    Ev.step (fun k => by rw [fairwaylaw10_RecBytes.j3, if_neg (by decide), hw]) h
  intro d
  induction d with
  | zero =>
    intro j hj
    refine Ev.step (f := fun k => fairwaylaw10_RecBytes.j3 k l i j false) (fun k => ?_) (stop j)
    simp only [fairwaylaw10_RecBytes.l1]
    rw [if_pos (by omega), if_pos (by omega)]
    split
    · rw [decide_eq_false (by omega)]
    · rfl
  | succ d ih =>
    intro j hj
    by_cases hjl : j < (rd_T38 l i).f0.length
    · refine Ev.step (f := fun k => fairwaylaw10_RecBytes.j3 k l i j true) (fun k => ?_) ?_
      · simp only [fairwaylaw10_RecBytes.l1]
        rw [if_pos (by omega), if_pos (by omega), if_pos (by omega), decide_eq_true (by omega)]
      · obtain ⟨h1, h2⟩ := rb_j4 l i j (by omega) (rd_T25 (rd_T38 l i).f0 j) (ih (j + 1) (by omega))
        refine Ev.step (fun k => by rw [fairwaylaw10_RecBytes.j3, if_pos rfl, if_pos (by omega), if_pos (by omega), if_pos (by omega), if_pos (by omega)]) ?_
        by_cases hr : recOk (rd_T25 (rd_T38 l i).f0 j)
        · simp only [rec_yes _ hr, Option.bind_some]
          refine Ev.congr (fun k => if_pos trivial) ?_
          exact Ev.bind (refbytes_ev _ hr) (h1 hr)
        · simp only [rec_no _ hr, Option.bind_some]
          exact Ev.congr (fun k => if_neg (by decide)) (h2 hr)
    · refine Ev.step (f := fun k => fairwaylaw10_RecBytes.j3 k l i j false) (fun k => ?_) (stop j)
      simp only [fairwaylaw10_RecBytes.l1]
      rw [if_pos (by omega), if_pos (by omega), if_neg (by omega)]
theorem rb_loop (l : List S38) (hg : ∀ x ∈ l, good38 x) : ∀ (d i : Nat), 10 = i + d → Ev (fun k => fairwaylaw10_RecBytes.l0 k l i) true := by
  have stop : ∀ i : Int, Ev (fun k => fairwaylaw10_RecBytes.j1 k l i false) true := fun i =>
    Ev.step (f := fun k => (fairwaylaw10_wakes.f k).bind fun t => some t) (fun k => by rw [fairwaylaw10_RecBytes.j1, if_neg (by decide)]) (Ev.bind wakes10_ev (Ev.now _))
  intro d
  induction d with
  | zero =>
    intro i hi
    refine Ev.step (f := fun k => fairwaylaw10_RecBytes.j1 k l i false) (fun k => ?_) (stop i)
    simp only [fairwaylaw10_RecBytes.l0]
    split
    · rw [decide_eq_false (by omega)]
    · rfl
  | succ d ih =>
    intro i hi
    by_cases hil : i < l.length
    · refine Ev.step (f := fun k => fairwaylaw10_RecBytes.j1 k l i true) (fun k => ?_) ?_
      · simp only [fairwaylaw10_RecBytes.l0]
        rw [if_pos (by omega), decide_eq_true (by omega)]
      · obtain ⟨⟨g0, g1⟩, g2⟩ := hg _ (ask_mem hil)
        obtain ⟨b, hb, _⟩ := heavy10_ev _ (rd_T38 l i).f1 g0 g1
        refine Ev.step (fun k => by rw [fairwaylaw10_RecBytes.j1, if_pos rfl, if_pos (by omega), if_pos (by omega)]) ?_
        refine Ev.bind hb ?_
        cases b with
        | true => exact Ev.congr (fun k => if_pos rfl) (Ev.now _)
        | false => exact Ev.congr (fun k => if_neg (by decide)) (rb_inner l i hil (by omega) (ih (i + 1) (by omega)) 10 0 (by omega))
    · refine Ev.step (f := fun k => fairwaylaw10_RecBytes.j1 k l i false) (fun k => ?_) (stop i)
      simp only [fairwaylaw10_RecBytes.l0]
      rw [if_neg (by omega)]
theorem RecBytes (l0 : List (S38)) (hl : l0.length * 40 ≤ 140737488351232) (hg : ∀ x ∈ l0, good38 x) : ∃ k, fairwaylaw10_RecBytes.f k l0 = some true :=
  (rb_loop l0 hg 10 0 (by omega)).rounds
end Go.Proofs.Ytmabdfdmccbfnaa.Pure

/- RecBytes: for every input of the row the law returns true, and the input reads afterwards as before. Conditions: none beside the row's own. -/
namespace Go.Proofs.Ytmabdfdmccbfnaa.recBytes
open Go.ChangeShapes Go.WideShapes Go.ChangeAt Go.RowKit Go.Proofs.YtmabdfdmccbfnaaW.PrintWords Go.Proofs.Ytmabdfdmccbfnaa.Open Go.Proofs.Ytmabdfdmccbfnaa.P
set_option linter.unusedVariables false
theorem own : ownKnob Try.prog.godebug = none := by kernel_rfl
theorem laidOut : laidOutB Try.prog = true := by kernel_rfl
theorem purely (l0 : List (S38)) (hl : l0.length * 40 ≤ 140737488351232) (hg : ∀ x ∈ l0, good38 x) : ∃ k, fairwaylaw10_RecBytes.f k l0 = some true := Pure.RecBytes l0 hl hg
set_option maxRecDepth 100000 in
theorem lifted (os : Os) (started : os.Started) (H : Type) (enc : TypeId × Value → H) :
    ReturnsInHanded {} Try.checked os 4 .any (Rows.recBytesSpec.pre6 enc Try.prog Try.f4 Rows.recBytesRow.domain false) (Rows.recBytesSpec.post enc Try.prog Try.f4 false true false false) := by
  refine returnsInHanded_of_change_sized (C := Try.checked) own started (by kernel_rfl) Try.func4
    (ChangeSpec.witness6 (enc := enc) (C := Try.checked) false ⟨#[], #[.slice none 0 0], []⟩ 8 (by kernel_rfl) (by kernel_rfl) (by kernel_rfl) (by kernel_rfl)) ?_
  intro W base args ds gs before hval0 hW hcnd hsz0 _
  have hsz : (DataW.weightsEach Try.prog (Try.f4.params.toList ++ Rows.recBytesSpec.plain.varTypes Try.prog) (ds ++ gs)).all (· ≤ reachBytes) = true := hsz0
  have hval : ∀ (j : Nat) t v, Try.f4.params[j]? = some t → args[j]? = some v → Value.okWide Try.prog W .any base t v := hval0
  have hW' := hW
  obtain ⟨p_, q_, hA0, hV, rfl, hfz, hnd⟩ := hW
  have hA : DataW.TrodAll enc Try.prog W 0 (fun _ => true) true Try.f4.params.toList args.toList ds p_ := hA0
  rw [Try.params4] at hA hval hsz
  obtain ⟨v0, vs0, d0, ds0, p0, q0, hargs, rfl, rfl, h0, r0⟩ := trodAll_cons hA
  obtain ⟨rfl, rfl, rfl⟩ := trodAll_nil r0
  obtain rfl : args = #[v0] := by cases args; simp_all
  obtain ⟨rfl, rfl⟩ := trodVars_none hV
  obtain ⟨a0, len0, cap0, rfl⟩ := okWide_slice Try.underlying22 (hval 0 22 v0 rfl rfl)
  have k0 := h0
  have lt0 : ∀ x ∈ p0, x.block < W.heap.size := by obtain ⟨m, hm⟩ := k0; exact DataW.trod_lt m _ _ _ hm
  obtain ⟨l0, rfl, hr0, hc0, hg0, hl0⟩ : ∃ l : List (S38), len0 = l.length ∧ Kd.C k38 W a0 l.length l ∧ l.length ≤ cap0 ∧ (∀ x ∈ l, good38 x) ∧ l.length * 40 ≤ 140737488351232 := by
    obtain ⟨fuel, hf⟩ := h0
    obtain ⟨x, ⟨A, c, hcs, hl, hC⟩, hg, hb⟩ := (rd_slice 40 Try.underlying22 (by kernel_rfl) (by kernel_rfl) rd38).rd enc W fuel _ _ _ hf (fun m hm => of_decide_eq_true (List.all_eq_true.1 hsz m (DataW.weights_mem_each (j := 0) rfl rfl m hm)))
    simp [Value.cells] at hcs
    obtain ⟨rfl, rfl, rfl⟩ := hcs
    exact ⟨x, rfl, hC, hl, hg, hb⟩
  clear hA0 hval0 hsz0 hsz
  obtain ⟨k, h⟩ := purely l0 hl0 hg0
  refine (fairwaylaw10_RecBytes.calls k _ _ l0 true W hr0 hc0 h).mono fun e W' ⟨he, bel0⟩ => ?_
  have bel : Below W.heap.size W W' := bel0
  subst he
  exact ⟨_, rfl, _, _, _, [], _, [], hW', trodAll_mk1 (shut_bool Try.underlying4 _), (trodAll_cons_mk (Below.trod laidOut (by kernel_rfl) (of_decide_eq_true (by kernel_rfl)) k0 bel lt0) trodAll_mk0), rfl, bel.frame _, fun h => by cases h⟩
theorem over : Rows.recBytesRow.holds Try.pinned (OpenSpec.ofChange Rows.recBytesSpec) :=
  OpenClaim.holds_of_wide 4 Try.f4 rfl rfl rfl rfl rfl rfl rfl ⟨rfl, rfl, rfl, rfl, rfl⟩ rfl rfl rfl rfl rfl (by kernel_rfl) Try.func4 (by kernel_rfl)
    (of_decide_eq_true (by kernel_rfl)) (by unfold Func.isWrapper; first | (rw [if_pos (by decide +kernel)]; kernel_rfl) | (rw [if_neg (by decide +kernel)]; exact ⟨rfl, rfl⟩))
    (fun os started H enc _ => lifted os started H enc)
theorem proved : Rows.RecBytesSaid := over
#print axioms proved
end Go.Proofs.Ytmabdfdmccbfnaa.recBytes
namespace Go.Proofs.Ytmabdfdmccbfnaa
theorem recBytes_holds : Rows.RecBytesSaid := recBytes.proved
end Go.Proofs.Ytmabdfdmccbfnaa

