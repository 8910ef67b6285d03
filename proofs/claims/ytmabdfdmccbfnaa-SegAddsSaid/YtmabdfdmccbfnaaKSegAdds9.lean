/- SegAdds: for every input of the row the law returns true, and the input reads afterwards as before. Conditions: none beside the row's own. -/
import Derived.Test.YtmabdfdmccbfnaaKSegAdds2
import Derived.Test.YtmabdfdmccbfnaaKSegAdds4
import Derived.Test.YtmabdfdmccbfnaaKSegAdds5
import Derived.Test.YtmabdfdmccbfnaaKSegAdds8
import Derived.Test.YtmabdfdmccbfnaaKSegAdds7
import Derived.Test.YtmabdfdmccbfnaaRows
import Derived.WalkKit
import Derived.ProofKit
import Derived.OpenShut
import Derived.ShutString
import Derived.ChangeOld
import Derived.Below
import Derived.SizedLaws
-- written by a program of the proving session, out of the translation; Lean checks it
namespace Go.Proofs.Ytmabdfdmccbfnaa.P
open Go.RowKit Go.Proofs.Ytmabdfdmccbfnaa.Sq Go.Proofs.YtmabdfdmccbfnaaW.PrintWords Go.Proofs.YtmabdfdmccbfnaaW.PrintLast Go.Proofs.YtmabdfdmccbfnaaW.PrintMore
attribute [local go_sem] max2_int min2_int max_two min_two max_three min_three max_four min_four   -- for this text's walks alone
set_option linter.unusedVariables false
set_option linter.unusedSimpArgs false

attribute [local go_sem high] xt_fold
/-! ### fairwayref10_Take: function 24 -/
mutual
def fairwayref10_Take.j0 : Nat → Int → ByteArray → Bool → Int → Int → ByteArray → ByteArray → Int → Bool → Option (Int × Int × ByteArray × ByteArray × Int × Bool × Int × Int)
 | 0, _, _, _, _, _, _, _, _, _ => none
 | k + 1, x6, x10, x52, x252000, x252001, x252002, x252003, x252004, x252005 => if x52 = true then (some (x252000, x252001, x252002, x252003, x252004, x252005, 0, 8)) else ((fairwayref1_TakeFixed.f k x10 8).bind fun bt258 => (if 8 ≤ (x10.size : Int) then ((fairwayref1_TakeFixed.f k (xt x10 8 x10.size) 8).bind fun bt260 => (if 16 < (x10.size : Int) then (if 17 ≤ (x10.size : Int) then ((fairwayref1_TakeFixed.f k (xt x10 17 x10.size) 2).bind fun bt262 => (if (wrap64 (bt x10 16)) > 7 then (fairwayref10_Take.j1 k x6 x10 (wrap64 (bt x10 16)) bt262.1 true x252000 x252001 x252002 x252003 x252004 x252005 bt258.1 bt260.1 (⟨#[]⟩ : ByteArray) (⟨#[]⟩ : ByteArray) 0 false) else (fairwayref10_Take.j1 k x6 x10 (wrap64 (bt x10 16)) bt262.1 (decide (bt262.1 > (wrap64 (x6 - 19)))) x252000 x252001 x252002 x252003 x252004 x252005 bt258.1 bt260.1 (⟨#[]⟩ : ByteArray) (⟨#[]⟩ : ByteArray) 0 false))) else (none)) else (none))) else (none)))
def fairwayref10_Take.j1 : Nat → Int → ByteArray → Int → Int → Bool → Int → Int → ByteArray → ByteArray → Int → Bool → Int → Int → ByteArray → ByteArray → Int → Bool → Option (Int × Int × ByteArray × ByteArray × Int × Bool × Int × Int)
 | 0, _, _, _, _, _, _, _, _, _, _, _, _, _, _, _, _, _ => none
 | k + 1, x6, x10, x12, x13, x84, x252000, x252001, x252002, x252003, x252004, x252005, x258000, x258001, x258002, x258003, x258004, x258005 => if x84 = true then (some (x252000, x252001, x252002, x252003, x252004, x252005, 0, 8)) else (if 19 ≤ (wrap64 (19 + x13)) then (if (wrap64 (19 + x13)) ≤ (x10.size : Int) then (if 0 ≤ (wrap64 (19 + x13)) then ((fairwayref10_Rec.f x258000 x258001 (xt x10 19 ((wrap64 (19 + x13)) : Int).toNat) (xt x10 ((wrap64 (19 + x13)) : Int).toNat x10.size) (Int.tmod x12 4) (decide (x12 ≥ 4))).bind fun t264 => (if t264 = true then (some (x258000, x258001, xt x10 19 ((wrap64 (19 + x13)) : Int).toNat, xt x10 ((wrap64 (19 + x13)) : Int).toNat x10.size, Int.tmod x12 4, decide (x12 ≥ 4), wrap64 (6 + x6), 0)) else (some (x252000, x252001, x252002, x252003, x252004, x252005, 0, 8)))) else (none)) else (none)) else (none))
end
def fairwayref10_Take.f (k : Nat) (a0 : ByteArray) : Option (Int × Int × ByteArray × ByteArray × Int × Bool × Int × Int) := if (a0.size : Int) < 6 then (some (0, 0, (⟨#[]⟩ : ByteArray), (⟨#[]⟩ : ByteArray), 0, false, 0, 7)) else ((fairwayref1_TakeFixed.f k a0 2).bind fun bt252 => (if (wrap64 ((a0.size : Int) - 6)) < bt252.1 then (some (0, 0, (⟨#[]⟩ : ByteArray), (⟨#[]⟩ : ByteArray), 0, false, 0, 7)) else (if 2 ≤ (a0.size : Int) then ((fairwayref1_TakeFixed.f k (xt a0 2 a0.size) 4).bind fun bt254 => (if 6 ≤ (wrap64 (6 + bt252.1)) then (if (wrap64 (6 + bt252.1)) ≤ (a0.size : Int) then (if 0 ≤ 2 then (if (xt a0 0 2).size + (xt a0 6 ((wrap64 (6 + bt252.1)) : Int).toNat).size ≤ 9223372036854775807 then ((fairwayref1_Sum.f k 0 ((xt a0 0 2) ++ (xt a0 6 ((wrap64 (6 + bt252.1)) : Int).toNat))).bind fun t256 => (if ((bt254.1) % 4294967296) = t256 then (fairwayref10_Take.j0 k bt252.1 (xt a0 6 ((wrap64 (6 + bt252.1)) : Int).toNat) (decide (bt252.1 < 19)) 0 0 (⟨#[]⟩ : ByteArray) (⟨#[]⟩ : ByteArray) 0 false) else (fairwayref10_Take.j0 k bt252.1 (xt a0 6 ((wrap64 (6 + bt252.1)) : Int).toNat) true 0 0 (⟨#[]⟩ : ByteArray) (⟨#[]⟩ : ByteArray) 0 false))) else (none)) else (none)) else (none)) else (none))) else (none))))
theorem fairwayref10_Take.mono_l : ∀ k, (∀ y0 y1 y2 y3 y4 y5 y6 y7 y8, LeO (fairwayref10_Take.j0 k y0 y1 y2 y3 y4 y5 y6 y7 y8) (fairwayref10_Take.j0 (k + 1) y0 y1 y2 y3 y4 y5 y6 y7 y8)) ∧ (∀ y0 y1 y2 y3 y4 y5 y6 y7 y8 y9 y10 y11 y12 y13 y14 y15 y16, LeO (fairwayref10_Take.j1 k y0 y1 y2 y3 y4 y5 y6 y7 y8 y9 y10 y11 y12 y13 y14 y15 y16) (fairwayref10_Take.j1 (k + 1) y0 y1 y2 y3 y4 y5 y6 y7 y8 y9 y10 y11 y12 y13 y14 y15 y16))
 | 0 => ⟨fun _ _ _ _ _ _ _ _ _ r h => by simp [fairwayref10_Take.j0] at h, fun _ _ _ _ _ _ _ _ _ _ _ _ _ _ _ _ _ r h => by simp [fairwayref10_Take.j1] at h⟩
 | k + 1 => by
  obtain ⟨ih0, ih1⟩ := fairwayref10_Take.mono_l k
  refine ⟨?_, ?_⟩
  ·intro y0 y1 y2 y3 y4 y5 y6 y7 y8
   unfold fairwayref10_Take.j0
   repeat' first
   | (with_reducible exact ih0 _ _ _ _ _ _ _ _ _)
   | (with_reducible exact ih1 _ _ _ _ _ _ _ _ _ _ _ _ _ _ _ _ _)
   | (with_reducible exact fairwayref1_Sum.mono _ _ _)
   | (with_reducible exact fairwayref1_TakeFixed.mono _ _ _)
   | (with_reducible exact LeO.refl _)
   | (with_reducible exact LeO.none _)
   | (with_reducible refine LeO.ite ?_ ?_)
   | (with_reducible refine LeO.bind ?_ (fun _ => ?_))
   | exact ih0 _ _ _ _ _ _ _ _ _
   | exact ih1 _ _ _ _ _ _ _ _ _ _ _ _ _ _ _ _ _
   | exact fairwayref1_Sum.mono _ _ _
   | exact fairwayref1_TakeFixed.mono _ _ _
   | exact LeO.none _
   | refine LeO.ite ?_ ?_
   | refine LeO.bind ?_ (fun _ => ?_)
  ·intro y0 y1 y2 y3 y4 y5 y6 y7 y8 y9 y10 y11 y12 y13 y14 y15 y16
   unfold fairwayref10_Take.j1
   repeat' first
   | (with_reducible exact ih0 _ _ _ _ _ _ _ _ _)
   | (with_reducible exact ih1 _ _ _ _ _ _ _ _ _ _ _ _ _ _ _ _ _)
   | (with_reducible exact fairwayref1_Sum.mono _ _ _)
   | (with_reducible exact fairwayref1_TakeFixed.mono _ _ _)
   | (with_reducible exact LeO.refl _)
   | (with_reducible exact LeO.none _)
   | (with_reducible refine LeO.ite ?_ ?_)
   | (with_reducible refine LeO.bind ?_ (fun _ => ?_))
   | exact ih0 _ _ _ _ _ _ _ _ _
   | exact ih1 _ _ _ _ _ _ _ _ _ _ _ _ _ _ _ _ _
   | exact fairwayref1_Sum.mono _ _ _
   | exact fairwayref1_TakeFixed.mono _ _ _
   | exact LeO.none _
   | refine LeO.ite ?_ ?_
   | refine LeO.bind ?_ (fun _ => ?_)
theorem fairwayref10_Take.mono : ∀ a0 k, LeO (fairwayref10_Take.f k a0) (fairwayref10_Take.f (k + 1) a0) := by
 intro a0 k
 obtain ⟨ih0, ih1⟩ := fairwayref10_Take.mono_l k
 unfold fairwayref10_Take.f
 repeat' first
  | (with_reducible exact ih0 _ _ _ _ _ _ _ _ _)
  | (with_reducible exact ih1 _ _ _ _ _ _ _ _ _ _ _ _ _ _ _ _ _)
  | (with_reducible exact fairwayref1_Sum.mono _ _ _)
  | (with_reducible exact fairwayref1_TakeFixed.mono _ _ _)
  | (with_reducible exact LeO.refl _)
  | (with_reducible exact LeO.none _)
  | (with_reducible refine LeO.ite ?_ ?_)
  | (with_reducible refine LeO.bind ?_ (fun _ => ?_))
  | exact ih0 _ _ _ _ _ _ _ _ _
  | exact ih1 _ _ _ _ _ _ _ _ _ _ _ _ _ _ _ _ _
  | exact fairwayref1_Sum.mono _ _ _
  | exact fairwayref1_TakeFixed.mono _ _ _
  | exact LeO.none _
  | refine LeO.ite ?_ ?_
  | refine LeO.bind ?_ (fun _ => ?_)
def fairwayref10_Take.T19 : Bool × List (List Nat × List Nat) := (true, [([], []), ([], []), ([1], [1]), ([0, 2], [0, 2]), ([], []), ([], []), ([5], [5]), ([4, 6], [4, 6]), ([0, 1, 2, 3], []), ([8, 3, 0, 1, 2, 3], [3, 8]), ([0, 1, 2, 3, 4, 5, 6, 7, 8, 9], []), ([10, 7, 9, 0, 1, 2, 3, 4, 5, 6, 7, 8, 9], [7, 10])])
def fairwayref10_Take.B19 : List Nat := [0, 0, 2, 7, 0, 0, 32, 112, 15, 271, 1023, 2047]
theorem fairwayref10_Take.tab19 : rtab .any (opsOf Try.f24 19) = fairwayref10_Take.T19 := by kernel_rfl
theorem fairwayref10_Take.bits19 : waitsOk fairwayref10_Take.T19.2 fairwayref10_Take.B19 = true := by kernel_rfl
set_option maxHeartbeats 8000000 in
set_option maxRecDepth 100000 in
theorem fairwayref10_Take.calls (k : Nat) (a0 : ByteArray) (r1 : Int) (r2 : Int) (r3 : ByteArray) (r4 : ByteArray) (r5 : Int) (r6 : Bool) (r7 : Int) (r8 : Int) (w : World) (h : fairwayref10_Take.f k a0 = some (r1, r2, r3, r4, r5, r6, r7, r8)) :
 Calls Try.prog 24 #[.string a0] w fun e w' => e = .returned (.tuple #[.agg #[.int .i64 r1, .int .i64 r2, .string r3, .string r4, .int .i64 r5, .bool r6], .int .i64 r7, .int .i64 r8]) ∧ Below w.heap.size w w' := by
 have hu25 := Try.underlying25
 have HB := Aside0.mk (Below.refl w.heap.size w)
 have H : (if (a0.size : Int) < 6 then (some (0, 0, (⟨#[]⟩ : ByteArray), (⟨#[]⟩ : ByteArray), 0, false, 0, 7)) else ((fairwayref1_TakeFixed.f k a0 2).bind fun bt252 => (if (wrap64 ((a0.size : Int) - 6)) < bt252.1 then (some (0, 0, (⟨#[]⟩ : ByteArray), (⟨#[]⟩ : ByteArray), 0, false, 0, 7)) else (if 2 ≤ (a0.size : Int) then ((fairwayref1_TakeFixed.f k (xt a0 2 a0.size) 4).bind fun bt254 => (if 6 ≤ (wrap64 (6 + bt252.1)) then (if (wrap64 (6 + bt252.1)) ≤ (a0.size : Int) then (if 0 ≤ 2 then (if (xt a0 0 2).size + (xt a0 6 ((wrap64 (6 + bt252.1)) : Int).toNat).size ≤ 9223372036854775807 then ((fairwayref1_Sum.f k 0 ((xt a0 0 2) ++ (xt a0 6 ((wrap64 (6 + bt252.1)) : Int).toNat))).bind fun t256 => (if ((bt254.1) % 4294967296) = t256 then (fairwayref10_Take.j0 k bt252.1 (xt a0 6 ((wrap64 (6 + bt252.1)) : Int).toNat) (decide (bt252.1 < 19)) 0 0 (⟨#[]⟩ : ByteArray) (⟨#[]⟩ : ByteArray) 0 false) else (fairwayref10_Take.j0 k bt252.1 (xt a0 6 ((wrap64 (6 + bt252.1)) : Int).toNat) true 0 0 (⟨#[]⟩ : ByteArray) (⟨#[]⟩ : ByteArray) 0 false))) else (none)) else (none)) else (none)) else (none))) else (none))))) = some (r1, r2, r3, r4, r5, r6, r7, r8) := h
 clear h
 by_cases c2 : (a0.size : Int) < 6
 ·rw [if_pos c2] at H
  have c2b0 : decide ((a0.size : Int) < 6) = true := decide_eq_true c2
  have c2b1 : decide (a0.size < 6) = true := decide_eq_true (by omega)
  clear c2
  simp only [Option.some.injEq, Prod.mk.injEq] at H
  obtain ⟨rfl, rfl, rfl, rfl, rfl, rfl, rfl, rfl⟩ := H
  go_enter Try.func24, Try.ntmps24
  go_wp2_with (first | ((with_reducible refine gate_dst (N := 2) rfl ?_); refine box_event ?hg (N := 2) ?hd (cs := #[.int .i64 0, .int .i64 0, .string (⟨#[]⟩ : ByteArray), .string (⟨#[]⟩ : ByteArray), .int .i64 0, .bool false]) (t := 25) ?hr ?_; (case hd => rfl); (case hg => rfl); (case hr => first | (go_simp; done) | (go_simp; rfl)); intro gb250 hg w3 hbox hb; have BK250 := Aside0.mk (hbox); have GW250 := Aside0.mk ((by rw [hg]; exact (below_size bo) : w.heap.size ≤ gb250)); have GE250 := Aside0.mk ((by rw [hg]; exact (below_size bo) : w.heap.size ≤ gb250)); replace HB := Aside0.mk (below_step bo hb); clear hb hbox hg) | ((with_reducible refine gate_dst (N := 5) rfl ?_); refine box_event ?hg (N := 5) ?hd (cs := #[.int .i64 0, .int .i64 0, .string (⟨#[]⟩ : ByteArray), .string (⟨#[]⟩ : ByteArray), .int .i64 0, .bool false]) (t := 25) ?hr ?_; (case hd => rfl); (case hg => rfl); (case hr => first | (go_simp; done) | (go_simp; rfl)); intro gb251 hg w4 hbox hb; have BK251 := Aside0.mk (hbox); have GW251 := Aside0.mk ((by rw [hg]; exact (below_size bo) : w.heap.size ≤ gb251)); have GE251 := Aside0.mk ((by rw [hg]; exact (below_size bo) : w.heap.size ≤ gb251)); replace HB := Aside0.mk (below_step bo hb); have NB250_251 := Aside0.mk (nl BK250.out hg); have NB251_250 := Aside0.mk (ng BK250.out hg); replace BK250 := Aside0.mk (bb BK250.out hb); clear hb hbox hg; have hnb5 := NB251_250.out; have hnc5 := NB250_251.out; obtain ⟨hcz6_0, hcz6_1, hcz6_2, hcz6_3, hcz6_4, hcz6_5⟩ := cl6 BK251.out; obtain ⟨hfz6_0, hfz6_1, hfz6_2, hfz6_3, hfz6_4, hfz6_5⟩ := fz6 BK251.out; obtain ⟨hcz7_0, hcz7_1, hcz7_2, hcz7_3, hcz7_4, hcz7_5⟩ := cl6 BK250.out; obtain ⟨hfz7_0, hfz7_1, hfz7_2, hfz7_3, hfz7_4, hfz7_5⟩ := fz6 BK250.out))
  refine bodyPost_ret (results_ctt rfl _ _ gb250 25 #[.int .i64 0, .int .i64 0, .string (⟨#[]⟩ : ByteArray), .string (⟨#[]⟩ : ByteArray), .int .i64 0, .bool false] (0, 0) _ rfl (by (with_reducible repeat (first | refine blk_drewN ?_ _ | refine blk_drew ?_ | refine blk_alloc ?_ _)); refine blk_put (cs := #[.int .i64 0, .int .i64 0, .string (⟨#[]⟩ : ByteArray), .string (⟨#[]⟩ : ByteArray), .int .i64 0, .bool false]) ?_ 5 _ rfl; (with_reducible repeat (first | refine blk_drewN ?_ _ | refine blk_drew ?_ | refine blk_alloc ?_ _)); refine blk_put (cs := #[.int .i64 0, .int .i64 0, .string (⟨#[]⟩ : ByteArray), .string (⟨#[]⟩ : ByteArray), .int .i64 0, .bool false]) ?_ 4 _ rfl; (with_reducible repeat (first | refine blk_drewN ?_ _ | refine blk_drew ?_ | refine blk_alloc ?_ _)); refine blk_put (cs := #[.int .i64 0, .int .i64 0, .string (⟨#[]⟩ : ByteArray), .string (⟨#[]⟩ : ByteArray), .int .i64 0, .bool false]) ?_ 3 _ rfl; (with_reducible repeat (first | refine blk_drewN ?_ _ | refine blk_drew ?_ | refine blk_alloc ?_ _)); refine blk_put (cs := #[.int .i64 0, .int .i64 0, .string (⟨#[]⟩ : ByteArray), .string (⟨#[]⟩ : ByteArray), .int .i64 0, .bool false]) ?_ 2 _ rfl; (with_reducible repeat (first | refine blk_drewN ?_ _ | refine blk_drew ?_ | refine blk_alloc ?_ _)); refine blk_put (cs := #[.int .i64 0, .int .i64 0, .string (⟨#[]⟩ : ByteArray), .string (⟨#[]⟩ : ByteArray), .int .i64 0, .bool false]) ?_ 1 _ rfl; (with_reducible repeat (first | refine blk_drewN ?_ _ | refine blk_drew ?_ | refine blk_alloc ?_ _)); refine blk_put (cs := #[.int .i64 0, .int .i64 0, .string (⟨#[]⟩ : ByteArray), .string (⟨#[]⟩ : ByteArray), .int .i64 0, .bool false]) ?_ 0 _ rfl; (with_reducible repeat (first | refine blk_drewN ?_ _ | refine blk_drew ?_ | refine blk_alloc ?_ _)); refine blk_far ?_ NB250_251.out _; (with_reducible repeat (first | refine blk_drewN ?_ _ | refine blk_drew ?_ | refine blk_alloc ?_ _)); refine blk_far ?_ NB250_251.out _; (with_reducible repeat (first | refine blk_drewN ?_ _ | refine blk_drew ?_ | refine blk_alloc ?_ _)); refine blk_far ?_ NB250_251.out _; (with_reducible repeat (first | refine blk_drewN ?_ _ | refine blk_drew ?_ | refine blk_alloc ?_ _)); refine blk_far ?_ NB250_251.out _; (with_reducible repeat (first | refine blk_drewN ?_ _ | refine blk_drew ?_ | refine blk_alloc ?_ _)); refine blk_far ?_ NB250_251.out _; (with_reducible repeat (first | refine blk_drewN ?_ _ | refine blk_drew ?_ | refine blk_alloc ?_ _)); refine blk_far ?_ NB250_251.out _; (with_reducible repeat (first | refine blk_drewN ?_ _ | refine blk_drew ?_ | refine blk_alloc ?_ _)); exact BK250.out) Try.underlying25 rfl (by kernel_rfl)) rfl ?_
  exact ⟨er, bo⟩
 ·rw [if_neg c2] at H
  have c2b0 : decide ((a0.size : Int) < 6) = false := decide_eq_false c2
  have c2b1 : decide (a0.size < 6) = false := decide_eq_false (by omega)
  clear c2
  replace H := Option.bind_eq_some_iff.mp H
  obtain ⟨⟨t252, t253⟩, A80, H⟩ := H
  replace H : (if (wrap64 ((a0.size : Int) - 6)) < t252 then (some (0, 0, (⟨#[]⟩ : ByteArray), (⟨#[]⟩ : ByteArray), 0, false, 0, 7)) else (if 2 ≤ (a0.size : Int) then ((fairwayref1_TakeFixed.f k (xt a0 2 a0.size) 4).bind fun bt254 => (if 6 ≤ (wrap64 (6 + t252)) then (if (wrap64 (6 + t252)) ≤ (a0.size : Int) then (if 0 ≤ 2 then (if (xt a0 0 2).size + (xt a0 6 ((wrap64 (6 + t252)) : Int).toNat).size ≤ 9223372036854775807 then ((fairwayref1_Sum.f k 0 ((xt a0 0 2) ++ (xt a0 6 ((wrap64 (6 + t252)) : Int).toNat))).bind fun t256 => (if ((bt254.1) % 4294967296) = t256 then (fairwayref10_Take.j0 k t252 (xt a0 6 ((wrap64 (6 + t252)) : Int).toNat) (decide (t252 < 19)) 0 0 (⟨#[]⟩ : ByteArray) (⟨#[]⟩ : ByteArray) 0 false) else (fairwayref10_Take.j0 k t252 (xt a0 6 ((wrap64 (6 + t252)) : Int).toNat) true 0 0 (⟨#[]⟩ : ByteArray) (⟨#[]⟩ : ByteArray) 0 false))) else (none)) else (none)) else (none)) else (none))) else (none))) = some (r1, r2, r3, r4, r5, r6, r7, r8) := H
  have A8 := Aside0.mk A80
  clear A80
  by_cases c9 : (wrap64 ((a0.size : Int) - 6)) < t252
  ·rw [if_pos c9] at H
   have c9b0 : decide ((wrap64 ((a0.size : Int) - 6)) < t252) = true := decide_eq_true c9
   clear c9
   simp only [Option.some.injEq, Prod.mk.injEq] at H
   obtain ⟨rfl, rfl, rfl, rfl, rfl, rfl, rfl, rfl⟩ := H
   go_enter Try.func24, Try.ntmps24
   go_wp2_with (first | ((with_reducible refine gate_dst (N := 2) rfl ?_); refine box_event ?hg (N := 2) ?hd (cs := #[.int .i64 0, .int .i64 0, .string (⟨#[]⟩ : ByteArray), .string (⟨#[]⟩ : ByteArray), .int .i64 0, .bool false]) (t := 25) ?hr ?_; (case hd => rfl); (case hg => rfl); (case hr => first | (go_simp; done) | (go_simp; rfl)); intro gb250 hg w10 hbox hb; have BK250 := Aside0.mk (hbox); have GW250 := Aside0.mk ((by rw [hg]; exact (below_size bo) : w.heap.size ≤ gb250)); have GE250 := Aside0.mk ((by rw [hg]; exact (below_size bo) : w.heap.size ≤ gb250)); replace HB := Aside0.mk (below_step bo hb); clear hb hbox hg) | ((with_reducible refine gate_dst (N := 5) rfl ?_); refine box_event ?hg (N := 5) ?hd (cs := #[.int .i64 0, .int .i64 0, .string (⟨#[]⟩ : ByteArray), .string (⟨#[]⟩ : ByteArray), .int .i64 0, .bool false]) (t := 25) ?hr ?_; (case hd => rfl); (case hg => rfl); (case hr => first | (go_simp; done) | (go_simp; rfl)); intro gb251 hg w11 hbox hb; have BK251 := Aside0.mk (hbox); have GW251 := Aside0.mk ((by rw [hg]; exact (below_size bo) : w.heap.size ≤ gb251)); have GE251 := Aside0.mk ((by rw [hg]; exact (below_size bo) : w.heap.size ≤ gb251)); replace HB := Aside0.mk (below_step bo hb); have NB250_251 := Aside0.mk (nl BK250.out hg); have NB251_250 := Aside0.mk (ng BK250.out hg); replace BK250 := Aside0.mk (bb BK250.out hb); clear hb hbox hg; have hnb12 := NB251_250.out; have hnc12 := NB250_251.out; obtain ⟨hcz13_0, hcz13_1, hcz13_2, hcz13_3, hcz13_4, hcz13_5⟩ := cl6 BK251.out; obtain ⟨hfz13_0, hfz13_1, hfz13_2, hfz13_3, hfz13_4, hfz13_5⟩ := fz6 BK251.out) | ((with_reducible refine gate_callee (f := 71) rfl ?_); refine goesL_ (some 22) rfl rfl Try.func71 (by kernel_rfl) rfl #[.string a0, .int .i64 2] rfl aa ?_; (with_reducible refine (fairwayref1_TakeFixed.calls k a0 2 t252 t253 _ A8.out).mono ?_); rintro e w' ⟨rfl, ⟨nd, rfl⟩⟩; refine ⟨_, rfl, ?_⟩; obtain ⟨hcz14_0, hcz14_1, hcz14_2, hcz14_3, hcz14_4, hcz14_5⟩ := cl6 BK250.out; obtain ⟨hfz14_0, hfz14_1, hfz14_2, hfz14_3, hfz14_4, hfz14_5⟩ := fz6 BK250.out))
   refine bodyPost_ret (results_ctt rfl _ _ gb250 25 #[.int .i64 0, .int .i64 0, .string (⟨#[]⟩ : ByteArray), .string (⟨#[]⟩ : ByteArray), .int .i64 0, .bool false] (0, 0) _ rfl (by (with_reducible repeat (first | refine blk_drewN ?_ _ | refine blk_drew ?_ | refine blk_alloc ?_ _)); refine blk_put (cs := #[.int .i64 0, .int .i64 0, .string (⟨#[]⟩ : ByteArray), .string (⟨#[]⟩ : ByteArray), .int .i64 0, .bool false]) ?_ 5 _ rfl; (with_reducible repeat (first | refine blk_drewN ?_ _ | refine blk_drew ?_ | refine blk_alloc ?_ _)); refine blk_put (cs := #[.int .i64 0, .int .i64 0, .string (⟨#[]⟩ : ByteArray), .string (⟨#[]⟩ : ByteArray), .int .i64 0, .bool false]) ?_ 4 _ rfl; (with_reducible repeat (first | refine blk_drewN ?_ _ | refine blk_drew ?_ | refine blk_alloc ?_ _)); refine blk_put (cs := #[.int .i64 0, .int .i64 0, .string (⟨#[]⟩ : ByteArray), .string (⟨#[]⟩ : ByteArray), .int .i64 0, .bool false]) ?_ 3 _ rfl; (with_reducible repeat (first | refine blk_drewN ?_ _ | refine blk_drew ?_ | refine blk_alloc ?_ _)); refine blk_put (cs := #[.int .i64 0, .int .i64 0, .string (⟨#[]⟩ : ByteArray), .string (⟨#[]⟩ : ByteArray), .int .i64 0, .bool false]) ?_ 2 _ rfl; (with_reducible repeat (first | refine blk_drewN ?_ _ | refine blk_drew ?_ | refine blk_alloc ?_ _)); refine blk_put (cs := #[.int .i64 0, .int .i64 0, .string (⟨#[]⟩ : ByteArray), .string (⟨#[]⟩ : ByteArray), .int .i64 0, .bool false]) ?_ 1 _ rfl; (with_reducible repeat (first | refine blk_drewN ?_ _ | refine blk_drew ?_ | refine blk_alloc ?_ _)); refine blk_put (cs := #[.int .i64 0, .int .i64 0, .string (⟨#[]⟩ : ByteArray), .string (⟨#[]⟩ : ByteArray), .int .i64 0, .bool false]) ?_ 0 _ rfl; (with_reducible repeat (first | refine blk_drewN ?_ _ | refine blk_drew ?_ | refine blk_alloc ?_ _)); refine blk_far ?_ NB250_251.out _; (with_reducible repeat (first | refine blk_drewN ?_ _ | refine blk_drew ?_ | refine blk_alloc ?_ _)); refine blk_far ?_ NB250_251.out _; (with_reducible repeat (first | refine blk_drewN ?_ _ | refine blk_drew ?_ | refine blk_alloc ?_ _)); refine blk_far ?_ NB250_251.out _; (with_reducible repeat (first | refine blk_drewN ?_ _ | refine blk_drew ?_ | refine blk_alloc ?_ _)); refine blk_far ?_ NB250_251.out _; (with_reducible repeat (first | refine blk_drewN ?_ _ | refine blk_drew ?_ | refine blk_alloc ?_ _)); refine blk_far ?_ NB250_251.out _; (with_reducible repeat (first | refine blk_drewN ?_ _ | refine blk_drew ?_ | refine blk_alloc ?_ _)); refine blk_far ?_ NB250_251.out _; (with_reducible repeat (first | refine blk_drewN ?_ _ | refine blk_drew ?_ | refine blk_alloc ?_ _)); exact BK250.out) Try.underlying25 rfl (by kernel_rfl)) rfl ?_
   exact ⟨er, bo⟩
  ·rw [if_neg c9] at H
   have c9b0 : decide ((wrap64 ((a0.size : Int) - 6)) < t252) = false := decide_eq_false c9
   clear c9
   by_cases c15 : 2 ≤ (a0.size : Int)
   ·rw [if_pos c15] at H
    have c15b0 := eq_true c15
    have c15b1 : decide (2 ≤ (a0.size : Int)) = true := decide_eq_true c15
    clear c15
    replace H := Option.bind_eq_some_iff.mp H
    obtain ⟨⟨t254, t255⟩, A160, H⟩ := H
    replace H : (if 6 ≤ (wrap64 (6 + t252)) then (if (wrap64 (6 + t252)) ≤ (a0.size : Int) then (if 0 ≤ 2 then (if (xt a0 0 2).size + (xt a0 6 ((wrap64 (6 + t252)) : Int).toNat).size ≤ 9223372036854775807 then ((fairwayref1_Sum.f k 0 ((xt a0 0 2) ++ (xt a0 6 ((wrap64 (6 + t252)) : Int).toNat))).bind fun t256 => (if ((t254) % 4294967296) = t256 then (fairwayref10_Take.j0 k t252 (xt a0 6 ((wrap64 (6 + t252)) : Int).toNat) (decide (t252 < 19)) 0 0 (⟨#[]⟩ : ByteArray) (⟨#[]⟩ : ByteArray) 0 false) else (fairwayref10_Take.j0 k t252 (xt a0 6 ((wrap64 (6 + t252)) : Int).toNat) true 0 0 (⟨#[]⟩ : ByteArray) (⟨#[]⟩ : ByteArray) 0 false))) else (none)) else (none)) else (none)) else (none)) = some (r1, r2, r3, r4, r5, r6, r7, r8) := H
    have A16 := Aside0.mk A160
    clear A160
    by_cases c17 : 6 ≤ (wrap64 (6 + t252))
    ·rw [if_pos c17] at H
     have c17b0 := eq_true c17
     have c17b1 : decide (6 ≤ (wrap64 (6 + t252))) = true := decide_eq_true c17
     by_cases c18 : (wrap64 (6 + t252)) ≤ (a0.size : Int)
     ·rw [if_pos c18] at H
      have c18b0 := eq_true c18
      have c18b1 : decide ((wrap64 (6 + t252)) ≤ (a0.size : Int)) = true := decide_eq_true c18
      have HC19 := Aside0.mk H
      clear H
      go_enter Try.func24, Try.ntmps24
      go_upto_region 9 with (first | ((with_reducible refine gate_dst (N := 2) rfl ?_); refine box_event ?hg (N := 2) ?hd (cs := #[.int .i64 0, .int .i64 0, .string (⟨#[]⟩ : ByteArray), .string (⟨#[]⟩ : ByteArray), .int .i64 0, .bool false]) (t := 25) ?hr ?_; (case hd => rfl); (case hg => rfl); (case hr => first | (go_simp; done) | (go_simp; rfl)); intro gb250 hg w20 hbox hb; have BK250 := Aside0.mk (hbox); have GW250 := Aside0.mk ((by rw [hg]; exact (below_size bo) : w.heap.size ≤ gb250)); have GE250 := Aside0.mk ((by rw [hg]; exact (below_size bo) : w.heap.size ≤ gb250)); replace HB := Aside0.mk (below_step bo hb); clear hb hbox hg) | ((with_reducible refine gate_dst (N := 5) rfl ?_); refine box_event ?hg (N := 5) ?hd (cs := #[.int .i64 0, .int .i64 0, .string (⟨#[]⟩ : ByteArray), .string (⟨#[]⟩ : ByteArray), .int .i64 0, .bool false]) (t := 25) ?hr ?_; (case hd => rfl); (case hg => rfl); (case hr => first | (go_simp; done) | (go_simp; rfl)); intro gb251 hg w21 hbox hb; have BK251 := Aside0.mk (hbox); have GW251 := Aside0.mk ((by rw [hg]; exact (below_size bo) : w.heap.size ≤ gb251)); have GE251 := Aside0.mk ((by rw [hg]; exact (below_size bo) : w.heap.size ≤ gb251)); replace HB := Aside0.mk (below_step bo hb); have NB250_251 := Aside0.mk (nl BK250.out hg); have NB251_250 := Aside0.mk (ng BK250.out hg); replace BK250 := Aside0.mk (bb BK250.out hb); clear hb hbox hg; have hnb22 := NB251_250.out; have hnc22 := NB250_251.out; obtain ⟨hcz23_0, hcz23_1, hcz23_2, hcz23_3, hcz23_4, hcz23_5⟩ := cl6 BK251.out; obtain ⟨hfz23_0, hfz23_1, hfz23_2, hfz23_3, hfz23_4, hfz23_5⟩ := fz6 BK251.out) | ((with_reducible refine gate_callee (f := 71) rfl ?_); refine goesL_ (some 22) rfl rfl Try.func71 (by kernel_rfl) rfl #[.string a0, .int .i64 2] rfl aa ?_; (with_reducible refine (fairwayref1_TakeFixed.calls k a0 2 t252 t253 _ A8.out).mono ?_); rintro e w' ⟨rfl, ⟨nd, rfl⟩⟩; refine ⟨_, rfl, ?_⟩) | ((with_reducible refine gate_callee (f := 71) rfl ?_); refine goesL_ (some 34) rfl rfl Try.func71 (by kernel_rfl) rfl #[.string (xt a0 2 a0.size), .int .i64 4] rfl aa ?_; (with_reducible refine (fairwayref1_TakeFixed.calls k (xt a0 2 a0.size) 4 t254 t255 _ A16.out).mono ?_); rintro e w' ⟨rfl, ⟨nd, rfl⟩⟩; refine ⟨_, rfl, ?_⟩))
      (try simp only [Act.put, List.setIfInBounds_toArray, List.set_cons_zero, List.set_cons_succ])
      go_cut [52] (fun v52 wc => ∃ (kq : Nat) (x52_18 : Bool), v52 = .bool x52_18 ∧ Aside0 (fairwayref10_Take.j0 kq t252 (xt a0 6 ((wrap64 (6 + t252)) : Int).toNat) x52_18 0 0 (⟨#[]⟩ : ByteArray) (⟨#[]⟩ : ByteArray) 0 false = some (r1, r2, r3, r4, r5, r6, r7, r8)) ∧ Aside0 (kq ≤ k) ∧ Aside0 (wc.heap[gb250]? = some (.cells #[.int .i64 0, .int .i64 0, .string (⟨#[]⟩ : ByteArray), .string (⟨#[]⟩ : ByteArray), .int .i64 0, .bool false] 25 (0, 0))) ∧ Aside0 (wc.heap[gb251]? = some (.cells #[.int .i64 0, .int .i64 0, .string (⟨#[]⟩ : ByteArray), .string (⟨#[]⟩ : ByteArray), .int .i64 0, .bool false] 25 (0, 0))) ∧ Aside0 (Below w.heap.size w wc))
      case first =>
       have H := HC19.out
       clear HC19
       by_cases c24 : 0 ≤ 2
       ·rw [if_pos c24] at H
        have c24b0 := eq_true c24
        have c24b1 : decide (0 ≤ 2) = true := decide_eq_true c24
        clear c24
        have c25b0 := eq_true (od : 2 ≤ (a0.size : Int))
        by_cases c26 : (xt a0 0 2).size + (xt a0 6 ((wrap64 (6 + t252)) : Int).toNat).size ≤ 9223372036854775807
        ·rw [if_pos c26] at H
         have c26b0 := eq_true c26
         have c26b1 : decide ((xt a0 0 2).size + (xt a0 6 ((wrap64 (6 + t252)) : Int).toNat).size ≤ 9223372036854775807) = true := decide_eq_true c26
         try have c26b2 : (9223372036854775807 < (xt a0 0 2).size + (xt a0 6 ((wrap64 (6 + t252)) : Int).toNat).size) = False := eq_false (Nat.not_lt.2 c26)
         replace H := Option.bind_eq_some_iff.mp H
         obtain ⟨t256, A270, H⟩ := H
         replace H : (if ((t254) % 4294967296) = t256 then (fairwayref10_Take.j0 k t252 (xt a0 6 ((wrap64 (6 + t252)) : Int).toNat) (decide (t252 < 19)) 0 0 (⟨#[]⟩ : ByteArray) (⟨#[]⟩ : ByteArray) 0 false) else (fairwayref10_Take.j0 k t252 (xt a0 6 ((wrap64 (6 + t252)) : Int).toNat) true 0 0 (⟨#[]⟩ : ByteArray) (⟨#[]⟩ : ByteArray) 0 false)) = some (r1, r2, r3, r4, r5, r6, r7, r8) := H
         have A27 := Aside0.mk A270
         clear A270
         by_cases c28 : ((t254) % 4294967296) = t256
         ·rw [if_pos c28] at H
          have c28b0 : (((t254) % 4294967296) == t256) = true := beq_iff_eq.mpr c28
          have c28b1 : (((t254) % 4294967296) != t256) = false := bne_eq_false_iff_eq.mpr c28
          clear c28
          (first | rw [c28b0] | (simp only [i64_w, i32_w]; rw [c28b0]) | skip)
          have H' := Aside0.mk H
          clear H
          go_wp2_with (first | ((with_reducible refine gate_callee (f := 70) rfl ?_); refine goesL_ (some 47) rfl rfl Try.func70 (by kernel_rfl) rfl #[.int .u32 0, .string ((xt a0 0 2) ++ (xt a0 6 ((wrap64 (6 + t252)) : Int).toNat))] rfl aa ?_; (with_reducible refine (fairwayref1_Sum.calls k 0 ((xt a0 0 2) ++ (xt a0 6 ((wrap64 (6 + t252)) : Int).toNat)) t256 _ A27.out).mono ?_); rintro e w' ⟨rfl, ⟨nd, rfl⟩⟩; refine ⟨_, rfl, ?_⟩))
          go_meet
          case rel => exact ⟨_, (decide (t252 < 19)), ap, H', ⟨by first | omega | exact Nat.le_refl _⟩, ⟨by (with_reducible repeat (first | refine blk_drewN ?_ _ | refine blk_drew ?_ | refine blk_alloc ?_ _)); refine blk_far ?_ NB250_251.out _; (with_reducible repeat (first | refine blk_drewN ?_ _ | refine blk_drew ?_ | refine blk_alloc ?_ _)); refine blk_far ?_ NB250_251.out _; (with_reducible repeat (first | refine blk_drewN ?_ _ | refine blk_drew ?_ | refine blk_alloc ?_ _)); refine blk_far ?_ NB250_251.out _; (with_reducible repeat (first | refine blk_drewN ?_ _ | refine blk_drew ?_ | refine blk_alloc ?_ _)); refine blk_far ?_ NB250_251.out _; (with_reducible repeat (first | refine blk_drewN ?_ _ | refine blk_drew ?_ | refine blk_alloc ?_ _)); refine blk_far ?_ NB250_251.out _; (with_reducible repeat (first | refine blk_drewN ?_ _ | refine blk_drew ?_ | refine blk_alloc ?_ _)); refine blk_far ?_ NB250_251.out _; (with_reducible repeat (first | refine blk_drewN ?_ _ | refine blk_drew ?_ | refine blk_alloc ?_ _)); exact BK250.out⟩, ⟨by (with_reducible repeat (first | refine blk_drewN ?_ _ | refine blk_drew ?_ | refine blk_alloc ?_ _)); refine blk_put (cs := #[.int .i64 0, .int .i64 0, .string (⟨#[]⟩ : ByteArray), .string (⟨#[]⟩ : ByteArray), .int .i64 0, .bool false]) ?_ 5 _ rfl; (with_reducible repeat (first | refine blk_drewN ?_ _ | refine blk_drew ?_ | refine blk_alloc ?_ _)); refine blk_put (cs := #[.int .i64 0, .int .i64 0, .string (⟨#[]⟩ : ByteArray), .string (⟨#[]⟩ : ByteArray), .int .i64 0, .bool false]) ?_ 4 _ rfl; (with_reducible repeat (first | refine blk_drewN ?_ _ | refine blk_drew ?_ | refine blk_alloc ?_ _)); refine blk_put (cs := #[.int .i64 0, .int .i64 0, .string (⟨#[]⟩ : ByteArray), .string (⟨#[]⟩ : ByteArray), .int .i64 0, .bool false]) ?_ 3 _ rfl; (with_reducible repeat (first | refine blk_drewN ?_ _ | refine blk_drew ?_ | refine blk_alloc ?_ _)); refine blk_put (cs := #[.int .i64 0, .int .i64 0, .string (⟨#[]⟩ : ByteArray), .string (⟨#[]⟩ : ByteArray), .int .i64 0, .bool false]) ?_ 2 _ rfl; (with_reducible repeat (first | refine blk_drewN ?_ _ | refine blk_drew ?_ | refine blk_alloc ?_ _)); refine blk_put (cs := #[.int .i64 0, .int .i64 0, .string (⟨#[]⟩ : ByteArray), .string (⟨#[]⟩ : ByteArray), .int .i64 0, .bool false]) ?_ 1 _ rfl; (with_reducible repeat (first | refine blk_drewN ?_ _ | refine blk_drew ?_ | refine blk_alloc ?_ _)); refine blk_put (cs := #[.int .i64 0, .int .i64 0, .string (⟨#[]⟩ : ByteArray), .string (⟨#[]⟩ : ByteArray), .int .i64 0, .bool false]) ?_ 0 _ rfl; (with_reducible repeat (first | refine blk_drewN ?_ _ | refine blk_drew ?_ | refine blk_alloc ?_ _)); exact BK251.out⟩, ⟨bo⟩⟩
         ·rw [if_neg c28] at H
          have c28b0 : (((t254) % 4294967296) == t256) = false := beq_eq_false_iff_ne.mpr c28
          have c28b1 : (((t254) % 4294967296) != t256) = true := bne_iff_ne.mpr c28
          (first | rw [c28b0] | (simp only [i64_w, i32_w]; rw [c28b0]) | skip)
          have H' := Aside0.mk H
          clear H
          go_wp2_with (first | ((with_reducible refine gate_callee (f := 70) rfl ?_); refine goesL_ (some 47) rfl rfl Try.func70 (by kernel_rfl) rfl #[.int .u32 0, .string ((xt a0 0 2) ++ (xt a0 6 ((wrap64 (6 + t252)) : Int).toNat))] rfl aa ?_; (with_reducible refine (fairwayref1_Sum.calls k 0 ((xt a0 0 2) ++ (xt a0 6 ((wrap64 (6 + t252)) : Int).toNat)) t256 _ A27.out).mono ?_); rintro e w' ⟨rfl, ⟨nd, rfl⟩⟩; refine ⟨_, rfl, ?_⟩))
          go_meet
          case rel => exact ⟨_, (true), ap, H', ⟨by first | omega | exact Nat.le_refl _⟩, ⟨by (with_reducible repeat (first | refine blk_drewN ?_ _ | refine blk_drew ?_ | refine blk_alloc ?_ _)); refine blk_far ?_ NB250_251.out _; (with_reducible repeat (first | refine blk_drewN ?_ _ | refine blk_drew ?_ | refine blk_alloc ?_ _)); refine blk_far ?_ NB250_251.out _; (with_reducible repeat (first | refine blk_drewN ?_ _ | refine blk_drew ?_ | refine blk_alloc ?_ _)); refine blk_far ?_ NB250_251.out _; (with_reducible repeat (first | refine blk_drewN ?_ _ | refine blk_drew ?_ | refine blk_alloc ?_ _)); refine blk_far ?_ NB250_251.out _; (with_reducible repeat (first | refine blk_drewN ?_ _ | refine blk_drew ?_ | refine blk_alloc ?_ _)); refine blk_far ?_ NB250_251.out _; (with_reducible repeat (first | refine blk_drewN ?_ _ | refine blk_drew ?_ | refine blk_alloc ?_ _)); refine blk_far ?_ NB250_251.out _; (with_reducible repeat (first | refine blk_drewN ?_ _ | refine blk_drew ?_ | refine blk_alloc ?_ _)); exact BK250.out⟩, ⟨by (with_reducible repeat (first | refine blk_drewN ?_ _ | refine blk_drew ?_ | refine blk_alloc ?_ _)); refine blk_put (cs := #[.int .i64 0, .int .i64 0, .string (⟨#[]⟩ : ByteArray), .string (⟨#[]⟩ : ByteArray), .int .i64 0, .bool false]) ?_ 5 _ rfl; (with_reducible repeat (first | refine blk_drewN ?_ _ | refine blk_drew ?_ | refine blk_alloc ?_ _)); refine blk_put (cs := #[.int .i64 0, .int .i64 0, .string (⟨#[]⟩ : ByteArray), .string (⟨#[]⟩ : ByteArray), .int .i64 0, .bool false]) ?_ 4 _ rfl; (with_reducible repeat (first | refine blk_drewN ?_ _ | refine blk_drew ?_ | refine blk_alloc ?_ _)); refine blk_put (cs := #[.int .i64 0, .int .i64 0, .string (⟨#[]⟩ : ByteArray), .string (⟨#[]⟩ : ByteArray), .int .i64 0, .bool false]) ?_ 3 _ rfl; (with_reducible repeat (first | refine blk_drewN ?_ _ | refine blk_drew ?_ | refine blk_alloc ?_ _)); refine blk_put (cs := #[.int .i64 0, .int .i64 0, .string (⟨#[]⟩ : ByteArray), .string (⟨#[]⟩ : ByteArray), .int .i64 0, .bool false]) ?_ 2 _ rfl; (with_reducible repeat (first | refine blk_drewN ?_ _ | refine blk_drew ?_ | refine blk_alloc ?_ _)); refine blk_put (cs := #[.int .i64 0, .int .i64 0, .string (⟨#[]⟩ : ByteArray), .string (⟨#[]⟩ : ByteArray), .int .i64 0, .bool false]) ?_ 1 _ rfl; (with_reducible repeat (first | refine blk_drewN ?_ _ | refine blk_drew ?_ | refine blk_alloc ?_ _)); refine blk_put (cs := #[.int .i64 0, .int .i64 0, .string (⟨#[]⟩ : ByteArray), .string (⟨#[]⟩ : ByteArray), .int .i64 0, .bool false]) ?_ 0 _ rfl; (with_reducible repeat (first | refine blk_drewN ?_ _ | refine blk_drew ?_ | refine blk_alloc ?_ _)); exact BK251.out⟩, ⟨bo⟩⟩
        ·rw [if_neg c26] at H
         exact absurd H (by simp)
       ·rw [if_neg c24] at H
        exact absurd H (by simp)
      case rest =>
       clear HC19
       try clear c1
       try clear c2
       try clear c2b0
       try clear c2b1
       try clear p2
       try clear c5
       try clear p6
       try clear c7
       try clear c9
       try clear c9b0
       try clear c12
       try clear c15
       try clear c15b0
       try clear c15b1
       try clear c17
       try clear c17b0
       try clear c17b1
       try clear c18
       try clear c18b0
       try clear c18b1
       try clear c22
       try clear c24
       try clear c24b0
       try clear c24b1
       try clear c25
       try clear c25b0
       try clear c26
       try clear c26b0
       try clear c26b1
       try clear c26b2
       try clear c28
       try clear c28b0
       try clear c28b1
       try clear hcz13_0
       try clear hcz13_1
       try clear hcz13_2
       try clear hcz13_3
       try clear hcz13_4
       try clear hcz13_5
       try clear hcz14_0
       try clear hcz14_1
       try clear hcz14_2
       try clear hcz14_3
       try clear hcz14_4
       try clear hcz14_5
       try clear hcz23_0
       try clear hcz23_1
       try clear hcz23_2
       try clear hcz23_3
       try clear hcz23_4
       try clear hcz23_5
       try clear hcz6_0
       try clear hcz6_1
       try clear hcz6_2
       try clear hcz6_3
       try clear hcz6_4
       try clear hcz6_5
       try clear hcz7_0
       try clear hcz7_1
       try clear hcz7_2
       try clear hcz7_3
       try clear hcz7_4
       try clear hcz7_5
       try clear hfz13_0
       try clear hfz13_1
       try clear hfz13_2
       try clear hfz13_3
       try clear hfz13_4
       try clear hfz13_5
       try clear hfz14_0
       try clear hfz14_1
       try clear hfz14_2
       try clear hfz14_3
       try clear hfz14_4
       try clear hfz14_5
       try clear hfz23_0
       try clear hfz23_1
       try clear hfz23_2
       try clear hfz23_3
       try clear hfz23_4
       try clear hfz23_5
       try clear hfz6_0
       try clear hfz6_1
       try clear hfz6_2
       try clear hfz6_3
       try clear hfz6_4
       try clear hfz6_5
       try clear hfz7_0
       try clear hfz7_1
       try clear hfz7_2
       try clear hfz7_3
       try clear hfz7_4
       try clear hfz7_5
       obtain ⟨kq, x52_18, rfl, HA, HJ18, BK250, BK251, HB⟩ := hcut
       cases kq with
       | zero => exact absurd HA.out (by simp [fairwayref10_Take.j0])
       | succ kj18 =>
        have H := HA.out
        clear HA
        simp only [fairwayref10_Take.j0] at H
        by_cases c29 : x52_18 = true
        ·subst c29
         have H1 : (some (0, 0, (⟨#[]⟩ : ByteArray), (⟨#[]⟩ : ByteArray), 0, false, 0, 8)) = some (r1, r2, r3, r4, r5, r6, r7, r8) := by rw [if_pos rfl] at H; exact H
         clear H
         have H := H1
         clear H1
         simp only [Option.some.injEq, Prod.mk.injEq] at H
         obtain ⟨rfl, rfl, rfl, rfl, rfl, rfl, rfl, rfl⟩ := H
         have hnb30 := NB251_250.out
         have hnc30 := NB250_251.out
         have hcz31_0 : wc.cell? ⟨gb251, 0, none⟩ = some (.int .i64 0) := (blk_cell BK251.out 0).trans rfl
         have hcz31_1 : wc.cell? ⟨gb251, 1, none⟩ = some (.int .i64 0) := (blk_cell BK251.out 1).trans rfl
         have hcz31_2 : wc.cell? ⟨gb251, 2, none⟩ = some (.string (⟨#[]⟩ : ByteArray)) := (blk_cell BK251.out 2).trans rfl
         have hcz31_3 : wc.cell? ⟨gb251, 3, none⟩ = some (.string (⟨#[]⟩ : ByteArray)) := (blk_cell BK251.out 3).trans rfl
         have hcz31_4 : wc.cell? ⟨gb251, 4, none⟩ = some (.int .i64 0) := (blk_cell BK251.out 4).trans rfl
         have hcz31_5 : wc.cell? ⟨gb251, 5, none⟩ = some (.bool false) := (blk_cell BK251.out 5).trans rfl
         have hfz31_0 := blk_frozen BK251.out 0
         have hfz31_1 := blk_frozen BK251.out 1
         have hfz31_2 := blk_frozen BK251.out 2
         have hfz31_3 := blk_frozen BK251.out 3
         have hfz31_4 := blk_frozen BK251.out 4
         have hfz31_5 := blk_frozen BK251.out 5
         have hcz32_0 : wc.cell? ⟨gb250, 0, none⟩ = some (.int .i64 0) := (blk_cell BK250.out 0).trans rfl
         have hcz32_1 : wc.cell? ⟨gb250, 1, none⟩ = some (.int .i64 0) := (blk_cell BK250.out 1).trans rfl
         have hcz32_2 : wc.cell? ⟨gb250, 2, none⟩ = some (.string (⟨#[]⟩ : ByteArray)) := (blk_cell BK250.out 2).trans rfl
         have hcz32_3 : wc.cell? ⟨gb250, 3, none⟩ = some (.string (⟨#[]⟩ : ByteArray)) := (blk_cell BK250.out 3).trans rfl
         have hcz32_4 : wc.cell? ⟨gb250, 4, none⟩ = some (.int .i64 0) := (blk_cell BK250.out 4).trans rfl
         have hcz32_5 : wc.cell? ⟨gb250, 5, none⟩ = some (.bool false) := (blk_cell BK250.out 5).trans rfl
         have hfz32_0 := blk_frozen BK250.out 0
         have hfz32_1 := blk_frozen BK250.out 1
         have hfz32_2 := blk_frozen BK250.out 2
         have hfz32_3 := blk_frozen BK250.out 3
         have hfz32_4 := blk_frozen BK250.out 4
         have hfz32_5 := blk_frozen BK250.out 5
         go_wp2
         refine bodyPost_ret (results_ctt rfl _ _ gb250 25 #[.int .i64 0, .int .i64 0, .string (⟨#[]⟩ : ByteArray), .string (⟨#[]⟩ : ByteArray), .int .i64 0, .bool false] (0, 0) _ rfl (by (with_reducible repeat (first | refine blk_drewN ?_ _ | refine blk_drew ?_ | refine blk_alloc ?_ _)); refine blk_put (cs := #[.int .i64 0, .int .i64 0, .string (⟨#[]⟩ : ByteArray), .string (⟨#[]⟩ : ByteArray), .int .i64 0, .bool false]) ?_ 5 _ rfl; (with_reducible repeat (first | refine blk_drewN ?_ _ | refine blk_drew ?_ | refine blk_alloc ?_ _)); refine blk_put (cs := #[.int .i64 0, .int .i64 0, .string (⟨#[]⟩ : ByteArray), .string (⟨#[]⟩ : ByteArray), .int .i64 0, .bool false]) ?_ 4 _ rfl; (with_reducible repeat (first | refine blk_drewN ?_ _ | refine blk_drew ?_ | refine blk_alloc ?_ _)); refine blk_put (cs := #[.int .i64 0, .int .i64 0, .string (⟨#[]⟩ : ByteArray), .string (⟨#[]⟩ : ByteArray), .int .i64 0, .bool false]) ?_ 3 _ rfl; (with_reducible repeat (first | refine blk_drewN ?_ _ | refine blk_drew ?_ | refine blk_alloc ?_ _)); refine blk_put (cs := #[.int .i64 0, .int .i64 0, .string (⟨#[]⟩ : ByteArray), .string (⟨#[]⟩ : ByteArray), .int .i64 0, .bool false]) ?_ 2 _ rfl; (with_reducible repeat (first | refine blk_drewN ?_ _ | refine blk_drew ?_ | refine blk_alloc ?_ _)); refine blk_put (cs := #[.int .i64 0, .int .i64 0, .string (⟨#[]⟩ : ByteArray), .string (⟨#[]⟩ : ByteArray), .int .i64 0, .bool false]) ?_ 1 _ rfl; (with_reducible repeat (first | refine blk_drewN ?_ _ | refine blk_drew ?_ | refine blk_alloc ?_ _)); refine blk_put (cs := #[.int .i64 0, .int .i64 0, .string (⟨#[]⟩ : ByteArray), .string (⟨#[]⟩ : ByteArray), .int .i64 0, .bool false]) ?_ 0 _ rfl; (with_reducible repeat (first | refine blk_drewN ?_ _ | refine blk_drew ?_ | refine blk_alloc ?_ _)); exact BK250.out) Try.underlying25 rfl (by kernel_rfl)) rfl ?_
         exact ⟨er, bo⟩
        ·replace c29 := Bool.eq_false_iff.mpr c29
         subst c29
         have H1 : ((fairwayref1_TakeFixed.f kj18 (xt a0 6 ((wrap64 (6 + t252)) : Int).toNat) 8).bind fun bt258 => (if 8 ≤ ((xt a0 6 ((wrap64 (6 + t252)) : Int).toNat).size : Int) then ((fairwayref1_TakeFixed.f kj18 (xt (xt a0 6 ((wrap64 (6 + t252)) : Int).toNat) 8 (xt a0 6 ((wrap64 (6 + t252)) : Int).toNat).size) 8).bind fun bt260 => (if 16 < ((xt a0 6 ((wrap64 (6 + t252)) : Int).toNat).size : Int) then (if 17 ≤ ((xt a0 6 ((wrap64 (6 + t252)) : Int).toNat).size : Int) then ((fairwayref1_TakeFixed.f kj18 (xt (xt a0 6 ((wrap64 (6 + t252)) : Int).toNat) 17 (xt a0 6 ((wrap64 (6 + t252)) : Int).toNat).size) 2).bind fun bt262 => (if (wrap64 (bt (xt a0 6 ((wrap64 (6 + t252)) : Int).toNat) 16)) > 7 then (fairwayref10_Take.j1 kj18 t252 (xt a0 6 ((wrap64 (6 + t252)) : Int).toNat) (wrap64 (bt (xt a0 6 ((wrap64 (6 + t252)) : Int).toNat) 16)) bt262.1 true 0 0 (⟨#[]⟩ : ByteArray) (⟨#[]⟩ : ByteArray) 0 false bt258.1 bt260.1 (⟨#[]⟩ : ByteArray) (⟨#[]⟩ : ByteArray) 0 false) else (fairwayref10_Take.j1 kj18 t252 (xt a0 6 ((wrap64 (6 + t252)) : Int).toNat) (wrap64 (bt (xt a0 6 ((wrap64 (6 + t252)) : Int).toNat) 16)) bt262.1 (decide (bt262.1 > (wrap64 (t252 - 19)))) 0 0 (⟨#[]⟩ : ByteArray) (⟨#[]⟩ : ByteArray) 0 false bt258.1 bt260.1 (⟨#[]⟩ : ByteArray) (⟨#[]⟩ : ByteArray) 0 false))) else (none)) else (none))) else (none))) = some (r1, r2, r3, r4, r5, r6, r7, r8) := by rw [if_neg (show ¬ (false = true) by decide)] at H; exact H
         clear H
         have H := H1
         clear H1
         replace H := Option.bind_eq_some_iff.mp H
         obtain ⟨⟨t258, t259⟩, A330, H⟩ := H
         replace H : (if 8 ≤ ((xt a0 6 ((wrap64 (6 + t252)) : Int).toNat).size : Int) then ((fairwayref1_TakeFixed.f kj18 (xt (xt a0 6 ((wrap64 (6 + t252)) : Int).toNat) 8 (xt a0 6 ((wrap64 (6 + t252)) : Int).toNat).size) 8).bind fun bt260 => (if 16 < ((xt a0 6 ((wrap64 (6 + t252)) : Int).toNat).size : Int) then (if 17 ≤ ((xt a0 6 ((wrap64 (6 + t252)) : Int).toNat).size : Int) then ((fairwayref1_TakeFixed.f kj18 (xt (xt a0 6 ((wrap64 (6 + t252)) : Int).toNat) 17 (xt a0 6 ((wrap64 (6 + t252)) : Int).toNat).size) 2).bind fun bt262 => (if (wrap64 (bt (xt a0 6 ((wrap64 (6 + t252)) : Int).toNat) 16)) > 7 then (fairwayref10_Take.j1 kj18 t252 (xt a0 6 ((wrap64 (6 + t252)) : Int).toNat) (wrap64 (bt (xt a0 6 ((wrap64 (6 + t252)) : Int).toNat) 16)) bt262.1 true 0 0 (⟨#[]⟩ : ByteArray) (⟨#[]⟩ : ByteArray) 0 false t258 bt260.1 (⟨#[]⟩ : ByteArray) (⟨#[]⟩ : ByteArray) 0 false) else (fairwayref10_Take.j1 kj18 t252 (xt a0 6 ((wrap64 (6 + t252)) : Int).toNat) (wrap64 (bt (xt a0 6 ((wrap64 (6 + t252)) : Int).toNat) 16)) bt262.1 (decide (bt262.1 > (wrap64 (t252 - 19)))) 0 0 (⟨#[]⟩ : ByteArray) (⟨#[]⟩ : ByteArray) 0 false t258 bt260.1 (⟨#[]⟩ : ByteArray) (⟨#[]⟩ : ByteArray) 0 false))) else (none)) else (none))) else (none)) = some (r1, r2, r3, r4, r5, r6, r7, r8) := H
         have A33 := Aside0.mk A330
         clear A330
         by_cases c34 : 8 ≤ ((xt a0 6 ((wrap64 (6 + t252)) : Int).toNat).size : Int)
         ·rw [if_pos c34] at H
          have c34b0 := eq_true c34
          have c34b1 : decide (8 ≤ ((xt a0 6 ((wrap64 (6 + t252)) : Int).toNat).size : Int)) = true := decide_eq_true c34
          replace H := Option.bind_eq_some_iff.mp H
          obtain ⟨⟨t260, t261⟩, A350, H⟩ := H
          replace H : (if 16 < ((xt a0 6 ((wrap64 (6 + t252)) : Int).toNat).size : Int) then (if 17 ≤ ((xt a0 6 ((wrap64 (6 + t252)) : Int).toNat).size : Int) then ((fairwayref1_TakeFixed.f kj18 (xt (xt a0 6 ((wrap64 (6 + t252)) : Int).toNat) 17 (xt a0 6 ((wrap64 (6 + t252)) : Int).toNat).size) 2).bind fun bt262 => (if (wrap64 (bt (xt a0 6 ((wrap64 (6 + t252)) : Int).toNat) 16)) > 7 then (fairwayref10_Take.j1 kj18 t252 (xt a0 6 ((wrap64 (6 + t252)) : Int).toNat) (wrap64 (bt (xt a0 6 ((wrap64 (6 + t252)) : Int).toNat) 16)) bt262.1 true 0 0 (⟨#[]⟩ : ByteArray) (⟨#[]⟩ : ByteArray) 0 false t258 t260 (⟨#[]⟩ : ByteArray) (⟨#[]⟩ : ByteArray) 0 false) else (fairwayref10_Take.j1 kj18 t252 (xt a0 6 ((wrap64 (6 + t252)) : Int).toNat) (wrap64 (bt (xt a0 6 ((wrap64 (6 + t252)) : Int).toNat) 16)) bt262.1 (decide (bt262.1 > (wrap64 (t252 - 19)))) 0 0 (⟨#[]⟩ : ByteArray) (⟨#[]⟩ : ByteArray) 0 false t258 t260 (⟨#[]⟩ : ByteArray) (⟨#[]⟩ : ByteArray) 0 false))) else (none)) else (none)) = some (r1, r2, r3, r4, r5, r6, r7, r8) := H
          have A35 := Aside0.mk A350
          clear A350
          by_cases c36 : 16 < ((xt a0 6 ((wrap64 (6 + t252)) : Int).toNat).size : Int)
          ·rw [if_pos c36] at H
           have c36b0 : decide (16 < ((xt a0 6 ((wrap64 (6 + t252)) : Int).toNat).size : Int)) = true := decide_eq_true c36
           have c36b1 : decide (16 < (xt a0 6 ((wrap64 (6 + t252)) : Int).toNat).size) = true := decide_eq_true (by omega)
           clear c36
           by_cases c38 : 17 ≤ ((xt a0 6 ((wrap64 (6 + t252)) : Int).toNat).size : Int)
           ·rw [if_pos c38] at H
            have c38b0 := eq_true c38
            have c38b1 : decide (17 ≤ ((xt a0 6 ((wrap64 (6 + t252)) : Int).toNat).size : Int)) = true := decide_eq_true c38
            replace H := Option.bind_eq_some_iff.mp H
            obtain ⟨⟨t262, t263⟩, A390, H⟩ := H
            replace H : (if (wrap64 (bt (xt a0 6 ((wrap64 (6 + t252)) : Int).toNat) 16)) > 7 then (fairwayref10_Take.j1 kj18 t252 (xt a0 6 ((wrap64 (6 + t252)) : Int).toNat) (wrap64 (bt (xt a0 6 ((wrap64 (6 + t252)) : Int).toNat) 16)) t262 true 0 0 (⟨#[]⟩ : ByteArray) (⟨#[]⟩ : ByteArray) 0 false t258 t260 (⟨#[]⟩ : ByteArray) (⟨#[]⟩ : ByteArray) 0 false) else (fairwayref10_Take.j1 kj18 t252 (xt a0 6 ((wrap64 (6 + t252)) : Int).toNat) (wrap64 (bt (xt a0 6 ((wrap64 (6 + t252)) : Int).toNat) 16)) t262 (decide (t262 > (wrap64 (t252 - 19)))) 0 0 (⟨#[]⟩ : ByteArray) (⟨#[]⟩ : ByteArray) 0 false t258 t260 (⟨#[]⟩ : ByteArray) (⟨#[]⟩ : ByteArray) 0 false)) = some (r1, r2, r3, r4, r5, r6, r7, r8) := H
            have A39 := Aside0.mk A390
            clear A390
            have HC40 := Aside0.mk H
            clear H
            go_upto_region 16 with (first | ((with_reducible refine gate_dst (N := 11) rfl ?_); refine box_event ?hg (N := 11) ?hd (cs := #[.int .i64 0, .int .i64 0, .string (⟨#[]⟩ : ByteArray), .string (⟨#[]⟩ : ByteArray), .int .i64 0, .bool false]) (t := 25) ?hr ?_; (case hd => rfl); (case hg => rfl); (case hr => first | (go_simp; done) | (go_simp; rfl)); intro gb257 hg w41 hbox hb; have BK257 := Aside0.mk (hbox); have GW257 := Aside0.mk ((by rw [hg]; exact (below_size bo) : w.heap.size ≤ gb257)); have GE257 := Aside0.mk ((by rw [hg]; exact (below_size bo) : w.heap.size ≤ gb257)); replace HB := Aside0.mk (below_step bo hb); have NB250_257 := Aside0.mk (nl BK250.out hg); have NB257_250 := Aside0.mk (ng BK250.out hg); replace BK250 := Aside0.mk (bb BK250.out hb); have NB251_257 := Aside0.mk (nl BK251.out hg); have NB257_251 := Aside0.mk (ng BK251.out hg); replace BK251 := Aside0.mk (bb BK251.out hb); clear hb hbox hg; have hnb42 := NB257_250.out; have hnc42 := NB250_257.out; have hnb43 := NB257_251.out; have hnc43 := NB251_257.out; obtain ⟨hcz44_0, hcz44_1, hcz44_2, hcz44_3, hcz44_4, hcz44_5⟩ := cl6 BK257.out; obtain ⟨hfz44_0, hfz44_1, hfz44_2, hfz44_3, hfz44_4, hfz44_5⟩ := fz6 BK257.out) | ((with_reducible refine gate_callee (f := 71) rfl ?_); refine goesL_ (some 57) rfl rfl Try.func71 (by kernel_rfl) rfl #[.string (xt a0 6 ((wrap64 (6 + t252)) : Int).toNat), .int .i64 8] rfl aa ?_; (with_reducible refine (fairwayref1_TakeFixed.calls kj18 (xt a0 6 ((wrap64 (6 + t252)) : Int).toNat) 8 t258 t259 _ A33.out).mono ?_); rintro e w' ⟨rfl, ⟨nd, rfl⟩⟩; refine ⟨_, rfl, ?_⟩) | ((with_reducible refine gate_callee (f := 71) rfl ?_); refine goesL_ (some 64) rfl rfl Try.func71 (by kernel_rfl) rfl #[.string (xt (xt a0 6 ((wrap64 (6 + t252)) : Int).toNat) 8 (xt a0 6 ((wrap64 (6 + t252)) : Int).toNat).size), .int .i64 8] rfl aa ?_; (with_reducible refine (fairwayref1_TakeFixed.calls kj18 (xt (xt a0 6 ((wrap64 (6 + t252)) : Int).toNat) 8 (xt a0 6 ((wrap64 (6 + t252)) : Int).toNat).size) 8 t260 t261 _ A35.out).mono ?_); rintro e w' ⟨rfl, ⟨nd, rfl⟩⟩; refine ⟨_, rfl, ?_⟩; have p37 : 0 ≤ (16 : Int) := (by omega); have q37 : 16 < (xt a0 6 ((wrap64 (6 + t252)) : Int).toNat).size := (by have : (16 : Int) < ((xt a0 6 ((wrap64 (6 + t252)) : Int).toNat).size : Int) := od; omega); have hx37 : ∀ h : 16 < (xt a0 6 ((wrap64 (6 + t252)) : Int).toNat).size, (((xt a0 6 ((wrap64 (6 + t252)) : Int).toNat)[16]'h).toNat : Int) = bt (xt a0 6 ((wrap64 (6 + t252)) : Int).toNat) 16 := bt_at (xt a0 6 ((wrap64 (6 + t252)) : Int).toNat) 16; clear p37; have qi37 : (16 < ((xt a0 6 ((wrap64 (6 + t252)) : Int).toNat).size : Int)) = True := eq_true (od); replace q37 := eq_true q37) | ((with_reducible refine gate_callee (f := 71) rfl ?_); refine goesL_ (some 74) rfl rfl Try.func71 (by kernel_rfl) rfl #[.string (xt (xt a0 6 ((wrap64 (6 + t252)) : Int).toNat) 17 (xt a0 6 ((wrap64 (6 + t252)) : Int).toNat).size), .int .i64 2] rfl aa ?_; (with_reducible refine (fairwayref1_TakeFixed.calls kj18 (xt (xt a0 6 ((wrap64 (6 + t252)) : Int).toNat) 17 (xt a0 6 ((wrap64 (6 + t252)) : Int).toNat).size) 2 t262 t263 _ A39.out).mono ?_); rintro e w' ⟨rfl, ⟨nd, rfl⟩⟩; refine ⟨_, rfl, ?_⟩))
            (try simp only [Act.put, List.setIfInBounds_toArray, List.set_cons_zero, List.set_cons_succ])
            go_cut [84] (fun v84 wc => ∃ (kq : Nat) (x84_39 : Bool), v84 = .bool x84_39 ∧ Aside0 (fairwayref10_Take.j1 kq t252 (xt a0 6 ((wrap64 (6 + t252)) : Int).toNat) (wrap64 (bt (xt a0 6 ((wrap64 (6 + t252)) : Int).toNat) 16)) t262 x84_39 0 0 (⟨#[]⟩ : ByteArray) (⟨#[]⟩ : ByteArray) 0 false t258 t260 (⟨#[]⟩ : ByteArray) (⟨#[]⟩ : ByteArray) 0 false = some (r1, r2, r3, r4, r5, r6, r7, r8)) ∧ Aside0 (kq ≤ kj18) ∧ Aside0 (wc.heap[gb250]? = some (.cells #[.int .i64 0, .int .i64 0, .string (⟨#[]⟩ : ByteArray), .string (⟨#[]⟩ : ByteArray), .int .i64 0, .bool false] 25 (0, 0))) ∧ Aside0 (wc.heap[gb251]? = some (.cells #[.int .i64 0, .int .i64 0, .string (⟨#[]⟩ : ByteArray), .string (⟨#[]⟩ : ByteArray), .int .i64 0, .bool false] 25 (0, 0))) ∧ Aside0 (wc.heap[gb257]? = some (.cells #[.int .i64 t258, .int .i64 t260, .string (⟨#[]⟩ : ByteArray), .string (⟨#[]⟩ : ByteArray), .int .i64 0, .bool false] 25 (0, 0))) ∧ Aside0 (Below w.heap.size w wc))
            case first =>
             have H := HC40.out
             clear HC40
             by_cases c45 : (wrap64 (bt (xt a0 6 ((wrap64 (6 + t252)) : Int).toNat) 16)) > 7
             ·rw [if_pos c45] at H
              have c45b0 : decide (7 < (wrap64 (bt (xt a0 6 ((wrap64 (6 + t252)) : Int).toNat) 16))) = true := decide_eq_true c45
              clear c45
              (first | rw [c45b0] | (simp only [i64_w, i32_w]; rw [c45b0]) | skip)
              have H' := Aside0.mk H
              clear H
              go_wp2
              go_meet
              case rel => exact ⟨_, (true), ap, H', ⟨by have := HJ18.out; first | omega | exact Nat.le_refl _⟩, ⟨by (with_reducible repeat (first | refine blk_drewN ?_ _ | refine blk_drew ?_ | refine blk_alloc ?_ _)); refine blk_far ?_ NB250_257.out _; (with_reducible repeat (first | refine blk_drewN ?_ _ | refine blk_drew ?_ | refine blk_alloc ?_ _)); refine blk_far ?_ NB250_257.out _; (with_reducible repeat (first | refine blk_drewN ?_ _ | refine blk_drew ?_ | refine blk_alloc ?_ _)); refine blk_far ?_ NB250_257.out _; (with_reducible repeat (first | refine blk_drewN ?_ _ | refine blk_drew ?_ | refine blk_alloc ?_ _)); refine blk_far ?_ NB250_257.out _; (with_reducible repeat (first | refine blk_drewN ?_ _ | refine blk_drew ?_ | refine blk_alloc ?_ _)); refine blk_far ?_ NB250_257.out _; (with_reducible repeat (first | refine blk_drewN ?_ _ | refine blk_drew ?_ | refine blk_alloc ?_ _)); refine blk_far ?_ NB250_257.out _; (with_reducible repeat (first | refine blk_drewN ?_ _ | refine blk_drew ?_ | refine blk_alloc ?_ _)); refine blk_far ?_ NB250_257.out _; (with_reducible repeat (first | refine blk_drewN ?_ _ | refine blk_drew ?_ | refine blk_alloc ?_ _)); refine blk_far ?_ NB250_257.out _; (with_reducible repeat (first | refine blk_drewN ?_ _ | refine blk_drew ?_ | refine blk_alloc ?_ _)); exact BK250.out⟩, ⟨by (with_reducible repeat (first | refine blk_drewN ?_ _ | refine blk_drew ?_ | refine blk_alloc ?_ _)); refine blk_far ?_ NB251_257.out _; (with_reducible repeat (first | refine blk_drewN ?_ _ | refine blk_drew ?_ | refine blk_alloc ?_ _)); refine blk_far ?_ NB251_257.out _; (with_reducible repeat (first | refine blk_drewN ?_ _ | refine blk_drew ?_ | refine blk_alloc ?_ _)); refine blk_far ?_ NB251_257.out _; (with_reducible repeat (first | refine blk_drewN ?_ _ | refine blk_drew ?_ | refine blk_alloc ?_ _)); refine blk_far ?_ NB251_257.out _; (with_reducible repeat (first | refine blk_drewN ?_ _ | refine blk_drew ?_ | refine blk_alloc ?_ _)); refine blk_far ?_ NB251_257.out _; (with_reducible repeat (first | refine blk_drewN ?_ _ | refine blk_drew ?_ | refine blk_alloc ?_ _)); refine blk_far ?_ NB251_257.out _; (with_reducible repeat (first | refine blk_drewN ?_ _ | refine blk_drew ?_ | refine blk_alloc ?_ _)); refine blk_far ?_ NB251_257.out _; (with_reducible repeat (first | refine blk_drewN ?_ _ | refine blk_drew ?_ | refine blk_alloc ?_ _)); refine blk_far ?_ NB251_257.out _; (with_reducible repeat (first | refine blk_drewN ?_ _ | refine blk_drew ?_ | refine blk_alloc ?_ _)); exact BK251.out⟩, ⟨by (with_reducible repeat (first | refine blk_drewN ?_ _ | refine blk_drew ?_ | refine blk_alloc ?_ _)); refine blk_put (cs := #[.int .i64 t258, .int .i64 0, .string (⟨#[]⟩ : ByteArray), .string (⟨#[]⟩ : ByteArray), .int .i64 0, .bool false]) ?_ 1 _ rfl; (with_reducible repeat (first | refine blk_drewN ?_ _ | refine blk_drew ?_ | refine blk_alloc ?_ _)); refine blk_put (cs := #[.int .i64 0, .int .i64 0, .string (⟨#[]⟩ : ByteArray), .string (⟨#[]⟩ : ByteArray), .int .i64 0, .bool false]) ?_ 0 _ rfl; (with_reducible repeat (first | refine blk_drewN ?_ _ | refine blk_drew ?_ | refine blk_alloc ?_ _)); refine blk_put (cs := #[.int .i64 0, .int .i64 0, .string (⟨#[]⟩ : ByteArray), .string (⟨#[]⟩ : ByteArray), .int .i64 0, .bool false]) ?_ 5 _ rfl; (with_reducible repeat (first | refine blk_drewN ?_ _ | refine blk_drew ?_ | refine blk_alloc ?_ _)); refine blk_put (cs := #[.int .i64 0, .int .i64 0, .string (⟨#[]⟩ : ByteArray), .string (⟨#[]⟩ : ByteArray), .int .i64 0, .bool false]) ?_ 4 _ rfl; (with_reducible repeat (first | refine blk_drewN ?_ _ | refine blk_drew ?_ | refine blk_alloc ?_ _)); refine blk_put (cs := #[.int .i64 0, .int .i64 0, .string (⟨#[]⟩ : ByteArray), .string (⟨#[]⟩ : ByteArray), .int .i64 0, .bool false]) ?_ 3 _ rfl; (with_reducible repeat (first | refine blk_drewN ?_ _ | refine blk_drew ?_ | refine blk_alloc ?_ _)); refine blk_put (cs := #[.int .i64 0, .int .i64 0, .string (⟨#[]⟩ : ByteArray), .string (⟨#[]⟩ : ByteArray), .int .i64 0, .bool false]) ?_ 2 _ rfl; (with_reducible repeat (first | refine blk_drewN ?_ _ | refine blk_drew ?_ | refine blk_alloc ?_ _)); refine blk_put (cs := #[.int .i64 0, .int .i64 0, .string (⟨#[]⟩ : ByteArray), .string (⟨#[]⟩ : ByteArray), .int .i64 0, .bool false]) ?_ 1 _ rfl; (with_reducible repeat (first | refine blk_drewN ?_ _ | refine blk_drew ?_ | refine blk_alloc ?_ _)); refine blk_put (cs := #[.int .i64 0, .int .i64 0, .string (⟨#[]⟩ : ByteArray), .string (⟨#[]⟩ : ByteArray), .int .i64 0, .bool false]) ?_ 0 _ rfl; (with_reducible repeat (first | refine blk_drewN ?_ _ | refine blk_drew ?_ | refine blk_alloc ?_ _)); exact BK257.out⟩, ⟨bo⟩⟩
             ·rw [if_neg c45] at H
              have c45b0 : decide (7 < (wrap64 (bt (xt a0 6 ((wrap64 (6 + t252)) : Int).toNat) 16))) = false := decide_eq_false c45
              clear c45
              (first | rw [c45b0] | (simp only [i64_w, i32_w]; rw [c45b0]) | skip)
              have H' := Aside0.mk H
              clear H
              go_wp2
              go_meet
              case rel => exact ⟨_, (decide (t262 > (wrap64 (t252 - 19)))), ap, H', ⟨by have := HJ18.out; first | omega | exact Nat.le_refl _⟩, ⟨by (with_reducible repeat (first | refine blk_drewN ?_ _ | refine blk_drew ?_ | refine blk_alloc ?_ _)); refine blk_far ?_ NB250_257.out _; (with_reducible repeat (first | refine blk_drewN ?_ _ | refine blk_drew ?_ | refine blk_alloc ?_ _)); refine blk_far ?_ NB250_257.out _; (with_reducible repeat (first | refine blk_drewN ?_ _ | refine blk_drew ?_ | refine blk_alloc ?_ _)); refine blk_far ?_ NB250_257.out _; (with_reducible repeat (first | refine blk_drewN ?_ _ | refine blk_drew ?_ | refine blk_alloc ?_ _)); refine blk_far ?_ NB250_257.out _; (with_reducible repeat (first | refine blk_drewN ?_ _ | refine blk_drew ?_ | refine blk_alloc ?_ _)); refine blk_far ?_ NB250_257.out _; (with_reducible repeat (first | refine blk_drewN ?_ _ | refine blk_drew ?_ | refine blk_alloc ?_ _)); refine blk_far ?_ NB250_257.out _; (with_reducible repeat (first | refine blk_drewN ?_ _ | refine blk_drew ?_ | refine blk_alloc ?_ _)); refine blk_far ?_ NB250_257.out _; (with_reducible repeat (first | refine blk_drewN ?_ _ | refine blk_drew ?_ | refine blk_alloc ?_ _)); refine blk_far ?_ NB250_257.out _; (with_reducible repeat (first | refine blk_drewN ?_ _ | refine blk_drew ?_ | refine blk_alloc ?_ _)); exact BK250.out⟩, ⟨by (with_reducible repeat (first | refine blk_drewN ?_ _ | refine blk_drew ?_ | refine blk_alloc ?_ _)); refine blk_far ?_ NB251_257.out _; (with_reducible repeat (first | refine blk_drewN ?_ _ | refine blk_drew ?_ | refine blk_alloc ?_ _)); refine blk_far ?_ NB251_257.out _; (with_reducible repeat (first | refine blk_drewN ?_ _ | refine blk_drew ?_ | refine blk_alloc ?_ _)); refine blk_far ?_ NB251_257.out _; (with_reducible repeat (first | refine blk_drewN ?_ _ | refine blk_drew ?_ | refine blk_alloc ?_ _)); refine blk_far ?_ NB251_257.out _; (with_reducible repeat (first | refine blk_drewN ?_ _ | refine blk_drew ?_ | refine blk_alloc ?_ _)); refine blk_far ?_ NB251_257.out _; (with_reducible repeat (first | refine blk_drewN ?_ _ | refine blk_drew ?_ | refine blk_alloc ?_ _)); refine blk_far ?_ NB251_257.out _; (with_reducible repeat (first | refine blk_drewN ?_ _ | refine blk_drew ?_ | refine blk_alloc ?_ _)); refine blk_far ?_ NB251_257.out _; (with_reducible repeat (first | refine blk_drewN ?_ _ | refine blk_drew ?_ | refine blk_alloc ?_ _)); refine blk_far ?_ NB251_257.out _; (with_reducible repeat (first | refine blk_drewN ?_ _ | refine blk_drew ?_ | refine blk_alloc ?_ _)); exact BK251.out⟩, ⟨by (with_reducible repeat (first | refine blk_drewN ?_ _ | refine blk_drew ?_ | refine blk_alloc ?_ _)); refine blk_put (cs := #[.int .i64 t258, .int .i64 0, .string (⟨#[]⟩ : ByteArray), .string (⟨#[]⟩ : ByteArray), .int .i64 0, .bool false]) ?_ 1 _ rfl; (with_reducible repeat (first | refine blk_drewN ?_ _ | refine blk_drew ?_ | refine blk_alloc ?_ _)); refine blk_put (cs := #[.int .i64 0, .int .i64 0, .string (⟨#[]⟩ : ByteArray), .string (⟨#[]⟩ : ByteArray), .int .i64 0, .bool false]) ?_ 0 _ rfl; (with_reducible repeat (first | refine blk_drewN ?_ _ | refine blk_drew ?_ | refine blk_alloc ?_ _)); refine blk_put (cs := #[.int .i64 0, .int .i64 0, .string (⟨#[]⟩ : ByteArray), .string (⟨#[]⟩ : ByteArray), .int .i64 0, .bool false]) ?_ 5 _ rfl; (with_reducible repeat (first | refine blk_drewN ?_ _ | refine blk_drew ?_ | refine blk_alloc ?_ _)); refine blk_put (cs := #[.int .i64 0, .int .i64 0, .string (⟨#[]⟩ : ByteArray), .string (⟨#[]⟩ : ByteArray), .int .i64 0, .bool false]) ?_ 4 _ rfl; (with_reducible repeat (first | refine blk_drewN ?_ _ | refine blk_drew ?_ | refine blk_alloc ?_ _)); refine blk_put (cs := #[.int .i64 0, .int .i64 0, .string (⟨#[]⟩ : ByteArray), .string (⟨#[]⟩ : ByteArray), .int .i64 0, .bool false]) ?_ 3 _ rfl; (with_reducible repeat (first | refine blk_drewN ?_ _ | refine blk_drew ?_ | refine blk_alloc ?_ _)); refine blk_put (cs := #[.int .i64 0, .int .i64 0, .string (⟨#[]⟩ : ByteArray), .string (⟨#[]⟩ : ByteArray), .int .i64 0, .bool false]) ?_ 2 _ rfl; (with_reducible repeat (first | refine blk_drewN ?_ _ | refine blk_drew ?_ | refine blk_alloc ?_ _)); refine blk_put (cs := #[.int .i64 0, .int .i64 0, .string (⟨#[]⟩ : ByteArray), .string (⟨#[]⟩ : ByteArray), .int .i64 0, .bool false]) ?_ 1 _ rfl; (with_reducible repeat (first | refine blk_drewN ?_ _ | refine blk_drew ?_ | refine blk_alloc ?_ _)); refine blk_put (cs := #[.int .i64 0, .int .i64 0, .string (⟨#[]⟩ : ByteArray), .string (⟨#[]⟩ : ByteArray), .int .i64 0, .bool false]) ?_ 0 _ rfl; (with_reducible repeat (first | refine blk_drewN ?_ _ | refine blk_drew ?_ | refine blk_alloc ?_ _)); exact BK257.out⟩, ⟨bo⟩⟩
            case rest =>
             clear HC40
             try clear c1
             try clear c2
             try clear c2b0
             try clear c2b1
             try clear p2
             try clear c3
             try clear p3
             try clear q3
             try clear hx3
             try clear qi3
             try clear c4
             try clear c5
             try clear p6
             try clear c7
             try clear c9
             try clear c9b0
             try clear c12
             try clear c15
             try clear c15b0
             try clear c15b1
             try clear c17
             try clear c17b0
             try clear c17b1
             try clear c18
             try clear c18b0
             try clear c18b1
             try clear c22
             try clear c24
             try clear c24b0
             try clear c24b1
             try clear c25
             try clear c25b0
             try clear c26
             try clear c26b0
             try clear c26b1
             try clear c26b2
             try clear c28
             try clear c28b0
             try clear c28b1
             try clear c29
             try clear c30
             try clear c34
             try clear c34b0
             try clear c34b1
             try clear c36
             try clear c36b0
             try clear c36b1
             try clear p37
             try clear q37
             try clear hx37
             try clear qi37
             try clear c38
             try clear c38b0
             try clear c38b1
             try clear c42
             try clear c43
             try clear c45
             try clear c45b0
             try clear hcz13_0
             try clear hcz13_1
             try clear hcz13_2
             try clear hcz13_3
             try clear hcz13_4
             try clear hcz13_5
             try clear hcz14_0
             try clear hcz14_1
             try clear hcz14_2
             try clear hcz14_3
             try clear hcz14_4
             try clear hcz14_5
             try clear hcz23_0
             try clear hcz23_1
             try clear hcz23_2
             try clear hcz23_3
             try clear hcz23_4
             try clear hcz23_5
             try clear hcz31_0
             try clear hcz31_1
             try clear hcz31_2
             try clear hcz31_3
             try clear hcz31_4
             try clear hcz31_5
             try clear hcz32_0
             try clear hcz32_1
             try clear hcz32_2
             try clear hcz32_3
             try clear hcz32_4
             try clear hcz32_5
             try clear hcz44_0
             try clear hcz44_1
             try clear hcz44_2
             try clear hcz44_3
             try clear hcz44_4
             try clear hcz44_5
             try clear hcz6_0
             try clear hcz6_1
             try clear hcz6_2
             try clear hcz6_3
             try clear hcz6_4
             try clear hcz6_5
             try clear hcz7_0
             try clear hcz7_1
             try clear hcz7_2
             try clear hcz7_3
             try clear hcz7_4
             try clear hcz7_5
             try clear hfz13_0
             try clear hfz13_1
             try clear hfz13_2
             try clear hfz13_3
             try clear hfz13_4
             try clear hfz13_5
             try clear hfz14_0
             try clear hfz14_1
             try clear hfz14_2
             try clear hfz14_3
             try clear hfz14_4
             try clear hfz14_5
             try clear hfz23_0
             try clear hfz23_1
             try clear hfz23_2
             try clear hfz23_3
             try clear hfz23_4
             try clear hfz23_5
             try clear hfz31_0
             try clear hfz31_1
             try clear hfz31_2
             try clear hfz31_3
             try clear hfz31_4
             try clear hfz31_5
             try clear hfz32_0
             try clear hfz32_1
             try clear hfz32_2
             try clear hfz32_3
             try clear hfz32_4
             try clear hfz32_5
             try clear hfz44_0
             try clear hfz44_1
             try clear hfz44_2
             try clear hfz44_3
             try clear hfz44_4
             try clear hfz44_5
             try clear hfz6_0
             try clear hfz6_1
             try clear hfz6_2
             try clear hfz6_3
             try clear hfz6_4
             try clear hfz6_5
             try clear hfz7_0
             try clear hfz7_1
             try clear hfz7_2
             try clear hfz7_3
             try clear hfz7_4
             try clear hfz7_5
             try clear p2
             try clear p37
             try clear p6
             try clear q37
             obtain ⟨kq, x84_39, rfl, HA, HJ39, BK250, BK251, BK257, HB⟩ := hcut
             cases kq with
             | zero => exact absurd HA.out (by simp [fairwayref10_Take.j1])
             | succ kj39 =>
              have H := HA.out
              clear HA
              simp only [fairwayref10_Take.j1] at H
              by_cases c46 : x84_39 = true
              ·subst c46
               have H1 : (some (0, 0, (⟨#[]⟩ : ByteArray), (⟨#[]⟩ : ByteArray), 0, false, 0, 8)) = some (r1, r2, r3, r4, r5, r6, r7, r8) := by rw [if_pos rfl] at H; exact H
               clear H
               have H := H1
               clear H1
               simp only [Option.some.injEq, Prod.mk.injEq] at H
               obtain ⟨rfl, rfl, rfl, rfl, rfl, rfl, rfl, rfl⟩ := H
               have hnb47 := NB251_250.out
               have hnc47 := NB250_251.out
               have hnb48 := NB251_257.out
               have hnc48 := NB257_251.out
               have hcz49_0 : wc.cell? ⟨gb251, 0, none⟩ = some (.int .i64 0) := (blk_cell BK251.out 0).trans rfl
               have hcz49_1 : wc.cell? ⟨gb251, 1, none⟩ = some (.int .i64 0) := (blk_cell BK251.out 1).trans rfl
               have hcz49_2 : wc.cell? ⟨gb251, 2, none⟩ = some (.string (⟨#[]⟩ : ByteArray)) := (blk_cell BK251.out 2).trans rfl
               have hcz49_3 : wc.cell? ⟨gb251, 3, none⟩ = some (.string (⟨#[]⟩ : ByteArray)) := (blk_cell BK251.out 3).trans rfl
               have hcz49_4 : wc.cell? ⟨gb251, 4, none⟩ = some (.int .i64 0) := (blk_cell BK251.out 4).trans rfl
               have hcz49_5 : wc.cell? ⟨gb251, 5, none⟩ = some (.bool false) := (blk_cell BK251.out 5).trans rfl
               have hfz49_0 := blk_frozen BK251.out 0
               have hfz49_1 := blk_frozen BK251.out 1
               have hfz49_2 := blk_frozen BK251.out 2
               have hfz49_3 := blk_frozen BK251.out 3
               have hfz49_4 := blk_frozen BK251.out 4
               have hfz49_5 := blk_frozen BK251.out 5
               have hnb50 := NB250_257.out
               have hnc50 := NB257_250.out
               have hcz51_0 : wc.cell? ⟨gb250, 0, none⟩ = some (.int .i64 0) := (blk_cell BK250.out 0).trans rfl
               have hcz51_1 : wc.cell? ⟨gb250, 1, none⟩ = some (.int .i64 0) := (blk_cell BK250.out 1).trans rfl
               have hcz51_2 : wc.cell? ⟨gb250, 2, none⟩ = some (.string (⟨#[]⟩ : ByteArray)) := (blk_cell BK250.out 2).trans rfl
               have hcz51_3 : wc.cell? ⟨gb250, 3, none⟩ = some (.string (⟨#[]⟩ : ByteArray)) := (blk_cell BK250.out 3).trans rfl
               have hcz51_4 : wc.cell? ⟨gb250, 4, none⟩ = some (.int .i64 0) := (blk_cell BK250.out 4).trans rfl
               have hcz51_5 : wc.cell? ⟨gb250, 5, none⟩ = some (.bool false) := (blk_cell BK250.out 5).trans rfl
               have hfz51_0 := blk_frozen BK250.out 0
               have hfz51_1 := blk_frozen BK250.out 1
               have hfz51_2 := blk_frozen BK250.out 2
               have hfz51_3 := blk_frozen BK250.out 3
               have hfz51_4 := blk_frozen BK250.out 4
               have hfz51_5 := blk_frozen BK250.out 5
               go_wp2
               refine bodyPost_ret (results_ctt rfl _ _ gb250 25 #[.int .i64 0, .int .i64 0, .string (⟨#[]⟩ : ByteArray), .string (⟨#[]⟩ : ByteArray), .int .i64 0, .bool false] (0, 0) _ rfl (by (with_reducible repeat (first | refine blk_drewN ?_ _ | refine blk_drew ?_ | refine blk_alloc ?_ _)); refine blk_put (cs := #[.int .i64 0, .int .i64 0, .string (⟨#[]⟩ : ByteArray), .string (⟨#[]⟩ : ByteArray), .int .i64 0, .bool false]) ?_ 5 _ rfl; (with_reducible repeat (first | refine blk_drewN ?_ _ | refine blk_drew ?_ | refine blk_alloc ?_ _)); refine blk_put (cs := #[.int .i64 0, .int .i64 0, .string (⟨#[]⟩ : ByteArray), .string (⟨#[]⟩ : ByteArray), .int .i64 0, .bool false]) ?_ 4 _ rfl; (with_reducible repeat (first | refine blk_drewN ?_ _ | refine blk_drew ?_ | refine blk_alloc ?_ _)); refine blk_put (cs := #[.int .i64 0, .int .i64 0, .string (⟨#[]⟩ : ByteArray), .string (⟨#[]⟩ : ByteArray), .int .i64 0, .bool false]) ?_ 3 _ rfl; (with_reducible repeat (first | refine blk_drewN ?_ _ | refine blk_drew ?_ | refine blk_alloc ?_ _)); refine blk_put (cs := #[.int .i64 0, .int .i64 0, .string (⟨#[]⟩ : ByteArray), .string (⟨#[]⟩ : ByteArray), .int .i64 0, .bool false]) ?_ 2 _ rfl; (with_reducible repeat (first | refine blk_drewN ?_ _ | refine blk_drew ?_ | refine blk_alloc ?_ _)); refine blk_put (cs := #[.int .i64 0, .int .i64 0, .string (⟨#[]⟩ : ByteArray), .string (⟨#[]⟩ : ByteArray), .int .i64 0, .bool false]) ?_ 1 _ rfl; (with_reducible repeat (first | refine blk_drewN ?_ _ | refine blk_drew ?_ | refine blk_alloc ?_ _)); refine blk_put (cs := #[.int .i64 0, .int .i64 0, .string (⟨#[]⟩ : ByteArray), .string (⟨#[]⟩ : ByteArray), .int .i64 0, .bool false]) ?_ 0 _ rfl; (with_reducible repeat (first | refine blk_drewN ?_ _ | refine blk_drew ?_ | refine blk_alloc ?_ _)); exact BK250.out) Try.underlying25 rfl (by kernel_rfl)) rfl ?_
               exact ⟨er, bo⟩
              ·replace c46 := Bool.eq_false_iff.mpr c46
               subst c46
               have H1 : (if 19 ≤ (wrap64 (19 + t262)) then (if (wrap64 (19 + t262)) ≤ ((xt a0 6 ((wrap64 (6 + t252)) : Int).toNat).size : Int) then (if 0 ≤ (wrap64 (19 + t262)) then ((fairwayref10_Rec.f t258 t260 (xt (xt a0 6 ((wrap64 (6 + t252)) : Int).toNat) 19 ((wrap64 (19 + t262)) : Int).toNat) (xt (xt a0 6 ((wrap64 (6 + t252)) : Int).toNat) ((wrap64 (19 + t262)) : Int).toNat (xt a0 6 ((wrap64 (6 + t252)) : Int).toNat).size) (Int.tmod (wrap64 (bt (xt a0 6 ((wrap64 (6 + t252)) : Int).toNat) 16)) 4) (decide ((wrap64 (bt (xt a0 6 ((wrap64 (6 + t252)) : Int).toNat) 16)) ≥ 4))).bind fun t264 => (if t264 = true then (some (t258, t260, xt (xt a0 6 ((wrap64 (6 + t252)) : Int).toNat) 19 ((wrap64 (19 + t262)) : Int).toNat, xt (xt a0 6 ((wrap64 (6 + t252)) : Int).toNat) ((wrap64 (19 + t262)) : Int).toNat (xt a0 6 ((wrap64 (6 + t252)) : Int).toNat).size, Int.tmod (wrap64 (bt (xt a0 6 ((wrap64 (6 + t252)) : Int).toNat) 16)) 4, decide ((wrap64 (bt (xt a0 6 ((wrap64 (6 + t252)) : Int).toNat) 16)) ≥ 4), wrap64 (6 + t252), 0)) else (some (0, 0, (⟨#[]⟩ : ByteArray), (⟨#[]⟩ : ByteArray), 0, false, 0, 8)))) else (none)) else (none)) else (none)) = some (r1, r2, r3, r4, r5, r6, r7, r8) := by rw [if_neg (show ¬ (false = true) by decide)] at H; exact H
               clear H
               have H := H1
               clear H1
               by_cases c52 : 19 ≤ (wrap64 (19 + t262))
               ·rw [if_pos c52] at H
                have c52b0 := eq_true c52
                have c52b1 : decide (19 ≤ (wrap64 (19 + t262))) = true := decide_eq_true c52
                by_cases c53 : (wrap64 (19 + t262)) ≤ ((xt a0 6 ((wrap64 (6 + t252)) : Int).toNat).size : Int)
                ·rw [if_pos c53] at H
                 have c53b0 := eq_true c53
                 have c53b1 : decide ((wrap64 (19 + t262)) ≤ ((xt a0 6 ((wrap64 (6 + t252)) : Int).toNat).size : Int)) = true := decide_eq_true c53
                 obtain ⟨ji54, hji54⟩ : ∃ j_ : Int, (wrap64 (19 + t262)) = j_ := ⟨_, rfl⟩
                 replace H : (if 0 ≤ (ji54) then ((fairwayref10_Rec.f t258 t260 (xt (xt a0 6 ((wrap64 (6 + t252)) : Int).toNat) 19 ((ji54) : Int).toNat) (xt (xt a0 6 ((wrap64 (6 + t252)) : Int).toNat) ((ji54) : Int).toNat (xt a0 6 ((wrap64 (6 + t252)) : Int).toNat).size) (Int.tmod (wrap64 (bt (xt a0 6 ((wrap64 (6 + t252)) : Int).toNat) 16)) 4) (decide ((wrap64 (bt (xt a0 6 ((wrap64 (6 + t252)) : Int).toNat) 16)) ≥ 4))).bind fun t264 => (if t264 = true then (some (t258, t260, xt (xt a0 6 ((wrap64 (6 + t252)) : Int).toNat) 19 ((ji54) : Int).toNat, xt (xt a0 6 ((wrap64 (6 + t252)) : Int).toNat) ((ji54) : Int).toNat (xt a0 6 ((wrap64 (6 + t252)) : Int).toNat).size, Int.tmod (wrap64 (bt (xt a0 6 ((wrap64 (6 + t252)) : Int).toNat) 16)) 4, decide ((wrap64 (bt (xt a0 6 ((wrap64 (6 + t252)) : Int).toNat) 16)) ≥ 4), wrap64 (6 + t252), 0)) else (some (0, 0, (⟨#[]⟩ : ByteArray), (⟨#[]⟩ : ByteArray), 0, false, 0, 8)))) else (none)) = some (r1, r2, r3, r4, r5, r6, r7, r8) := by first | (rw [hji54] at H; exact H) | (simp only [hji54] at H ⊢; exact H)
                 (try rw [hji54] at c52b0)
                 (try rw [hji54] at c52b1)
                 (try rw [hji54] at c52)
                 (try rw [hji54] at c53b0)
                 (try rw [hji54] at c53b1)
                 (try rw [hji54] at c53)
                 have hji54w : (IntKind.i64.wrap (19 + t262)) = ji54 := (i64_w _).trans hji54
                 by_cases c55 : 0 ≤ (ji54)
                 ·rw [if_pos c55] at H
                  have c55b0 := eq_true c55
                  have c55b1 : decide (0 ≤ (ji54)) = true := decide_eq_true c55
                  clear c55
                  have c56b0 := eq_true (od : (ji54) ≤ ((xt a0 6 ((wrap64 (6 + t252)) : Int).toNat).size : Int))
                  replace H := Option.bind_eq_some_iff.mp H
                  obtain ⟨t264, A570, H⟩ := H
                  replace H : (if t264 = true then (some (t258, t260, xt (xt a0 6 ((wrap64 (6 + t252)) : Int).toNat) 19 ((ji54) : Int).toNat, xt (xt a0 6 ((wrap64 (6 + t252)) : Int).toNat) ((ji54) : Int).toNat (xt a0 6 ((wrap64 (6 + t252)) : Int).toNat).size, Int.tmod (wrap64 (bt (xt a0 6 ((wrap64 (6 + t252)) : Int).toNat) 16)) 4, decide ((wrap64 (bt (xt a0 6 ((wrap64 (6 + t252)) : Int).toNat) 16)) ≥ 4), wrap64 (6 + t252), 0)) else (some (0, 0, (⟨#[]⟩ : ByteArray), (⟨#[]⟩ : ByteArray), 0, false, 0, 8))) = some (r1, r2, r3, r4, r5, r6, r7, r8) := H
                  have A57 := Aside0.mk A570
                  clear A570
                  by_cases c58 : t264 = true
                  ·subst c58
                   have H1 : (some (t258, t260, xt (xt a0 6 ((wrap64 (6 + t252)) : Int).toNat) 19 ((ji54) : Int).toNat, xt (xt a0 6 ((wrap64 (6 + t252)) : Int).toNat) ((ji54) : Int).toNat (xt a0 6 ((wrap64 (6 + t252)) : Int).toNat).size, Int.tmod (wrap64 (bt (xt a0 6 ((wrap64 (6 + t252)) : Int).toNat) 16)) 4, decide ((wrap64 (bt (xt a0 6 ((wrap64 (6 + t252)) : Int).toNat) 16)) ≥ 4), wrap64 (6 + t252), 0)) = some (r1, r2, r3, r4, r5, r6, r7, r8) := by rw [if_pos rfl] at H; exact H
                   clear H
                   have H := H1
                   clear H1
                   simp only [Option.some.injEq, Prod.mk.injEq] at H
                   obtain ⟨rfl, rfl, rfl, rfl, rfl, rfl, rfl, rfl⟩ := H
                   have hnb59 := NB257_250.out
                   have hnc59 := NB250_257.out
                   have hnb60 := NB257_251.out
                   have hnc60 := NB251_257.out
                   have hcz61_0 : wc.cell? ⟨gb257, 0, none⟩ = some (.int .i64 t258) := (blk_cell BK257.out 0).trans rfl
                   have hcz61_1 : wc.cell? ⟨gb257, 1, none⟩ = some (.int .i64 t260) := (blk_cell BK257.out 1).trans rfl
                   have hcz61_2 : wc.cell? ⟨gb257, 2, none⟩ = some (.string (⟨#[]⟩ : ByteArray)) := (blk_cell BK257.out 2).trans rfl
                   have hcz61_3 : wc.cell? ⟨gb257, 3, none⟩ = some (.string (⟨#[]⟩ : ByteArray)) := (blk_cell BK257.out 3).trans rfl
                   have hcz61_4 : wc.cell? ⟨gb257, 4, none⟩ = some (.int .i64 0) := (blk_cell BK257.out 4).trans rfl
                   have hcz61_5 : wc.cell? ⟨gb257, 5, none⟩ = some (.bool false) := (blk_cell BK257.out 5).trans rfl
                   have hfz61_0 := blk_frozen BK257.out 0
                   have hfz61_1 := blk_frozen BK257.out 1
                   have hfz61_2 := blk_frozen BK257.out 2
                   have hfz61_3 := blk_frozen BK257.out 3
                   have hfz61_4 := blk_frozen BK257.out 4
                   have hfz61_5 := blk_frozen BK257.out 5
                   try go_wp2
                   (try (rw [drewN_self wc]; generalize hq_ : World.drewN wc _ = wc; have n0_ := Aside0.mk (blk_at hq_ BK250.out); have n1_ := Aside0.mk (blk_at hq_ BK251.out); have n2_ := Aside0.mk (blk_at hq_ BK257.out); have n3_ := Aside0.mk (below_at hq_ HB.out); clear hq_ BK250 BK251 BK257 HB; have BK250 := n0_; have BK251 := n1_; have BK257 := n2_; have HB := n3_; clear n0_ n1_ n2_ n3_))
                   have n0_ : Aside0 (((wc.setCell ⟨gb257, 4, none⟩ (.int .i64 (Int.tmod (wrap64 (bt (xt a0 6 ((wrap64 (6 + t252)) : Int).toNat) 16)) 4))).setCell ⟨gb257, 5, none⟩ (.bool (decide ((wrap64 (bt (xt a0 6 ((wrap64 (6 + t252)) : Int).toNat) 16)) ≥ 4)))).heap[gb250]? = some (.cells #[.int .i64 0, .int .i64 0, .string (⟨#[]⟩ : ByteArray), .string (⟨#[]⟩ : ByteArray), .int .i64 0, .bool false] 25 (0, 0))) := ⟨by (with_reducible repeat (first | refine blk_drewN ?_ _ | refine blk_drew ?_ | refine blk_alloc ?_ _)); refine blk_far ?_ NB250_257.out _; (with_reducible repeat (first | refine blk_drewN ?_ _ | refine blk_drew ?_ | refine blk_alloc ?_ _)); refine blk_far ?_ NB250_257.out _; (with_reducible repeat (first | refine blk_drewN ?_ _ | refine blk_drew ?_ | refine blk_alloc ?_ _)); exact BK250.out⟩
                   have n1_ : Aside0 (((wc.setCell ⟨gb257, 4, none⟩ (.int .i64 (Int.tmod (wrap64 (bt (xt a0 6 ((wrap64 (6 + t252)) : Int).toNat) 16)) 4))).setCell ⟨gb257, 5, none⟩ (.bool (decide ((wrap64 (bt (xt a0 6 ((wrap64 (6 + t252)) : Int).toNat) 16)) ≥ 4)))).heap[gb251]? = some (.cells #[.int .i64 0, .int .i64 0, .string (⟨#[]⟩ : ByteArray), .string (⟨#[]⟩ : ByteArray), .int .i64 0, .bool false] 25 (0, 0))) := ⟨by (with_reducible repeat (first | refine blk_drewN ?_ _ | refine blk_drew ?_ | refine blk_alloc ?_ _)); refine blk_far ?_ NB251_257.out _; (with_reducible repeat (first | refine blk_drewN ?_ _ | refine blk_drew ?_ | refine blk_alloc ?_ _)); refine blk_far ?_ NB251_257.out _; (with_reducible repeat (first | refine blk_drewN ?_ _ | refine blk_drew ?_ | refine blk_alloc ?_ _)); exact BK251.out⟩
                   have n2_ : Aside0 (((wc.setCell ⟨gb257, 4, none⟩ (.int .i64 (Int.tmod (wrap64 (bt (xt a0 6 ((wrap64 (6 + t252)) : Int).toNat) 16)) 4))).setCell ⟨gb257, 5, none⟩ (.bool (decide ((wrap64 (bt (xt a0 6 ((wrap64 (6 + t252)) : Int).toNat) 16)) ≥ 4)))).heap[gb257]? = some (.cells #[.int .i64 t258, .int .i64 t260, .string (⟨#[]⟩ : ByteArray), .string (⟨#[]⟩ : ByteArray), .int .i64 (Int.tmod (wrap64 (bt (xt a0 6 ((wrap64 (6 + t252)) : Int).toNat) 16)) 4), .bool (decide ((wrap64 (bt (xt a0 6 ((wrap64 (6 + t252)) : Int).toNat) 16)) ≥ 4))] 25 (0, 0))) := ⟨by (with_reducible repeat (first | refine blk_drewN ?_ _ | refine blk_drew ?_ | refine blk_alloc ?_ _)); refine blk_put (cs := #[.int .i64 t258, .int .i64 t260, .string (⟨#[]⟩ : ByteArray), .string (⟨#[]⟩ : ByteArray), .int .i64 (Int.tmod (wrap64 (bt (xt a0 6 ((wrap64 (6 + t252)) : Int).toNat) 16)) 4), .bool false]) ?_ 5 _ rfl; (with_reducible repeat (first | refine blk_drewN ?_ _ | refine blk_drew ?_ | refine blk_alloc ?_ _)); refine blk_put (cs := #[.int .i64 t258, .int .i64 t260, .string (⟨#[]⟩ : ByteArray), .string (⟨#[]⟩ : ByteArray), .int .i64 0, .bool false]) ?_ 4 _ rfl; (with_reducible repeat (first | refine blk_drewN ?_ _ | refine blk_drew ?_ | refine blk_alloc ?_ _)); exact BK257.out⟩
                   have n3_ : Aside0 (Below w.heap.size w ((wc.setCell ⟨gb257, 4, none⟩ (.int .i64 (Int.tmod (wrap64 (bt (xt a0 6 ((wrap64 (6 + t252)) : Int).toNat) 16)) 4))).setCell ⟨gb257, 5, none⟩ (.bool (decide ((wrap64 (bt (xt a0 6 ((wrap64 (6 + t252)) : Int).toNat) 16)) ≥ 4))))) := ⟨bo⟩
                   (try clear BK250)
                   (try clear BK251)
                   (try clear BK257)
                   (try clear HB)
                   generalize ((wc.setCell ⟨gb257, 4, none⟩ (.int .i64 (Int.tmod (wrap64 (bt (xt a0 6 ((wrap64 (6 + t252)) : Int).toNat) 16)) 4))).setCell ⟨gb257, 5, none⟩ (.bool (decide ((wrap64 (bt (xt a0 6 ((wrap64 (6 + t252)) : Int).toNat) 16)) ≥ 4)))) = w62 at n0_ n1_ n2_ n3_ ⊢
                   have BK250 := n0_
                   have BK251 := n1_
                   have BK257 := n2_
                   have HB := n3_
                   clear n0_ n1_ n2_ n3_
                   replace BK250 := Aside0.mk (blk_drew BK250.out)
                   replace BK251 := Aside0.mk (blk_drew BK251.out)
                   replace BK257 := Aside0.mk (blk_drew BK257.out)
                   replace HB := Aside0.mk (below_drew1 HB.out)
                   refine start_ (n := 12) (S := fun w' => True) (ds := []) #[O,O,O,O,O,O,O,O,O,O,O,O] (by kernel_rfl) rfl rfl trivial (fun hHeld => ?_); refine with_tabW fairwayref10_Take.tab19 fairwayref10_Take.bits19 (fun HT_ HW_ => ?_)
                   generalize w62.drew = w63 at BK250 BK251 BK257 HB hHeld ⊢
                   refine pz (i := 0) (N := some 92) #[I,O,O,O,O,O,O,O,O,O,O,O] ?_
                   refine pz (i := 1) (N := some 93) #[I,I,O,O,O,O,O,O,O,O,O,O] ?_
                   refine pz (i := 2) (N := some 94) #[I,I,I,O,O,O,O,O,O,O,O,O] ?_
                   refine pz (i := 3) (N := some 95) #[I,I,I,I,O,O,O,O,O,O,O,O] ?_
                   refine pz (i := 4) (N := some 96) #[I,I,I,I,I,O,O,O,O,O,O,O] ?_
                   refine pz (i := 5) (N := some 97) #[I,I,I,I,I,I,O,O,O,O,O,O] ?_
                   refine pz (i := 6) (N := some 98) #[I,I,I,I,I,I,I,O,O,O,O,O] ?_
                   refine pz (i := 7) (N := some 99) #[I,I,I,I,I,I,I,I,O,O,O,O] ?_
                   refine pz (i := 8) (N := some 100) #[I,I,I,I,I,I,I,I,I,O,O,O] ?_
                   refine one_ (i := 9) (N := none) #[I,I,I,I,I,I,I,I,I,I,O,O] rfl rfl (one_of HT_.out (by kernel_rfl)) (by decide) (fun K hK => ?_)
                   have hs64 : w63.cell? ⟨gb257, 2, none⟩ = some (.string (⟨#[]⟩ : ByteArray)) := (blk_cell BK257.out 2).trans rfl
                   have hfs64 := blk_frozen BK257.out 2
                   have hns64_0 := NB250_257.out
                   have hns64_1 := NB251_257.out
                   have hms64_0 := NB257_250.out
                   have hms64_1 := NB257_251.out
                   refine skip_ (w1 := ?_) (by rfl) rfl ?_ ?_
                   rotate_left
                   ·go_simp
                    rfl
                   refine hK.out _ _ trivial (fun hHeld => ?_)
                   clear hK K
                   refine pz (i := 10) (N := some 101) #[I,I,I,I,I,I,I,I,I,I,I,O] ?_
                   refine one_ (i := 11) (N := none) #[I,I,I,I,I,I,I,I,I,I,I,I] rfl rfl (one_of HT_.out (by kernel_rfl)) (by decide) (fun K hK => ?_)
                   have hs65 : w63.cell? ⟨gb257, 3, none⟩ = some (.string (⟨#[]⟩ : ByteArray)) := (blk_cell BK257.out 3).trans rfl
                   have hfs65 := blk_frozen BK257.out 3
                   have hns65_0 := NB250_257.out
                   have hns65_1 := NB251_257.out
                   have hms65_0 := NB257_250.out
                   have hms65_1 := NB257_251.out
                   refine skip_ (w1 := ?_) (by rfl) rfl ?_ ?_
                   rotate_left
                   ·go_simp
                    rfl
                   refine hK.out _ _ trivial (fun hHeld => ?_)
                   clear hK K
                   refine done_ (done_of HT_.out (by kernel_rfl)) ?_
                   have hcz66_0 : w63.cell? ⟨gb257, 0, none⟩ = some (.int .i64 t258) := (blk_cell BK257.out 0).trans rfl
                   have hcz66_1 : w63.cell? ⟨gb257, 1, none⟩ = some (.int .i64 t260) := (blk_cell BK257.out 1).trans rfl
                   have hcz66_2 : w63.cell? ⟨gb257, 2, none⟩ = some (.string (⟨#[]⟩ : ByteArray)) := (blk_cell BK257.out 2).trans rfl
                   have hcz66_3 : w63.cell? ⟨gb257, 3, none⟩ = some (.string (⟨#[]⟩ : ByteArray)) := (blk_cell BK257.out 3).trans rfl
                   have hcz66_4 : w63.cell? ⟨gb257, 4, none⟩ = some (.int .i64 (Int.tmod (wrap64 (bt (xt a0 6 ((wrap64 (6 + t252)) : Int).toNat) 16)) 4)) := (blk_cell BK257.out 4).trans rfl
                   have hcz66_5 : w63.cell? ⟨gb257, 5, none⟩ = some (.bool (decide ((wrap64 (bt (xt a0 6 ((wrap64 (6 + t252)) : Int).toNat) 16)) ≥ 4))) := (blk_cell BK257.out 5).trans rfl
                   have hfz66_0 := blk_frozen BK257.out 0
                   have hfz66_1 := blk_frozen BK257.out 1
                   have hfz66_2 := blk_frozen BK257.out 2
                   have hfz66_3 := blk_frozen BK257.out 3
                   have hfz66_4 := blk_frozen BK257.out 4
                   have hfz66_5 := blk_frozen BK257.out 5
                   try go_wp2_with (first | ((with_reducible refine gate_callee (f := 17) rfl ?_); refine goesL_ (some 103) rfl rfl Try.func17 (by kernel_rfl) rfl #[.agg #[.int .i64 t258, .int .i64 t260, .string (xt (xt a0 6 ((wrap64 (6 + t252)) : Int).toNat) 19 ((ji54) : Int).toNat), .string (xt (xt a0 6 ((wrap64 (6 + t252)) : Int).toNat) ((ji54) : Int).toNat (xt a0 6 ((wrap64 (6 + t252)) : Int).toNat).size), .int .i64 (Int.tmod (wrap64 (bt (xt a0 6 ((wrap64 (6 + t252)) : Int).toNat) 16)) 4), .bool (decide ((wrap64 (bt (xt a0 6 ((wrap64 (6 + t252)) : Int).toNat) 16)) ≥ 4))]] rfl (by (try simp only [List.map_toArray, List.map_cons, List.map_nil]); first | done | (simp only [hji54]; rfl) | rfl | (simp only [List.length_drop, List.length_take]; rfl) | (simp only [ByteArray.size_append]; rfl) | (simp; done)) ?_; (with_reducible refine (fairwayref10_Rec.calls t258 t260 (xt (xt a0 6 ((wrap64 (6 + t252)) : Int).toNat) 19 ((ji54) : Int).toNat) (xt (xt a0 6 ((wrap64 (6 + t252)) : Int).toNat) ((ji54) : Int).toNat (xt a0 6 ((wrap64 (6 + t252)) : Int).toNat).size) (Int.tmod (wrap64 (bt (xt a0 6 ((wrap64 (6 + t252)) : Int).toNat) 16)) 4) (decide ((wrap64 (bt (xt a0 6 ((wrap64 (6 + t252)) : Int).toNat) 16)) ≥ 4)) true _ A57.out).mono ?_); rintro e w67 ⟨rfl, hb⟩; refine ⟨_, rfl, ?_⟩; replace BK250 := Aside0.mk (bB BK250.out hb); replace BK251 := Aside0.mk (bB BK251.out hb); replace BK257 := Aside0.mk (blk_below (g := gb257) (o := .cells #[.int .i64 t258, .int .i64 t260, .string (xt (xt a0 6 ((wrap64 (6 + t252)) : Int).toNat) 19 ((ji54) : Int).toNat), .string (xt (xt a0 6 ((wrap64 (6 + t252)) : Int).toNat) ((ji54) : Int).toNat (xt a0 6 ((wrap64 (6 + t252)) : Int).toNat).size), .int .i64 (Int.tmod (wrap64 (bt (xt a0 6 ((wrap64 (6 + t252)) : Int).toNat) 16)) 4), .bool (decide ((wrap64 (bt (xt a0 6 ((wrap64 (6 + t252)) : Int).toNat) 16)) ≥ 4))] 25 (0, 0)) (by (with_reducible repeat (first | refine blk_drewN ?_ _ | refine blk_drew ?_ | refine blk_alloc ?_ _)); refine blk_put (cs := #[.int .i64 t258, .int .i64 t260, .string (xt (xt a0 6 ((wrap64 (6 + t252)) : Int).toNat) 19 ((ji54) : Int).toNat), .string (⟨#[]⟩ : ByteArray), .int .i64 (Int.tmod (wrap64 (bt (xt a0 6 ((wrap64 (6 + t252)) : Int).toNat) 16)) 4), .bool (decide ((wrap64 (bt (xt a0 6 ((wrap64 (6 + t252)) : Int).toNat) 16)) ≥ 4))]) ?_ 3 _ rfl; (with_reducible repeat (first | refine blk_drewN ?_ _ | refine blk_drew ?_ | refine blk_alloc ?_ _)); refine blk_put (cs := #[.int .i64 t258, .int .i64 t260, .string (⟨#[]⟩ : ByteArray), .string (⟨#[]⟩ : ByteArray), .int .i64 (Int.tmod (wrap64 (bt (xt a0 6 ((wrap64 (6 + t252)) : Int).toNat) 16)) 4), .bool (decide ((wrap64 (bt (xt a0 6 ((wrap64 (6 + t252)) : Int).toNat) 16)) ≥ 4))]) ?_ 2 _ rfl; (with_reducible repeat (first | refine blk_drewN ?_ _ | refine blk_drew ?_ | refine blk_alloc ?_ _)); exact BK257.out) hb); replace HB := Aside0.mk (below_step bo hb); (try clear hb); (try clear hb2); (try clear hk); (try clear hi); obtain ⟨hcz68_0, hcz68_1, hcz68_2, hcz68_3, hcz68_4, hcz68_5⟩ := cl6 BK257.out; obtain ⟨hfz68_0, hfz68_1, hfz68_2, hfz68_3, hfz68_4, hfz68_5⟩ := fz6 BK257.out; have hnb69 := NB250_251.out; have hnc69 := NB251_250.out; obtain ⟨hcz70_0, hcz70_1, hcz70_2, hcz70_3, hcz70_4, hcz70_5⟩ := cl6 BK250.out; obtain ⟨hfz70_0, hfz70_1, hfz70_2, hfz70_3, hfz70_4, hfz70_5⟩ := fz6 BK250.out))
                   refine bodyPost_ret (results_ctt rfl _ _ gb250 25 #[.int .i64 t258, .int .i64 t260, .string (xt (xt a0 6 ((wrap64 (6 + t252)) : Int).toNat) 19 ((ji54) : Int).toNat), .string (xt (xt a0 6 ((wrap64 (6 + t252)) : Int).toNat) ((ji54) : Int).toNat (xt a0 6 ((wrap64 (6 + t252)) : Int).toNat).size), .int .i64 (Int.tmod (wrap64 (bt (xt a0 6 ((wrap64 (6 + t252)) : Int).toNat) 16)) 4), .bool (decide ((wrap64 (bt (xt a0 6 ((wrap64 (6 + t252)) : Int).toNat) 16)) ≥ 4))] (0, 0) _ rfl (by (with_reducible repeat (first | refine blk_drewN ?_ _ | refine blk_drew ?_ | refine blk_alloc ?_ _)); refine blk_put (cs := #[.int .i64 t258, .int .i64 t260, .string (xt (xt a0 6 ((wrap64 (6 + t252)) : Int).toNat) 19 ((ji54) : Int).toNat), .string (xt (xt a0 6 ((wrap64 (6 + t252)) : Int).toNat) ((ji54) : Int).toNat (xt a0 6 ((wrap64 (6 + t252)) : Int).toNat).size), .int .i64 (Int.tmod (wrap64 (bt (xt a0 6 ((wrap64 (6 + t252)) : Int).toNat) 16)) 4), .bool false]) ?_ 5 _ rfl; (with_reducible repeat (first | refine blk_drewN ?_ _ | refine blk_drew ?_ | refine blk_alloc ?_ _)); refine blk_put (cs := #[.int .i64 t258, .int .i64 t260, .string (xt (xt a0 6 ((wrap64 (6 + t252)) : Int).toNat) 19 ((ji54) : Int).toNat), .string (xt (xt a0 6 ((wrap64 (6 + t252)) : Int).toNat) ((ji54) : Int).toNat (xt a0 6 ((wrap64 (6 + t252)) : Int).toNat).size), .int .i64 0, .bool false]) ?_ 4 _ rfl; (with_reducible repeat (first | refine blk_drewN ?_ _ | refine blk_drew ?_ | refine blk_alloc ?_ _)); refine blk_put (cs := #[.int .i64 t258, .int .i64 t260, .string (xt (xt a0 6 ((wrap64 (6 + t252)) : Int).toNat) 19 ((ji54) : Int).toNat), .string (⟨#[]⟩ : ByteArray), .int .i64 0, .bool false]) ?_ 3 _ rfl; (with_reducible repeat (first | refine blk_drewN ?_ _ | refine blk_drew ?_ | refine blk_alloc ?_ _)); refine blk_put (cs := #[.int .i64 t258, .int .i64 t260, .string (⟨#[]⟩ : ByteArray), .string (⟨#[]⟩ : ByteArray), .int .i64 0, .bool false]) ?_ 2 _ rfl; (with_reducible repeat (first | refine blk_drewN ?_ _ | refine blk_drew ?_ | refine blk_alloc ?_ _)); refine blk_put (cs := #[.int .i64 t258, .int .i64 0, .string (⟨#[]⟩ : ByteArray), .string (⟨#[]⟩ : ByteArray), .int .i64 0, .bool false]) ?_ 1 _ rfl; (with_reducible repeat (first | refine blk_drewN ?_ _ | refine blk_drew ?_ | refine blk_alloc ?_ _)); refine blk_put (cs := #[.int .i64 0, .int .i64 0, .string (⟨#[]⟩ : ByteArray), .string (⟨#[]⟩ : ByteArray), .int .i64 0, .bool false]) ?_ 0 _ rfl; (with_reducible repeat (first | refine blk_drewN ?_ _ | refine blk_drew ?_ | refine blk_alloc ?_ _)); exact BK250.out) Try.underlying25 rfl (by kernel_rfl)) rfl ?_
                   exact ⟨by first | rfl | (simp [errW_none, errW_some] <;> rfl) | (simp only [← hji54]; first | rfl | (simp [errW_none, errW_some] <;> rfl)) | (simp [*, errW_none, errW_some] <;> rfl), bo⟩
                  ·replace c58 := Bool.eq_false_iff.mpr c58
                   subst c58
                   have H1 : (some (0, 0, (⟨#[]⟩ : ByteArray), (⟨#[]⟩ : ByteArray), 0, false, 0, 8)) = some (r1, r2, r3, r4, r5, r6, r7, r8) := by rw [if_neg (show ¬ (false = true) by decide)] at H; exact H
                   clear H
                   have H := H1
                   clear H1
                   simp only [Option.some.injEq, Prod.mk.injEq] at H
                   obtain ⟨rfl, rfl, rfl, rfl, rfl, rfl, rfl, rfl⟩ := H
                   have hnb71 := NB257_250.out
                   have hnc71 := NB250_257.out
                   have hnb72 := NB257_251.out
                   have hnc72 := NB251_257.out
                   have hcz73_0 : wc.cell? ⟨gb257, 0, none⟩ = some (.int .i64 t258) := (blk_cell BK257.out 0).trans rfl
                   have hcz73_1 : wc.cell? ⟨gb257, 1, none⟩ = some (.int .i64 t260) := (blk_cell BK257.out 1).trans rfl
                   have hcz73_2 : wc.cell? ⟨gb257, 2, none⟩ = some (.string (⟨#[]⟩ : ByteArray)) := (blk_cell BK257.out 2).trans rfl
                   have hcz73_3 : wc.cell? ⟨gb257, 3, none⟩ = some (.string (⟨#[]⟩ : ByteArray)) := (blk_cell BK257.out 3).trans rfl
                   have hcz73_4 : wc.cell? ⟨gb257, 4, none⟩ = some (.int .i64 0) := (blk_cell BK257.out 4).trans rfl
                   have hcz73_5 : wc.cell? ⟨gb257, 5, none⟩ = some (.bool false) := (blk_cell BK257.out 5).trans rfl
                   have hfz73_0 := blk_frozen BK257.out 0
                   have hfz73_1 := blk_frozen BK257.out 1
                   have hfz73_2 := blk_frozen BK257.out 2
                   have hfz73_3 := blk_frozen BK257.out 3
                   have hfz73_4 := blk_frozen BK257.out 4
                   have hfz73_5 := blk_frozen BK257.out 5
                   try go_wp2
                   (try (rw [drewN_self wc]; generalize hq_ : World.drewN wc _ = wc; have n0_ := Aside0.mk (blk_at hq_ BK250.out); have n1_ := Aside0.mk (blk_at hq_ BK251.out); have n2_ := Aside0.mk (blk_at hq_ BK257.out); have n3_ := Aside0.mk (below_at hq_ HB.out); clear hq_ BK250 BK251 BK257 HB; have BK250 := n0_; have BK251 := n1_; have BK257 := n2_; have HB := n3_; clear n0_ n1_ n2_ n3_))
                   have n0_ : Aside0 (((wc.setCell ⟨gb257, 4, none⟩ (.int .i64 (Int.tmod (wrap64 (bt (xt a0 6 ((wrap64 (6 + t252)) : Int).toNat) 16)) 4))).setCell ⟨gb257, 5, none⟩ (.bool (decide ((wrap64 (bt (xt a0 6 ((wrap64 (6 + t252)) : Int).toNat) 16)) ≥ 4)))).heap[gb250]? = some (.cells #[.int .i64 0, .int .i64 0, .string (⟨#[]⟩ : ByteArray), .string (⟨#[]⟩ : ByteArray), .int .i64 0, .bool false] 25 (0, 0))) := ⟨by (with_reducible repeat (first | refine blk_drewN ?_ _ | refine blk_drew ?_ | refine blk_alloc ?_ _)); refine blk_far ?_ NB250_257.out _; (with_reducible repeat (first | refine blk_drewN ?_ _ | refine blk_drew ?_ | refine blk_alloc ?_ _)); refine blk_far ?_ NB250_257.out _; (with_reducible repeat (first | refine blk_drewN ?_ _ | refine blk_drew ?_ | refine blk_alloc ?_ _)); exact BK250.out⟩
                   have n1_ : Aside0 (((wc.setCell ⟨gb257, 4, none⟩ (.int .i64 (Int.tmod (wrap64 (bt (xt a0 6 ((wrap64 (6 + t252)) : Int).toNat) 16)) 4))).setCell ⟨gb257, 5, none⟩ (.bool (decide ((wrap64 (bt (xt a0 6 ((wrap64 (6 + t252)) : Int).toNat) 16)) ≥ 4)))).heap[gb251]? = some (.cells #[.int .i64 0, .int .i64 0, .string (⟨#[]⟩ : ByteArray), .string (⟨#[]⟩ : ByteArray), .int .i64 0, .bool false] 25 (0, 0))) := ⟨by (with_reducible repeat (first | refine blk_drewN ?_ _ | refine blk_drew ?_ | refine blk_alloc ?_ _)); refine blk_far ?_ NB251_257.out _; (with_reducible repeat (first | refine blk_drewN ?_ _ | refine blk_drew ?_ | refine blk_alloc ?_ _)); refine blk_far ?_ NB251_257.out _; (with_reducible repeat (first | refine blk_drewN ?_ _ | refine blk_drew ?_ | refine blk_alloc ?_ _)); exact BK251.out⟩
                   have n2_ : Aside0 (((wc.setCell ⟨gb257, 4, none⟩ (.int .i64 (Int.tmod (wrap64 (bt (xt a0 6 ((wrap64 (6 + t252)) : Int).toNat) 16)) 4))).setCell ⟨gb257, 5, none⟩ (.bool (decide ((wrap64 (bt (xt a0 6 ((wrap64 (6 + t252)) : Int).toNat) 16)) ≥ 4)))).heap[gb257]? = some (.cells #[.int .i64 t258, .int .i64 t260, .string (⟨#[]⟩ : ByteArray), .string (⟨#[]⟩ : ByteArray), .int .i64 (Int.tmod (wrap64 (bt (xt a0 6 ((wrap64 (6 + t252)) : Int).toNat) 16)) 4), .bool (decide ((wrap64 (bt (xt a0 6 ((wrap64 (6 + t252)) : Int).toNat) 16)) ≥ 4))] 25 (0, 0))) := ⟨by (with_reducible repeat (first | refine blk_drewN ?_ _ | refine blk_drew ?_ | refine blk_alloc ?_ _)); refine blk_put (cs := #[.int .i64 t258, .int .i64 t260, .string (⟨#[]⟩ : ByteArray), .string (⟨#[]⟩ : ByteArray), .int .i64 (Int.tmod (wrap64 (bt (xt a0 6 ((wrap64 (6 + t252)) : Int).toNat) 16)) 4), .bool false]) ?_ 5 _ rfl; (with_reducible repeat (first | refine blk_drewN ?_ _ | refine blk_drew ?_ | refine blk_alloc ?_ _)); refine blk_put (cs := #[.int .i64 t258, .int .i64 t260, .string (⟨#[]⟩ : ByteArray), .string (⟨#[]⟩ : ByteArray), .int .i64 0, .bool false]) ?_ 4 _ rfl; (with_reducible repeat (first | refine blk_drewN ?_ _ | refine blk_drew ?_ | refine blk_alloc ?_ _)); exact BK257.out⟩
                   have n3_ : Aside0 (Below w.heap.size w ((wc.setCell ⟨gb257, 4, none⟩ (.int .i64 (Int.tmod (wrap64 (bt (xt a0 6 ((wrap64 (6 + t252)) : Int).toNat) 16)) 4))).setCell ⟨gb257, 5, none⟩ (.bool (decide ((wrap64 (bt (xt a0 6 ((wrap64 (6 + t252)) : Int).toNat) 16)) ≥ 4))))) := ⟨bo⟩
                   (try clear BK250)
                   (try clear BK251)
                   (try clear BK257)
                   (try clear HB)
                   generalize ((wc.setCell ⟨gb257, 4, none⟩ (.int .i64 (Int.tmod (wrap64 (bt (xt a0 6 ((wrap64 (6 + t252)) : Int).toNat) 16)) 4))).setCell ⟨gb257, 5, none⟩ (.bool (decide ((wrap64 (bt (xt a0 6 ((wrap64 (6 + t252)) : Int).toNat) 16)) ≥ 4)))) = w74 at n0_ n1_ n2_ n3_ ⊢
                   have BK250 := n0_
                   have BK251 := n1_
                   have BK257 := n2_
                   have HB := n3_
                   clear n0_ n1_ n2_ n3_
                   replace BK250 := Aside0.mk (blk_drew BK250.out)
                   replace BK251 := Aside0.mk (blk_drew BK251.out)
                   replace BK257 := Aside0.mk (blk_drew BK257.out)
                   replace HB := Aside0.mk (below_drew1 HB.out)
                   refine start_ (n := 12) (S := fun w' => True) (ds := []) #[O,O,O,O,O,O,O,O,O,O,O,O] (by kernel_rfl) rfl rfl trivial (fun hHeld => ?_); refine with_tabW fairwayref10_Take.tab19 fairwayref10_Take.bits19 (fun HT_ HW_ => ?_)
                   generalize w74.drew = w75 at BK250 BK251 BK257 HB hHeld ⊢
                   refine pz (i := 0) (N := some 92) #[I,O,O,O,O,O,O,O,O,O,O,O] ?_
                   refine pz (i := 1) (N := some 93) #[I,I,O,O,O,O,O,O,O,O,O,O] ?_
                   refine pz (i := 2) (N := some 94) #[I,I,I,O,O,O,O,O,O,O,O,O] ?_
                   refine pz (i := 3) (N := some 95) #[I,I,I,I,O,O,O,O,O,O,O,O] ?_
                   refine pz (i := 4) (N := some 96) #[I,I,I,I,I,O,O,O,O,O,O,O] ?_
                   refine pz (i := 5) (N := some 97) #[I,I,I,I,I,I,O,O,O,O,O,O] ?_
                   refine pz (i := 6) (N := some 98) #[I,I,I,I,I,I,I,O,O,O,O,O] ?_
                   refine pz (i := 7) (N := some 99) #[I,I,I,I,I,I,I,I,O,O,O,O] ?_
                   refine pz (i := 8) (N := some 100) #[I,I,I,I,I,I,I,I,I,O,O,O] ?_
                   refine one_ (i := 9) (N := none) #[I,I,I,I,I,I,I,I,I,I,O,O] rfl rfl (one_of HT_.out (by kernel_rfl)) (by decide) (fun K hK => ?_)
                   have hs76 : w75.cell? ⟨gb257, 2, none⟩ = some (.string (⟨#[]⟩ : ByteArray)) := (blk_cell BK257.out 2).trans rfl
                   have hfs76 := blk_frozen BK257.out 2
                   have hns76_0 := NB250_257.out
                   have hns76_1 := NB251_257.out
                   have hms76_0 := NB257_250.out
                   have hms76_1 := NB257_251.out
                   refine skip_ (w1 := ?_) (by rfl) rfl ?_ ?_
                   rotate_left
                   ·go_simp
                    rfl
                   refine hK.out _ _ trivial (fun hHeld => ?_)
                   clear hK K
                   refine pz (i := 10) (N := some 101) #[I,I,I,I,I,I,I,I,I,I,I,O] ?_
                   refine one_ (i := 11) (N := none) #[I,I,I,I,I,I,I,I,I,I,I,I] rfl rfl (one_of HT_.out (by kernel_rfl)) (by decide) (fun K hK => ?_)
                   have hs77 : w75.cell? ⟨gb257, 3, none⟩ = some (.string (⟨#[]⟩ : ByteArray)) := (blk_cell BK257.out 3).trans rfl
                   have hfs77 := blk_frozen BK257.out 3
                   have hns77_0 := NB250_257.out
                   have hns77_1 := NB251_257.out
                   have hms77_0 := NB257_250.out
                   have hms77_1 := NB257_251.out
                   refine skip_ (w1 := ?_) (by rfl) rfl ?_ ?_
                   rotate_left
                   ·go_simp
                    rfl
                   refine hK.out _ _ trivial (fun hHeld => ?_)
                   clear hK K
                   refine done_ (done_of HT_.out (by kernel_rfl)) ?_
                   have hcz78_0 : w75.cell? ⟨gb257, 0, none⟩ = some (.int .i64 t258) := (blk_cell BK257.out 0).trans rfl
                   have hcz78_1 : w75.cell? ⟨gb257, 1, none⟩ = some (.int .i64 t260) := (blk_cell BK257.out 1).trans rfl
                   have hcz78_2 : w75.cell? ⟨gb257, 2, none⟩ = some (.string (⟨#[]⟩ : ByteArray)) := (blk_cell BK257.out 2).trans rfl
                   have hcz78_3 : w75.cell? ⟨gb257, 3, none⟩ = some (.string (⟨#[]⟩ : ByteArray)) := (blk_cell BK257.out 3).trans rfl
                   have hcz78_4 : w75.cell? ⟨gb257, 4, none⟩ = some (.int .i64 (Int.tmod (wrap64 (bt (xt a0 6 ((wrap64 (6 + t252)) : Int).toNat) 16)) 4)) := (blk_cell BK257.out 4).trans rfl
                   have hcz78_5 : w75.cell? ⟨gb257, 5, none⟩ = some (.bool (decide ((wrap64 (bt (xt a0 6 ((wrap64 (6 + t252)) : Int).toNat) 16)) ≥ 4))) := (blk_cell BK257.out 5).trans rfl
                   have hfz78_0 := blk_frozen BK257.out 0
                   have hfz78_1 := blk_frozen BK257.out 1
                   have hfz78_2 := blk_frozen BK257.out 2
                   have hfz78_3 := blk_frozen BK257.out 3
                   have hfz78_4 := blk_frozen BK257.out 4
                   have hfz78_5 := blk_frozen BK257.out 5
                   try go_wp2_with (first | ((with_reducible refine gate_callee (f := 17) rfl ?_); refine goesL_ (some 103) rfl rfl Try.func17 (by kernel_rfl) rfl #[.agg #[.int .i64 t258, .int .i64 t260, .string (xt (xt a0 6 ((wrap64 (6 + t252)) : Int).toNat) 19 ((ji54) : Int).toNat), .string (xt (xt a0 6 ((wrap64 (6 + t252)) : Int).toNat) ((ji54) : Int).toNat (xt a0 6 ((wrap64 (6 + t252)) : Int).toNat).size), .int .i64 (Int.tmod (wrap64 (bt (xt a0 6 ((wrap64 (6 + t252)) : Int).toNat) 16)) 4), .bool (decide ((wrap64 (bt (xt a0 6 ((wrap64 (6 + t252)) : Int).toNat) 16)) ≥ 4))]] rfl (by (try simp only [List.map_toArray, List.map_cons, List.map_nil]); first | done | (simp only [hji54]; rfl) | rfl | (simp only [List.length_drop, List.length_take]; rfl) | (simp only [ByteArray.size_append]; rfl) | (simp; done)) ?_; (with_reducible refine (fairwayref10_Rec.calls t258 t260 (xt (xt a0 6 ((wrap64 (6 + t252)) : Int).toNat) 19 ((ji54) : Int).toNat) (xt (xt a0 6 ((wrap64 (6 + t252)) : Int).toNat) ((ji54) : Int).toNat (xt a0 6 ((wrap64 (6 + t252)) : Int).toNat).size) (Int.tmod (wrap64 (bt (xt a0 6 ((wrap64 (6 + t252)) : Int).toNat) 16)) 4) (decide ((wrap64 (bt (xt a0 6 ((wrap64 (6 + t252)) : Int).toNat) 16)) ≥ 4)) false _ A57.out).mono ?_); rintro e w79 ⟨rfl, hb⟩; refine ⟨_, rfl, ?_⟩; replace BK250 := Aside0.mk (bB BK250.out hb); replace BK251 := Aside0.mk (bB BK251.out hb); replace BK257 := Aside0.mk (blk_below (g := gb257) (o := .cells #[.int .i64 t258, .int .i64 t260, .string (xt (xt a0 6 ((wrap64 (6 + t252)) : Int).toNat) 19 ((ji54) : Int).toNat), .string (xt (xt a0 6 ((wrap64 (6 + t252)) : Int).toNat) ((ji54) : Int).toNat (xt a0 6 ((wrap64 (6 + t252)) : Int).toNat).size), .int .i64 (Int.tmod (wrap64 (bt (xt a0 6 ((wrap64 (6 + t252)) : Int).toNat) 16)) 4), .bool (decide ((wrap64 (bt (xt a0 6 ((wrap64 (6 + t252)) : Int).toNat) 16)) ≥ 4))] 25 (0, 0)) (by (with_reducible repeat (first | refine blk_drewN ?_ _ | refine blk_drew ?_ | refine blk_alloc ?_ _)); refine blk_put (cs := #[.int .i64 t258, .int .i64 t260, .string (xt (xt a0 6 ((wrap64 (6 + t252)) : Int).toNat) 19 ((ji54) : Int).toNat), .string (⟨#[]⟩ : ByteArray), .int .i64 (Int.tmod (wrap64 (bt (xt a0 6 ((wrap64 (6 + t252)) : Int).toNat) 16)) 4), .bool (decide ((wrap64 (bt (xt a0 6 ((wrap64 (6 + t252)) : Int).toNat) 16)) ≥ 4))]) ?_ 3 _ rfl; (with_reducible repeat (first | refine blk_drewN ?_ _ | refine blk_drew ?_ | refine blk_alloc ?_ _)); refine blk_put (cs := #[.int .i64 t258, .int .i64 t260, .string (⟨#[]⟩ : ByteArray), .string (⟨#[]⟩ : ByteArray), .int .i64 (Int.tmod (wrap64 (bt (xt a0 6 ((wrap64 (6 + t252)) : Int).toNat) 16)) 4), .bool (decide ((wrap64 (bt (xt a0 6 ((wrap64 (6 + t252)) : Int).toNat) 16)) ≥ 4))]) ?_ 2 _ rfl; (with_reducible repeat (first | refine blk_drewN ?_ _ | refine blk_drew ?_ | refine blk_alloc ?_ _)); exact BK257.out) hb); replace HB := Aside0.mk (below_step bo hb); (try clear hb); (try clear hb2); (try clear hk); (try clear hi); have hnb80 := NB251_250.out; have hnc80 := NB250_251.out; obtain ⟨hcz81_0, hcz81_1, hcz81_2, hcz81_3, hcz81_4, hcz81_5⟩ := cl6 BK251.out; obtain ⟨hfz81_0, hfz81_1, hfz81_2, hfz81_3, hfz81_4, hfz81_5⟩ := fz6 BK251.out; obtain ⟨hcz82_0, hcz82_1, hcz82_2, hcz82_3, hcz82_4, hcz82_5⟩ := cl6 BK250.out; obtain ⟨hfz82_0, hfz82_1, hfz82_2, hfz82_3, hfz82_4, hfz82_5⟩ := fz6 BK250.out))
                   refine bodyPost_ret (results_ctt rfl _ _ gb250 25 #[.int .i64 0, .int .i64 0, .string (⟨#[]⟩ : ByteArray), .string (⟨#[]⟩ : ByteArray), .int .i64 0, .bool false] (0, 0) _ rfl (by (with_reducible repeat (first | refine blk_drewN ?_ _ | refine blk_drew ?_ | refine blk_alloc ?_ _)); refine blk_put (cs := #[.int .i64 0, .int .i64 0, .string (⟨#[]⟩ : ByteArray), .string (⟨#[]⟩ : ByteArray), .int .i64 0, .bool false]) ?_ 5 _ rfl; (with_reducible repeat (first | refine blk_drewN ?_ _ | refine blk_drew ?_ | refine blk_alloc ?_ _)); refine blk_put (cs := #[.int .i64 0, .int .i64 0, .string (⟨#[]⟩ : ByteArray), .string (⟨#[]⟩ : ByteArray), .int .i64 0, .bool false]) ?_ 4 _ rfl; (with_reducible repeat (first | refine blk_drewN ?_ _ | refine blk_drew ?_ | refine blk_alloc ?_ _)); refine blk_put (cs := #[.int .i64 0, .int .i64 0, .string (⟨#[]⟩ : ByteArray), .string (⟨#[]⟩ : ByteArray), .int .i64 0, .bool false]) ?_ 3 _ rfl; (with_reducible repeat (first | refine blk_drewN ?_ _ | refine blk_drew ?_ | refine blk_alloc ?_ _)); refine blk_put (cs := #[.int .i64 0, .int .i64 0, .string (⟨#[]⟩ : ByteArray), .string (⟨#[]⟩ : ByteArray), .int .i64 0, .bool false]) ?_ 2 _ rfl; (with_reducible repeat (first | refine blk_drewN ?_ _ | refine blk_drew ?_ | refine blk_alloc ?_ _)); refine blk_put (cs := #[.int .i64 0, .int .i64 0, .string (⟨#[]⟩ : ByteArray), .string (⟨#[]⟩ : ByteArray), .int .i64 0, .bool false]) ?_ 1 _ rfl; (with_reducible repeat (first | refine blk_drewN ?_ _ | refine blk_drew ?_ | refine blk_alloc ?_ _)); refine blk_put (cs := #[.int .i64 0, .int .i64 0, .string (⟨#[]⟩ : ByteArray), .string (⟨#[]⟩ : ByteArray), .int .i64 0, .bool false]) ?_ 0 _ rfl; (with_reducible repeat (first | refine blk_drewN ?_ _ | refine blk_drew ?_ | refine blk_alloc ?_ _)); exact BK250.out) Try.underlying25 rfl (by kernel_rfl)) rfl ?_
                   exact ⟨by first | rfl | (simp [errW_none, errW_some] <;> rfl) | (simp only [← hji54]; first | rfl | (simp [errW_none, errW_some] <;> rfl)) | (simp [*, errW_none, errW_some] <;> rfl), bo⟩
                 ·rw [if_neg c55] at H
                  exact absurd H (by simp)
                ·rw [if_neg c53] at H
                 exact absurd H (by simp)
               ·rw [if_neg c52] at H
                exact absurd H (by simp)
           ·rw [if_neg c38] at H
            exact absurd H (by simp)
          ·rw [if_neg c36] at H
           exact absurd H (by simp)
         ·rw [if_neg c34] at H
          exact absurd H (by simp)
     ·rw [if_neg c18] at H
      exact absurd H (by simp)
    ·rw [if_neg c17] at H
     exact absurd H (by simp)
   ·rw [if_neg c15] at H
    exact absurd H (by simp)

end Go.Proofs.Ytmabdfdmccbfnaa.P

-- written by a program of the proving session, out of the translation; Lean checks it
namespace Go.Proofs.Ytmabdfdmccbfnaa.P
open Go.RowKit Go.Proofs.Ytmabdfdmccbfnaa.Sq Go.Proofs.YtmabdfdmccbfnaaW.PrintWords Go.Proofs.YtmabdfdmccbfnaaW.PrintLast Go.Proofs.YtmabdfdmccbfnaaW.PrintMore
attribute [local go_sem] max2_int min2_int max_two min_two max_three min_three max_four min_four   -- for this text's walks alone
set_option linter.unusedVariables false
set_option linter.unusedSimpArgs false

/-! ### fairwayref10_Scan: function 26 -/
def fairwayref10_Scan.l0 : Nat → ByteArray → List (S25) → Int → Option ((List (S25)) × Int × Bool)
 | 0, _, _, _ => none
 | k + 1, x0, x5, x6 => if x6 < (x0.size : Int) then (if 0 ≤ x6 then (if x6 ≤ (x0.size : Int) then ((fairwayref10_Take.f k (x0.extract (x6 : Int).toNat x0.size)).bind fun bt277 => (if bt277.2.2.2.2.2.2.2 = 0 then (if x5.length < 2199023255552 then (fairwayref10_Scan.l0 k x0 (x5 ++ [(⟨bt277.1, bt277.2.1, bt277.2.2.1, bt277.2.2.2.1, bt277.2.2.2.2.1, bt277.2.2.2.2.2.1⟩ : S25)]) (wrap64 (x6 + bt277.2.2.2.2.2.2.1))) else (none)) else (some (x5, x6, false)))) else (none)) else (none)) else (some (x5, x6, true))
def fairwayref10_Scan.f (k : Nat) (a0 : ByteArray) : Option ((List (S25)) × Int × Bool) := fairwayref10_Scan.l0 k a0 ([] : List (S25)) 0
theorem fairwayref10_Scan.mono_l : ∀ k, (∀ y0 y1 y2, LeO (fairwayref10_Scan.l0 k y0 y1 y2) (fairwayref10_Scan.l0 (k + 1) y0 y1 y2))
 | 0 => fun _ _ _ r h => by simp [fairwayref10_Scan.l0] at h
 | k + 1 => by
  have ih0 := fairwayref10_Scan.mono_l k
  ·intro y0 y1 y2
   unfold fairwayref10_Scan.l0
   repeat' first
   | (with_reducible exact ih0 _ _ _)
   | (with_reducible exact fairwayref10_Take.mono _ _)
   | (with_reducible exact LeO.refl _)
   | (with_reducible exact LeO.none _)
   | (with_reducible refine LeO.ite ?_ ?_)
   | (with_reducible refine LeO.bind ?_ (fun _ => ?_))
   | exact ih0 _ _ _
   | exact fairwayref10_Take.mono _ _
   | exact LeO.none _
   | refine LeO.ite ?_ ?_
   | refine LeO.bind ?_ (fun _ => ?_)
theorem fairwayref10_Scan.mono : ∀ a0 k, LeO (fairwayref10_Scan.f k a0) (fairwayref10_Scan.f (k + 1) a0) := by
 intro a0 k
 have ih0 := fairwayref10_Scan.mono_l k
 unfold fairwayref10_Scan.f
 repeat' first
  | (with_reducible exact ih0 _ _ _)
  | (with_reducible exact fairwayref10_Take.mono _ _)
  | (with_reducible exact LeO.refl _)
  | (with_reducible exact LeO.none _)
  | (with_reducible refine LeO.ite ?_ ?_)
  | (with_reducible refine LeO.bind ?_ (fun _ => ?_))
  | exact ih0 _ _ _
  | exact fairwayref10_Take.mono _ _
  | exact LeO.none _
  | refine LeO.ite ?_ ?_
  | refine LeO.bind ?_ (fun _ => ?_)
set_option maxHeartbeats 8000000 in
set_option maxRecDepth 100000 in
theorem fairwayref10_Scan.calls (k : Nat) (a0 : ByteArray) (r1 : List (S25)) (r2 : Int) (r3 : Bool) (w : World) (h : fairwayref10_Scan.f k a0 = some (r1, r2, r3)) :
 Calls Try.prog 26 #[.string a0] w fun e w' => ∃ v0_ : Value, e = .returned (.tuple #[v0_, .int .i64 r2, .bool r3]) ∧ Kd.R k25 25 w' w.heap.size (fun _ => True) v0_ r1 ∧ Below w.heap.size w w' := by
 have hu25 := Try.underlying25
 have HB := Aside0.mk (Below.refl w.heap.size w)
 have H : (fairwayref10_Scan.l0 k a0 ([] : List (S25)) 0) = some (r1, r2, r3) := h
 clear h
 have H' := Aside0.mk H
 clear H
 go_enter Try.func26, Try.ntmps26
 go_wp2
 go_loopg [5, 6] k (fun kq v5 v6 w' => ∃ (x5_1 : List (S25)) (x6_1 : Int), v6 = .int .i64 x6_1 ∧ Aside0 (fairwayref10_Scan.l0 kq a0 x5_1 x6_1 = some (r1, r2, r3)) ∧ Aside0 (kq ≤ k) ∧ Aside0 (Kd.R k25 25 w' w.heap.size (fun _ => True) v5 x5_1) ∧ Aside0 (Below w.heap.size w w'))
 case atStart => exact ⟨(([] : List (S25))), (0), ap, H', ⟨Nat.le_refl _⟩, ⟨by first | exact Kd.R_nil _ _ _ _ _ | exact Kd.N_nil _ _ _ _ _ | exact Kd.V_nil _ _ _ _ _ | exact Kd.Q_nil _ _ _ _ _ | exact Kd.S_nil _ _ _ _ _⟩, ⟨bo⟩⟩
 case round =>
  clear H'
  obtain ⟨x5_1, x6_1, rfl, HA, HK1, HO_5, HB⟩ := hrel
  cases gk with
  | zero => exact absurd HA.out (by simp [fairwayref10_Scan.l0])
  | succ k1 =>
   have H := HA.out
   clear HA
   simp only [fairwayref10_Scan.l0] at H
   by_cases c2 : x6_1 < (a0.size : Int)
   ·rw [if_pos c2] at H
    have c2b0 : decide (x6_1 < (a0.size : Int)) = true := decide_eq_true c2
    clear c2
    by_cases c3 : 0 ≤ x6_1
    ·rw [if_pos c3] at H
     have c3b0 := eq_true c3
     have c3b1 : decide (0 ≤ x6_1) = true := decide_eq_true c3
     clear c3
     by_cases c4 : x6_1 ≤ (a0.size : Int)
     ·rw [if_pos c4] at H
      have c4b0 := eq_true c4
      have c4b1 : decide (x6_1 ≤ (a0.size : Int)) = true := decide_eq_true c4
      clear c4
      replace H := Option.bind_eq_some_iff.mp H
      obtain ⟨⟨t277, t278, t279, t280, t281, t282, t283, t284⟩, A50, H⟩ := H
      replace H : (if t284 = 0 then (if x5_1.length < 2199023255552 then (fairwayref10_Scan.l0 k1 a0 (x5_1 ++ [(⟨t277, t278, t279, t280, t281, t282⟩ : S25)]) (wrap64 (x6_1 + t283))) else (none)) else (some (x5_1, x6_1, false))) = some (r1, r2, r3) := H
      have A5 := Aside0.mk A50
      clear A50
      by_cases c6 : t284 = 0
      ·rw [if_pos c6] at H
       have c6b0 : (t284 == 0) = true := beq_iff_eq.mpr c6
       have c6b1 : (t284 != 0) = false := bne_eq_false_iff_eq.mpr c6
       clear c6
       by_cases c7 : x5_1.length < 2199023255552
       ·rw [if_pos c7] at H
        have LMc7 := Aside0.mk c7
        clear c7
        obtain ⟨y286, hy286⟩ : ∃ y_ : List (S25), y_ = (x5_1 ++ [(⟨t277, t278, t279, t280, t281, t282⟩ : S25)]) := ⟨_, rfl⟩
        replace H : (fairwayref10_Scan.l0 k1 a0 y286 (wrap64 (x6_1 + t283))) = some (r1, r2, r3) := by first | (rw [hy286]; with_reducible exact H) | (have H2_ := (Option.bind_some _ _).symm.trans H; rw [hy286]; with_reducible exact H2_) | (have H2_ := (Option.bind_some _ _).symm.trans H; with_reducible exact H2_) | with_reducible exact H | (rw [hy286]; exact H) | exact H
        have Ny286 := Aside0.mk hy286
        clear hy286
        have H' := Aside0.mk H
        clear H
        go_wp2_with (first | ((with_reducible refine gate_callee (f := 24) rfl ?_); refine goesL_ (some 18) rfl rfl Try.func24 (by kernel_rfl) rfl #[.string (a0.extract (x6_1 : Int).toNat a0.size)] rfl aa ?_; (with_reducible refine (fairwayref10_Take.calls k1 (a0.extract (x6_1 : Int).toNat a0.size) t277 t278 t279 t280 t281 t282 t283 t284 _ A5.out).mono ?_); rintro e w8 ⟨rfl, hb⟩; refine ⟨_, rfl, ?_⟩; replace HO_5 := Aside0.mk (Kd.R_below (rk HO_5.out) hb); replace HB := Aside0.mk (below_step bo hb); (try clear hb); (try clear hb2); (try clear hk); (try clear hi)) | ((with_reducible refine gate_dst (N := 7) rfl ?_); refine box_event ?hg (N := 7) ?hd (cs := #[.int .i64 0, .int .i64 0, .string (⟨#[]⟩ : ByteArray), .string (⟨#[]⟩ : ByteArray), .int .i64 0, .bool false]) (t := 25) ?hr ?_; (case hd => rfl); (case hg => rfl); (case hr => first | (go_simp; done) | (go_simp; rfl)); intro gb285 hg w9 hbox hb; replace HO_5 := Aside0.mk (Kd.R_below (Kd.R_elderB (rk HO_5.out) gb285 (Nat.le_of_eq hg.symm)) hb); have BK285 := Aside0.mk (hbox); have GW285 := Aside0.mk ((by rw [hg]; exact (below_size bo) : w.heap.size ≤ gb285)); have GE285 := Aside0.mk ((by rw [hg]; exact (below_size bo) : w.heap.size ≤ gb285)); replace HB := Aside0.mk (below_step bo hb); clear hb hbox hg; obtain ⟨hcz10_0, hcz10_1, hcz10_2, hcz10_3, hcz10_4, hcz10_5⟩ := cl6 BK285.out; obtain ⟨hfz10_0, hfz10_1, hfz10_2, hfz10_3, hfz10_4, hfz10_5⟩ := fz6 BK285.out) | ((with_reducible refine gate_builtin (b := .append) (xs := #[.tmp 26, .tmp 28]) rfl ?_); at_builtin; refine Kd.R_append k25 (w0 := w) w.heap.size rfl (.tmp 26) (.tmp 28) 36 25 (.agg #[(.int .i64 0), (.int .i64 0), (.string ⟨#[]⟩), (.string ⟨#[]⟩), (.int .i64 0), (.bool false)]) 64 rfl Try.underlying36 info25 rfl (by decide) (by omega) u5 x5_1 (⟨t277, t278, t279, t280, t281, t282⟩ : S25) [.int .i64 t277, .int .i64 t278, .string t279, .string t280, .int .i64 t281, .bool t282] (fun k_ => k_ ≠ gb285) (fun _ => False) rfl (by first | (go_simp; done) | (go_simp; rfl)) ?aP (fun _ hk => hk.elim) ?aF ?aO ?aB ?aS ?aL ?_; (case aP => exact k25_mkM _ _ _ (⟨t277, t278, t279, t280, t281, t282⟩ : S25)); (case aB => exact bo); (case aF => exact (fun k_ hk => Kd.freshB (g := gb285) (o := .cells #[.int .i64 t277, .int .i64 t278, .string t279, .string t280, .int .i64 t281, .bool t282] 25 (0, 0)) (by (with_reducible repeat (first | refine blk_drewN ?_ _ | refine blk_drew ?_ | refine blk_alloc ?_ _)); refine blk_put (cs := #[.int .i64 t277, .int .i64 t278, .string t279, .string t280, .int .i64 t281, .bool false]) ?_ 5 _ rfl; (with_reducible repeat (first | refine blk_drewN ?_ _ | refine blk_drew ?_ | refine blk_alloc ?_ _)); refine blk_put (cs := #[.int .i64 t277, .int .i64 t278, .string t279, .string t280, .int .i64 0, .bool false]) ?_ 4 _ rfl; (with_reducible repeat (first | refine blk_drewN ?_ _ | refine blk_drew ?_ | refine blk_alloc ?_ _)); refine blk_put (cs := #[.int .i64 t277, .int .i64 t278, .string t279, .string (⟨#[]⟩ : ByteArray), .int .i64 0, .bool false]) ?_ 3 _ rfl; (with_reducible repeat (first | refine blk_drewN ?_ _ | refine blk_drew ?_ | refine blk_alloc ?_ _)); refine blk_put (cs := #[.int .i64 t277, .int .i64 t278, .string (⟨#[]⟩ : ByteArray), .string (⟨#[]⟩ : ByteArray), .int .i64 0, .bool false]) ?_ 2 _ rfl; (with_reducible repeat (first | refine blk_drewN ?_ _ | refine blk_drew ?_ | refine blk_alloc ?_ _)); refine blk_put (cs := #[.int .i64 t277, .int .i64 0, .string (⟨#[]⟩ : ByteArray), .string (⟨#[]⟩ : ByteArray), .int .i64 0, .bool false]) ?_ 1 _ rfl; (with_reducible repeat (first | refine blk_drewN ?_ _ | refine blk_drew ?_ | refine blk_alloc ?_ _)); refine blk_put (cs := #[.int .i64 0, .int .i64 0, .string (⟨#[]⟩ : ByteArray), .string (⟨#[]⟩ : ByteArray), .int .i64 0, .bool false]) ?_ 0 _ rfl; (with_reducible repeat (first | refine blk_drewN ?_ _ | refine blk_drew ?_ | refine blk_alloc ?_ _)); exact BK285.out) k_ hk)); (case aO => exact (by (with_reducible repeat (first | apply Kd.R_alloc | apply Kd.R_drewN | apply Kd.R_drew)); exact Kd.R_mono (Kd.R_far (p := ⟨gb285, 5, none⟩) (Kd.R_far (p := ⟨gb285, 4, none⟩) (Kd.R_far (p := ⟨gb285, 3, none⟩) (Kd.R_far (p := ⟨gb285, 2, none⟩) (Kd.R_far (p := ⟨gb285, 1, none⟩) (Kd.R_far (p := ⟨gb285, 0, none⟩) (Kd.R_mono HO_5.out (fun k_ hk => (⟨hk, hk.2⟩ : _ ∧ k_ ≠ gb285))) (fun _ hk => hk.2) (.int .i64 t277)) (fun _ hk => hk.2) (.int .i64 t278)) (fun _ hk => hk.2) (.string t279)) (fun _ hk => hk.2) (.string t280)) (fun _ hk => hk.2) (.int .i64 t281)) (fun _ hk => hk.2) (.bool t282)) (fun _ hk => hk.1.2))); (case aS => exact (below_size bo)); (case aL => have := LMc7.out; omega); intro v287 w11 ho hb hg hat; rw [← Ny286.out] at ho; have n0_ := Aside0.mk (blk_grown (g := gb285) (o := .cells #[.int .i64 t277, .int .i64 t278, .string t279, .string t280, .int .i64 t281, .bool t282] 25 (0, 0)) (by (with_reducible repeat (first | refine blk_drewN ?_ _ | refine blk_drew ?_ | refine blk_alloc ?_ _)); refine blk_put (cs := #[.int .i64 t277, .int .i64 t278, .string t279, .string t280, .int .i64 t281, .bool false]) ?_ 5 _ rfl; (with_reducible repeat (first | refine blk_drewN ?_ _ | refine blk_drew ?_ | refine blk_alloc ?_ _)); refine blk_put (cs := #[.int .i64 t277, .int .i64 t278, .string t279, .string t280, .int .i64 0, .bool false]) ?_ 4 _ rfl; (with_reducible repeat (first | refine blk_drewN ?_ _ | refine blk_drew ?_ | refine blk_alloc ?_ _)); refine blk_put (cs := #[.int .i64 t277, .int .i64 t278, .string t279, .string (⟨#[]⟩ : ByteArray), .int .i64 0, .bool false]) ?_ 3 _ rfl; (with_reducible repeat (first | refine blk_drewN ?_ _ | refine blk_drew ?_ | refine blk_alloc ?_ _)); refine blk_put (cs := #[.int .i64 t277, .int .i64 t278, .string (⟨#[]⟩ : ByteArray), .string (⟨#[]⟩ : ByteArray), .int .i64 0, .bool false]) ?_ 2 _ rfl; (with_reducible repeat (first | refine blk_drewN ?_ _ | refine blk_drew ?_ | refine blk_alloc ?_ _)); refine blk_put (cs := #[.int .i64 t277, .int .i64 0, .string (⟨#[]⟩ : ByteArray), .string (⟨#[]⟩ : ByteArray), .int .i64 0, .bool false]) ?_ 1 _ rfl; (with_reducible repeat (first | refine blk_drewN ?_ _ | refine blk_drew ?_ | refine blk_alloc ?_ _)); refine blk_put (cs := #[.int .i64 0, .int .i64 0, .string (⟨#[]⟩ : ByteArray), .string (⟨#[]⟩ : ByteArray), .int .i64 0, .bool false]) ?_ 0 _ rfl; (with_reducible repeat (first | refine blk_drewN ?_ _ | refine blk_drew ?_ | refine blk_alloc ?_ _)); exact BK285.out) hg (Kd.R_away HO_5.out (fun _ hk => hk.2))); have n1_ := Aside0.mk (hb); have n2_ := Aside0.mk (ho); clear BK285; clear HB; clear HO_5; have BK285 := n0_; have HB := n1_; have HO288 := n2_; clear n0_ n1_ n2_; clear ho hb hg hat))
        go_roundg k1
        case measure => have := HK1.out; omega
        case rel => exact ⟨(y286), (wrap64 (x6_1 + t283)), ap, H', ⟨by have := HK1.out; omega⟩, ⟨by (with_reducible repeat (first | apply Kd.R_alloc | apply Kd.R_drewN | apply Kd.R_drew)); exact Kd.R_mono HO288.out (fun _ hk => trivial)⟩, ⟨bo⟩⟩
       ·rw [if_neg c7] at H
        exact absurd H (by simp)
      ·rw [if_neg c6] at H
       have c6b0 : (t284 == 0) = false := beq_eq_false_iff_ne.mpr c6
       have c6b1 : (t284 != 0) = true := bne_iff_ne.mpr c6
       simp only [Option.some.injEq, Prod.mk.injEq] at H
       obtain ⟨rfl, rfl, rfl⟩ := H
       go_wp2_with (first | ((with_reducible refine gate_callee (f := 24) rfl ?_); refine goesL_ (some 18) rfl rfl Try.func24 (by kernel_rfl) rfl #[.string (a0.extract (x6_1 : Int).toNat a0.size)] rfl aa ?_; (with_reducible refine (fairwayref10_Take.calls k1 (a0.extract (x6_1 : Int).toNat a0.size) t277 t278 t279 t280 t281 t282 t283 t284 _ A5.out).mono ?_); rintro e w12 ⟨rfl, hb⟩; refine ⟨_, rfl, ?_⟩; replace HO_5 := Aside0.mk (Kd.R_below (rk HO_5.out) hb); replace HB := Aside0.mk (below_step bo hb); (try clear hb); (try clear hb2); (try clear hk); (try clear hi)) | ((with_reducible refine gate_dst (N := 7) rfl ?_); refine box_event ?hg (N := 7) ?hd (cs := #[.int .i64 0, .int .i64 0, .string (⟨#[]⟩ : ByteArray), .string (⟨#[]⟩ : ByteArray), .int .i64 0, .bool false]) (t := 25) ?hr ?_; (case hd => rfl); (case hg => rfl); (case hr => first | (go_simp; done) | (go_simp; rfl)); intro gb285 hg w13 hbox hb; replace HO_5 := Aside0.mk (Kd.R_below (Kd.R_elderB (rk HO_5.out) gb285 (Nat.le_of_eq hg.symm)) hb); have BK285 := Aside0.mk (hbox); have GW285 := Aside0.mk ((by rw [hg]; exact (below_size bo) : w.heap.size ≤ gb285)); have GE285 := Aside0.mk ((by rw [hg]; exact (below_size bo) : w.heap.size ≤ gb285)); replace HB := Aside0.mk (below_step bo hb); clear hb hbox hg; obtain ⟨hcz14_0, hcz14_1, hcz14_2, hcz14_3, hcz14_4, hcz14_5⟩ := cl6 BK285.out; obtain ⟨hfz14_0, hfz14_1, hfz14_2, hfz14_3, hfz14_4, hfz14_5⟩ := fz6 BK285.out))
       go_ret3
       exact ⟨_, er, by (with_reducible repeat (first | apply Kd.R_alloc | apply Kd.R_drewN | apply Kd.R_drew)); exact Kd.R_mono (Kd.R_far (p := ⟨gb285, 5, none⟩) (Kd.R_far (p := ⟨gb285, 4, none⟩) (Kd.R_far (p := ⟨gb285, 3, none⟩) (Kd.R_far (p := ⟨gb285, 2, none⟩) (Kd.R_far (p := ⟨gb285, 1, none⟩) (Kd.R_far (p := ⟨gb285, 0, none⟩) (Kd.R_mono HO_5.out (fun k_ hk => (⟨hk, hk.2⟩ : _ ∧ k_ ≠ gb285))) (fun _ hk => hk.2) (.int .i64 t277)) (fun _ hk => hk.2) (.int .i64 t278)) (fun _ hk => hk.2) (.string t279)) (fun _ hk => hk.2) (.string t280)) (fun _ hk => hk.2) (.int .i64 t281)) (fun _ hk => hk.2) (.bool t282)) (fun _ hk => trivial), bo⟩
     ·rw [if_neg c4] at H
      exact absurd H (by simp)
    ·rw [if_neg c3] at H
     exact absurd H (by simp)
   ·rw [if_neg c2] at H
    have c2b0 : decide (x6_1 < (a0.size : Int)) = false := decide_eq_false c2
    clear c2
    simp only [Option.some.injEq, Prod.mk.injEq] at H
    obtain ⟨rfl, rfl, rfl⟩ := H
    go_wp2
    go_ret3
    exact ⟨_, er, by (with_reducible repeat (first | apply Kd.R_alloc | apply Kd.R_drewN | apply Kd.R_drew)); exact HO_5.out, bo⟩

end Go.Proofs.Ytmabdfdmccbfnaa.P

/- Numbers read back out of bytes. -/
namespace Go.Proofs.Ytmabdfdmccbfnaa.UTake
open Go Go.RowKit Go.Proofs.Ytmabdfdmccbfnaa.P Go.Proofs.Ytmabdfdmccbfnaa.URec Go.Proofs.Ytmabdfdmccbfnaa.UBytes Go.Proofs.YtmabdfdmccbfnaaW.PrintWords Go.Proofs.YtmabdfdmccbfnaaW.PrintLast
set_option linter.unusedVariables false
set_option linter.unusedSimpArgs false

/-- The number of the first so many bytes. -/
def V (s : ByteArray) : Nat → Nat
  | 0 => 0
  | n + 1 => V s n * 256 + (bt s n).toNat
theorem bt_lt (s : ByteArray) (i : Int) : (bt s i).toNat < 256 ∧ ((bt s i).toNat : Int) = bt s i := by
  have := bt_range s i; omega
theorem V_lt (s : ByteArray) : ∀ n, V s n < 256 ^ n
  | 0 => by simp [V]
  | n + 1 => by
    have h := V_lt s n
    have hb := (bt_lt s n).1
    simp only [V, Nat.pow_succ]
    have : V s n + 1 ≤ 256 ^ n := h
    have h2 := Nat.mul_le_mul_right 256 this
    omega
theorem wrap_of_nat (n : Nat) (h : n < 18446744073709551616) : IntKind.i64.wrap (n : Int) = wrap64 (n : Int) := by rw [IntKind.wrap_i64]; unfold wrap64; rfl
theorem or_byte (x b : Nat) (hx : x < 2 ^ 56) (hb : b < 256) : Go.bits .or .i64 (wrap64 ((x : Int) * 256)) (wrap64 (b : Int)) = wrap64 ((x * 256 + b : Nat) : Int) := by
  have e1 : BitVec.ofInt (IntKind.bits .i64) (wrap64 ((x : Int) * 256)) = BitVec.ofNat 64 (x * 256) := by
    show BitVec.ofInt 64 _ = _
    apply BitVec.eq_of_toNat_eq
    rw [BitVec.toNat_ofInt, BitVec.toNat_ofNat]
    unfold wrap64
    omega
  have e2 : BitVec.ofInt (IntKind.bits .i64) (wrap64 (b : Int)) = BitVec.ofNat 64 b := by
    show BitVec.ofInt 64 _ = _
    apply BitVec.eq_of_toNat_eq
    rw [BitVec.toNat_ofInt, BitVec.toNat_ofNat]
    unfold wrap64
    omega
  unfold Go.bits
  simp only [e1, e2]
  have e3 : (BitVec.ofNat 64 (x * 256) ||| BitVec.ofNat 64 b).toNat = x * 256 + b := by
    rw [BitVec.toNat_or, BitVec.toNat_ofNat, BitVec.toNat_ofNat, Nat.mod_eq_of_lt (by omega), Nat.mod_eq_of_lt (by omega)]
    have := Nat.shiftLeft_add_eq_or_of_lt (i := 8) (b := b) (by omega) x
    rw [Nat.shiftLeft_eq] at this
    exact this.symm
  show IntKind.i64.wrap ((BitVec.ofNat 64 (x * 256) ||| BitVec.ofNat 64 b).toNat : Int) = _
  rw [e3]
  exact wrap_of_nat _ (by omega)
theorem pow_small : ∀ n, n ≤ 7 → (256 : Nat) ^ n ≤ 2 ^ 56 := by
  intro n h
  calc (256 : Nat) ^ n ≤ 256 ^ 7 := Nat.pow_le_pow_right (by omega) h
    _ = 2 ^ 56 := by decide

theorem taken_loop (s : ByteArray) (n : Nat) (hn : n ≤ 8) (hs : n ≤ s.size) : ∀ (d i : Nat), n = i + d →
    Ev (fun k => vbi_taken.l0 k s (wrap64 (V s i : Nat)) n i) (wrap64 (V s n : Nat), 0) ∧ Ev (fun k => fairwayref1_TakeFixed.l0 k s n (wrap64 (V s i : Nat)) i) (wrap64 (V s n : Nat), true)
  | 0, i, h => by
    obtain rfl : n = i := by omega
    refine ⟨Ev.step (f := fun _ => some _) (fun k => ?_) (Ev.now _), Ev.step (f := fun _ => some _) (fun k => ?_) (Ev.now _)⟩
    · simp only [vbi_taken.l0]; rw [if_neg (by omega)]
    · simp only [fairwayref1_TakeFixed.l0]; rw [if_neg (by omega)]
  | d + 1, i, h => by
    obtain ⟨h1, h2⟩ := taken_loop s n hn hs d (i + 1) (by omega)
    have hv := V_lt s i
    have hp := pow_small i (by omega)
    have e : Go.bits .or .i64 (wrap64 (wrap64 ((V s i : Nat) : Int) * 256)) (wrap64 (bt s i)) = wrap64 ((V s (i + 1) : Nat) : Int) := by
      rw [wrap_in (x := ((V s i : Nat) : Int)) (by omega) (by omega), ← (bt_lt s i).2]
      exact or_byte _ _ (by omega) (bt_lt s i).1
    refine ⟨Ev.step (fun k => ?_) h1, Ev.step (fun k => ?_) h2⟩
    · simp only [vbi_taken.l0]; rw [if_pos (by omega), if_pos (by omega), if_pos (by omega), e, wrap_in (x := (i : Int) + 1) (by omega) (by omega)]; rfl
    · simp only [fairwayref1_TakeFixed.l0]; rw [if_pos (by omega), if_pos (by omega), if_pos (by omega), e, wrap_in (x := (i : Int) + 1) (by omega) (by omega)]; rfl
theorem wrap_zero : wrap64 ((0 : Nat) : Int) = 0 := wrap_in (by decide) (by decide)
theorem taken_ev (s : ByteArray) (n : Nat) (hn : n ≤ 8) (hs : n ≤ s.size) : Ev (fun k => vbi_taken.f k s n) (wrap64 (V s n : Nat), 0) := by
  have h := (taken_loop s n hn hs n 0 (by omega)).1
  unfold vbi_taken.f
  refine Ev.congr (fun k => if_neg (by omega)) ?_
  rw [show V s 0 = 0 from rfl, wrap_zero] at h
  exact h
theorem taken_cut (s : ByteArray) (n : Nat) (hs : s.size < n) : Ev (fun k => vbi_taken.f k s n) (0, 7) := by
  unfold vbi_taken.f
  exact Ev.congr (fun k => if_pos (by omega)) (Ev.now _)
theorem takefixed_ev (s : ByteArray) (n : Nat) (hn : n ≤ 8) (hs : n ≤ s.size) : Ev (fun k => fairwayref1_TakeFixed.f k s n) (wrap64 (V s n : Nat), true) := by
  have h := (taken_loop s n hn hs n 0 (by omega)).2
  unfold fairwayref1_TakeFixed.f
  refine Ev.congr (fun k => if_neg (by omega)) ?_
  rw [show V s 0 = 0 from rfl, wrap_zero] at h
  exact h
theorem takefixed_cut (s : ByteArray) (n : Nat) (hs : s.size < n) : Ev (fun k => fairwayref1_TakeFixed.f k s n) (0, false) := by
  unfold fairwayref1_TakeFixed.f
  exact Ev.congr (fun k => if_pos (by omega)) (Ev.now _)
theorem two_in (s : ByteArray) : wrap64 (V s 2 : Nat) = (V s 2 : Nat) ∧ V s 2 < 65536 := by
  have := V_lt s 2
  exact ⟨wrap_in (by omega) (by omega), by omega⟩
theorem four_in (s : ByteArray) : wrap64 (V s 4 : Nat) = (V s 4 : Nat) ∧ V s 4 < 4294967296 := by
  have := V_lt s 4
  exact ⟨wrap_in (by omega) (by omega), by omega⟩
theorem taketwo_ev (s : ByteArray) (hs : 2 ≤ s.size) : Ev (fun k => vbi_TakeTwo.f k s) ((V s 2 : Nat), 0) := by
  have h := taken_ev s 2 (by omega) hs
  rw [(two_in s).1] at h
  exact Ev.bind (g := fun k => vbi_taken.f k s 2) (f := fun _ b => some (b.1, b.2)) h (Ev.now _)
theorem taketwo_cut (s : ByteArray) (hs : s.size < 2) : Ev (fun k => vbi_TakeTwo.f k s) (0, 7) :=
  Ev.bind (g := fun k => vbi_taken.f k s 2) (f := fun _ b => some (b.1, b.2)) (taken_cut s 2 hs) (Ev.now _)
theorem takefour_ev (s : ByteArray) (hs : 4 ≤ s.size) : Ev (fun k => vbi_TakeFour.f k s) ((V s 4 : Nat), 0) := by
  have h := taken_ev s 4 (by omega) hs
  rw [(four_in s).1] at h
  exact Ev.bind (g := fun k => vbi_taken.f k s 4) (f := fun _ b => some (b.1, b.2)) h (Ev.now _)
end Go.Proofs.Ytmabdfdmccbfnaa.UTake

/- What any bytes begin with: the program's reading of a record and the page's are the same. -/
namespace Go.Proofs.Ytmabdfdmccbfnaa.UTk
open Go Go.RowKit Go.Proofs.Ytmabdfdmccbfnaa.P Go.Proofs.Ytmabdfdmccbfnaa.Sq Go.Proofs.Ytmabdfdmccbfnaa.URec Go.Proofs.Ytmabdfdmccbfnaa.UBytes Go.Proofs.Ytmabdfdmccbfnaa.USum Go.Proofs.Ytmabdfdmccbfnaa.UTake Go.Proofs.YtmabdfdmccbfnaaW.PrintWords Go.Proofs.YtmabdfdmccbfnaaW.PrintLast
set_option linter.unusedVariables false
set_option linter.unusedSimpArgs false

theorem bt_ext (s : ByteArray) (a b i : Nat) (hb : b ≤ s.size) (h : a + i < b) : bt (s.extract a b) i = bt s ((a + i : Nat) : Int) := by
  have hx : i < (s.extract a b).size := by rw [ByteArray.size_extract]; omega
  rw [bt_get _ i hx, bt_get s (a + i) (by omega)]
  congr 2
  simp only [ByteArray.data_extract, Array.toList_extract, List.extract_eq_take_drop]
  rw [List.getElem_take, List.getElem_drop]
theorem V_add (s : ByteArray) (a : Nat) : ∀ n, a + n ≤ s.size → V s (a + n) = V s a * 256 ^ n + V (s.extract a s.size) n
  | 0, _ => by simp [V]
  | n + 1, h => by
    have ih := V_add s a n (by omega)
    have hb := bt_ext s a s.size n (Nat.le_refl _) (by omega)
    show V s (a + n) * 256 + (bt s ((a + n : Nat) : Int)).toNat = V s a * 256 ^ (n + 1) + (V (s.extract a s.size) n * 256 + (bt (s.extract a s.size) (n : Nat)).toNat)
    rw [ih, hb, Nat.pow_succ, Nat.add_mul, Nat.mul_assoc, Nat.add_assoc]
theorem V_one (s : ByteArray) : V s 1 = (bt s 0).toNat := by
  show 0 * 256 + (bt s ((0 : Nat) : Int)).toNat = (bt s 0).toNat
  rw [Nat.zero_mul, Nat.zero_add]; rfl
attribute [local irreducible] bt V ByteArray.extract Go.bits
theorem V_high (s : ByteArray) (h : 8 ≤ s.size) : (bt s 0 ≤ 127 → V s 8 < 9223372036854775808) ∧ (127 < bt s 0 → 9223372036854775808 ≤ V s 8) ∧ V s 8 < 18446744073709551616 := by
  have e := V_add s 1 7 (by omega)
  have e1 : V s 1 = (bt s 0).toNat := by
    rw [V_one]
  have l := V_lt (s.extract 1 s.size) 7
  have l2 := V_lt s 8
  have b0 := bt_lt s 0
  rw [e1] at e
  have hp : (256 : Nat) ^ 7 = 72057594037927936 := by rfl
  have hp8 : (256 : Nat) ^ 8 = 18446744073709551616 := by rfl
  rw [hp] at e l
  rw [hp8] at l2
  simp only [show 1 + 7 = 8 from rfl] at e
  refine ⟨fun g => ?_, fun g => ?_, l2⟩ <;> omega
theorem number_ev (s : ByteArray) (h : 8 ≤ s.size) (h0 : bt s 0 ≤ 127) : Ev (fun k => rec_number.f k s) (wrap64 (V s 8 : Nat)) := by
  have hV := (V_high s h).1 h0
  have e := V_add s 4 4 (by omega)
  have hp : (256 : Nat) ^ 4 = 4294967296 := by rfl
  simp only [show 4 + 4 = 8 from rfl, hp] at e
  have l1 := V_lt s 4
  have l2 := V_lt (s.extract 4 s.size) 4
  rw [hp] at l1 l2
  have hsz : (s.extract 4 s.size).size = s.size - 4 := by rw [ByteArray.size_extract]; omega
  refine Ev.bind (takefour_ev s (by omega)) (Ev.congr (fun k => if_pos (by omega)) (Ev.bind (takefour_ev _ (by omega)) (Ev.congr (f := fun _ => some (wrap64 (V s 8 : Nat))) (fun k => ?_) (Ev.now _))))
  rw [wrap_in (x := ((V s 4 : Nat) : Int) * 4294967296) (by omega) (by omega), wrap_in (x := ((V s 8 : Nat) : Int)) (by omega) (by omega)]
  congr 1
  rw [bits_join .i64 63 (by decide) (fun n h0 h1 => by rw [IntKind.wrap_i64]; omega) 32 (((V s 4 : Nat) : Int) * 4294967296) ((V (s.extract 4 s.size) 4 : Nat) : Int) (by omega) (by omega) (by omega) (by omega) (by omega) (by omega)]
  omega

/-! ### a body -/
def keyLen (b : ByteArray) : Nat := V (b.extract 17 b.size) 2
def rcOf (b : ByteArray) : R := ⟨wrap64 (V b 8 : Nat), wrap64 (V (b.extract 8 b.size) 8 : Nat), b.extract 19 (19 + keyLen b), b.extract (19 + keyLen b) b.size, bt b 16 % 4, decide (bt b 16 ≥ 4)⟩
theorem rd0 (b : ByteArray) : (rcOf b).f0 = wrap64 (V b 8 : Nat) := by simp only [rcOf]
theorem rd1 (b : ByteArray) : (rcOf b).f1 = wrap64 (V (b.extract 8 b.size) 8 : Nat) := by simp only [rcOf]
theorem rd2 (b : ByteArray) : (rcOf b).f2 = b.extract 19 (19 + keyLen b) := by simp only [rcOf]
theorem rd3 (b : ByteArray) : (rcOf b).f3 = b.extract (19 + keyLen b) b.size := by simp only [rcOf]
theorem rd4 (b : ByteArray) : (rcOf b).f4 = bt b 16 % 4 := by simp only [rcOf]
theorem rd5 (b : ByteArray) : (rcOf b).f5 = decide (bt b 16 ≥ 4) := by simp only [rcOf]
theorem keyLen_lt (b : ByteArray) : keyLen b < 65536 := (two_in _).2
theorem keyLen_ev (b : ByteArray) (h : 2 ≤ (b.extract 17 b.size).size) : Ev (fun k => vbi_TakeTwo.f k (b.extract 17 b.size)) (((keyLen b : Nat) : Int), 0) := taketwo_ev _ h
attribute [local irreducible] keyLen rcOf
def good (b : ByteArray) : Prop := 19 ≤ b.size ∧ bt b 16 ≤ 7 ∧ keyLen b ≤ b.size - 19 ∧ recOk (rcOf b)
theorem and34 : ∀ n : Nat, n < 8 → Go.bits .and .u8 (n : Int) 3 = (n : Int) % 4 ∧ decide (Go.bits .and .u8 (n : Int) 4 > 0) = decide ((n : Int) ≥ 4) := by decide +kernel
theorem bits16 (b : ByteArray) (h : bt b 16 ≤ 7) : wrap64 (Go.bits .and .u8 (bt b 16) 3) = bt b 16 % 4 ∧ decide (Go.bits .and .u8 (bt b 16) 4 > 0) = decide (bt b 16 ≥ 4) := by
  have hb := bt_lt b 16
  obtain ⟨h1, h2⟩ := and34 (bt b 16).toNat (by omega)
  rw [hb.2] at h1 h2
  rw [h1, wrap_in (by omega) (by omega)]
  exact ⟨rfl, h2⟩
theorem ext8 (b : ByteArray) (h : 19 ≤ b.size) : (b.extract 8 b.size).size = b.size - 8 ∧ bt (b.extract 8 b.size) 0 = bt b 8 :=
  ⟨by rw [ByteArray.size_extract]; omega, bt_ext b 8 b.size 0 (Nat.le_refl _) (by omega)⟩
theorem zeros_ev (b : ByteArray) (n : Int) : Ev (fun k => rec_read.j0 k b n true 0 0 ⟨#[]⟩ ⟨#[]⟩ 0 false) (0, 0, ⟨#[]⟩, ⟨#[]⟩, 0, false, false) := by
  refine Ev.step (f := fun _ => some _) (fun k => ?_) (Ev.now _)
  simp only [rec_read.j0]; rw [if_pos trivial]
/-- What is done behind the key's length. -/
def rest (k : Nat) (b : ByteArray) (n : Int) : Option (Int × Int × ByteArray × ByteArray × Int × Bool × Bool) :=
  if (bt b 16) > 7 then (rec_read.j0 k b n true 0 0 (⟨#[]⟩ : ByteArray) (⟨#[]⟩ : ByteArray) 0 false) else (if n > (wrap64 ((b.size : Int) - 19)) then (rec_read.j0 k b n true 0 0 (⟨#[]⟩ : ByteArray) (⟨#[]⟩ : ByteArray) 0 false) else (if 0 < (b.size : Int) then (if (bt b 0) > 127 then (rec_read.j0 k b n true 0 0 (⟨#[]⟩ : ByteArray) (⟨#[]⟩ : ByteArray) 0 false) else (if 8 < (b.size : Int) then (rec_read.j0 k b n (decide ((bt b 8) > 127)) 0 0 (⟨#[]⟩ : ByteArray) (⟨#[]⟩ : ByteArray) 0 false) else (none))) else (none)))
theorem open_ev (b : ByteArray) (h : 19 ≤ b.size) {r} (hr : Ev (fun k => rest k b ((keyLen b : Nat) : Int)) r) : Ev (fun k => rec_read.f k b) r := by
  have hx17 : (b.extract 17 b.size).size = b.size - 17 := by rw [ByteArray.size_extract]; omega
  have t1 : Ev (fun k => vbi_TakeTwo.f k (b.extract 17 b.size)) (((keyLen b : Nat) : Int), 0) := keyLen_ev b (by omega)
  have e1 : ¬ (b.size : Int) < 19 := by omega
  have e2 : 17 ≤ (b.size : Int) := by omega
  have e3 : 16 < (b.size : Int) := by omega
  unfold rec_read.f
  refine Ev.congr (fun k => by rw [if_neg e1, if_pos e2]) (Ev.bind t1 (Ev.congr (fun k => if_pos e3) ?_))
  unfold rest at hr
  exact hr
theorem arith (n kl : Nat) (h : 19 ≤ n) (hs : n ≤ 140737488351232) (d2 : kl ≤ n - 19) (hk : kl < 65536) : wrap64 ((n : Int) - 19) = ((n - 19 : Nat) : Int) ∧ wrap64 (19 + (kl : Int)) = ((19 + kl : Nat) : Int) ∧ ¬ (kl : Int) > ((n - 19 : Nat) : Int) ∧ 0 < (n : Int) ∧ 8 < (n : Int) ∧ 8 ≤ (n : Int) ∧
    19 ≤ ((19 + kl : Nat) : Int) ∧ ((19 + kl : Nat) : Int) ≤ (n : Int) ∧ 0 ≤ ((19 + kl : Nat) : Int) ∧ 16 < (n : Int) ∧ 8 ≤ n ∧ 8 ≤ n - 8 := by
  refine ⟨?_, ?_, by omega, by omega, by omega, by omega, by omega, by omega, by omega, by omega, by omega, by omega⟩
  · rw [wrap_in (by omega) (by omega)]; omega
  · rw [wrap_in (by omega) (by omega)]; omega
theorem rest_main (b : ByteArray) (h : 19 ≤ b.size) (hs : b.size ≤ 140737488351232) (d1 : bt b 16 ≤ 7) (d2 : keyLen b ≤ b.size - 19) (d3 : bt b 0 ≤ 127) (d4 : bt b 8 ≤ 127) {t : Int}
    (ht : Ev (fun k => rec_Check.f k (rcOf b).f0 (rcOf b).f1 (rcOf b).f2 (rcOf b).f3 (rcOf b).f4 (rcOf b).f5) t) :
    Ev (fun k => rest k b ((keyLen b : Nat) : Int)) ((rcOf b).f0, (rcOf b).f1, (rcOf b).f2, (rcOf b).f3, (rcOf b).f4, (rcOf b).f5, (t == 0)) := by
  obtain ⟨hx8, hx80⟩ := ext8 b h
  obtain ⟨w1, w2, e2, e3, e5, e7, e8, e9, e10, e11, q1, q2⟩ := arith b.size (keyLen b) h hs d2 (keyLen_lt b)
  have n1 := number_ev b q1 d3
  have n2 := number_ev (b.extract 8 b.size) (by rw [hx8]; exact q2) (by rw [hx80]; exact d4)
  obtain ⟨b1, b2⟩ := bits16 b d1
  rw [rd0, rd1, rd2, rd3, rd4, rd5] at ht
  rw [rd0, rd1, rd2, rd3, rd4, rd5]
  have e1 : ¬ bt b 16 > 7 := Int.not_lt.2 d1
  have e4 : ¬ bt b 0 > 127 := Int.not_lt.2 d3
  have e6 : decide (bt b 8 > 127) = false := decide_eq_false (Int.not_lt.2 d4)
  refine Ev.congr (f := fun k => rec_read.j0 k b ((keyLen b : Nat) : Int) false 0 0 (⟨#[]⟩ : ByteArray) (⟨#[]⟩ : ByteArray) 0 false) (fun k => ?_) ?_
  · unfold rest
    rw [w1, if_neg e1, if_neg e2, if_pos e3, if_neg e4, if_pos e5, e6]
  refine Ev.step (fun k => by rw [rec_read.j0, if_neg (by decide)]) ?_
  refine Ev.bind n1 (Ev.congr (fun k => if_pos e7) (Ev.bind n2 ?_))
  refine Ev.congr (fun k => by rw [w2, if_pos e8, if_pos e9, if_pos e10, if_pos e11, Int.toNat_natCast, b1, b2]) ?_
  exact Ev.bind ht (Ev.now _)
theorem high_neg (s : ByteArray) (h : 8 ≤ s.size) (hb : 127 < bt s 0) : wrap64 (V s 8 : Nat) < 0 := by
  obtain ⟨a1, a2, a3⟩ := V_high s h
  have a4 := a2 hb
  generalize V s 8 = v at *
  unfold wrap64; omega
theorem read_yes (b : ByteArray) (hs : b.size ≤ 140737488351232) (h : good b) : Ev (fun k => rec_read.f k b) ((rcOf b).f0, (rcOf b).f1, (rcOf b).f2, (rcOf b).f3, (rcOf b).f4, (rcOf b).f5, true) := by
  obtain ⟨h1, h2, h3, h4⟩ := h
  obtain ⟨hx8, hx80⟩ := ext8 b h1
  refine open_ev b h1 (rest_main b h1 hs h2 h3 ?_ ?_ (check_yes _ h4))
  · by_cases d : bt b 0 ≤ 127
    · exact d
    · have := high_neg b (by omega) (by omega)
      have h0 := h4.1
      rw [rd0] at h0
      omega
  · by_cases d : bt b 8 ≤ 127
    · exact d
    · have := high_neg (b.extract 8 b.size) (by omega) (by rw [hx80]; omega)
      have h0 := h4.2.2.1
      rw [rd1] at h0
      omega
theorem read_no (b : ByteArray) (hs : b.size ≤ 140737488351232) (h : ¬ good b) : ∃ x : R, Ev (fun k => rec_read.f k b) (x.f0, x.f1, x.f2, x.f3, x.f4, x.f5, false) := by
  by_cases c1 : b.size < 19
  · refine ⟨⟨0, 0, ⟨#[]⟩, ⟨#[]⟩, 0, false⟩, ?_⟩
    unfold rec_read.f
    exact Ev.congr (fun k => if_pos (by omega)) (Ev.now _)
  have h1 : 19 ≤ b.size := by omega
  have e3 : 0 < (b.size : Int) := by omega
  have e5 : 8 < (b.size : Int) := by omega
  by_cases d1 : bt b 16 > 7
  · exact ⟨⟨0, 0, ⟨#[]⟩, ⟨#[]⟩, 0, false⟩, open_ev b h1 (Ev.congr (fun k => if_pos d1) (zeros_ev _ _))⟩
  by_cases d2 : ((keyLen b : Nat) : Int) > wrap64 ((b.size : Int) - 19)
  · exact ⟨⟨0, 0, ⟨#[]⟩, ⟨#[]⟩, 0, false⟩, open_ev b h1 (Ev.congr (fun k => by unfold rest; rw [if_neg d1, if_pos d2]) (zeros_ev _ _))⟩
  by_cases d3 : bt b 0 > 127
  · exact ⟨⟨0, 0, ⟨#[]⟩, ⟨#[]⟩, 0, false⟩, open_ev b h1 (Ev.congr (fun k => by unfold rest; rw [if_neg d1, if_neg d2, if_pos e3, if_pos d3]) (zeros_ev _ _))⟩
  by_cases d4 : bt b 8 > 127
  · exact ⟨⟨0, 0, ⟨#[]⟩, ⟨#[]⟩, 0, false⟩, open_ev b h1 (Ev.congr (fun k => by unfold rest; rw [if_neg d1, if_neg d2, if_pos e3, if_neg d3, if_pos e5, decide_eq_true d4]) (zeros_ev _ _))⟩
  have hkl : keyLen b ≤ b.size - 19 := by rw [wrap_in (by omega) (by omega)] at d2; omega
  have hr : ¬ recOk (rcOf b) := fun g => h ⟨h1, by omega, hkl, g⟩
  exact ⟨rcOf b, open_ev b h1 (rest_main b h1 hs (by omega) hkl (by omega) (by omega) (check_no _ hr))⟩

/-! ### the record at the front -/
def bodyAt (s : ByteArray) : ByteArray := s.extract 6 (6 + V s 2)
def sumAt (s : ByteArray) : Nat := V (s.extract 2 s.size) 4
theorem sumAt_lt (s : ByteArray) : sumAt s < 4294967296 := (four_in _).2
theorem sumAt_ev (s : ByteArray) (h : 4 ≤ (s.extract 2 s.size).size) : Ev (fun k => vbi_TakeFour.f k (s.extract 2 s.size)) (((sumAt s : Nat) : Int), 0) := takefour_ev _ h
theorem sumAt_ev2 (s : ByteArray) (h : 4 ≤ (s.extract 2 s.size).size) : Ev (fun k => fairwayref1_TakeFixed.f k (s.extract 2 s.size) 4) (((sumAt s : Nat) : Int), true) := by
  have := takefixed_ev (s.extract 2 s.size) 4 (by decide) h
  rw [(four_in _).1] at this
  exact this
theorem len_ev2 (s : ByteArray) (h : 2 ≤ s.size) : Ev (fun k => fairwayref1_TakeFixed.f k s 2) (((V s 2 : Nat) : Int), true) := by
  have := takefixed_ev s 2 (by decide) h
  rw [(two_in _).1] at this
  exact this
theorem bodyAt_eq (s : ByteArray) : s.extract 6 (((6 + V s 2 : Nat) : Int)).toNat = bodyAt s := by rw [Int.toNat_natCast]; rfl
theorem bodyAt_size (s : ByteArray) (h : 6 ≤ s.size) (hv : V s 2 ≤ s.size - 6) : (bodyAt s).size = V s 2 := by
  unfold bodyAt
  rw [ByteArray.size_extract]
  generalize V s 2 = v at *
  generalize s.size = n at *
  omega
theorem V2_lt (s : ByteArray) : V s 2 < 65536 := (two_in s).2
theorem ext_size (s : ByteArray) (a : Nat) (h : a ≤ s.size) : (s.extract a s.size).size = s.size - a := by rw [ByteArray.size_extract]; generalize s.size = n at *; omega
theorem ext_size0 (s : ByteArray) (h : 2 ≤ s.size) : (s.extract 0 2).size = 2 := by rw [ByteArray.size_extract]; generalize s.size = n at *; omega
attribute [local irreducible] bodyAt sumAt sumOf
def takeOk (s : ByteArray) : Prop := good (bodyAt s) ∧ sumOf (s.extract 0 2) (bodyAt s) = (sumAt s : Int)
theorem arith6 (n v : Nat) (h : 6 ≤ n) (hs : n ≤ 140737488351232) (hv : v ≤ n - 6) (hk : v < 65536) : wrap64 ((n : Int) - 6) = ((n - 6 : Nat) : Int) ∧ ¬ (n : Int) < 6 ∧ ¬ ((n - 6 : Nat) : Int) < (v : Int) ∧ 2 ≤ (n : Int) ∧ wrap64 (6 + (v : Int)) = ((6 + v : Nat) : Int) ∧
    6 ≤ ((6 + v : Nat) : Int) ∧ ((6 + v : Nat) : Int) ≤ (n : Int) ∧ 2 ≤ n ∧ 4 ≤ n - 2 ∧ v ≤ 140737488351232 ∧ 2 + v ≤ 9223372036854775807 ∧ 2 + v ≤ 140737488351232 := by
  refine ⟨?_, by omega, by omega, by omega, ?_, by omega, by omega, by omega, by omega, by omega, by omega, by omega⟩
  · rw [wrap_in (by omega) (by omega)]; omega
  · rw [wrap_in (by omega) (by omega)]; omega
theorem arith6' (n v : Nat) (h : 6 ≤ n) (hs : n ≤ 140737488351232) (hv : n - 6 < v) : ¬ (n : Int) < 6 ∧ wrap64 ((n : Int) - 6) < (v : Int) ∧ 2 ≤ n := by
  refine ⟨by omega, ?_, by omega⟩
  rw [wrap_in (by omega) (by omega)]; omega
theorem tj0_true (s : ByteArray) (n : Int) : Ev (fun k => rec_Take.j0 k s n true 0 0 ⟨#[]⟩ ⟨#[]⟩ 0 false) (0, 0, ⟨#[]⟩, ⟨#[]⟩, 0, false, 0, 7) := by
  refine Ev.step (f := fun _ => some _) (fun k => ?_) (Ev.now _)
  rw [rec_Take.j0, if_pos rfl]
theorem take_cut (s : ByteArray) (hs : s.size ≤ 140737488351232) (h : s.size < 6 ∨ s.size - 6 < V s 2) :
    Ev (fun k => rec_Take.f k s) (0, 0, ⟨#[]⟩, ⟨#[]⟩, 0, false, 0, 7) ∧ Ev (fun k => fairwayref10_Take.f k s) (0, 0, ⟨#[]⟩, ⟨#[]⟩, 0, false, 0, 7) := by
  by_cases h6 : s.size < 6
  · have e1 : (s.size : Int) < 6 := by generalize s.size = n at *; omega
    refine ⟨?_, ?_⟩
    · by_cases h2 : s.size < 2
      · exact Ev.bind (taketwo_cut s h2) (Ev.congr (fun k => if_pos e1) (tj0_true _ _))
      · exact Ev.bind (taketwo_ev s (Nat.le_of_not_lt h2)) (Ev.congr (fun k => if_pos e1) (tj0_true _ _))
    · unfold fairwayref10_Take.f
      exact Ev.congr (fun k => if_pos e1) (Ev.now _)
  · have hv := h.resolve_left h6
    obtain ⟨e1, e2, e3⟩ := arith6' s.size (V s 2) (Nat.le_of_not_lt h6) hs hv
    refine ⟨?_, ?_⟩
    · exact Ev.bind (taketwo_ev s e3) (Ev.congr (fun k => by rw [if_neg e1, decide_eq_true e2]) (tj0_true _ _))
    · unfold fairwayref10_Take.f
      exact Ev.congr (fun k => if_neg e1) (Ev.bind (len_ev2 s e3) (Ev.congr (fun k => if_pos e2) (Ev.now _)))

theorem sum_both (h b : ByteArray) (hh : h.size ≤ 140737488351232) (hb : b.size ≤ 140737488351232) : ∃ t : Int, Ev (fun k => sum_Sum.f k 0 h) t ∧ Ev (fun k => sum_Sum.f k t b) (sumOf h b) := by
  refine ⟨_, sum_ev 0#32 h hh, ?_⟩
  have := sum_ev (~~~ (run (~~~ (0#32)) h.data.toList)) b hb
  rw [BitVec.not_not, ← run_append] at this
  have e : h.data.toList ++ b.data.toList = (h ++ b).data.toList := by simp [ByteArray.data_append]
  rw [e] at this
  unfold sumOf
  exact this
theorem sum_ref (h b : ByteArray) (hh : h.size + b.size ≤ 140737488351232) : Ev (fun k => fairwayref1_Sum.f k 0 (h ++ b)) (sumOf h b) := by
  have := sumref_ev 0#32 (h ++ b) (by rw [ByteArray.size_append]; exact hh)
  unfold sumOf
  exact this
theorem take_prog (s : ByteArray) (hs : s.size ≤ 140737488351232) (h6 : 6 ≤ s.size) (hv : V s 2 ≤ s.size - 6) :
    (takeOk s → Ev (fun k => rec_Take.f k s) ((rcOf (bodyAt s)).f0, (rcOf (bodyAt s)).f1, (rcOf (bodyAt s)).f2, (rcOf (bodyAt s)).f3, (rcOf (bodyAt s)).f4, (rcOf (bodyAt s)).f5, ((6 + V s 2 : Nat) : Int), 0)) ∧
    (¬ takeOk s → Ev (fun k => rec_Take.f k s) (0, 0, ⟨#[]⟩, ⟨#[]⟩, 0, false, 0, 8)) := by
  obtain ⟨w1, e1, e2, e3, w2, e4, e5, e6, e7, e8, e9, e10⟩ := arith6 s.size (V s 2) h6 hs hv (V2_lt s)
  have hbs := bodyAt_size s h6 hv
  have hb : (bodyAt s).size ≤ 140737488351232 := by rw [hbs]; exact e8
  have hx2 := ext_size s 2 e6
  have hh := ext_size0 s e6
  obtain ⟨t, t1, t2⟩ := sum_both (s.extract 0 2) (bodyAt s) (by rw [hh]; decide) hb
  have hin := sumOf_in (s.extract 0 2) (bodyAt s)
  have ws : wrap64 (sumOf (s.extract 0 2) (bodyAt s)) = sumOf (s.extract 0 2) (bodyAt s) := by
    generalize sumOf (s.extract 0 2) (bodyAt s) = z at hin
    exact wrap_in (by omega) (by omega)
  have start : ∀ {r}, Ev (fun k => (rec_read.f k (bodyAt s)).bind fun bt148 => (if bt148.2.2.2.2.2.2 = true then (if 0 ≤ 2 then ((sum_Sum.f k 0 (s.extract 0 2)).bind fun t155 => ((sum_Sum.f k t155 (bodyAt s)).bind fun t156 => (if (wrap64 (t156)) = (sumAt s : Int) then (some (bt148.1, bt148.2.1, bt148.2.2.1, bt148.2.2.2.1, bt148.2.2.2.2.1, bt148.2.2.2.2.2.1, ((6 + V s 2 : Nat) : Int), 0)) else (some (0, 0, (⟨#[]⟩ : ByteArray), (⟨#[]⟩ : ByteArray), 0, false, 0, 8))))) else (none)) else (some (0, 0, (⟨#[]⟩ : ByteArray), (⟨#[]⟩ : ByteArray), 0, false, 0, 8)))) r → Ev (fun k => rec_Take.f k s) r := by
    intro r hr
    refine Ev.bind (taketwo_ev s e6) (Ev.congr (fun k => by rw [if_neg e1, w1, decide_eq_false e2]) ?_)
    refine Ev.step (fun k => by rw [rec_Take.j0, if_neg (by decide), if_pos e3]) ?_
    refine Ev.bind (sumAt_ev s (by rw [hx2]; exact e7)) ?_
    refine Ev.congr (fun k => by rw [w2, if_pos e4, if_pos e5, bodyAt_eq]) ?_
    exact hr
  have c0 : (0 : Int) ≤ 2 := by decide
  refine ⟨fun hk => start ?_, fun hk => ?_⟩
  · refine Ev.bind (read_yes _ hb hk.1) (Ev.congr (fun k => by rw [if_pos rfl, if_pos (by decide)]) (Ev.bind t1 (Ev.bind t2 (Ev.congr (fun k => if_pos ?_) (Ev.now _)))))
    rw [ws]; exact hk.2
  · by_cases hg : good (bodyAt s)
    · refine start (Ev.bind (read_yes _ hb hg) (Ev.congr (fun k => by rw [if_pos rfl, if_pos (by decide)]) (Ev.bind t1 (Ev.bind t2 (Ev.congr (fun k => if_neg ?_) (Ev.now _))))))
      rw [ws]; exact fun g => hk ⟨hg, g⟩
    · obtain ⟨x, hx⟩ := read_no _ hb hg
      exact start (Ev.bind hx (Ev.congr (fun k => if_neg Bool.false_ne_true) (Ev.now _)))

theorem rj0_true (n : Int) (b : ByteArray) : Ev (fun k => fairwayref10_Take.j0 k n b true 0 0 ⟨#[]⟩ ⟨#[]⟩ 0 false) (0, 0, ⟨#[]⟩, ⟨#[]⟩, 0, false, 0, 8) := by
  refine Ev.step (f := fun _ => some _) (fun k => ?_) (Ev.now _)
  rw [fairwayref10_Take.j0, if_pos rfl]
theorem rj1_true (n : Int) (b : ByteArray) (f y : Int) (p q : Int) : Ev (fun k => fairwayref10_Take.j1 k n b f y true 0 0 ⟨#[]⟩ ⟨#[]⟩ 0 false p q ⟨#[]⟩ ⟨#[]⟩ 0 false) (0, 0, ⟨#[]⟩, ⟨#[]⟩, 0, false, 0, 8) := by
  refine Ev.step (f := fun _ => some _) (fun k => ?_) (Ev.now _)
  rw [fairwayref10_Take.j1, if_pos rfl]
theorem fix8_ev (b : ByteArray) (h : 8 ≤ b.size) : Ev (fun k => fairwayref1_TakeFixed.f k b 8) (wrap64 (V b 8 : Nat), true) := takefixed_ev b 8 (by decide) h
theorem key_ev2 (b : ByteArray) (h : 2 ≤ (b.extract 17 b.size).size) : Ev (fun k => fairwayref1_TakeFixed.f k (b.extract 17 b.size) 2) (((keyLen b : Nat) : Int), true) := by
  unfold keyLen
  exact len_ev2 _ h
theorem bt16 (b : ByteArray) : wrap64 (bt b 16) = bt b 16 ∧ Int.tmod (bt b 16) 4 = bt b 16 % 4 := by
  obtain ⟨h1, h2⟩ := bt_range b 16
  generalize bt b 16 = z at *
  exact ⟨wrap_in (by omega) (by omega), Int.tmod_eq_emod_of_nonneg (by omega)⟩
theorem take_tail (b : ByteArray) (hs : b.size ≤ 140737488351232) (h : 19 ≤ b.size) :
    (good b → Ev (fun k => fairwayref10_Take.j0 k (b.size : Int) b false 0 0 ⟨#[]⟩ ⟨#[]⟩ 0 false) ((rcOf b).f0, (rcOf b).f1, (rcOf b).f2, (rcOf b).f3, (rcOf b).f4, (rcOf b).f5, wrap64 (6 + (b.size : Int)), 0)) ∧
    (¬ good b → Ev (fun k => fairwayref10_Take.j0 k (b.size : Int) b false 0 0 ⟨#[]⟩ ⟨#[]⟩ 0 false) (0, 0, ⟨#[]⟩, ⟨#[]⟩, 0, false, 0, 8)) := by
  obtain ⟨hx8, hx80⟩ := ext8 b h
  have hx17 := ext_size b 17 (Nat.le_trans (by decide) h)
  obtain ⟨g1, g2, g3, g4, g5, g6⟩ : 8 ≤ b.size ∧ 8 ≤ (b.size : Int) ∧ 16 < (b.size : Int) ∧ 17 ≤ (b.size : Int) ∧ 8 ≤ b.size - 8 ∧ 2 ≤ b.size - 17 := by
    generalize b.size = n at *; exact ⟨by omega, by omega, by omega, by omega, by omega, by omega⟩
  obtain ⟨bw, bm⟩ := bt16 b
  have start : ∀ {r}, Ev (fun k => (if bt b 16 > 7 then (fairwayref10_Take.j1 k (b.size : Int) b (bt b 16) (keyLen b : Int) true 0 0 ⟨#[]⟩ ⟨#[]⟩ 0 false (wrap64 (V b 8 : Nat)) (wrap64 (V (b.extract 8 b.size) 8 : Nat)) (⟨#[]⟩ : ByteArray) (⟨#[]⟩ : ByteArray) 0 false) else (fairwayref10_Take.j1 k (b.size : Int) b (bt b 16) (keyLen b : Int) (decide ((keyLen b : Int) > (wrap64 ((b.size : Int) - 19)))) 0 0 ⟨#[]⟩ ⟨#[]⟩ 0 false (wrap64 (V b 8 : Nat)) (wrap64 (V (b.extract 8 b.size) 8 : Nat)) (⟨#[]⟩ : ByteArray) (⟨#[]⟩ : ByteArray) 0 false))) r →
      Ev (fun k => fairwayref10_Take.j0 k (b.size : Int) b false 0 0 ⟨#[]⟩ ⟨#[]⟩ 0 false) r := by
    intro r hr
    refine Ev.step (fun k => by rw [fairwayref10_Take.j0, if_neg (by decide)]) ?_
    unfold xt
    refine Ev.bind (fix8_ev b g1) (Ev.congr (fun k => if_pos g2) (Ev.bind (fix8_ev _ (by rw [hx8]; exact g5)) (Ev.congr (fun k => by rw [if_pos g3, if_pos g4]) (Ev.bind (key_ev2 b (by rw [hx17]; exact g6)) ?_))))
    refine Ev.congr (fun k => by rw [bw]) ?_
    exact hr
  by_cases d1 : bt b 16 > 7
  · exact ⟨fun g => absurd g.2.1 (Int.not_le.2 d1), fun _ => start (Ev.congr (fun k => if_pos d1) (rj1_true _ _ _ _ _ _))⟩
  by_cases d2 : keyLen b ≤ b.size - 19
  · obtain ⟨w1, w2, e2, e3, e5, e7, e8, e9, e10, e11, q1, q2⟩ := arith b.size (keyLen b) h hs d2 (keyLen_lt b)
    have mid : ∀ {r}, Ev (fun k => (fairwayref10_Rec.f (rcOf b).f0 (rcOf b).f1 (rcOf b).f2 (rcOf b).f3 (rcOf b).f4 (rcOf b).f5).bind fun t264 => (if t264 = true then (some ((rcOf b).f0, (rcOf b).f1, (rcOf b).f2, (rcOf b).f3, (rcOf b).f4, (rcOf b).f5, wrap64 (6 + (b.size : Int)), 0)) else (some (0, 0, (⟨#[]⟩ : ByteArray), (⟨#[]⟩ : ByteArray), 0, false, 0, 8)))) r → Ev (fun k => fairwayref10_Take.j0 k (b.size : Int) b false 0 0 ⟨#[]⟩ ⟨#[]⟩ 0 false) r := by
      intro r hr
      refine start (Ev.congr (fun k => by rw [if_neg d1, w1, decide_eq_false e2]) ?_)
      refine Ev.step (fun k => by rw [fairwayref10_Take.j1, if_neg (by decide)]) ?_
      unfold xt
      rw [rd0, rd1, rd2, rd3, rd4, rd5] at hr
      refine Ev.congr (fun k => by rw [w2, if_pos e8, if_pos e9, if_pos e10, Int.toNat_natCast, bm]) ?_
      exact hr
    refine ⟨fun g => mid ?_, fun g => mid ?_⟩
    · rw [rec_yes _ g.2.2.2]; exact Ev.now _
    · rw [rec_no _ (fun hr => g ⟨h, Int.not_lt.1 d1, d2, hr⟩)]; exact Ev.now _
  · have e2 : (keyLen b : Int) > wrap64 ((b.size : Int) - 19) := by
      generalize keyLen b = kl at *
      generalize b.size = n at *
      rw [wrap_in (by omega) (by omega)]; omega
    exact ⟨fun g => absurd g.2.2.1 d2, fun _ => start (Ev.congr (fun k => by rw [if_neg d1, decide_eq_true e2]) (rj1_true _ _ _ _ _ _))⟩
theorem lt19 (v : Nat) : (v < 19 → (v : Int) < 19) ∧ (¬ v < 19 → ¬ (v : Int) < 19) := ⟨by omega, by omega⟩
theorem gt19 (n kl : Nat) (h : 19 ≤ n) (hs : n ≤ 140737488351232) (d2 : ¬ kl ≤ n - 19) : (kl : Int) > wrap64 ((n : Int) - 19) := by
  rw [wrap_in (by omega) (by omega)]; omega
theorem take_ref (s : ByteArray) (hs : s.size ≤ 140737488351232) (h6 : 6 ≤ s.size) (hv : V s 2 ≤ s.size - 6) :
    (takeOk s → Ev (fun k => fairwayref10_Take.f k s) ((rcOf (bodyAt s)).f0, (rcOf (bodyAt s)).f1, (rcOf (bodyAt s)).f2, (rcOf (bodyAt s)).f3, (rcOf (bodyAt s)).f4, (rcOf (bodyAt s)).f5, ((6 + V s 2 : Nat) : Int), 0)) ∧
    (¬ takeOk s → Ev (fun k => fairwayref10_Take.f k s) (0, 0, ⟨#[]⟩, ⟨#[]⟩, 0, false, 0, 8)) := by
  obtain ⟨w1, e1, e2, e3, w2, e4, e5, e6, e7, e8, e9, e10⟩ := arith6 s.size (V s 2) h6 hs hv (V2_lt s)
  have hbs := bodyAt_size s h6 hv
  have hb : (bodyAt s).size ≤ 140737488351232 := by rw [hbs]; exact e8
  have hx2 := ext_size s 2 e6
  have hh := ext_size0 s e6
  have t1 := sum_ref (s.extract 0 2) (bodyAt s) (by rw [hh, hbs]; exact e10)
  have hm : ((sumAt s : Nat) : Int) % 4294967296 = (sumAt s : Int) := by
    have := sumAt_lt s
    generalize sumAt s = z at *
    omega
  have start : ∀ {r}, Ev (fun k => (if (sumAt s : Int) = sumOf (s.extract 0 2) (bodyAt s) then (fairwayref10_Take.j0 k (V s 2 : Int) (bodyAt s) (decide ((V s 2 : Int) < 19)) 0 0 (⟨#[]⟩ : ByteArray) (⟨#[]⟩ : ByteArray) 0 false) else (fairwayref10_Take.j0 k (V s 2 : Int) (bodyAt s) true 0 0 (⟨#[]⟩ : ByteArray) (⟨#[]⟩ : ByteArray) 0 false))) r → Ev (fun k => fairwayref10_Take.f k s) r := by
    intro r hr
    unfold fairwayref10_Take.f
    unfold xt
    refine Ev.congr (fun k => if_neg e1) (Ev.bind (len_ev2 s e6) (Ev.congr (fun k => by rw [w1, if_neg e2, if_pos e3]) ?_))
    refine Ev.bind (sumAt_ev2 s (by rw [hx2]; exact e7)) ?_
    refine Ev.congr (fun k => by rw [w2, if_pos e4, if_pos e5, if_pos (by decide), bodyAt_eq, if_pos (by rw [hh, hbs]; exact e9)]) (Ev.bind t1 ?_)
    refine Ev.congr (fun k => by rw [hm]) ?_
    exact hr
  by_cases hc : (sumAt s : Int) = sumOf (s.extract 0 2) (bodyAt s)
  · by_cases h19 : V s 2 < 19
    · have h19' := (lt19 (V s 2)).1 h19
      refine ⟨fun hk => ?_, fun _ => start (Ev.congr (fun k => by rw [if_pos hc, decide_eq_true h19']) (rj0_true _ _))⟩
      have := hk.1.1
      rw [hbs] at this
      exact absurd h19 (Nat.not_lt.2 this)
    · have h19' := (lt19 (V s 2)).2 h19
      obtain ⟨y1, y2⟩ := take_tail (bodyAt s) hb (by rw [hbs]; exact Nat.le_of_not_lt h19)
      rw [hbs, w2] at y1
      rw [hbs] at y2
      exact ⟨fun hk => start (Ev.congr (fun k => by rw [if_pos hc, decide_eq_false h19']) (y1 hk.1)), fun hk => start (Ev.congr (fun k => by rw [if_pos hc, decide_eq_false h19']) (y2 fun g => hk ⟨g, hc.symm⟩))⟩
  · exact ⟨fun hk => absurd hk.2.symm hc, fun _ => start (Ev.congr (fun k => if_neg hc) (rj0_true _ _))⟩
end Go.Proofs.Ytmabdfdmccbfnaa.UTk

/- Records behind each other in bytes: the program's reading and the page's are the same; records held against each other; records written over. -/
namespace Go.Proofs.Ytmabdfdmccbfnaa.UScan
open Go Go.RowKit Go.Proofs.Ytmabdfdmccbfnaa.P Go.Proofs.Ytmabdfdmccbfnaa.URec Go.Proofs.Ytmabdfdmccbfnaa.UTake Go.Proofs.Ytmabdfdmccbfnaa.UTk Go.Proofs.YtmabdfdmccbfnaaW.PrintWords Go.Proofs.YtmabdfdmccbfnaaW.PrintLast
set_option linter.unusedVariables false
set_option linter.unusedSimpArgs false
attribute [local irreducible] bt V ByteArray.extract keyLen rcOf bodyAt sumAt takeOk

theorem take_any (s : ByteArray) (hs : s.size ≤ 140737488351232) :
    (∃ (r : R) (n : Nat), 6 ≤ n ∧ n ≤ s.size ∧ Ev (fun k => rec_Take.f k s) (r.f0, r.f1, r.f2, r.f3, r.f4, r.f5, (n : Int), 0) ∧ Ev (fun k => fairwayref10_Take.f k s) (r.f0, r.f1, r.f2, r.f3, r.f4, r.f5, (n : Int), 0)) ∨
    (∃ e : Int, e ≠ 0 ∧ Ev (fun k => rec_Take.f k s) (0, 0, ⟨#[]⟩, ⟨#[]⟩, 0, false, 0, e) ∧ Ev (fun k => fairwayref10_Take.f k s) (0, 0, ⟨#[]⟩, ⟨#[]⟩, 0, false, 0, e)) := by
  by_cases h : s.size < 6 ∨ s.size - 6 < V s 2
  · obtain ⟨a, b⟩ := take_cut s hs h
    exact .inr ⟨7, by decide, a, b⟩
  · have h6 : 6 ≤ s.size := Nat.le_of_not_lt fun g => h (.inl g)
    have hv : V s 2 ≤ s.size - 6 := Nat.le_of_not_lt fun g => h (.inr g)
    obtain ⟨a1, a2⟩ := take_prog s hs h6 hv
    obtain ⟨b1, b2⟩ := take_ref s hs h6 hv
    by_cases g : takeOk s
    · refine .inl ⟨rcOf (bodyAt s), 6 + V s 2, Nat.le_add_right _ _, ?_, a1 g, b1 g⟩
      generalize V s 2 = v at *
      generalize s.size = n at *
      omega
    · exact .inr ⟨8, by decide, a2 g, b2 g⟩

theorem ar_add (n a m : Nat) (hn : n ≤ 140737488351232) (ha : a ≤ n) (hm : m ≤ n - a) : wrap64 ((a : Int) + (m : Int)) = ((a + m : Nat) : Int) := by
  rw [wrap_in (by omega) (by omega)]; omega
theorem scan_both (s : ByteArray) (hs : s.size ≤ 140737488351232) : ∀ (d a : Nat) (acc : List R), s.size - a ≤ d → a ≤ s.size → acc.length * 6 ≤ a → s.size < 13194139533312 →
    ∃ (l : List R) (te : Int) (all : Bool), l.length * 6 ≤ s.size ∧ Ev (fun k => rec_Scan.l0 k s acc a) (l, te, all) ∧ Ev (fun k => fairwayref10_Scan.l0 k s acc a) (l, te, all)
  | d, a, acc, hd, ha, hl, hb => by
    by_cases hlt : a < s.size
    · have e1 : (a : Int) < (s.size : Int) := Int.ofNat_lt.2 hlt
      have e2 : (0 : Int) ≤ (a : Int) := Int.natCast_nonneg a
      have e3 : (a : Int) ≤ (s.size : Int) := Int.ofNat_le.2 ha
      have hx := ext_size s a ha
      rcases take_any (s.extract a s.size) (by rw [hx]; exact Nat.le_trans (Nat.sub_le _ _) hs) with ⟨r, n, hn6, hn, t1, t2⟩ | ⟨e, he, t1, t2⟩
      · rw [hx] at hn
        have hw := ar_add s.size a n hs ha hn
        have hll : acc.length < 2199023255552 := by generalize s.size = z at *; omega
        match d with
        | 0 => exact absurd hd (by generalize s.size = z at *; omega)
        | d + 1 =>
          obtain ⟨l, te, all, h1, h2, h3⟩ := scan_both s hs d (a + n) (acc ++ [r]) (by generalize s.size = z at *; omega) (by generalize s.size = z at *; omega) (by rw [List.length_append, List.length_singleton]; generalize acc.length = z at *; omega) hb
          refine ⟨l, te, all, h1, Ev.step (fun k => by rw [rec_Scan.l0, if_pos e1, if_pos e2, if_pos e3, Int.toNat_natCast]) (Ev.bind t1 (Ev.congr (fun k => by rw [if_pos rfl, if_pos hll, hw]) h2)), Ev.step (fun k => by rw [fairwayref10_Scan.l0, if_pos e1, if_pos e2, if_pos e3, Int.toNat_natCast]) (Ev.bind t2 (Ev.congr (fun k => by rw [if_pos rfl, if_pos hll, hw]) h3))⟩
      · exact ⟨acc, a, false, Nat.le_trans hl ha, Ev.step (fun k => by rw [rec_Scan.l0, if_pos e1, if_pos e2, if_pos e3, Int.toNat_natCast]) (Ev.bind t1 (Ev.congr (fun k => if_neg he) (Ev.now _))), Ev.step (fun k => by rw [fairwayref10_Scan.l0, if_pos e1, if_pos e2, if_pos e3, Int.toNat_natCast]) (Ev.bind t2 (Ev.congr (fun k => if_neg he) (Ev.now _)))⟩
    · have e1 : ¬ (a : Int) < (s.size : Int) := fun g => hlt (Int.ofNat_lt.1 g)
      exact ⟨acc, a, true, Nat.le_trans hl ha, Ev.step (fun k => by rw [rec_Scan.l0, if_neg e1]) (Ev.now _), Ev.step (fun k => by rw [fairwayref10_Scan.l0, if_neg e1]) (Ev.now _)⟩
theorem scan_any (s : ByteArray) (hs : s.size < 13194139533312) :
    ∃ (l : List R) (te : Int) (all : Bool), l.length * 6 ≤ s.size ∧ Ev (fun k => rec_Scan.f k s) (l, te, all) ∧ Ev (fun k => fairwayref10_Scan.f k s) (l, te, all) :=
  scan_both s (Nat.le_of_lt (Nat.lt_trans hs (by decide))) s.size 0 [] (Nat.sub_le _ _) (Nat.zero_le _) (Nat.zero_le _) hs

/-! ### held against each other -/
theorem r_same (a : R) : (!(a.f0 == a.f0) || (!(a.f1 == a.f1) || (!(a.f2.toList == a.f2.toList) || (!(a.f3.toList == a.f3.toList) || (!(a.f4 == a.f4) || (!(a.f5 == a.f5))))))) = false := by simp
theorem ar_next (n i : Nat) (hn : n ≤ 9223372036854775806) (hi : i < n) : wrap64 ((i : Int) + 1) = ((i + 1 : Nat) : Int) := by
  rw [wrap_in (by omega) (by omega)]; omega
theorem eqrecs_loop (l : List R) (hm : l.length ≤ 9223372036854775806) : ∀ (d i : Nat), l.length = i + d → Ev (fun k => fairwayref0_EqRecs.l0 k l l i) true
  | 0, i, h => by
    refine Ev.step (fun k => by rw [fairwayref0_EqRecs.l0, if_neg (by omega)]) (Ev.now _)
  | d + 1, i, h => by
    have ih := eqrecs_loop l hm d (i + 1) (by omega)
    have hw := ar_next l.length i hm (by omega)
    exact Ev.step (fun k => by rw [fairwayref0_EqRecs.l0, if_pos (by omega), if_pos (by omega), if_pos (by omega), r_same, if_neg Bool.false_ne_true, hw]) ih
theorem eqrecs_same (l : List R) (hm : l.length ≤ 9223372036854775806) : Ev (fun k => fairwayref0_EqRecs.f k l l) true := by
  unfold fairwayref0_EqRecs.f
  exact Ev.congr (fun k => if_pos rfl) (eqrecs_loop l hm l.length 0 (by omega))
theorem over_loop : ∀ (d i : Nat) (l : List R), l.length < 2199023255552 → l.length = i + d → Ev (fun k => fairwaylaw0_Recs.l0 k l i) ()
  | 0, i, l, hm, h => Ev.step (fun k => by rw [fairwaylaw0_Recs.l0, if_neg (by omega), if_pos hm]) (Ev.now _)
  | d + 1, i, l, hm, h => by
    have ih := over_loop d (i + 1) (l.set ((i : Int)).toNat (⟨(-9), 0, (⟨#[]⟩ : ByteArray), (⟨#[]⟩ : ByteArray), 0, false⟩ : R)) (by rw [List.length_set]; exact hm) (by rw [List.length_set]; omega)
    have hw := ar_next l.length i (by omega) (by omega)
    exact Ev.step (fun k => by rw [fairwaylaw0_Recs.l0, if_pos (by omega), if_pos (by omega), hw]) ih
theorem over_ev (l : List R) (hm : l.length < 2199023255552) : Ev (fun k => fairwaylaw0_Recs.f k l) () := over_loop l.length 0 l hm (by omega)
end Go.Proofs.Ytmabdfdmccbfnaa.UScan

/- The pure law SegAdds: whatever is added, one behind the other, each call tells the segment that the page says, or is refused; so are its bytes. -/
namespace Go.Proofs.Ytmabdfdmccbfnaa.Pure
open Go Go.RowKit Go.Proofs.Ytmabdfdmccbfnaa.P Go.Proofs.Ytmabdfdmccbfnaa.URec Go.Proofs.Ytmabdfdmccbfnaa.USeg Go.Proofs.Ytmabdfdmccbfnaa.UBytes Go.Proofs.Ytmabdfdmccbfnaa.UWith Go.Proofs.Ytmabdfdmccbfnaa.UText Go.Proofs.Ytmabdfdmccbfnaa.UScan Go.Proofs.Ytmabdfdmccbfnaa.UHeavy Go.Proofs.YtmabdfdmccbfnaaW.PrintWords Go.Proofs.YtmabdfdmccbfnaaW.PrintLast
set_option linter.unusedVariables false
set_option linter.unusedSimpArgs false
theorem wakes11_ev : Ev (fun k => fairwaylaw11_wakes.f k) true := Ev.of fairwaylaw11_wakes.mono (k := 30) (by decide +kernel)
theorem num11 (a : Int) : fairwaylaw11_num.f a = some a := rfl
theorem eqseg_same (b : Int) (l : List R) (hm : l.length ≤ 9223372036854775806) : Ev (fun k => fairwayref0_EqSeg.f k b l b l) true := by
  unfold fairwayref0_EqSeg.f
  exact Ev.congr (fun k => if_pos rfl) (Ev.bind (eqrecs_same l hm) (Ev.now _))
theorem add_yes (b : Int) (l : List R) (r : R) (h : segOk b l) (hc : canAdd b l r) : Ev (fun k => seg_Add.f k b l r.f0 r.f1 r.f2 r.f3 r.f4 r.f5) (b, l ++ [r], 0) := by
  have h2 := h.2.2.1
  refine Ev.bind (segcheck_yes b l h) (Ev.congr (fun k => if_pos rfl) (Ev.bind (behind_yes b l r hc.1 hc.2.1 hc.2.2.1 hc.2.2.2) (Ev.congr (fun k => if_pos rfl) ?_)))
  refine Ev.bind (a := l) (Ev.congr (fun k => if_pos (by omega)) (Ev.now _)) (Ev.bind (Ev.now _) (Ev.congr (fun k => if_pos ?_) (Ev.now _)))
  rw [List.length_singleton]; omega
theorem add_no (b : Int) (l : List R) (r : R) (h : ¬ (segOk b l ∧ canAdd b l r)) : Ev (fun k => seg_Add.f k b l r.f0 r.f1 r.f2 r.f3 r.f4 r.f5) (0, [], 1) := by
  by_cases hs : segOk b l
  · exact Ev.bind (segcheck_yes b l hs) (Ev.congr (fun k => if_pos rfl) (Ev.bind (behind_no b l r hs.2.2.1 (fun g => h ⟨hs, g⟩)) (Ev.congr (fun k => if_neg Bool.false_ne_true) (Ev.now _))))
  · exact Ev.bind (segcheck_no b l hs) (Ev.congr (fun k => if_neg (by decide)) (Ev.now _))
theorem sa_step (p : S55) (hm : p.f1.length ≤ 9223372036854775806) (i : Nat) (hi : i < p.f1.length) (b : Int) (l : List R) (hl : l.length ≤ 10000)
    (h : ∀ (b2 : Int) (l2 : List R), l2.length ≤ l.length ∨ l2.length ≤ 200 → Ev (fun k => fairwaylaw11_SegAdds.l0 k ((i + 1 : Nat) : Int) p.f0.f0 p.f0.f1 p.f1 p.f2 p.f3 b2 l2) true) :
    Ev (fun k => fairwaylaw11_SegAdds.j1 k i true p.f0.f0 p.f0.f1 p.f1 p.f2 p.f3 b l) true := by
  have hw := ar_next p.f1.length i hm hi
  have p1 : 0 ≤ (i : Int) := by omega
  have p2 : (i : Int) < (p.f1.length : Int) := by omega
  have q1 : l.length < 2199023255552 := by omega
  have q2 : l.length ≤ 9223372036854775806 := by omega
  have q3 : (l ++ [rd_T25 p.f1 i]).length ≤ 10001 := by rw [List.length_append, List.length_singleton]; omega
  have j6 : ∀ (e : Int) (y nb : Int) (ys ns : List R), ys.length < 2199023255552 → ns.length < 2199023255552 → (e = 0 → ns.length ≤ 200) →
      Ev (fun k => fairwaylaw11_SegAdds.j6 k i e false p.f0.f0 p.f0.f1 p.f1 p.f2 p.f3 b l b l y ys nb ns) true := by
    intro e y nb ys ns hys hns hn
    refine Ev.step (fun k => by rw [fairwaylaw11_SegAdds.j6, if_neg Bool.false_ne_true]) (Ev.bind (over_ev ys hys) (Ev.bind (eqseg_same b l q2) (Ev.congr (fun k => if_pos rfl) ?_)))
    by_cases he : e = 0
    · exact Ev.congr (fun k => if_pos he) (Ev.bind (copyseg_ev nb ns hns) (Ev.congr (fun k => by rw [hw]) (h nb ns (Or.inr (hn he)))))
    · exact Ev.congr (fun k => by rw [if_neg he, hw]) (h b l (Or.inl (Nat.le_refl _)))
  have j5 : ∀ (e : Int) (nb : Int) (ns : List R), ns.length < 2199023255552 → (e = 0 → ns.length ≤ 200) →
      Ev (fun k => fairwaylaw11_SegAdds.j5 k i e e p.f0.f0 p.f0.f1 p.f1 p.f2 p.f3 b l b l nb ns nb ns) true := by
    intro e nb ns hns hn
    refine Ev.step (fun k => by rw [fairwaylaw11_SegAdds.j5]) ?_
    simp only [num11, Option.bind_some]
    exact Ev.congr (fun k => if_pos trivial) (Ev.bind (eqseg_same nb ns (by omega)) (Ev.congr (fun k => if_pos rfl) (Ev.bind (eqseg_same b l q2) (j6 e nb nb ns ns hns hns hn))))
  have wv := with_ev b l (rd_T25 p.f1 i) q1
  have bad : ∀ c : Bool, ¬ (segOk b l ∧ canAdd b l (rd_T25 p.f1 i)) → Ev (fun k => fairwaylaw11_SegAdds.j4 k i 1 1 false p.f0.f0 p.f0.f1 p.f1 p.f2 p.f3 b l b l 0 [] 0) true := fun _ _ =>
    Ev.step (fun k => by rw [fairwaylaw11_SegAdds.j4, if_neg Bool.false_ne_true]) (j5 1 0 [] (by simp) (by simp))
  have j3 : ∀ may : Bool, (may = true ↔ segOk b l) → Ev (fun k => fairwaylaw11_SegAdds.j3 k i may false p.f0.f0 p.f0.f1 p.f1 p.f2 p.f3 b l) true := by
    intro may hmay
    refine Ev.step (fun k => by rw [fairwaylaw11_SegAdds.j3, if_neg Bool.false_ne_true]) (Ev.bind (copyseg_ev b l q1) (Ev.congr (fun k => by rw [if_pos p1, if_pos p2]) ?_))
    by_cases hs : segOk b l
    · obtain rfl := hmay.2 hs
      by_cases hc : canAdd b l (rd_T25 p.f1 i)
      · have hs2 := (segOk_snoc b l _).2 ⟨hs, hc⟩
        have hl2 := hs2.2.2.1
        refine Ev.bind (add_yes b l _ hs hc) (Ev.congr (fun k => if_pos rfl) (Ev.bind wv (Ev.bind (refseg_yes _ _ hs2) ?_)))
        exact Ev.step (fun k => by rw [fairwaylaw11_SegAdds.j4, if_pos rfl, if_pos p1, if_pos p2]) (Ev.bind wv (j5 0 b _ (by omega) (fun _ => hl2)))
      · have hs2 : ¬ segOk b (l ++ [rd_T25 p.f1 i]) := fun g => hc ((segOk_snoc b l _).1 g).2
        exact Ev.bind (add_no b l _ (fun g => hc g.2)) (Ev.congr (fun k => if_pos rfl) (Ev.bind wv (Ev.bind (refseg_no _ _ (show (l ++ [rd_T25 p.f1 i]).length ≤ _ by omega) hs2) (bad true (fun g => hc g.2)))))
    · obtain rfl : may = false := by cases may with | true => exact absurd (hmay.1 rfl) hs | false => rfl
      exact Ev.bind (add_no b l _ (fun g => hs g.1)) (Ev.congr (fun k => if_neg Bool.false_ne_true) (bad true (fun g => hs g.1)))
  refine Ev.step (fun k => by rw [fairwaylaw11_SegAdds.j1, if_pos rfl]) ?_
  by_cases hs : segOk b l
  · have hlens := lens_ok hs
    refine Ev.bind (refseg_yes _ _ hs) (Ev.congr (fun k => if_pos rfl) (Ev.bind (reftext_ev b l hs hlens) ?_))
    refine Ev.step (fun k => by rw [fairwaylaw11_SegAdds.j2]) (Ev.bind (segsize_yes b l hs hlens) (Ev.bind (text_yes b l hs hlens) (Ev.bind (segcheck_yes b l hs) ?_)))
    simp only [num11, Option.bind_some]
    have hsz : (cat ⟨#[]⟩ l).size = lens l := by rw [cat_size]; show 0 + lens l = lens l; omega
    refine Ev.congr (fun k => by rw [if_pos trivial, if_pos trivial, if_pos trivial, if_pos (by rw [hsz]), bne_self_eq_false]) (j3 true ⟨fun _ => hs, fun _ => rfl⟩)
  · refine Ev.bind (refseg_no _ _ q2 hs) (Ev.congr (fun k => if_neg Bool.false_ne_true) ?_)
    refine Ev.step (fun k => by rw [fairwaylaw11_SegAdds.j2]) (Ev.bind (segsize_no b l hs) (Ev.bind (text_no b l hs) (Ev.bind (segcheck_no b l hs) ?_)))
    simp only [num11, Option.bind_some]
    exact Ev.congr (fun k => by rw [if_pos trivial, if_pos trivial, if_pos trivial, if_pos (by rfl), bne_self_eq_false]) (j3 false ⟨fun g => absurd g Bool.false_ne_true, fun g => absurd g hs⟩)
theorem sa_loop (p : S55) (hm : p.f1.length ≤ 9223372036854775806) : ∀ (d i : Nat) (b : Int) (l : List R), 10 = i + d → l.length ≤ 10000 → Ev (fun k => fairwaylaw11_SegAdds.l0 k i p.f0.f0 p.f0.f1 p.f1 p.f2 p.f3 b l) true
  | d, i, b, l, hd, hl => by
    have stop : ∀ i : Int, Ev (fun k => fairwaylaw11_SegAdds.j1 k i false p.f0.f0 p.f0.f1 p.f1 p.f2 p.f3 b l) true := fun i =>
      Ev.step (f := fun k => (fairwaylaw11_wakes.f k).bind fun t => some t) (fun k => by rw [fairwaylaw11_SegAdds.j1, if_neg Bool.false_ne_true]) (Ev.bind wakes11_ev (Ev.now _))
    by_cases hil : i < p.f1.length
    · match d with
      | 0 => exact Ev.step (fun k => by rw [fairwaylaw11_SegAdds.l0, if_pos (by omega), decide_eq_false (by omega)]) (stop i)
      | d + 1 =>
        refine Ev.step (fun k => by rw [fairwaylaw11_SegAdds.l0, if_pos (by omega), decide_eq_true (by omega)]) ?_
        exact sa_step p hm i hil b l hl (fun b2 l2 h2 => sa_loop p hm d (i + 1) b2 l2 (by omega) (by omega))
    · exact Ev.step (fun k => by rw [fairwaylaw11_SegAdds.l0, if_neg (by omega)]) (stop i)
theorem SegAdds (p : S55) (hg : good55 p) : ∃ k, fairwaylaw11_SegAdds.f k p.f0.f0 p.f0.f1 p.f1 p.f2 p.f3 = some true := by
  obtain ⟨⟨g0, g1, g2⟩, ⟨g3, g4⟩, ⟨g5, g6⟩, g7⟩ := hg
  obtain ⟨b, hb, hb2⟩ := heavy_ev p.f0.f0 p.f0.f1 p.f1 p.f2 p.f3 g1 g2 g3 g4
  refine Ev.rounds (r := true) ?_
  refine Ev.bind hb ?_
  cases b with
  | true => exact Ev.congr (fun k => if_pos rfl) (Ev.now _)
  | false =>
    obtain ⟨b1, b2, b3⟩ := hb2 rfl
    exact Ev.congr (fun k => if_neg (by decide)) (Ev.bind (copyseg_ev _ _ (by omega)) (sa_loop p (by omega) 10 0 _ _ (by omega) (show p.f0.f1.length ≤ 10000 by omega)))
end Go.Proofs.Ytmabdfdmccbfnaa.Pure

/- SegAdds: for every input of the row the law returns true, and the input reads afterwards as before. Conditions: none beside the row's own. -/
namespace Go.Proofs.Ytmabdfdmccbfnaa.segAdds
open Go.ChangeShapes Go.WideShapes Go.ChangeAt Go.RowKit Go.Proofs.YtmabdfdmccbfnaaW.PrintWords Go.Proofs.Ytmabdfdmccbfnaa.Open Go.Proofs.Ytmabdfdmccbfnaa.P
set_option linter.unusedVariables false
theorem own : ownKnob Try.prog.godebug = none := by kernel_rfl
theorem laidOut : laidOutB Try.prog = true := by kernel_rfl
theorem openK55 {w : World} {x : S55} {cs : List Value} (h : k55.K w x cs) : ∃ (A1 : Option Addr) (c1 : Nat) (A2 : Option Addr) (c2 : Nat) (A3 : Option Addr) (c3 : Nat), cs = [.int .i64 x.f0.f0, .slice A1 x.f0.f1.length c1, .slice A2 x.f1.length c2, .slice A3 x.f2.length c3, .string x.f3] ∧ Kd.C k25 w A1 x.f0.f1.length x.f0.f1 ∧ x.f0.f1.length ≤ c1 ∧ Kd.C k25 w A2 x.f1.length x.f1 ∧ x.f1.length ≤ c2 ∧ Kd.C (Kd.int .i64) w A3 x.f2.length x.f2 ∧ x.f2.length ≤ c3 := by
  obtain ⟨_, _, rfl, ⟨_, _, rfl, rfl, ⟨A1, c1, rfl, hc1, hr1⟩⟩, ⟨_, _, rfl, ⟨A2, c2, rfl, hc2, hr2⟩, ⟨_, _, rfl, ⟨A3, c3, rfl, hc3, hr3⟩, rfl⟩⟩⟩ := h
  exact ⟨A1, c1, A2, c2, A3, c3, rfl, hr1, hc1, hr2, hc2, hr3, hc3⟩
theorem purely (p : S55) (hg : good55 p) : ∃ k, fairwaylaw11_SegAdds.f k p.f0.f0 p.f0.f1 p.f1 p.f2 p.f3 = some true := Pure.SegAdds p hg
set_option maxRecDepth 100000 in
theorem lifted (os : Os) (started : os.Started) (H : Type) (enc : TypeId × Value → H) :
    ReturnsInHanded {} Try.checked os 9 .any (Rows.segAddsSpec.pre6 enc Try.prog Try.f9 Rows.segAddsRow.domain false) (Rows.segAddsSpec.post enc Try.prog Try.f9 false true false false) := by
  refine returnsInHanded_of_change_sized (C := Try.checked) own started (by kernel_rfl) Try.func9
    (ChangeSpec.witness6 (enc := enc) (C := Try.checked) false ⟨#[], #[.agg #[.int .i64 0, .slice none 0 0, .slice none 0 0, .slice none 0 0, .string ByteArray.empty]], []⟩ 8 (by kernel_rfl) (by kernel_rfl) (by kernel_rfl) (by kernel_rfl)) ?_
  intro W base args ds gs before hval0 hW hcnd hsz0 _
  have hsz : (DataW.weightsEach Try.prog (Try.f9.params.toList ++ Rows.segAddsSpec.plain.varTypes Try.prog) (ds ++ gs)).all (· ≤ reachBytes) = true := hsz0
  have hval : ∀ (j : Nat) t v, Try.f9.params[j]? = some t → args[j]? = some v → Value.okWide Try.prog W .any base t v := hval0
  have hW' := hW
  obtain ⟨p_, q_, hA0, hV, rfl, hfz, hnd⟩ := hW
  have hA : DataW.TrodAll enc Try.prog W 0 (fun _ => true) true Try.f9.params.toList args.toList ds p_ := hA0
  rw [Try.params9] at hA hval hsz
  obtain ⟨v0, vs0, d0, ds0, p0, q0, hargs, rfl, rfl, h0, r0⟩ := trodAll_cons hA
  obtain ⟨rfl, rfl, rfl⟩ := trodAll_nil r0
  obtain rfl : args = #[v0] := by cases args; simp_all
  obtain ⟨rfl, rfl⟩ := trodVars_none hV
  obtain ⟨cs0, rfl, hsz0_⟩ := okWide_struct Try.underlying55 (hval 0 55 v0 rfl rfl)
  have k0 := h0
  have lt0 : ∀ x ∈ p0, x.block < W.heap.size := by obtain ⟨m, hm⟩ := k0; exact DataW.trod_lt m _ _ _ hm
  obtain ⟨p, hg0, A1, c1, A2, c2, A3, c3, rfl, hr1, hc1, hr2, hc2, hr3, hc3⟩ : ∃ p : S55, good55 p ∧ ∃ (A1 : Option Addr) (c1 : Nat) (A2 : Option Addr) (c2 : Nat) (A3 : Option Addr) (c3 : Nat), cs0 = #[.int .i64 p.f0.f0, .slice A1 p.f0.f1.length c1, .slice A2 p.f1.length c2, .slice A3 p.f2.length c3, .string p.f3] ∧ Kd.C k25 W A1 p.f0.f1.length p.f0.f1 ∧ p.f0.f1.length ≤ c1 ∧ Kd.C k25 W A2 p.f1.length p.f1 ∧ p.f1.length ≤ c2 ∧ Kd.C (Kd.int .i64) W A3 p.f2.length p.f2 ∧ p.f2.length ≤ c3 := by
    obtain ⟨fuel, hf⟩ := h0
    obtain ⟨x, hK, hg⟩ := rd55.rd enc W fuel _ _ _ hf (fun m hm => of_decide_eq_true (List.all_eq_true.1 hsz m (DataW.weights_mem_each (j := 0) rfl rfl m hm)))
    obtain ⟨A1, c1, A2, c2, A3, c3, hcs, hr1, hc1, hr2, hc2, hr3, hc3⟩ := openK55 hK
    refine ⟨x, hg, A1, c1, A2, c2, A3, c3, ?_, hr1, hc1, hr2, hc2, hr3, hc3⟩
    have e_ := congrArg List.toArray hcs
    simpa [Value.cells] using e_
  clear hA0 hval0 hsz0 hsz
  obtain ⟨k, h⟩ := purely p hg0
  refine (fairwaylaw11_SegAdds.calls k p.f0.f0 A1 c1 p.f0.f1 A2 c2 p.f1 A3 c3 p.f2 p.f3 true W hr1 hc1 hr2 hc2 hr3 hc3 h).mono fun e W' ⟨he, bel0⟩ => ?_
  have bel : Below W.heap.size W W' := bel0
  subst he
  exact ⟨_, rfl, _, _, _, [], _, [], hW', trodAll_mk1 (shut_bool Try.underlying4 _), (trodAll_cons_mk (Below.trod laidOut (by kernel_rfl) (of_decide_eq_true (by kernel_rfl)) k0 bel lt0) trodAll_mk0), rfl, bel.frame _, fun h => by cases h⟩
theorem over : Rows.segAddsRow.holds Try.pinned (OpenSpec.ofChange Rows.segAddsSpec) :=
  OpenClaim.holds_of_wide 9 Try.f9 rfl rfl rfl rfl rfl rfl rfl ⟨rfl, rfl, rfl, rfl, rfl⟩ rfl rfl rfl rfl rfl (by kernel_rfl) Try.func9 (by kernel_rfl)
    (of_decide_eq_true (by kernel_rfl)) (by unfold Func.isWrapper; first | (rw [if_pos (by decide +kernel)]; kernel_rfl) | (rw [if_neg (by decide +kernel)]; exact ⟨rfl, rfl⟩))
    (fun os started H enc _ => lifted os started H enc)
theorem proved : Rows.SegAddsSaid := over
#print axioms proved
end Go.Proofs.Ytmabdfdmccbfnaa.segAdds
namespace Go.Proofs.Ytmabdfdmccbfnaa
theorem segAdds_holds : Rows.SegAddsSaid := segAdds.proved
end Go.Proofs.Ytmabdfdmccbfnaa

