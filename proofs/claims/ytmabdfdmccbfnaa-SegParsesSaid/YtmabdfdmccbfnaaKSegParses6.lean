/- The law SegParses: printed functions, their contracts, the plain laws and the row, part 6. -/
import Derived.Test.YtmabdfdmccbfnaaKSegParses4
import Derived.Test.YtmabdfdmccbfnaaKSegParses5
-- written by a program of the proving session, out of the translation; Lean checks it
namespace Go.Proofs.Ytmabdfdmccbfnaa.P
open Go.RowKit Go.Proofs.Ytmabdfdmccbfnaa.Sq Go.Proofs.YtmabdfdmccbfnaaW.PrintWords Go.Proofs.YtmabdfdmccbfnaaW.PrintLast Go.Proofs.YtmabdfdmccbfnaaW.PrintMore
attribute [local go_sem] max2_int min2_int max_two min_two max_three min_three max_four min_four   -- for this text's walks alone
set_option linter.unusedVariables false
set_option linter.unusedSimpArgs false

attribute [local go_sem high] xt_fold
/-! ### fairwayref10_Take: function 24 -/
mutual
def fairwayref10_Take.j0 : Nat → Int → ByteArray → Bool → Int → Int → ByteArray → ByteArray → Int → Bool → Option (Int × Int × ByteArray × ByteArray × Int × Bool × Int × Int)
 | 0, _, _, _, _, _, _, _, _, _ => none
 | k + 1, x6, x10, x52, x252000, x252001, x252002, x252003, x252004, x252005 => if x52 = true then (some (x252000, x252001, x252002, x252003, x252004, x252005, 0, 8)) else ((fairwayref1_TakeFixed.f k x10 8).bind fun bt258 => (if 8 ≤ (x10.size : Int) then ((fairwayref1_TakeFixed.f k (xt x10 8 x10.size) 8).bind fun bt260 => (if 16 < (x10.size : Int) then (if 17 ≤ (x10.size : Int) then ((fairwayref1_TakeFixed.f k (xt x10 17 x10.size) 2).bind fun bt262 => (if (wrap64 (bt x10 16)) > 7 then (fairwayref10_Take.j1 k x6 x10 (wrap64 (bt x10 16)) bt262.1 true x252000 x252001 x252002 x252003 x252004 x252005 bt258.1 bt260.1 (⟨#[]⟩ : ByteArray) (⟨#[]⟩ : ByteArray) 0 false) else (fairwayref10_Take.j1 k x6 x10 (wrap64 (bt x10 16)) bt262.1 (decide (bt262.1 > (wrap64 (x6 - 19)))) x252000 x252001 x252002 x252003 x252004 x252005 bt258.1 bt260.1 (⟨#[]⟩ : ByteArray) (⟨#[]⟩ : ByteArray) 0 false))) else (none)) else (none))) else (none)))
def fairwayref10_Take.j1 : Nat → Int → ByteArray → Int → Int → Bool → Int → Int → ByteArray → ByteArray → Int → Bool → Int → Int → ByteArray → ByteArray → Int → Bool → Option (Int × Int × ByteArray × ByteArray × Int × Bool × Int × Int)
 | 0, _, _, _, _, _, _, _, _, _, _, _, _, _, _, _, _, _ => none
 | k + 1, x6, x10, x12, x13, x84, x252000, x252001, x252002, x252003, x252004, x252005, x258000, x258001, x258002, x258003, x258004, x258005 => if x84 = true then (some (x252000, x252001, x252002, x252003, x252004, x252005, 0, 8)) else (if 19 ≤ (wrap64 (19 + x13)) then (if (wrap64 (19 + x13)) ≤ (x10.size : Int) then (if 0 ≤ (wrap64 (19 + x13)) then ((fairwayref10_Rec.f x258000 x258001 (xt x10 19 ((wrap64 (19 + x13)) : Int).toNat) (xt x10 ((wrap64 (19 + x13)) : Int).toNat x10.size) (Int.tmod x12 4) (decide (x12 ≥ 4))).bind fun t264 => (if t264 = true then (some (x258000, x258001, xt x10 19 ((wrap64 (19 + x13)) : Int).toNat, xt x10 ((wrap64 (19 + x13)) : Int).toNat x10.size, Int.tmod x12 4, decide (x12 ≥ 4), wrap64 (6 + x6), 0)) else (some (x252000, x252001, x252002, x252003, x252004, x252005, 0, 8)))) else (none)) else (none)) else (none))
end
def fairwayref10_Take.f (k : Nat) (a0 : ByteArray) : Option (Int × Int × ByteArray × ByteArray × Int × Bool × Int × Int) := if (a0.size : Int) < 6 then (some (0, 0, (⟨#[]⟩ : ByteArray), (⟨#[]⟩ : ByteArray), 0, false, 0, 7)) else ((fairwayref1_TakeFixed.f k a0 2).bind fun bt252 => (if (wrap64 ((a0.size : Int) - 6)) < bt252.1 then (some (0, 0, (⟨#[]⟩ : ByteArray), (⟨#[]⟩ : ByteArray), 0, false, 0, 7)) else (if 2 ≤ (a0.size : Int) then ((fairwayref1_TakeFixed.f k (xt a0 2 a0.size) 4).bind fun bt254 => (if 6 ≤ (wrap64 (6 + bt252.1)) then (if (wrap64 (6 + bt252.1)) ≤ (a0.size : Int) then (if 0 ≤ 2 then (if (xt a0 0 2).size + (xt a0 6 ((wrap64 (6 + bt252.1)) : Int).toNat).size ≤ 9223372036854775807 then ((fairwayref1_Sum.f k 0 ((xt a0 0 2) ++ (xt a0 6 ((wrap64 (6 + bt252.1)) : Int).toNat))).bind fun t256 => (if ((bt254.1) % 4294967296) = t256 then (fairwayref10_Take.j0 k bt252.1 (xt a0 6 ((wrap64 (6 + bt252.1)) : Int).toNat) (decide (bt252.1 < 19)) 0 0 (⟨#[]⟩ : ByteArray) (⟨#[]⟩ : ByteArray) 0 false) else (fairwayref10_Take.j0 k bt252.1 (xt a0 6 ((wrap64 (6 + bt252.1)) : Int).toNat) true 0 0 (⟨#[]⟩ : ByteArray) (⟨#[]⟩ : ByteArray) 0 false))) else (none)) else (none)) else (none)) else (none))) else (none))))
theorem fairwayref10_Take.mono_l : ∀ k, (∀ y0 y1 y2 y3 y4 y5 y6 y7 y8, LeO (fairwayref10_Take.j0 k y0 y1 y2 y3 y4 y5 y6 y7 y8) (fairwayref10_Take.j0 (k + 1) y0 y1 y2 y3 y4 y5 y6 y7 y8)) ∧ (∀ y0 y1 y2 y3 y4 y5 y6 y7 y8 y9 y10 y11 y12 y13 y14 y15 y16, LeO (fairwayref10_Take.j1 k y0 y1 y2 y3 y4 y5 y6 y7 y8 y9 y10 y11 y12 y13 y14 y15 y16) (fairwayref10_Take.j1 (k + 1) y0 y1 y2 y3 y4 y5 y6 y7 y8 y9 y10 y11 y12 y13 y14 y15 y16))
 | 0 => ⟨fun _ _ _ _ _ _ _ _ _ r h => by simp [fairwayref10_Take.j0] at h, fun _ _ _ _ _ _ _ _ _ _ _ _ _ _ _ _ _ r h => by simp [fairwayref10_Take.j1] at h⟩
 | k + 1 => by
  obtain ⟨ih0, ih1⟩ := fairwayref10_Take.mono_l k
  refine ⟨?_, ?_⟩
  ·intro y0 y1 y2 y3 y4 y5 y6 y7 y8
   unfold fairwayref10_Take.j0
   repeat' first
   | (with_reducible exact ih0 _ _ _ _ _ _ _ _ _)
   | (with_reducible exact ih1 _ _ _ _ _ _ _ _ _ _ _ _ _ _ _ _ _)
   | (with_reducible exact fairwayref1_Sum.mono _ _ _)
   | (with_reducible exact fairwayref1_TakeFixed.mono _ _ _)
   | (with_reducible exact LeO.refl _)
   | (with_reducible exact LeO.none _)
   | (with_reducible refine LeO.ite ?_ ?_)
   | (with_reducible refine LeO.bind ?_ (fun _ => ?_))
   | exact ih0 _ _ _ _ _ _ _ _ _
   | exact ih1 _ _ _ _ _ _ _ _ _ _ _ _ _ _ _ _ _
   | exact fairwayref1_Sum.mono _ _ _
   | exact fairwayref1_TakeFixed.mono _ _ _
   | exact LeO.none _
   | refine LeO.ite ?_ ?_
   | refine LeO.bind ?_ (fun _ => ?_)
  ·intro y0 y1 y2 y3 y4 y5 y6 y7 y8 y9 y10 y11 y12 y13 y14 y15 y16
   unfold fairwayref10_Take.j1
   repeat' first
   | (with_reducible exact ih0 _ _ _ _ _ _ _ _ _)
   | (with_reducible exact ih1 _ _ _ _ _ _ _ _ _ _ _ _ _ _ _ _ _)
   | (with_reducible exact fairwayref1_Sum.mono _ _ _)
   | (with_reducible exact fairwayref1_TakeFixed.mono _ _ _)
   | (with_reducible exact LeO.refl _)
   | (with_reducible exact LeO.none _)
   | (with_reducible refine LeO.ite ?_ ?_)
   | (with_reducible refine LeO.bind ?_ (fun _ => ?_))
   | exact ih0 _ _ _ _ _ _ _ _ _
   | exact ih1 _ _ _ _ _ _ _ _ _ _ _ _ _ _ _ _ _
   | exact fairwayref1_Sum.mono _ _ _
   | exact fairwayref1_TakeFixed.mono _ _ _
   | exact LeO.none _
   | refine LeO.ite ?_ ?_
   | refine LeO.bind ?_ (fun _ => ?_)
theorem fairwayref10_Take.mono : ∀ a0 k, LeO (fairwayref10_Take.f k a0) (fairwayref10_Take.f (k + 1) a0) := by
 intro a0 k
 obtain ⟨ih0, ih1⟩ := fairwayref10_Take.mono_l k
 unfold fairwayref10_Take.f
 repeat' first
  | (with_reducible exact ih0 _ _ _ _ _ _ _ _ _)
  | (with_reducible exact ih1 _ _ _ _ _ _ _ _ _ _ _ _ _ _ _ _ _)
  | (with_reducible exact fairwayref1_Sum.mono _ _ _)
  | (with_reducible exact fairwayref1_TakeFixed.mono _ _ _)
  | (with_reducible exact LeO.refl _)
  | (with_reducible exact LeO.none _)
  | (with_reducible refine LeO.ite ?_ ?_)
  | (with_reducible refine LeO.bind ?_ (fun _ => ?_))
  | exact ih0 _ _ _ _ _ _ _ _ _
  | exact ih1 _ _ _ _ _ _ _ _ _ _ _ _ _ _ _ _ _
  | exact fairwayref1_Sum.mono _ _ _
  | exact fairwayref1_TakeFixed.mono _ _ _
  | exact LeO.none _
  | refine LeO.ite ?_ ?_
  | refine LeO.bind ?_ (fun _ => ?_)
def fairwayref10_Take.T19 : Bool × List (List Nat × List Nat) := (true, [([], []), ([], []), ([1], [1]), ([0, 2], [0, 2]), ([], []), ([], []), ([5], [5]), ([4, 6], [4, 6]), ([0, 1, 2, 3], []), ([8, 3, 0, 1, 2, 3], [3, 8]), ([0, 1, 2, 3, 4, 5, 6, 7, 8, 9], []), ([10, 7, 9, 0, 1, 2, 3, 4, 5, 6, 7, 8, 9], [7, 10])])
def fairwayref10_Take.B19 : List Nat := [0, 0, 2, 7, 0, 0, 32, 112, 15, 271, 1023, 2047]
theorem fairwayref10_Take.tab19 : rtab .any (opsOf Try.f24 19) = fairwayref10_Take.T19 := by kernel_rfl
theorem fairwayref10_Take.bits19 : waitsOk fairwayref10_Take.T19.2 fairwayref10_Take.B19 = true := by kernel_rfl
set_option maxHeartbeats 8000000 in
set_option maxRecDepth 100000 in
theorem fairwayref10_Take.calls (k : Nat) (a0 : ByteArray) (r1 : Int) (r2 : Int) (r3 : ByteArray) (r4 : ByteArray) (r5 : Int) (r6 : Bool) (r7 : Int) (r8 : Int) (w : World) (h : fairwayref10_Take.f k a0 = some (r1, r2, r3, r4, r5, r6, r7, r8)) :
 Calls Try.prog 24 #[.string a0] w fun e w' => e = .returned (.tuple #[.agg #[.int .i64 r1, .int .i64 r2, .string r3, .string r4, .int .i64 r5, .bool r6], .int .i64 r7, .int .i64 r8]) ∧ Below w.heap.size w w' := by
 have hu25 := Try.underlying25
 have HB := Aside0.mk (Below.refl w.heap.size w)
 have H : (if (a0.size : Int) < 6 then (some (0, 0, (⟨#[]⟩ : ByteArray), (⟨#[]⟩ : ByteArray), 0, false, 0, 7)) else ((fairwayref1_TakeFixed.f k a0 2).bind fun bt252 => (if (wrap64 ((a0.size : Int) - 6)) < bt252.1 then (some (0, 0, (⟨#[]⟩ : ByteArray), (⟨#[]⟩ : ByteArray), 0, false, 0, 7)) else (if 2 ≤ (a0.size : Int) then ((fairwayref1_TakeFixed.f k (xt a0 2 a0.size) 4).bind fun bt254 => (if 6 ≤ (wrap64 (6 + bt252.1)) then (if (wrap64 (6 + bt252.1)) ≤ (a0.size : Int) then (if 0 ≤ 2 then (if (xt a0 0 2).size + (xt a0 6 ((wrap64 (6 + bt252.1)) : Int).toNat).size ≤ 9223372036854775807 then ((fairwayref1_Sum.f k 0 ((xt a0 0 2) ++ (xt a0 6 ((wrap64 (6 + bt252.1)) : Int).toNat))).bind fun t256 => (if ((bt254.1) % 4294967296) = t256 then (fairwayref10_Take.j0 k bt252.1 (xt a0 6 ((wrap64 (6 + bt252.1)) : Int).toNat) (decide (bt252.1 < 19)) 0 0 (⟨#[]⟩ : ByteArray) (⟨#[]⟩ : ByteArray) 0 false) else (fairwayref10_Take.j0 k bt252.1 (xt a0 6 ((wrap64 (6 + bt252.1)) : Int).toNat) true 0 0 (⟨#[]⟩ : ByteArray) (⟨#[]⟩ : ByteArray) 0 false))) else (none)) else (none)) else (none)) else (none))) else (none))))) = some (r1, r2, r3, r4, r5, r6, r7, r8) := h
 clear h
 by_cases c2 : (a0.size : Int) < 6
 ·rw [if_pos c2] at H
  have c2b0 : decide ((a0.size : Int) < 6) = true := decide_eq_true c2
  have c2b1 : decide (a0.size < 6) = true := decide_eq_true (by omega)
  clear c2
  simp only [Option.some.injEq, Prod.mk.injEq] at H
  obtain ⟨rfl, rfl, rfl, rfl, rfl, rfl, rfl, rfl⟩ := H
  go_enter Try.func24, Try.ntmps24
  go_wp2_with (first | ((with_reducible refine gate_dst (N := 2) rfl ?_); refine box_event ?hg (N := 2) ?hd (cs := #[.int .i64 0, .int .i64 0, .string (⟨#[]⟩ : ByteArray), .string (⟨#[]⟩ : ByteArray), .int .i64 0, .bool false]) (t := 25) ?hr ?_; (case hd => rfl); (case hg => rfl); (case hr => first | (go_simp; done) | (go_simp; rfl)); intro gb250 hg w3 hbox hb; have BK250 := Aside0.mk (hbox); have GW250 := Aside0.mk ((by rw [hg]; exact (below_size bo) : w.heap.size ≤ gb250)); have GE250 := Aside0.mk ((by rw [hg]; exact (below_size bo) : w.heap.size ≤ gb250)); replace HB := Aside0.mk (below_step bo hb); clear hb hbox hg) | ((with_reducible refine gate_dst (N := 5) rfl ?_); refine box_event ?hg (N := 5) ?hd (cs := #[.int .i64 0, .int .i64 0, .string (⟨#[]⟩ : ByteArray), .string (⟨#[]⟩ : ByteArray), .int .i64 0, .bool false]) (t := 25) ?hr ?_; (case hd => rfl); (case hg => rfl); (case hr => first | (go_simp; done) | (go_simp; rfl)); intro gb251 hg w4 hbox hb; have BK251 := Aside0.mk (hbox); have GW251 := Aside0.mk ((by rw [hg]; exact (below_size bo) : w.heap.size ≤ gb251)); have GE251 := Aside0.mk ((by rw [hg]; exact (below_size bo) : w.heap.size ≤ gb251)); replace HB := Aside0.mk (below_step bo hb); have NB250_251 := Aside0.mk ((by rw [hg]; exact Nat.ne_of_lt (blk_lt (g := gb250) (o := .cells #[.int .i64 0, .int .i64 0, .string (⟨#[]⟩ : ByteArray), .string (⟨#[]⟩ : ByteArray), .int .i64 0, .bool false] 25 (0, 0)) (bk BK250.out)) : gb250 ≠ gb251)); have NB251_250 := Aside0.mk ((by rw [hg]; exact Nat.ne_of_gt (blk_lt (g := gb250) (o := .cells #[.int .i64 0, .int .i64 0, .string (⟨#[]⟩ : ByteArray), .string (⟨#[]⟩ : ByteArray), .int .i64 0, .bool false] 25 (0, 0)) (bk BK250.out)) : gb251 ≠ gb250)); replace BK250 := Aside0.mk (blk_below (g := gb250) (o := .cells #[.int .i64 0, .int .i64 0, .string (⟨#[]⟩ : ByteArray), .string (⟨#[]⟩ : ByteArray), .int .i64 0, .bool false] 25 (0, 0)) (bk BK250.out) hb); clear hb hbox hg; have hnb5 := NB251_250.out; have hnc5 := NB250_251.out; obtain ⟨hcz6_0, hcz6_1, hcz6_2, hcz6_3, hcz6_4, hcz6_5⟩ := cl6 BK251.out; obtain ⟨hfz6_0, hfz6_1, hfz6_2, hfz6_3, hfz6_4, hfz6_5⟩ := fz6 BK251.out; obtain ⟨hcz7_0, hcz7_1, hcz7_2, hcz7_3, hcz7_4, hcz7_5⟩ := cl6 BK250.out; obtain ⟨hfz7_0, hfz7_1, hfz7_2, hfz7_3, hfz7_4, hfz7_5⟩ := fz6 BK250.out))
  refine bodyPost_ret (results_ctt rfl _ _ gb250 25 #[.int .i64 0, .int .i64 0, .string (⟨#[]⟩ : ByteArray), .string (⟨#[]⟩ : ByteArray), .int .i64 0, .bool false] (0, 0) _ rfl (by (with_reducible repeat (first | refine blk_drewN ?_ _ | refine blk_drew ?_ | refine blk_alloc ?_ _)); refine blk_put (cs := #[.int .i64 0, .int .i64 0, .string (⟨#[]⟩ : ByteArray), .string (⟨#[]⟩ : ByteArray), .int .i64 0, .bool false]) ?_ 5 _ rfl; (with_reducible repeat (first | refine blk_drewN ?_ _ | refine blk_drew ?_ | refine blk_alloc ?_ _)); refine blk_put (cs := #[.int .i64 0, .int .i64 0, .string (⟨#[]⟩ : ByteArray), .string (⟨#[]⟩ : ByteArray), .int .i64 0, .bool false]) ?_ 4 _ rfl; (with_reducible repeat (first | refine blk_drewN ?_ _ | refine blk_drew ?_ | refine blk_alloc ?_ _)); refine blk_put (cs := #[.int .i64 0, .int .i64 0, .string (⟨#[]⟩ : ByteArray), .string (⟨#[]⟩ : ByteArray), .int .i64 0, .bool false]) ?_ 3 _ rfl; (with_reducible repeat (first | refine blk_drewN ?_ _ | refine blk_drew ?_ | refine blk_alloc ?_ _)); refine blk_put (cs := #[.int .i64 0, .int .i64 0, .string (⟨#[]⟩ : ByteArray), .string (⟨#[]⟩ : ByteArray), .int .i64 0, .bool false]) ?_ 2 _ rfl; (with_reducible repeat (first | refine blk_drewN ?_ _ | refine blk_drew ?_ | refine blk_alloc ?_ _)); refine blk_put (cs := #[.int .i64 0, .int .i64 0, .string (⟨#[]⟩ : ByteArray), .string (⟨#[]⟩ : ByteArray), .int .i64 0, .bool false]) ?_ 1 _ rfl; (with_reducible repeat (first | refine blk_drewN ?_ _ | refine blk_drew ?_ | refine blk_alloc ?_ _)); refine blk_put (cs := #[.int .i64 0, .int .i64 0, .string (⟨#[]⟩ : ByteArray), .string (⟨#[]⟩ : ByteArray), .int .i64 0, .bool false]) ?_ 0 _ rfl; (with_reducible repeat (first | refine blk_drewN ?_ _ | refine blk_drew ?_ | refine blk_alloc ?_ _)); refine blk_far ?_ NB250_251.out _; (with_reducible repeat (first | refine blk_drewN ?_ _ | refine blk_drew ?_ | refine blk_alloc ?_ _)); refine blk_far ?_ NB250_251.out _; (with_reducible repeat (first | refine blk_drewN ?_ _ | refine blk_drew ?_ | refine blk_alloc ?_ _)); refine blk_far ?_ NB250_251.out _; (with_reducible repeat (first | refine blk_drewN ?_ _ | refine blk_drew ?_ | refine blk_alloc ?_ _)); refine blk_far ?_ NB250_251.out _; (with_reducible repeat (first | refine blk_drewN ?_ _ | refine blk_drew ?_ | refine blk_alloc ?_ _)); refine blk_far ?_ NB250_251.out _; (with_reducible repeat (first | refine blk_drewN ?_ _ | refine blk_drew ?_ | refine blk_alloc ?_ _)); refine blk_far ?_ NB250_251.out _; (with_reducible repeat (first | refine blk_drewN ?_ _ | refine blk_drew ?_ | refine blk_alloc ?_ _)); exact BK250.out) Try.underlying25 rfl (by kernel_rfl)) rfl ?_
  exact ⟨er, bo⟩
 ·rw [if_neg c2] at H
  have c2b0 : decide ((a0.size : Int) < 6) = false := decide_eq_false c2
  have c2b1 : decide (a0.size < 6) = false := decide_eq_false (by omega)
  clear c2
  replace H := Option.bind_eq_some_iff.mp H
  obtain ⟨⟨t252, t253⟩, A80, H⟩ := H
  replace H : (if (wrap64 ((a0.size : Int) - 6)) < t252 then (some (0, 0, (⟨#[]⟩ : ByteArray), (⟨#[]⟩ : ByteArray), 0, false, 0, 7)) else (if 2 ≤ (a0.size : Int) then ((fairwayref1_TakeFixed.f k (xt a0 2 a0.size) 4).bind fun bt254 => (if 6 ≤ (wrap64 (6 + t252)) then (if (wrap64 (6 + t252)) ≤ (a0.size : Int) then (if 0 ≤ 2 then (if (xt a0 0 2).size + (xt a0 6 ((wrap64 (6 + t252)) : Int).toNat).size ≤ 9223372036854775807 then ((fairwayref1_Sum.f k 0 ((xt a0 0 2) ++ (xt a0 6 ((wrap64 (6 + t252)) : Int).toNat))).bind fun t256 => (if ((bt254.1) % 4294967296) = t256 then (fairwayref10_Take.j0 k t252 (xt a0 6 ((wrap64 (6 + t252)) : Int).toNat) (decide (t252 < 19)) 0 0 (⟨#[]⟩ : ByteArray) (⟨#[]⟩ : ByteArray) 0 false) else (fairwayref10_Take.j0 k t252 (xt a0 6 ((wrap64 (6 + t252)) : Int).toNat) true 0 0 (⟨#[]⟩ : ByteArray) (⟨#[]⟩ : ByteArray) 0 false))) else (none)) else (none)) else (none)) else (none))) else (none))) = some (r1, r2, r3, r4, r5, r6, r7, r8) := H
  have A8 := Aside0.mk A80
  clear A80
  by_cases c9 : (wrap64 ((a0.size : Int) - 6)) < t252
  ·rw [if_pos c9] at H
   have c9b0 : decide ((wrap64 ((a0.size : Int) - 6)) < t252) = true := decide_eq_true c9
   clear c9
   simp only [Option.some.injEq, Prod.mk.injEq] at H
   obtain ⟨rfl, rfl, rfl, rfl, rfl, rfl, rfl, rfl⟩ := H
   go_enter Try.func24, Try.ntmps24
   go_wp2_with (first | ((with_reducible refine gate_dst (N := 2) rfl ?_); refine box_event ?hg (N := 2) ?hd (cs := #[.int .i64 0, .int .i64 0, .string (⟨#[]⟩ : ByteArray), .string (⟨#[]⟩ : ByteArray), .int .i64 0, .bool false]) (t := 25) ?hr ?_; (case hd => rfl); (case hg => rfl); (case hr => first | (go_simp; done) | (go_simp; rfl)); intro gb250 hg w10 hbox hb; have BK250 := Aside0.mk (hbox); have GW250 := Aside0.mk ((by rw [hg]; exact (below_size bo) : w.heap.size ≤ gb250)); have GE250 := Aside0.mk ((by rw [hg]; exact (below_size bo) : w.heap.size ≤ gb250)); replace HB := Aside0.mk (below_step bo hb); clear hb hbox hg) | ((with_reducible refine gate_dst (N := 5) rfl ?_); refine box_event ?hg (N := 5) ?hd (cs := #[.int .i64 0, .int .i64 0, .string (⟨#[]⟩ : ByteArray), .string (⟨#[]⟩ : ByteArray), .int .i64 0, .bool false]) (t := 25) ?hr ?_; (case hd => rfl); (case hg => rfl); (case hr => first | (go_simp; done) | (go_simp; rfl)); intro gb251 hg w11 hbox hb; have BK251 := Aside0.mk (hbox); have GW251 := Aside0.mk ((by rw [hg]; exact (below_size bo) : w.heap.size ≤ gb251)); have GE251 := Aside0.mk ((by rw [hg]; exact (below_size bo) : w.heap.size ≤ gb251)); replace HB := Aside0.mk (below_step bo hb); have NB250_251 := Aside0.mk ((by rw [hg]; exact Nat.ne_of_lt (blk_lt (g := gb250) (o := .cells #[.int .i64 0, .int .i64 0, .string (⟨#[]⟩ : ByteArray), .string (⟨#[]⟩ : ByteArray), .int .i64 0, .bool false] 25 (0, 0)) (bk BK250.out)) : gb250 ≠ gb251)); have NB251_250 := Aside0.mk ((by rw [hg]; exact Nat.ne_of_gt (blk_lt (g := gb250) (o := .cells #[.int .i64 0, .int .i64 0, .string (⟨#[]⟩ : ByteArray), .string (⟨#[]⟩ : ByteArray), .int .i64 0, .bool false] 25 (0, 0)) (bk BK250.out)) : gb251 ≠ gb250)); replace BK250 := Aside0.mk (blk_below (g := gb250) (o := .cells #[.int .i64 0, .int .i64 0, .string (⟨#[]⟩ : ByteArray), .string (⟨#[]⟩ : ByteArray), .int .i64 0, .bool false] 25 (0, 0)) (bk BK250.out) hb); clear hb hbox hg; have hnb12 := NB251_250.out; have hnc12 := NB250_251.out; obtain ⟨hcz13_0, hcz13_1, hcz13_2, hcz13_3, hcz13_4, hcz13_5⟩ := cl6 BK251.out; obtain ⟨hfz13_0, hfz13_1, hfz13_2, hfz13_3, hfz13_4, hfz13_5⟩ := fz6 BK251.out) | ((with_reducible refine gate_callee (f := 71) rfl ?_); refine goesL_ (some 22) rfl rfl Try.func71 (by kernel_rfl) rfl #[.string a0, .int .i64 2] rfl aa ?_; (with_reducible refine (fairwayref1_TakeFixed.calls k a0 2 t252 t253 _ A8.out).mono ?_); rintro e w' ⟨rfl, ⟨nd, rfl⟩⟩; refine ⟨_, rfl, ?_⟩; obtain ⟨hcz14_0, hcz14_1, hcz14_2, hcz14_3, hcz14_4, hcz14_5⟩ := cl6 BK250.out; obtain ⟨hfz14_0, hfz14_1, hfz14_2, hfz14_3, hfz14_4, hfz14_5⟩ := fz6 BK250.out))
   refine bodyPost_ret (results_ctt rfl _ _ gb250 25 #[.int .i64 0, .int .i64 0, .string (⟨#[]⟩ : ByteArray), .string (⟨#[]⟩ : ByteArray), .int .i64 0, .bool false] (0, 0) _ rfl (by (with_reducible repeat (first | refine blk_drewN ?_ _ | refine blk_drew ?_ | refine blk_alloc ?_ _)); refine blk_put (cs := #[.int .i64 0, .int .i64 0, .string (⟨#[]⟩ : ByteArray), .string (⟨#[]⟩ : ByteArray), .int .i64 0, .bool false]) ?_ 5 _ rfl; (with_reducible repeat (first | refine blk_drewN ?_ _ | refine blk_drew ?_ | refine blk_alloc ?_ _)); refine blk_put (cs := #[.int .i64 0, .int .i64 0, .string (⟨#[]⟩ : ByteArray), .string (⟨#[]⟩ : ByteArray), .int .i64 0, .bool false]) ?_ 4 _ rfl; (with_reducible repeat (first | refine blk_drewN ?_ _ | refine blk_drew ?_ | refine blk_alloc ?_ _)); refine blk_put (cs := #[.int .i64 0, .int .i64 0, .string (⟨#[]⟩ : ByteArray), .string (⟨#[]⟩ : ByteArray), .int .i64 0, .bool false]) ?_ 3 _ rfl; (with_reducible repeat (first | refine blk_drewN ?_ _ | refine blk_drew ?_ | refine blk_alloc ?_ _)); refine blk_put (cs := #[.int .i64 0, .int .i64 0, .string (⟨#[]⟩ : ByteArray), .string (⟨#[]⟩ : ByteArray), .int .i64 0, .bool false]) ?_ 2 _ rfl; (with_reducible repeat (first | refine blk_drewN ?_ _ | refine blk_drew ?_ | refine blk_alloc ?_ _)); refine blk_put (cs := #[.int .i64 0, .int .i64 0, .string (⟨#[]⟩ : ByteArray), .string (⟨#[]⟩ : ByteArray), .int .i64 0, .bool false]) ?_ 1 _ rfl; (with_reducible repeat (first | refine blk_drewN ?_ _ | refine blk_drew ?_ | refine blk_alloc ?_ _)); refine blk_put (cs := #[.int .i64 0, .int .i64 0, .string (⟨#[]⟩ : ByteArray), .string (⟨#[]⟩ : ByteArray), .int .i64 0, .bool false]) ?_ 0 _ rfl; (with_reducible repeat (first | refine blk_drewN ?_ _ | refine blk_drew ?_ | refine blk_alloc ?_ _)); refine blk_far ?_ NB250_251.out _; (with_reducible repeat (first | refine blk_drewN ?_ _ | refine blk_drew ?_ | refine blk_alloc ?_ _)); refine blk_far ?_ NB250_251.out _; (with_reducible repeat (first | refine blk_drewN ?_ _ | refine blk_drew ?_ | refine blk_alloc ?_ _)); refine blk_far ?_ NB250_251.out _; (with_reducible repeat (first | refine blk_drewN ?_ _ | refine blk_drew ?_ | refine blk_alloc ?_ _)); refine blk_far ?_ NB250_251.out _; (with_reducible repeat (first | refine blk_drewN ?_ _ | refine blk_drew ?_ | refine blk_alloc ?_ _)); refine blk_far ?_ NB250_251.out _; (with_reducible repeat (first | refine blk_drewN ?_ _ | refine blk_drew ?_ | refine blk_alloc ?_ _)); refine blk_far ?_ NB250_251.out _; (with_reducible repeat (first | refine blk_drewN ?_ _ | refine blk_drew ?_ | refine blk_alloc ?_ _)); exact BK250.out) Try.underlying25 rfl (by kernel_rfl)) rfl ?_
   exact ⟨er, bo⟩
  ·rw [if_neg c9] at H
   have c9b0 : decide ((wrap64 ((a0.size : Int) - 6)) < t252) = false := decide_eq_false c9
   clear c9
   by_cases c15 : 2 ≤ (a0.size : Int)
   ·rw [if_pos c15] at H
    have c15b0 := eq_true c15
    have c15b1 : decide (2 ≤ (a0.size : Int)) = true := decide_eq_true c15
    clear c15
    replace H := Option.bind_eq_some_iff.mp H
    obtain ⟨⟨t254, t255⟩, A160, H⟩ := H
    replace H : (if 6 ≤ (wrap64 (6 + t252)) then (if (wrap64 (6 + t252)) ≤ (a0.size : Int) then (if 0 ≤ 2 then (if (xt a0 0 2).size + (xt a0 6 ((wrap64 (6 + t252)) : Int).toNat).size ≤ 9223372036854775807 then ((fairwayref1_Sum.f k 0 ((xt a0 0 2) ++ (xt a0 6 ((wrap64 (6 + t252)) : Int).toNat))).bind fun t256 => (if ((t254) % 4294967296) = t256 then (fairwayref10_Take.j0 k t252 (xt a0 6 ((wrap64 (6 + t252)) : Int).toNat) (decide (t252 < 19)) 0 0 (⟨#[]⟩ : ByteArray) (⟨#[]⟩ : ByteArray) 0 false) else (fairwayref10_Take.j0 k t252 (xt a0 6 ((wrap64 (6 + t252)) : Int).toNat) true 0 0 (⟨#[]⟩ : ByteArray) (⟨#[]⟩ : ByteArray) 0 false))) else (none)) else (none)) else (none)) else (none)) = some (r1, r2, r3, r4, r5, r6, r7, r8) := H
    have A16 := Aside0.mk A160
    clear A160
    by_cases c17 : 6 ≤ (wrap64 (6 + t252))
    ·rw [if_pos c17] at H
     have c17b0 := eq_true c17
     have c17b1 : decide (6 ≤ (wrap64 (6 + t252))) = true := decide_eq_true c17
     by_cases c18 : (wrap64 (6 + t252)) ≤ (a0.size : Int)
     ·rw [if_pos c18] at H
      have c18b0 := eq_true c18
      have c18b1 : decide ((wrap64 (6 + t252)) ≤ (a0.size : Int)) = true := decide_eq_true c18
      have HC19 := Aside0.mk H
      clear H
      go_enter Try.func24, Try.ntmps24
      go_upto_region 9 with (first | ((with_reducible refine gate_dst (N := 2) rfl ?_); refine box_event ?hg (N := 2) ?hd (cs := #[.int .i64 0, .int .i64 0, .string (⟨#[]⟩ : ByteArray), .string (⟨#[]⟩ : ByteArray), .int .i64 0, .bool false]) (t := 25) ?hr ?_; (case hd => rfl); (case hg => rfl); (case hr => first | (go_simp; done) | (go_simp; rfl)); intro gb250 hg w20 hbox hb; have BK250 := Aside0.mk (hbox); have GW250 := Aside0.mk ((by rw [hg]; exact (below_size bo) : w.heap.size ≤ gb250)); have GE250 := Aside0.mk ((by rw [hg]; exact (below_size bo) : w.heap.size ≤ gb250)); replace HB := Aside0.mk (below_step bo hb); clear hb hbox hg) | ((with_reducible refine gate_dst (N := 5) rfl ?_); refine box_event ?hg (N := 5) ?hd (cs := #[.int .i64 0, .int .i64 0, .string (⟨#[]⟩ : ByteArray), .string (⟨#[]⟩ : ByteArray), .int .i64 0, .bool false]) (t := 25) ?hr ?_; (case hd => rfl); (case hg => rfl); (case hr => first | (go_simp; done) | (go_simp; rfl)); intro gb251 hg w21 hbox hb; have BK251 := Aside0.mk (hbox); have GW251 := Aside0.mk ((by rw [hg]; exact (below_size bo) : w.heap.size ≤ gb251)); have GE251 := Aside0.mk ((by rw [hg]; exact (below_size bo) : w.heap.size ≤ gb251)); replace HB := Aside0.mk (below_step bo hb); have NB250_251 := Aside0.mk ((by rw [hg]; exact Nat.ne_of_lt (blk_lt (g := gb250) (o := .cells #[.int .i64 0, .int .i64 0, .string (⟨#[]⟩ : ByteArray), .string (⟨#[]⟩ : ByteArray), .int .i64 0, .bool false] 25 (0, 0)) (bk BK250.out)) : gb250 ≠ gb251)); have NB251_250 := Aside0.mk ((by rw [hg]; exact Nat.ne_of_gt (blk_lt (g := gb250) (o := .cells #[.int .i64 0, .int .i64 0, .string (⟨#[]⟩ : ByteArray), .string (⟨#[]⟩ : ByteArray), .int .i64 0, .bool false] 25 (0, 0)) (bk BK250.out)) : gb251 ≠ gb250)); replace BK250 := Aside0.mk (blk_below (g := gb250) (o := .cells #[.int .i64 0, .int .i64 0, .string (⟨#[]⟩ : ByteArray), .string (⟨#[]⟩ : ByteArray), .int .i64 0, .bool false] 25 (0, 0)) (bk BK250.out) hb); clear hb hbox hg; have hnb22 := NB251_250.out; have hnc22 := NB250_251.out; obtain ⟨hcz23_0, hcz23_1, hcz23_2, hcz23_3, hcz23_4, hcz23_5⟩ := cl6 BK251.out; obtain ⟨hfz23_0, hfz23_1, hfz23_2, hfz23_3, hfz23_4, hfz23_5⟩ := fz6 BK251.out) | ((with_reducible refine gate_callee (f := 71) rfl ?_); refine goesL_ (some 22) rfl rfl Try.func71 (by kernel_rfl) rfl #[.string a0, .int .i64 2] rfl aa ?_; (with_reducible refine (fairwayref1_TakeFixed.calls k a0 2 t252 t253 _ A8.out).mono ?_); rintro e w' ⟨rfl, ⟨nd, rfl⟩⟩; refine ⟨_, rfl, ?_⟩) | ((with_reducible refine gate_callee (f := 71) rfl ?_); refine goesL_ (some 34) rfl rfl Try.func71 (by kernel_rfl) rfl #[.string (xt a0 2 a0.size), .int .i64 4] rfl aa ?_; (with_reducible refine (fairwayref1_TakeFixed.calls k (xt a0 2 a0.size) 4 t254 t255 _ A16.out).mono ?_); rintro e w' ⟨rfl, ⟨nd, rfl⟩⟩; refine ⟨_, rfl, ?_⟩))
      (try simp only [Act.put, List.setIfInBounds_toArray, List.set_cons_zero, List.set_cons_succ])
      go_cut [52] (fun v52 wc => ∃ (kq : Nat) (x52_18 : Bool), v52 = .bool x52_18 ∧ Aside0 (fairwayref10_Take.j0 kq t252 (xt a0 6 ((wrap64 (6 + t252)) : Int).toNat) x52_18 0 0 (⟨#[]⟩ : ByteArray) (⟨#[]⟩ : ByteArray) 0 false = some (r1, r2, r3, r4, r5, r6, r7, r8)) ∧ Aside0 (kq ≤ k) ∧ Aside0 (wc.heap[gb250]? = some (.cells #[.int .i64 0, .int .i64 0, .string (⟨#[]⟩ : ByteArray), .string (⟨#[]⟩ : ByteArray), .int .i64 0, .bool false] 25 (0, 0))) ∧ Aside0 (wc.heap[gb251]? = some (.cells #[.int .i64 0, .int .i64 0, .string (⟨#[]⟩ : ByteArray), .string (⟨#[]⟩ : ByteArray), .int .i64 0, .bool false] 25 (0, 0))) ∧ Aside0 (Below w.heap.size w wc))
      case first =>
       have H := HC19.out
       clear HC19
       by_cases c24 : 0 ≤ 2
       ·rw [if_pos c24] at H
        have c24b0 := eq_true c24
        have c24b1 : decide (0 ≤ 2) = true := decide_eq_true c24
        clear c24
        have c25b0 := eq_true (od : 2 ≤ (a0.size : Int))
        by_cases c26 : (xt a0 0 2).size + (xt a0 6 ((wrap64 (6 + t252)) : Int).toNat).size ≤ 9223372036854775807
        ·rw [if_pos c26] at H
         have c26b0 := eq_true c26
         have c26b1 : decide ((xt a0 0 2).size + (xt a0 6 ((wrap64 (6 + t252)) : Int).toNat).size ≤ 9223372036854775807) = true := decide_eq_true c26
         try have c26b2 : (9223372036854775807 < (xt a0 0 2).size + (xt a0 6 ((wrap64 (6 + t252)) : Int).toNat).size) = False := eq_false (Nat.not_lt.2 c26)
         replace H := Option.bind_eq_some_iff.mp H
         obtain ⟨t256, A270, H⟩ := H
         replace H : (if ((t254) % 4294967296) = t256 then (fairwayref10_Take.j0 k t252 (xt a0 6 ((wrap64 (6 + t252)) : Int).toNat) (decide (t252 < 19)) 0 0 (⟨#[]⟩ : ByteArray) (⟨#[]⟩ : ByteArray) 0 false) else (fairwayref10_Take.j0 k t252 (xt a0 6 ((wrap64 (6 + t252)) : Int).toNat) true 0 0 (⟨#[]⟩ : ByteArray) (⟨#[]⟩ : ByteArray) 0 false)) = some (r1, r2, r3, r4, r5, r6, r7, r8) := H
         have A27 := Aside0.mk A270
         clear A270
         by_cases c28 : ((t254) % 4294967296) = t256
         ·rw [if_pos c28] at H
          have c28b0 : (((t254) % 4294967296) == t256) = true := beq_iff_eq.mpr c28
          have c28b1 : (((t254) % 4294967296) != t256) = false := bne_eq_false_iff_eq.mpr c28
          clear c28
          (first | rw [c28b0] | (simp only [i64_w, i32_w]; rw [c28b0]) | skip)
          have H' := Aside0.mk H
          clear H
          go_wp2_with (first | ((with_reducible refine gate_callee (f := 70) rfl ?_); refine goesL_ (some 47) rfl rfl Try.func70 (by kernel_rfl) rfl #[.int .u32 0, .string ((xt a0 0 2) ++ (xt a0 6 ((wrap64 (6 + t252)) : Int).toNat))] rfl aa ?_; (with_reducible refine (fairwayref1_Sum.calls k 0 ((xt a0 0 2) ++ (xt a0 6 ((wrap64 (6 + t252)) : Int).toNat)) t256 _ A27.out).mono ?_); rintro e w' ⟨rfl, ⟨nd, rfl⟩⟩; refine ⟨_, rfl, ?_⟩))
          go_meet
          case rel => exact ⟨_, (decide (t252 < 19)), ap, H', ⟨by first | omega | exact Nat.le_refl _⟩, ⟨by (with_reducible repeat (first | refine blk_drewN ?_ _ | refine blk_drew ?_ | refine blk_alloc ?_ _)); refine blk_far ?_ NB250_251.out _; (with_reducible repeat (first | refine blk_drewN ?_ _ | refine blk_drew ?_ | refine blk_alloc ?_ _)); refine blk_far ?_ NB250_251.out _; (with_reducible repeat (first | refine blk_drewN ?_ _ | refine blk_drew ?_ | refine blk_alloc ?_ _)); refine blk_far ?_ NB250_251.out _; (with_reducible repeat (first | refine blk_drewN ?_ _ | refine blk_drew ?_ | refine blk_alloc ?_ _)); refine blk_far ?_ NB250_251.out _; (with_reducible repeat (first | refine blk_drewN ?_ _ | refine blk_drew ?_ | refine blk_alloc ?_ _)); refine blk_far ?_ NB250_251.out _; (with_reducible repeat (first | refine blk_drewN ?_ _ | refine blk_drew ?_ | refine blk_alloc ?_ _)); refine blk_far ?_ NB250_251.out _; (with_reducible repeat (first | refine blk_drewN ?_ _ | refine blk_drew ?_ | refine blk_alloc ?_ _)); exact BK250.out⟩, ⟨by (with_reducible repeat (first | refine blk_drewN ?_ _ | refine blk_drew ?_ | refine blk_alloc ?_ _)); refine blk_put (cs := #[.int .i64 0, .int .i64 0, .string (⟨#[]⟩ : ByteArray), .string (⟨#[]⟩ : ByteArray), .int .i64 0, .bool false]) ?_ 5 _ rfl; (with_reducible repeat (first | refine blk_drewN ?_ _ | refine blk_drew ?_ | refine blk_alloc ?_ _)); refine blk_put (cs := #[.int .i64 0, .int .i64 0, .string (⟨#[]⟩ : ByteArray), .string (⟨#[]⟩ : ByteArray), .int .i64 0, .bool false]) ?_ 4 _ rfl; (with_reducible repeat (first | refine blk_drewN ?_ _ | refine blk_drew ?_ | refine blk_alloc ?_ _)); refine blk_put (cs := #[.int .i64 0, .int .i64 0, .string (⟨#[]⟩ : ByteArray), .string (⟨#[]⟩ : ByteArray), .int .i64 0, .bool false]) ?_ 3 _ rfl; (with_reducible repeat (first | refine blk_drewN ?_ _ | refine blk_drew ?_ | refine blk_alloc ?_ _)); refine blk_put (cs := #[.int .i64 0, .int .i64 0, .string (⟨#[]⟩ : ByteArray), .string (⟨#[]⟩ : ByteArray), .int .i64 0, .bool false]) ?_ 2 _ rfl; (with_reducible repeat (first | refine blk_drewN ?_ _ | refine blk_drew ?_ | refine blk_alloc ?_ _)); refine blk_put (cs := #[.int .i64 0, .int .i64 0, .string (⟨#[]⟩ : ByteArray), .string (⟨#[]⟩ : ByteArray), .int .i64 0, .bool false]) ?_ 1 _ rfl; (with_reducible repeat (first | refine blk_drewN ?_ _ | refine blk_drew ?_ | refine blk_alloc ?_ _)); refine blk_put (cs := #[.int .i64 0, .int .i64 0, .string (⟨#[]⟩ : ByteArray), .string (⟨#[]⟩ : ByteArray), .int .i64 0, .bool false]) ?_ 0 _ rfl; (with_reducible repeat (first | refine blk_drewN ?_ _ | refine blk_drew ?_ | refine blk_alloc ?_ _)); exact BK251.out⟩, ⟨bo⟩⟩
         ·rw [if_neg c28] at H
          have c28b0 : (((t254) % 4294967296) == t256) = false := beq_eq_false_iff_ne.mpr c28
          have c28b1 : (((t254) % 4294967296) != t256) = true := bne_iff_ne.mpr c28
          (first | rw [c28b0] | (simp only [i64_w, i32_w]; rw [c28b0]) | skip)
          have H' := Aside0.mk H
          clear H
          go_wp2_with (first | ((with_reducible refine gate_callee (f := 70) rfl ?_); refine goesL_ (some 47) rfl rfl Try.func70 (by kernel_rfl) rfl #[.int .u32 0, .string ((xt a0 0 2) ++ (xt a0 6 ((wrap64 (6 + t252)) : Int).toNat))] rfl aa ?_; (with_reducible refine (fairwayref1_Sum.calls k 0 ((xt a0 0 2) ++ (xt a0 6 ((wrap64 (6 + t252)) : Int).toNat)) t256 _ A27.out).mono ?_); rintro e w' ⟨rfl, ⟨nd, rfl⟩⟩; refine ⟨_, rfl, ?_⟩))
          go_meet
          case rel => exact ⟨_, (true), ap, H', ⟨by first | omega | exact Nat.le_refl _⟩, ⟨by (with_reducible repeat (first | refine blk_drewN ?_ _ | refine blk_drew ?_ | refine blk_alloc ?_ _)); refine blk_far ?_ NB250_251.out _; (with_reducible repeat (first | refine blk_drewN ?_ _ | refine blk_drew ?_ | refine blk_alloc ?_ _)); refine blk_far ?_ NB250_251.out _; (with_reducible repeat (first | refine blk_drewN ?_ _ | refine blk_drew ?_ | refine blk_alloc ?_ _)); refine blk_far ?_ NB250_251.out _; (with_reducible repeat (first | refine blk_drewN ?_ _ | refine blk_drew ?_ | refine blk_alloc ?_ _)); refine blk_far ?_ NB250_251.out _; (with_reducible repeat (first | refine blk_drewN ?_ _ | refine blk_drew ?_ | refine blk_alloc ?_ _)); refine blk_far ?_ NB250_251.out _; (with_reducible repeat (first | refine blk_drewN ?_ _ | refine blk_drew ?_ | refine blk_alloc ?_ _)); refine blk_far ?_ NB250_251.out _; (with_reducible repeat (first | refine blk_drewN ?_ _ | refine blk_drew ?_ | refine blk_alloc ?_ _)); exact BK250.out⟩, ⟨by (with_reducible repeat (first | refine blk_drewN ?_ _ | refine blk_drew ?_ | refine blk_alloc ?_ _)); refine blk_put (cs := #[.int .i64 0, .int .i64 0, .string (⟨#[]⟩ : ByteArray), .string (⟨#[]⟩ : ByteArray), .int .i64 0, .bool false]) ?_ 5 _ rfl; (with_reducible repeat (first | refine blk_drewN ?_ _ | refine blk_drew ?_ | refine blk_alloc ?_ _)); refine blk_put (cs := #[.int .i64 0, .int .i64 0, .string (⟨#[]⟩ : ByteArray), .string (⟨#[]⟩ : ByteArray), .int .i64 0, .bool false]) ?_ 4 _ rfl; (with_reducible repeat (first | refine blk_drewN ?_ _ | refine blk_drew ?_ | refine blk_alloc ?_ _)); refine blk_put (cs := #[.int .i64 0, .int .i64 0, .string (⟨#[]⟩ : ByteArray), .string (⟨#[]⟩ : ByteArray), .int .i64 0, .bool false]) ?_ 3 _ rfl; (with_reducible repeat (first | refine blk_drewN ?_ _ | refine blk_drew ?_ | refine blk_alloc ?_ _)); refine blk_put (cs := #[.int .i64 0, .int .i64 0, .string (⟨#[]⟩ : ByteArray), .string (⟨#[]⟩ : ByteArray), .int .i64 0, .bool false]) ?_ 2 _ rfl; (with_reducible repeat (first | refine blk_drewN ?_ _ | refine blk_drew ?_ | refine blk_alloc ?_ _)); refine blk_put (cs := #[.int .i64 0, .int .i64 0, .string (⟨#[]⟩ : ByteArray), .string (⟨#[]⟩ : ByteArray), .int .i64 0, .bool false]) ?_ 1 _ rfl; (with_reducible repeat (first | refine blk_drewN ?_ _ | refine blk_drew ?_ | refine blk_alloc ?_ _)); refine blk_put (cs := #[.int .i64 0, .int .i64 0, .string (⟨#[]⟩ : ByteArray), .string (⟨#[]⟩ : ByteArray), .int .i64 0, .bool false]) ?_ 0 _ rfl; (with_reducible repeat (first | refine blk_drewN ?_ _ | refine blk_drew ?_ | refine blk_alloc ?_ _)); exact BK251.out⟩, ⟨bo⟩⟩
        ·rw [if_neg c26] at H
         exact absurd H (by simp)
       ·rw [if_neg c24] at H
        exact absurd H (by simp)
      case rest =>
       clear HC19
       try clear c1
       try clear c2
       try clear c2b0
       try clear c2b1
       try clear p2
       try clear c5
       try clear p6
       try clear c7
       try clear c9
       try clear c9b0
       try clear c12
       try clear c15
       try clear c15b0
       try clear c15b1
       try clear c17
       try clear c17b0
       try clear c17b1
       try clear c18
       try clear c18b0
       try clear c18b1
       try clear c22
       try clear c24
       try clear c24b0
       try clear c24b1
       try clear c25
       try clear c25b0
       try clear c26
       try clear c26b0
       try clear c26b1
       try clear c26b2
       try clear c28
       try clear c28b0
       try clear c28b1
       try clear hcz13_0
       try clear hcz13_1
       try clear hcz13_2
       try clear hcz13_3
       try clear hcz13_4
       try clear hcz13_5
       try clear hcz14_0
       try clear hcz14_1
       try clear hcz14_2
       try clear hcz14_3
       try clear hcz14_4
       try clear hcz14_5
       try clear hcz23_0
       try clear hcz23_1
       try clear hcz23_2
       try clear hcz23_3
       try clear hcz23_4
       try clear hcz23_5
       try clear hcz6_0
       try clear hcz6_1
       try clear hcz6_2
       try clear hcz6_3
       try clear hcz6_4
       try clear hcz6_5
       try clear hcz7_0
       try clear hcz7_1
       try clear hcz7_2
       try clear hcz7_3
       try clear hcz7_4
       try clear hcz7_5
       try clear hfz13_0
       try clear hfz13_1
       try clear hfz13_2
       try clear hfz13_3
       try clear hfz13_4
       try clear hfz13_5
       try clear hfz14_0
       try clear hfz14_1
       try clear hfz14_2
       try clear hfz14_3
       try clear hfz14_4
       try clear hfz14_5
       try clear hfz23_0
       try clear hfz23_1
       try clear hfz23_2
       try clear hfz23_3
       try clear hfz23_4
       try clear hfz23_5
       try clear hfz6_0
       try clear hfz6_1
       try clear hfz6_2
       try clear hfz6_3
       try clear hfz6_4
       try clear hfz6_5
       try clear hfz7_0
       try clear hfz7_1
       try clear hfz7_2
       try clear hfz7_3
       try clear hfz7_4
       try clear hfz7_5
       obtain ⟨kq, x52_18, rfl, HA, HJ18, BK250, BK251, HB⟩ := hcut
       cases kq with
       | zero => exact absurd HA.out (by simp [fairwayref10_Take.j0])
       | succ kj18 =>
        have H := HA.out
        clear HA
        simp only [fairwayref10_Take.j0] at H
        by_cases c29 : x52_18 = true
        ·subst c29
         have H1 : (some (0, 0, (⟨#[]⟩ : ByteArray), (⟨#[]⟩ : ByteArray), 0, false, 0, 8)) = some (r1, r2, r3, r4, r5, r6, r7, r8) := by rw [if_pos rfl] at H; exact H
         clear H
         have H := H1
         clear H1
         simp only [Option.some.injEq, Prod.mk.injEq] at H
         obtain ⟨rfl, rfl, rfl, rfl, rfl, rfl, rfl, rfl⟩ := H
         have hnb30 := NB251_250.out
         have hnc30 := NB250_251.out
         have hcz31_0 : wc.cell? ⟨gb251, 0, none⟩ = some (.int .i64 0) := (blk_cell BK251.out 0).trans rfl
         have hcz31_1 : wc.cell? ⟨gb251, 1, none⟩ = some (.int .i64 0) := (blk_cell BK251.out 1).trans rfl
         have hcz31_2 : wc.cell? ⟨gb251, 2, none⟩ = some (.string (⟨#[]⟩ : ByteArray)) := (blk_cell BK251.out 2).trans rfl
         have hcz31_3 : wc.cell? ⟨gb251, 3, none⟩ = some (.string (⟨#[]⟩ : ByteArray)) := (blk_cell BK251.out 3).trans rfl
         have hcz31_4 : wc.cell? ⟨gb251, 4, none⟩ = some (.int .i64 0) := (blk_cell BK251.out 4).trans rfl
         have hcz31_5 : wc.cell? ⟨gb251, 5, none⟩ = some (.bool false) := (blk_cell BK251.out 5).trans rfl
         have hfz31_0 := blk_frozen BK251.out 0
         have hfz31_1 := blk_frozen BK251.out 1
         have hfz31_2 := blk_frozen BK251.out 2
         have hfz31_3 := blk_frozen BK251.out 3
         have hfz31_4 := blk_frozen BK251.out 4
         have hfz31_5 := blk_frozen BK251.out 5
         have hcz32_0 : wc.cell? ⟨gb250, 0, none⟩ = some (.int .i64 0) := (blk_cell BK250.out 0).trans rfl
         have hcz32_1 : wc.cell? ⟨gb250, 1, none⟩ = some (.int .i64 0) := (blk_cell BK250.out 1).trans rfl
         have hcz32_2 : wc.cell? ⟨gb250, 2, none⟩ = some (.string (⟨#[]⟩ : ByteArray)) := (blk_cell BK250.out 2).trans rfl
         have hcz32_3 : wc.cell? ⟨gb250, 3, none⟩ = some (.string (⟨#[]⟩ : ByteArray)) := (blk_cell BK250.out 3).trans rfl
         have hcz32_4 : wc.cell? ⟨gb250, 4, none⟩ = some (.int .i64 0) := (blk_cell BK250.out 4).trans rfl
         have hcz32_5 : wc.cell? ⟨gb250, 5, none⟩ = some (.bool false) := (blk_cell BK250.out 5).trans rfl
         have hfz32_0 := blk_frozen BK250.out 0
         have hfz32_1 := blk_frozen BK250.out 1
         have hfz32_2 := blk_frozen BK250.out 2
         have hfz32_3 := blk_frozen BK250.out 3
         have hfz32_4 := blk_frozen BK250.out 4
         have hfz32_5 := blk_frozen BK250.out 5
         go_wp2
         refine bodyPost_ret (results_ctt rfl _ _ gb250 25 #[.int .i64 0, .int .i64 0, .string (⟨#[]⟩ : ByteArray), .string (⟨#[]⟩ : ByteArray), .int .i64 0, .bool false] (0, 0) _ rfl (by (with_reducible repeat (first | refine blk_drewN ?_ _ | refine blk_drew ?_ | refine blk_alloc ?_ _)); refine blk_put (cs := #[.int .i64 0, .int .i64 0, .string (⟨#[]⟩ : ByteArray), .string (⟨#[]⟩ : ByteArray), .int .i64 0, .bool false]) ?_ 5 _ rfl; (with_reducible repeat (first | refine blk_drewN ?_ _ | refine blk_drew ?_ | refine blk_alloc ?_ _)); refine blk_put (cs := #[.int .i64 0, .int .i64 0, .string (⟨#[]⟩ : ByteArray), .string (⟨#[]⟩ : ByteArray), .int .i64 0, .bool false]) ?_ 4 _ rfl; (with_reducible repeat (first | refine blk_drewN ?_ _ | refine blk_drew ?_ | refine blk_alloc ?_ _)); refine blk_put (cs := #[.int .i64 0, .int .i64 0, .string (⟨#[]⟩ : ByteArray), .string (⟨#[]⟩ : ByteArray), .int .i64 0, .bool false]) ?_ 3 _ rfl; (with_reducible repeat (first | refine blk_drewN ?_ _ | refine blk_drew ?_ | refine blk_alloc ?_ _)); refine blk_put (cs := #[.int .i64 0, .int .i64 0, .string (⟨#[]⟩ : ByteArray), .string (⟨#[]⟩ : ByteArray), .int .i64 0, .bool false]) ?_ 2 _ rfl; (with_reducible repeat (first | refine blk_drewN ?_ _ | refine blk_drew ?_ | refine blk_alloc ?_ _)); refine blk_put (cs := #[.int .i64 0, .int .i64 0, .string (⟨#[]⟩ : ByteArray), .string (⟨#[]⟩ : ByteArray), .int .i64 0, .bool false]) ?_ 1 _ rfl; (with_reducible repeat (first | refine blk_drewN ?_ _ | refine blk_drew ?_ | refine blk_alloc ?_ _)); refine blk_put (cs := #[.int .i64 0, .int .i64 0, .string (⟨#[]⟩ : ByteArray), .string (⟨#[]⟩ : ByteArray), .int .i64 0, .bool false]) ?_ 0 _ rfl; (with_reducible repeat (first | refine blk_drewN ?_ _ | refine blk_drew ?_ | refine blk_alloc ?_ _)); exact BK250.out) Try.underlying25 rfl (by kernel_rfl)) rfl ?_
         exact ⟨er, bo⟩
        ·replace c29 := Bool.eq_false_iff.mpr c29
         subst c29
         have H1 : ((fairwayref1_TakeFixed.f kj18 (xt a0 6 ((wrap64 (6 + t252)) : Int).toNat) 8).bind fun bt258 => (if 8 ≤ ((xt a0 6 ((wrap64 (6 + t252)) : Int).toNat).size : Int) then ((fairwayref1_TakeFixed.f kj18 (xt (xt a0 6 ((wrap64 (6 + t252)) : Int).toNat) 8 (xt a0 6 ((wrap64 (6 + t252)) : Int).toNat).size) 8).bind fun bt260 => (if 16 < ((xt a0 6 ((wrap64 (6 + t252)) : Int).toNat).size : Int) then (if 17 ≤ ((xt a0 6 ((wrap64 (6 + t252)) : Int).toNat).size : Int) then ((fairwayref1_TakeFixed.f kj18 (xt (xt a0 6 ((wrap64 (6 + t252)) : Int).toNat) 17 (xt a0 6 ((wrap64 (6 + t252)) : Int).toNat).size) 2).bind fun bt262 => (if (wrap64 (bt (xt a0 6 ((wrap64 (6 + t252)) : Int).toNat) 16)) > 7 then (fairwayref10_Take.j1 kj18 t252 (xt a0 6 ((wrap64 (6 + t252)) : Int).toNat) (wrap64 (bt (xt a0 6 ((wrap64 (6 + t252)) : Int).toNat) 16)) bt262.1 true 0 0 (⟨#[]⟩ : ByteArray) (⟨#[]⟩ : ByteArray) 0 false bt258.1 bt260.1 (⟨#[]⟩ : ByteArray) (⟨#[]⟩ : ByteArray) 0 false) else (fairwayref10_Take.j1 kj18 t252 (xt a0 6 ((wrap64 (6 + t252)) : Int).toNat) (wrap64 (bt (xt a0 6 ((wrap64 (6 + t252)) : Int).toNat) 16)) bt262.1 (decide (bt262.1 > (wrap64 (t252 - 19)))) 0 0 (⟨#[]⟩ : ByteArray) (⟨#[]⟩ : ByteArray) 0 false bt258.1 bt260.1 (⟨#[]⟩ : ByteArray) (⟨#[]⟩ : ByteArray) 0 false))) else (none)) else (none))) else (none))) = some (r1, r2, r3, r4, r5, r6, r7, r8) := by rw [if_neg (show ¬ (false = true) by decide)] at H; exact H
         clear H
         have H := H1
         clear H1
         replace H := Option.bind_eq_some_iff.mp H
         obtain ⟨⟨t258, t259⟩, A330, H⟩ := H
         replace H : (if 8 ≤ ((xt a0 6 ((wrap64 (6 + t252)) : Int).toNat).size : Int) then ((fairwayref1_TakeFixed.f kj18 (xt (xt a0 6 ((wrap64 (6 + t252)) : Int).toNat) 8 (xt a0 6 ((wrap64 (6 + t252)) : Int).toNat).size) 8).bind fun bt260 => (if 16 < ((xt a0 6 ((wrap64 (6 + t252)) : Int).toNat).size : Int) then (if 17 ≤ ((xt a0 6 ((wrap64 (6 + t252)) : Int).toNat).size : Int) then ((fairwayref1_TakeFixed.f kj18 (xt (xt a0 6 ((wrap64 (6 + t252)) : Int).toNat) 17 (xt a0 6 ((wrap64 (6 + t252)) : Int).toNat).size) 2).bind fun bt262 => (if (wrap64 (bt (xt a0 6 ((wrap64 (6 + t252)) : Int).toNat) 16)) > 7 then (fairwayref10_Take.j1 kj18 t252 (xt a0 6 ((wrap64 (6 + t252)) : Int).toNat) (wrap64 (bt (xt a0 6 ((wrap64 (6 + t252)) : Int).toNat) 16)) bt262.1 true 0 0 (⟨#[]⟩ : ByteArray) (⟨#[]⟩ : ByteArray) 0 false t258 bt260.1 (⟨#[]⟩ : ByteArray) (⟨#[]⟩ : ByteArray) 0 false) else (fairwayref10_Take.j1 kj18 t252 (xt a0 6 ((wrap64 (6 + t252)) : Int).toNat) (wrap64 (bt (xt a0 6 ((wrap64 (6 + t252)) : Int).toNat) 16)) bt262.1 (decide (bt262.1 > (wrap64 (t252 - 19)))) 0 0 (⟨#[]⟩ : ByteArray) (⟨#[]⟩ : ByteArray) 0 false t258 bt260.1 (⟨#[]⟩ : ByteArray) (⟨#[]⟩ : ByteArray) 0 false))) else (none)) else (none))) else (none)) = some (r1, r2, r3, r4, r5, r6, r7, r8) := H
         have A33 := Aside0.mk A330
         clear A330
         by_cases c34 : 8 ≤ ((xt a0 6 ((wrap64 (6 + t252)) : Int).toNat).size : Int)
         ·rw [if_pos c34] at H
          have c34b0 := eq_true c34
          have c34b1 : decide (8 ≤ ((xt a0 6 ((wrap64 (6 + t252)) : Int).toNat).size : Int)) = true := decide_eq_true c34
          replace H := Option.bind_eq_some_iff.mp H
          obtain ⟨⟨t260, t261⟩, A350, H⟩ := H
          replace H : (if 16 < ((xt a0 6 ((wrap64 (6 + t252)) : Int).toNat).size : Int) then (if 17 ≤ ((xt a0 6 ((wrap64 (6 + t252)) : Int).toNat).size : Int) then ((fairwayref1_TakeFixed.f kj18 (xt (xt a0 6 ((wrap64 (6 + t252)) : Int).toNat) 17 (xt a0 6 ((wrap64 (6 + t252)) : Int).toNat).size) 2).bind fun bt262 => (if (wrap64 (bt (xt a0 6 ((wrap64 (6 + t252)) : Int).toNat) 16)) > 7 then (fairwayref10_Take.j1 kj18 t252 (xt a0 6 ((wrap64 (6 + t252)) : Int).toNat) (wrap64 (bt (xt a0 6 ((wrap64 (6 + t252)) : Int).toNat) 16)) bt262.1 true 0 0 (⟨#[]⟩ : ByteArray) (⟨#[]⟩ : ByteArray) 0 false t258 t260 (⟨#[]⟩ : ByteArray) (⟨#[]⟩ : ByteArray) 0 false) else (fairwayref10_Take.j1 kj18 t252 (xt a0 6 ((wrap64 (6 + t252)) : Int).toNat) (wrap64 (bt (xt a0 6 ((wrap64 (6 + t252)) : Int).toNat) 16)) bt262.1 (decide (bt262.1 > (wrap64 (t252 - 19)))) 0 0 (⟨#[]⟩ : ByteArray) (⟨#[]⟩ : ByteArray) 0 false t258 t260 (⟨#[]⟩ : ByteArray) (⟨#[]⟩ : ByteArray) 0 false))) else (none)) else (none)) = some (r1, r2, r3, r4, r5, r6, r7, r8) := H
          have A35 := Aside0.mk A350
          clear A350
          by_cases c36 : 16 < ((xt a0 6 ((wrap64 (6 + t252)) : Int).toNat).size : Int)
          ·rw [if_pos c36] at H
           have c36b0 : decide (16 < ((xt a0 6 ((wrap64 (6 + t252)) : Int).toNat).size : Int)) = true := decide_eq_true c36
           have c36b1 : decide (16 < (xt a0 6 ((wrap64 (6 + t252)) : Int).toNat).size) = true := decide_eq_true (by omega)
           clear c36
           by_cases c38 : 17 ≤ ((xt a0 6 ((wrap64 (6 + t252)) : Int).toNat).size : Int)
           ·rw [if_pos c38] at H
            have c38b0 := eq_true c38
            have c38b1 : decide (17 ≤ ((xt a0 6 ((wrap64 (6 + t252)) : Int).toNat).size : Int)) = true := decide_eq_true c38
            replace H := Option.bind_eq_some_iff.mp H
            obtain ⟨⟨t262, t263⟩, A390, H⟩ := H
            replace H : (if (wrap64 (bt (xt a0 6 ((wrap64 (6 + t252)) : Int).toNat) 16)) > 7 then (fairwayref10_Take.j1 kj18 t252 (xt a0 6 ((wrap64 (6 + t252)) : Int).toNat) (wrap64 (bt (xt a0 6 ((wrap64 (6 + t252)) : Int).toNat) 16)) t262 true 0 0 (⟨#[]⟩ : ByteArray) (⟨#[]⟩ : ByteArray) 0 false t258 t260 (⟨#[]⟩ : ByteArray) (⟨#[]⟩ : ByteArray) 0 false) else (fairwayref10_Take.j1 kj18 t252 (xt a0 6 ((wrap64 (6 + t252)) : Int).toNat) (wrap64 (bt (xt a0 6 ((wrap64 (6 + t252)) : Int).toNat) 16)) t262 (decide (t262 > (wrap64 (t252 - 19)))) 0 0 (⟨#[]⟩ : ByteArray) (⟨#[]⟩ : ByteArray) 0 false t258 t260 (⟨#[]⟩ : ByteArray) (⟨#[]⟩ : ByteArray) 0 false)) = some (r1, r2, r3, r4, r5, r6, r7, r8) := H
            have A39 := Aside0.mk A390
            clear A390
            have HC40 := Aside0.mk H
            clear H
            go_upto_region 16 with (first | ((with_reducible refine gate_dst (N := 11) rfl ?_); refine box_event ?hg (N := 11) ?hd (cs := #[.int .i64 0, .int .i64 0, .string (⟨#[]⟩ : ByteArray), .string (⟨#[]⟩ : ByteArray), .int .i64 0, .bool false]) (t := 25) ?hr ?_; (case hd => rfl); (case hg => rfl); (case hr => first | (go_simp; done) | (go_simp; rfl)); intro gb257 hg w41 hbox hb; have BK257 := Aside0.mk (hbox); have GW257 := Aside0.mk ((by rw [hg]; exact (below_size bo) : w.heap.size ≤ gb257)); have GE257 := Aside0.mk ((by rw [hg]; exact (below_size bo) : w.heap.size ≤ gb257)); replace HB := Aside0.mk (below_step bo hb); have NB250_257 := Aside0.mk ((by rw [hg]; exact Nat.ne_of_lt (blk_lt (g := gb250) (o := .cells #[.int .i64 0, .int .i64 0, .string (⟨#[]⟩ : ByteArray), .string (⟨#[]⟩ : ByteArray), .int .i64 0, .bool false] 25 (0, 0)) (bk BK250.out)) : gb250 ≠ gb257)); have NB257_250 := Aside0.mk ((by rw [hg]; exact Nat.ne_of_gt (blk_lt (g := gb250) (o := .cells #[.int .i64 0, .int .i64 0, .string (⟨#[]⟩ : ByteArray), .string (⟨#[]⟩ : ByteArray), .int .i64 0, .bool false] 25 (0, 0)) (bk BK250.out)) : gb257 ≠ gb250)); replace BK250 := Aside0.mk (blk_below (g := gb250) (o := .cells #[.int .i64 0, .int .i64 0, .string (⟨#[]⟩ : ByteArray), .string (⟨#[]⟩ : ByteArray), .int .i64 0, .bool false] 25 (0, 0)) (bk BK250.out) hb); have NB251_257 := Aside0.mk ((by rw [hg]; exact Nat.ne_of_lt (blk_lt (g := gb251) (o := .cells #[.int .i64 0, .int .i64 0, .string (⟨#[]⟩ : ByteArray), .string (⟨#[]⟩ : ByteArray), .int .i64 0, .bool false] 25 (0, 0)) (bk BK251.out)) : gb251 ≠ gb257)); have NB257_251 := Aside0.mk ((by rw [hg]; exact Nat.ne_of_gt (blk_lt (g := gb251) (o := .cells #[.int .i64 0, .int .i64 0, .string (⟨#[]⟩ : ByteArray), .string (⟨#[]⟩ : ByteArray), .int .i64 0, .bool false] 25 (0, 0)) (bk BK251.out)) : gb257 ≠ gb251)); replace BK251 := Aside0.mk (blk_below (g := gb251) (o := .cells #[.int .i64 0, .int .i64 0, .string (⟨#[]⟩ : ByteArray), .string (⟨#[]⟩ : ByteArray), .int .i64 0, .bool false] 25 (0, 0)) (bk BK251.out) hb); clear hb hbox hg; have hnb42 := NB257_250.out; have hnc42 := NB250_257.out; have hnb43 := NB257_251.out; have hnc43 := NB251_257.out; obtain ⟨hcz44_0, hcz44_1, hcz44_2, hcz44_3, hcz44_4, hcz44_5⟩ := cl6 BK257.out; obtain ⟨hfz44_0, hfz44_1, hfz44_2, hfz44_3, hfz44_4, hfz44_5⟩ := fz6 BK257.out) | ((with_reducible refine gate_callee (f := 71) rfl ?_); refine goesL_ (some 57) rfl rfl Try.func71 (by kernel_rfl) rfl #[.string (xt a0 6 ((wrap64 (6 + t252)) : Int).toNat), .int .i64 8] rfl aa ?_; (with_reducible refine (fairwayref1_TakeFixed.calls kj18 (xt a0 6 ((wrap64 (6 + t252)) : Int).toNat) 8 t258 t259 _ A33.out).mono ?_); rintro e w' ⟨rfl, ⟨nd, rfl⟩⟩; refine ⟨_, rfl, ?_⟩) | ((with_reducible refine gate_callee (f := 71) rfl ?_); refine goesL_ (some 64) rfl rfl Try.func71 (by kernel_rfl) rfl #[.string (xt (xt a0 6 ((wrap64 (6 + t252)) : Int).toNat) 8 (xt a0 6 ((wrap64 (6 + t252)) : Int).toNat).size), .int .i64 8] rfl aa ?_; (with_reducible refine (fairwayref1_TakeFixed.calls kj18 (xt (xt a0 6 ((wrap64 (6 + t252)) : Int).toNat) 8 (xt a0 6 ((wrap64 (6 + t252)) : Int).toNat).size) 8 t260 t261 _ A35.out).mono ?_); rintro e w' ⟨rfl, ⟨nd, rfl⟩⟩; refine ⟨_, rfl, ?_⟩; have p37 : 0 ≤ (16 : Int) := (by omega); have q37 : 16 < (xt a0 6 ((wrap64 (6 + t252)) : Int).toNat).size := (by have : (16 : Int) < ((xt a0 6 ((wrap64 (6 + t252)) : Int).toNat).size : Int) := od; omega); have hx37 : ∀ h : 16 < (xt a0 6 ((wrap64 (6 + t252)) : Int).toNat).size, (((xt a0 6 ((wrap64 (6 + t252)) : Int).toNat)[16]'h).toNat : Int) = bt (xt a0 6 ((wrap64 (6 + t252)) : Int).toNat) 16 := bt_at (xt a0 6 ((wrap64 (6 + t252)) : Int).toNat) 16; clear p37; have qi37 : (16 < ((xt a0 6 ((wrap64 (6 + t252)) : Int).toNat).size : Int)) = True := eq_true (od); replace q37 := eq_true q37) | ((with_reducible refine gate_callee (f := 71) rfl ?_); refine goesL_ (some 74) rfl rfl Try.func71 (by kernel_rfl) rfl #[.string (xt (xt a0 6 ((wrap64 (6 + t252)) : Int).toNat) 17 (xt a0 6 ((wrap64 (6 + t252)) : Int).toNat).size), .int .i64 2] rfl aa ?_; (with_reducible refine (fairwayref1_TakeFixed.calls kj18 (xt (xt a0 6 ((wrap64 (6 + t252)) : Int).toNat) 17 (xt a0 6 ((wrap64 (6 + t252)) : Int).toNat).size) 2 t262 t263 _ A39.out).mono ?_); rintro e w' ⟨rfl, ⟨nd, rfl⟩⟩; refine ⟨_, rfl, ?_⟩))
            (try simp only [Act.put, List.setIfInBounds_toArray, List.set_cons_zero, List.set_cons_succ])
            go_cut [84] (fun v84 wc => ∃ (kq : Nat) (x84_39 : Bool), v84 = .bool x84_39 ∧ Aside0 (fairwayref10_Take.j1 kq t252 (xt a0 6 ((wrap64 (6 + t252)) : Int).toNat) (wrap64 (bt (xt a0 6 ((wrap64 (6 + t252)) : Int).toNat) 16)) t262 x84_39 0 0 (⟨#[]⟩ : ByteArray) (⟨#[]⟩ : ByteArray) 0 false t258 t260 (⟨#[]⟩ : ByteArray) (⟨#[]⟩ : ByteArray) 0 false = some (r1, r2, r3, r4, r5, r6, r7, r8)) ∧ Aside0 (kq ≤ kj18) ∧ Aside0 (wc.heap[gb250]? = some (.cells #[.int .i64 0, .int .i64 0, .string (⟨#[]⟩ : ByteArray), .string (⟨#[]⟩ : ByteArray), .int .i64 0, .bool false] 25 (0, 0))) ∧ Aside0 (wc.heap[gb251]? = some (.cells #[.int .i64 0, .int .i64 0, .string (⟨#[]⟩ : ByteArray), .string (⟨#[]⟩ : ByteArray), .int .i64 0, .bool false] 25 (0, 0))) ∧ Aside0 (wc.heap[gb257]? = some (.cells #[.int .i64 t258, .int .i64 t260, .string (⟨#[]⟩ : ByteArray), .string (⟨#[]⟩ : ByteArray), .int .i64 0, .bool false] 25 (0, 0))) ∧ Aside0 (Below w.heap.size w wc))
            case first =>
             have H := HC40.out
             clear HC40
             by_cases c45 : (wrap64 (bt (xt a0 6 ((wrap64 (6 + t252)) : Int).toNat) 16)) > 7
             ·rw [if_pos c45] at H
              have c45b0 : decide (7 < (wrap64 (bt (xt a0 6 ((wrap64 (6 + t252)) : Int).toNat) 16))) = true := decide_eq_true c45
              clear c45
              (first | rw [c45b0] | (simp only [i64_w, i32_w]; rw [c45b0]) | skip)
              have H' := Aside0.mk H
              clear H
              go_wp2
              go_meet
              case rel => exact ⟨_, (true), ap, H', ⟨by have := HJ18.out; first | omega | exact Nat.le_refl _⟩, ⟨by (with_reducible repeat (first | refine blk_drewN ?_ _ | refine blk_drew ?_ | refine blk_alloc ?_ _)); refine blk_far ?_ NB250_257.out _; (with_reducible repeat (first | refine blk_drewN ?_ _ | refine blk_drew ?_ | refine blk_alloc ?_ _)); refine blk_far ?_ NB250_257.out _; (with_reducible repeat (first | refine blk_drewN ?_ _ | refine blk_drew ?_ | refine blk_alloc ?_ _)); refine blk_far ?_ NB250_257.out _; (with_reducible repeat (first | refine blk_drewN ?_ _ | refine blk_drew ?_ | refine blk_alloc ?_ _)); refine blk_far ?_ NB250_257.out _; (with_reducible repeat (first | refine blk_drewN ?_ _ | refine blk_drew ?_ | refine blk_alloc ?_ _)); refine blk_far ?_ NB250_257.out _; (with_reducible repeat (first | refine blk_drewN ?_ _ | refine blk_drew ?_ | refine blk_alloc ?_ _)); refine blk_far ?_ NB250_257.out _; (with_reducible repeat (first | refine blk_drewN ?_ _ | refine blk_drew ?_ | refine blk_alloc ?_ _)); refine blk_far ?_ NB250_257.out _; (with_reducible repeat (first | refine blk_drewN ?_ _ | refine blk_drew ?_ | refine blk_alloc ?_ _)); refine blk_far ?_ NB250_257.out _; (with_reducible repeat (first | refine blk_drewN ?_ _ | refine blk_drew ?_ | refine blk_alloc ?_ _)); exact BK250.out⟩, ⟨by (with_reducible repeat (first | refine blk_drewN ?_ _ | refine blk_drew ?_ | refine blk_alloc ?_ _)); refine blk_far ?_ NB251_257.out _; (with_reducible repeat (first | refine blk_drewN ?_ _ | refine blk_drew ?_ | refine blk_alloc ?_ _)); refine blk_far ?_ NB251_257.out _; (with_reducible repeat (first | refine blk_drewN ?_ _ | refine blk_drew ?_ | refine blk_alloc ?_ _)); refine blk_far ?_ NB251_257.out _; (with_reducible repeat (first | refine blk_drewN ?_ _ | refine blk_drew ?_ | refine blk_alloc ?_ _)); refine blk_far ?_ NB251_257.out _; (with_reducible repeat (first | refine blk_drewN ?_ _ | refine blk_drew ?_ | refine blk_alloc ?_ _)); refine blk_far ?_ NB251_257.out _; (with_reducible repeat (first | refine blk_drewN ?_ _ | refine blk_drew ?_ | refine blk_alloc ?_ _)); refine blk_far ?_ NB251_257.out _; (with_reducible repeat (first | refine blk_drewN ?_ _ | refine blk_drew ?_ | refine blk_alloc ?_ _)); refine blk_far ?_ NB251_257.out _; (with_reducible repeat (first | refine blk_drewN ?_ _ | refine blk_drew ?_ | refine blk_alloc ?_ _)); refine blk_far ?_ NB251_257.out _; (with_reducible repeat (first | refine blk_drewN ?_ _ | refine blk_drew ?_ | refine blk_alloc ?_ _)); exact BK251.out⟩, ⟨by (with_reducible repeat (first | refine blk_drewN ?_ _ | refine blk_drew ?_ | refine blk_alloc ?_ _)); refine blk_put (cs := #[.int .i64 t258, .int .i64 0, .string (⟨#[]⟩ : ByteArray), .string (⟨#[]⟩ : ByteArray), .int .i64 0, .bool false]) ?_ 1 _ rfl; (with_reducible repeat (first | refine blk_drewN ?_ _ | refine blk_drew ?_ | refine blk_alloc ?_ _)); refine blk_put (cs := #[.int .i64 0, .int .i64 0, .string (⟨#[]⟩ : ByteArray), .string (⟨#[]⟩ : ByteArray), .int .i64 0, .bool false]) ?_ 0 _ rfl; (with_reducible repeat (first | refine blk_drewN ?_ _ | refine blk_drew ?_ | refine blk_alloc ?_ _)); refine blk_put (cs := #[.int .i64 0, .int .i64 0, .string (⟨#[]⟩ : ByteArray), .string (⟨#[]⟩ : ByteArray), .int .i64 0, .bool false]) ?_ 5 _ rfl; (with_reducible repeat (first | refine blk_drewN ?_ _ | refine blk_drew ?_ | refine blk_alloc ?_ _)); refine blk_put (cs := #[.int .i64 0, .int .i64 0, .string (⟨#[]⟩ : ByteArray), .string (⟨#[]⟩ : ByteArray), .int .i64 0, .bool false]) ?_ 4 _ rfl; (with_reducible repeat (first | refine blk_drewN ?_ _ | refine blk_drew ?_ | refine blk_alloc ?_ _)); refine blk_put (cs := #[.int .i64 0, .int .i64 0, .string (⟨#[]⟩ : ByteArray), .string (⟨#[]⟩ : ByteArray), .int .i64 0, .bool false]) ?_ 3 _ rfl; (with_reducible repeat (first | refine blk_drewN ?_ _ | refine blk_drew ?_ | refine blk_alloc ?_ _)); refine blk_put (cs := #[.int .i64 0, .int .i64 0, .string (⟨#[]⟩ : ByteArray), .string (⟨#[]⟩ : ByteArray), .int .i64 0, .bool false]) ?_ 2 _ rfl; (with_reducible repeat (first | refine blk_drewN ?_ _ | refine blk_drew ?_ | refine blk_alloc ?_ _)); refine blk_put (cs := #[.int .i64 0, .int .i64 0, .string (⟨#[]⟩ : ByteArray), .string (⟨#[]⟩ : ByteArray), .int .i64 0, .bool false]) ?_ 1 _ rfl; (with_reducible repeat (first | refine blk_drewN ?_ _ | refine blk_drew ?_ | refine blk_alloc ?_ _)); refine blk_put (cs := #[.int .i64 0, .int .i64 0, .string (⟨#[]⟩ : ByteArray), .string (⟨#[]⟩ : ByteArray), .int .i64 0, .bool false]) ?_ 0 _ rfl; (with_reducible repeat (first | refine blk_drewN ?_ _ | refine blk_drew ?_ | refine blk_alloc ?_ _)); exact BK257.out⟩, ⟨bo⟩⟩
             ·rw [if_neg c45] at H
              have c45b0 : decide (7 < (wrap64 (bt (xt a0 6 ((wrap64 (6 + t252)) : Int).toNat) 16))) = false := decide_eq_false c45
              clear c45
              (first | rw [c45b0] | (simp only [i64_w, i32_w]; rw [c45b0]) | skip)
              have H' := Aside0.mk H
              clear H
              go_wp2
              go_meet
              case rel => exact ⟨_, (decide (t262 > (wrap64 (t252 - 19)))), ap, H', ⟨by have := HJ18.out; first | omega | exact Nat.le_refl _⟩, ⟨by (with_reducible repeat (first | refine blk_drewN ?_ _ | refine blk_drew ?_ | refine blk_alloc ?_ _)); refine blk_far ?_ NB250_257.out _; (with_reducible repeat (first | refine blk_drewN ?_ _ | refine blk_drew ?_ | refine blk_alloc ?_ _)); refine blk_far ?_ NB250_257.out _; (with_reducible repeat (first | refine blk_drewN ?_ _ | refine blk_drew ?_ | refine blk_alloc ?_ _)); refine blk_far ?_ NB250_257.out _; (with_reducible repeat (first | refine blk_drewN ?_ _ | refine blk_drew ?_ | refine blk_alloc ?_ _)); refine blk_far ?_ NB250_257.out _; (with_reducible repeat (first | refine blk_drewN ?_ _ | refine blk_drew ?_ | refine blk_alloc ?_ _)); refine blk_far ?_ NB250_257.out _; (with_reducible repeat (first | refine blk_drewN ?_ _ | refine blk_drew ?_ | refine blk_alloc ?_ _)); refine blk_far ?_ NB250_257.out _; (with_reducible repeat (first | refine blk_drewN ?_ _ | refine blk_drew ?_ | refine blk_alloc ?_ _)); refine blk_far ?_ NB250_257.out _; (with_reducible repeat (first | refine blk_drewN ?_ _ | refine blk_drew ?_ | refine blk_alloc ?_ _)); refine blk_far ?_ NB250_257.out _; (with_reducible repeat (first | refine blk_drewN ?_ _ | refine blk_drew ?_ | refine blk_alloc ?_ _)); exact BK250.out⟩, ⟨by (with_reducible repeat (first | refine blk_drewN ?_ _ | refine blk_drew ?_ | refine blk_alloc ?_ _)); refine blk_far ?_ NB251_257.out _; (with_reducible repeat (first | refine blk_drewN ?_ _ | refine blk_drew ?_ | refine blk_alloc ?_ _)); refine blk_far ?_ NB251_257.out _; (with_reducible repeat (first | refine blk_drewN ?_ _ | refine blk_drew ?_ | refine blk_alloc ?_ _)); refine blk_far ?_ NB251_257.out _; (with_reducible repeat (first | refine blk_drewN ?_ _ | refine blk_drew ?_ | refine blk_alloc ?_ _)); refine blk_far ?_ NB251_257.out _; (with_reducible repeat (first | refine blk_drewN ?_ _ | refine blk_drew ?_ | refine blk_alloc ?_ _)); refine blk_far ?_ NB251_257.out _; (with_reducible repeat (first | refine blk_drewN ?_ _ | refine blk_drew ?_ | refine blk_alloc ?_ _)); refine blk_far ?_ NB251_257.out _; (with_reducible repeat (first | refine blk_drewN ?_ _ | refine blk_drew ?_ | refine blk_alloc ?_ _)); refine blk_far ?_ NB251_257.out _; (with_reducible repeat (first | refine blk_drewN ?_ _ | refine blk_drew ?_ | refine blk_alloc ?_ _)); refine blk_far ?_ NB251_257.out _; (with_reducible repeat (first | refine blk_drewN ?_ _ | refine blk_drew ?_ | refine blk_alloc ?_ _)); exact BK251.out⟩, ⟨by (with_reducible repeat (first | refine blk_drewN ?_ _ | refine blk_drew ?_ | refine blk_alloc ?_ _)); refine blk_put (cs := #[.int .i64 t258, .int .i64 0, .string (⟨#[]⟩ : ByteArray), .string (⟨#[]⟩ : ByteArray), .int .i64 0, .bool false]) ?_ 1 _ rfl; (with_reducible repeat (first | refine blk_drewN ?_ _ | refine blk_drew ?_ | refine blk_alloc ?_ _)); refine blk_put (cs := #[.int .i64 0, .int .i64 0, .string (⟨#[]⟩ : ByteArray), .string (⟨#[]⟩ : ByteArray), .int .i64 0, .bool false]) ?_ 0 _ rfl; (with_reducible repeat (first | refine blk_drewN ?_ _ | refine blk_drew ?_ | refine blk_alloc ?_ _)); refine blk_put (cs := #[.int .i64 0, .int .i64 0, .string (⟨#[]⟩ : ByteArray), .string (⟨#[]⟩ : ByteArray), .int .i64 0, .bool false]) ?_ 5 _ rfl; (with_reducible repeat (first | refine blk_drewN ?_ _ | refine blk_drew ?_ | refine blk_alloc ?_ _)); refine blk_put (cs := #[.int .i64 0, .int .i64 0, .string (⟨#[]⟩ : ByteArray), .string (⟨#[]⟩ : ByteArray), .int .i64 0, .bool false]) ?_ 4 _ rfl; (with_reducible repeat (first | refine blk_drewN ?_ _ | refine blk_drew ?_ | refine blk_alloc ?_ _)); refine blk_put (cs := #[.int .i64 0, .int .i64 0, .string (⟨#[]⟩ : ByteArray), .string (⟨#[]⟩ : ByteArray), .int .i64 0, .bool false]) ?_ 3 _ rfl; (with_reducible repeat (first | refine blk_drewN ?_ _ | refine blk_drew ?_ | refine blk_alloc ?_ _)); refine blk_put (cs := #[.int .i64 0, .int .i64 0, .string (⟨#[]⟩ : ByteArray), .string (⟨#[]⟩ : ByteArray), .int .i64 0, .bool false]) ?_ 2 _ rfl; (with_reducible repeat (first | refine blk_drewN ?_ _ | refine blk_drew ?_ | refine blk_alloc ?_ _)); refine blk_put (cs := #[.int .i64 0, .int .i64 0, .string (⟨#[]⟩ : ByteArray), .string (⟨#[]⟩ : ByteArray), .int .i64 0, .bool false]) ?_ 1 _ rfl; (with_reducible repeat (first | refine blk_drewN ?_ _ | refine blk_drew ?_ | refine blk_alloc ?_ _)); refine blk_put (cs := #[.int .i64 0, .int .i64 0, .string (⟨#[]⟩ : ByteArray), .string (⟨#[]⟩ : ByteArray), .int .i64 0, .bool false]) ?_ 0 _ rfl; (with_reducible repeat (first | refine blk_drewN ?_ _ | refine blk_drew ?_ | refine blk_alloc ?_ _)); exact BK257.out⟩, ⟨bo⟩⟩
            case rest =>
             clear HC40
             try clear c1
             try clear c2
             try clear c2b0
             try clear c2b1
             try clear p2
             try clear c3
             try clear p3
             try clear q3
             try clear hx3
             try clear qi3
             try clear c4
             try clear c5
             try clear p6
             try clear c7
             try clear c9
             try clear c9b0
             try clear c12
             try clear c15
             try clear c15b0
             try clear c15b1
             try clear c17
             try clear c17b0
             try clear c17b1
             try clear c18
             try clear c18b0
             try clear c18b1
             try clear c22
             try clear c24
             try clear c24b0
             try clear c24b1
             try clear c25
             try clear c25b0
             try clear c26
             try clear c26b0
             try clear c26b1
             try clear c26b2
             try clear c28
             try clear c28b0
             try clear c28b1
             try clear c29
             try clear c30
             try clear c34
             try clear c34b0
             try clear c34b1
             try clear c36
             try clear c36b0
             try clear c36b1
             try clear p37
             try clear q37
             try clear hx37
             try clear qi37
             try clear c38
             try clear c38b0
             try clear c38b1
             try clear c42
             try clear c43
             try clear c45
             try clear c45b0
             try clear hcz13_0
             try clear hcz13_1
             try clear hcz13_2
             try clear hcz13_3
             try clear hcz13_4
             try clear hcz13_5
             try clear hcz14_0
             try clear hcz14_1
             try clear hcz14_2
             try clear hcz14_3
             try clear hcz14_4
             try clear hcz14_5
             try clear hcz23_0
             try clear hcz23_1
             try clear hcz23_2
             try clear hcz23_3
             try clear hcz23_4
             try clear hcz23_5
             try clear hcz31_0
             try clear hcz31_1
             try clear hcz31_2
             try clear hcz31_3
             try clear hcz31_4
             try clear hcz31_5
             try clear hcz32_0
             try clear hcz32_1
             try clear hcz32_2
             try clear hcz32_3
             try clear hcz32_4
             try clear hcz32_5
             try clear hcz44_0
             try clear hcz44_1
             try clear hcz44_2
             try clear hcz44_3
             try clear hcz44_4
             try clear hcz44_5
             try clear hcz6_0
             try clear hcz6_1
             try clear hcz6_2
             try clear hcz6_3
             try clear hcz6_4
             try clear hcz6_5
             try clear hcz7_0
             try clear hcz7_1
             try clear hcz7_2
             try clear hcz7_3
             try clear hcz7_4
             try clear hcz7_5
             try clear hfz13_0
             try clear hfz13_1
             try clear hfz13_2
             try clear hfz13_3
             try clear hfz13_4
             try clear hfz13_5
             try clear hfz14_0
             try clear hfz14_1
             try clear hfz14_2
             try clear hfz14_3
             try clear hfz14_4
             try clear hfz14_5
             try clear hfz23_0
             try clear hfz23_1
             try clear hfz23_2
             try clear hfz23_3
             try clear hfz23_4
             try clear hfz23_5
             try clear hfz31_0
             try clear hfz31_1
             try clear hfz31_2
             try clear hfz31_3
             try clear hfz31_4
             try clear hfz31_5
             try clear hfz32_0
             try clear hfz32_1
             try clear hfz32_2
             try clear hfz32_3
             try clear hfz32_4
             try clear hfz32_5
             try clear hfz44_0
             try clear hfz44_1
             try clear hfz44_2
             try clear hfz44_3
             try clear hfz44_4
             try clear hfz44_5
             try clear hfz6_0
             try clear hfz6_1
             try clear hfz6_2
             try clear hfz6_3
             try clear hfz6_4
             try clear hfz6_5
             try clear hfz7_0
             try clear hfz7_1
             try clear hfz7_2
             try clear hfz7_3
             try clear hfz7_4
             try clear hfz7_5
             try clear p2
             try clear p37
             try clear p6
             try clear q37
             obtain ⟨kq, x84_39, rfl, HA, HJ39, BK250, BK251, BK257, HB⟩ := hcut
             cases kq with
             | zero => exact absurd HA.out (by simp [fairwayref10_Take.j1])
             | succ kj39 =>
              have H := HA.out
              clear HA
              simp only [fairwayref10_Take.j1] at H
              by_cases c46 : x84_39 = true
              ·subst c46
               have H1 : (some (0, 0, (⟨#[]⟩ : ByteArray), (⟨#[]⟩ : ByteArray), 0, false, 0, 8)) = some (r1, r2, r3, r4, r5, r6, r7, r8) := by rw [if_pos rfl] at H; exact H
               clear H
               have H := H1
               clear H1
               simp only [Option.some.injEq, Prod.mk.injEq] at H
               obtain ⟨rfl, rfl, rfl, rfl, rfl, rfl, rfl, rfl⟩ := H
               have hnb47 := NB251_250.out
               have hnc47 := NB250_251.out
               have hnb48 := NB251_257.out
               have hnc48 := NB257_251.out
               have hcz49_0 : wc.cell? ⟨gb251, 0, none⟩ = some (.int .i64 0) := (blk_cell BK251.out 0).trans rfl
               have hcz49_1 : wc.cell? ⟨gb251, 1, none⟩ = some (.int .i64 0) := (blk_cell BK251.out 1).trans rfl
               have hcz49_2 : wc.cell? ⟨gb251, 2, none⟩ = some (.string (⟨#[]⟩ : ByteArray)) := (blk_cell BK251.out 2).trans rfl
               have hcz49_3 : wc.cell? ⟨gb251, 3, none⟩ = some (.string (⟨#[]⟩ : ByteArray)) := (blk_cell BK251.out 3).trans rfl
               have hcz49_4 : wc.cell? ⟨gb251, 4, none⟩ = some (.int .i64 0) := (blk_cell BK251.out 4).trans rfl
               have hcz49_5 : wc.cell? ⟨gb251, 5, none⟩ = some (.bool false) := (blk_cell BK251.out 5).trans rfl
               have hfz49_0 := blk_frozen BK251.out 0
               have hfz49_1 := blk_frozen BK251.out 1
               have hfz49_2 := blk_frozen BK251.out 2
               have hfz49_3 := blk_frozen BK251.out 3
               have hfz49_4 := blk_frozen BK251.out 4
               have hfz49_5 := blk_frozen BK251.out 5
               have hnb50 := NB250_257.out
               have hnc50 := NB257_250.out
               have hcz51_0 : wc.cell? ⟨gb250, 0, none⟩ = some (.int .i64 0) := (blk_cell BK250.out 0).trans rfl
               have hcz51_1 : wc.cell? ⟨gb250, 1, none⟩ = some (.int .i64 0) := (blk_cell BK250.out 1).trans rfl
               have hcz51_2 : wc.cell? ⟨gb250, 2, none⟩ = some (.string (⟨#[]⟩ : ByteArray)) := (blk_cell BK250.out 2).trans rfl
               have hcz51_3 : wc.cell? ⟨gb250, 3, none⟩ = some (.string (⟨#[]⟩ : ByteArray)) := (blk_cell BK250.out 3).trans rfl
               have hcz51_4 : wc.cell? ⟨gb250, 4, none⟩ = some (.int .i64 0) := (blk_cell BK250.out 4).trans rfl
               have hcz51_5 : wc.cell? ⟨gb250, 5, none⟩ = some (.bool false) := (blk_cell BK250.out 5).trans rfl
               have hfz51_0 := blk_frozen BK250.out 0
               have hfz51_1 := blk_frozen BK250.out 1
               have hfz51_2 := blk_frozen BK250.out 2
               have hfz51_3 := blk_frozen BK250.out 3
               have hfz51_4 := blk_frozen BK250.out 4
               have hfz51_5 := blk_frozen BK250.out 5
               go_wp2
               refine bodyPost_ret (results_ctt rfl _ _ gb250 25 #[.int .i64 0, .int .i64 0, .string (⟨#[]⟩ : ByteArray), .string (⟨#[]⟩ : ByteArray), .int .i64 0, .bool false] (0, 0) _ rfl (by (with_reducible repeat (first | refine blk_drewN ?_ _ | refine blk_drew ?_ | refine blk_alloc ?_ _)); refine blk_put (cs := #[.int .i64 0, .int .i64 0, .string (⟨#[]⟩ : ByteArray), .string (⟨#[]⟩ : ByteArray), .int .i64 0, .bool false]) ?_ 5 _ rfl; (with_reducible repeat (first | refine blk_drewN ?_ _ | refine blk_drew ?_ | refine blk_alloc ?_ _)); refine blk_put (cs := #[.int .i64 0, .int .i64 0, .string (⟨#[]⟩ : ByteArray), .string (⟨#[]⟩ : ByteArray), .int .i64 0, .bool false]) ?_ 4 _ rfl; (with_reducible repeat (first | refine blk_drewN ?_ _ | refine blk_drew ?_ | refine blk_alloc ?_ _)); refine blk_put (cs := #[.int .i64 0, .int .i64 0, .string (⟨#[]⟩ : ByteArray), .string (⟨#[]⟩ : ByteArray), .int .i64 0, .bool false]) ?_ 3 _ rfl; (with_reducible repeat (first | refine blk_drewN ?_ _ | refine blk_drew ?_ | refine blk_alloc ?_ _)); refine blk_put (cs := #[.int .i64 0, .int .i64 0, .string (⟨#[]⟩ : ByteArray), .string (⟨#[]⟩ : ByteArray), .int .i64 0, .bool false]) ?_ 2 _ rfl; (with_reducible repeat (first | refine blk_drewN ?_ _ | refine blk_drew ?_ | refine blk_alloc ?_ _)); refine blk_put (cs := #[.int .i64 0, .int .i64 0, .string (⟨#[]⟩ : ByteArray), .string (⟨#[]⟩ : ByteArray), .int .i64 0, .bool false]) ?_ 1 _ rfl; (with_reducible repeat (first | refine blk_drewN ?_ _ | refine blk_drew ?_ | refine blk_alloc ?_ _)); refine blk_put (cs := #[.int .i64 0, .int .i64 0, .string (⟨#[]⟩ : ByteArray), .string (⟨#[]⟩ : ByteArray), .int .i64 0, .bool false]) ?_ 0 _ rfl; (with_reducible repeat (first | refine blk_drewN ?_ _ | refine blk_drew ?_ | refine blk_alloc ?_ _)); exact BK250.out) Try.underlying25 rfl (by kernel_rfl)) rfl ?_
               exact ⟨er, bo⟩
              ·replace c46 := Bool.eq_false_iff.mpr c46
               subst c46
               have H1 : (if 19 ≤ (wrap64 (19 + t262)) then (if (wrap64 (19 + t262)) ≤ ((xt a0 6 ((wrap64 (6 + t252)) : Int).toNat).size : Int) then (if 0 ≤ (wrap64 (19 + t262)) then ((fairwayref10_Rec.f t258 t260 (xt (xt a0 6 ((wrap64 (6 + t252)) : Int).toNat) 19 ((wrap64 (19 + t262)) : Int).toNat) (xt (xt a0 6 ((wrap64 (6 + t252)) : Int).toNat) ((wrap64 (19 + t262)) : Int).toNat (xt a0 6 ((wrap64 (6 + t252)) : Int).toNat).size) (Int.tmod (wrap64 (bt (xt a0 6 ((wrap64 (6 + t252)) : Int).toNat) 16)) 4) (decide ((wrap64 (bt (xt a0 6 ((wrap64 (6 + t252)) : Int).toNat) 16)) ≥ 4))).bind fun t264 => (if t264 = true then (some (t258, t260, xt (xt a0 6 ((wrap64 (6 + t252)) : Int).toNat) 19 ((wrap64 (19 + t262)) : Int).toNat, xt (xt a0 6 ((wrap64 (6 + t252)) : Int).toNat) ((wrap64 (19 + t262)) : Int).toNat (xt a0 6 ((wrap64 (6 + t252)) : Int).toNat).size, Int.tmod (wrap64 (bt (xt a0 6 ((wrap64 (6 + t252)) : Int).toNat) 16)) 4, decide ((wrap64 (bt (xt a0 6 ((wrap64 (6 + t252)) : Int).toNat) 16)) ≥ 4), wrap64 (6 + t252), 0)) else (some (0, 0, (⟨#[]⟩ : ByteArray), (⟨#[]⟩ : ByteArray), 0, false, 0, 8)))) else (none)) else (none)) else (none)) = some (r1, r2, r3, r4, r5, r6, r7, r8) := by rw [if_neg (show ¬ (false = true) by decide)] at H; exact H
               clear H
               have H := H1
               clear H1
               by_cases c52 : 19 ≤ (wrap64 (19 + t262))
               ·rw [if_pos c52] at H
                have c52b0 := eq_true c52
                have c52b1 : decide (19 ≤ (wrap64 (19 + t262))) = true := decide_eq_true c52
                by_cases c53 : (wrap64 (19 + t262)) ≤ ((xt a0 6 ((wrap64 (6 + t252)) : Int).toNat).size : Int)
                ·rw [if_pos c53] at H
                 have c53b0 := eq_true c53
                 have c53b1 : decide ((wrap64 (19 + t262)) ≤ ((xt a0 6 ((wrap64 (6 + t252)) : Int).toNat).size : Int)) = true := decide_eq_true c53
                 obtain ⟨ji54, hji54⟩ : ∃ j_ : Int, (wrap64 (19 + t262)) = j_ := ⟨_, rfl⟩
                 replace H : (if 0 ≤ (ji54) then ((fairwayref10_Rec.f t258 t260 (xt (xt a0 6 ((wrap64 (6 + t252)) : Int).toNat) 19 ((ji54) : Int).toNat) (xt (xt a0 6 ((wrap64 (6 + t252)) : Int).toNat) ((ji54) : Int).toNat (xt a0 6 ((wrap64 (6 + t252)) : Int).toNat).size) (Int.tmod (wrap64 (bt (xt a0 6 ((wrap64 (6 + t252)) : Int).toNat) 16)) 4) (decide ((wrap64 (bt (xt a0 6 ((wrap64 (6 + t252)) : Int).toNat) 16)) ≥ 4))).bind fun t264 => (if t264 = true then (some (t258, t260, xt (xt a0 6 ((wrap64 (6 + t252)) : Int).toNat) 19 ((ji54) : Int).toNat, xt (xt a0 6 ((wrap64 (6 + t252)) : Int).toNat) ((ji54) : Int).toNat (xt a0 6 ((wrap64 (6 + t252)) : Int).toNat).size, Int.tmod (wrap64 (bt (xt a0 6 ((wrap64 (6 + t252)) : Int).toNat) 16)) 4, decide ((wrap64 (bt (xt a0 6 ((wrap64 (6 + t252)) : Int).toNat) 16)) ≥ 4), wrap64 (6 + t252), 0)) else (some (0, 0, (⟨#[]⟩ : ByteArray), (⟨#[]⟩ : ByteArray), 0, false, 0, 8)))) else (none)) = some (r1, r2, r3, r4, r5, r6, r7, r8) := by first | (rw [hji54] at H; exact H) | (simp only [hji54] at H ⊢; exact H)
                 (try rw [hji54] at c52b0)
                 (try rw [hji54] at c52b1)
                 (try rw [hji54] at c52)
                 (try rw [hji54] at c53b0)
                 (try rw [hji54] at c53b1)
                 (try rw [hji54] at c53)
                 have hji54w : (IntKind.i64.wrap (19 + t262)) = ji54 := (i64_w _).trans hji54
                 by_cases c55 : 0 ≤ (ji54)
                 ·rw [if_pos c55] at H
                  have c55b0 := eq_true c55
                  have c55b1 : decide (0 ≤ (ji54)) = true := decide_eq_true c55
                  clear c55
                  have c56b0 := eq_true (od : (ji54) ≤ ((xt a0 6 ((wrap64 (6 + t252)) : Int).toNat).size : Int))
                  replace H := Option.bind_eq_some_iff.mp H
                  obtain ⟨t264, A570, H⟩ := H
                  replace H : (if t264 = true then (some (t258, t260, xt (xt a0 6 ((wrap64 (6 + t252)) : Int).toNat) 19 ((ji54) : Int).toNat, xt (xt a0 6 ((wrap64 (6 + t252)) : Int).toNat) ((ji54) : Int).toNat (xt a0 6 ((wrap64 (6 + t252)) : Int).toNat).size, Int.tmod (wrap64 (bt (xt a0 6 ((wrap64 (6 + t252)) : Int).toNat) 16)) 4, decide ((wrap64 (bt (xt a0 6 ((wrap64 (6 + t252)) : Int).toNat) 16)) ≥ 4), wrap64 (6 + t252), 0)) else (some (0, 0, (⟨#[]⟩ : ByteArray), (⟨#[]⟩ : ByteArray), 0, false, 0, 8))) = some (r1, r2, r3, r4, r5, r6, r7, r8) := H
                  have A57 := Aside0.mk A570
                  clear A570
                  by_cases c58 : t264 = true
                  ·subst c58
                   have H1 : (some (t258, t260, xt (xt a0 6 ((wrap64 (6 + t252)) : Int).toNat) 19 ((ji54) : Int).toNat, xt (xt a0 6 ((wrap64 (6 + t252)) : Int).toNat) ((ji54) : Int).toNat (xt a0 6 ((wrap64 (6 + t252)) : Int).toNat).size, Int.tmod (wrap64 (bt (xt a0 6 ((wrap64 (6 + t252)) : Int).toNat) 16)) 4, decide ((wrap64 (bt (xt a0 6 ((wrap64 (6 + t252)) : Int).toNat) 16)) ≥ 4), wrap64 (6 + t252), 0)) = some (r1, r2, r3, r4, r5, r6, r7, r8) := by rw [if_pos rfl] at H; exact H
                   clear H
                   have H := H1
                   clear H1
                   simp only [Option.some.injEq, Prod.mk.injEq] at H
                   obtain ⟨rfl, rfl, rfl, rfl, rfl, rfl, rfl, rfl⟩ := H
                   have hnb59 := NB257_250.out
                   have hnc59 := NB250_257.out
                   have hnb60 := NB257_251.out
                   have hnc60 := NB251_257.out
                   have hcz61_0 : wc.cell? ⟨gb257, 0, none⟩ = some (.int .i64 t258) := (blk_cell BK257.out 0).trans rfl
                   have hcz61_1 : wc.cell? ⟨gb257, 1, none⟩ = some (.int .i64 t260) := (blk_cell BK257.out 1).trans rfl
                   have hcz61_2 : wc.cell? ⟨gb257, 2, none⟩ = some (.string (⟨#[]⟩ : ByteArray)) := (blk_cell BK257.out 2).trans rfl
                   have hcz61_3 : wc.cell? ⟨gb257, 3, none⟩ = some (.string (⟨#[]⟩ : ByteArray)) := (blk_cell BK257.out 3).trans rfl
                   have hcz61_4 : wc.cell? ⟨gb257, 4, none⟩ = some (.int .i64 0) := (blk_cell BK257.out 4).trans rfl
                   have hcz61_5 : wc.cell? ⟨gb257, 5, none⟩ = some (.bool false) := (blk_cell BK257.out 5).trans rfl
                   have hfz61_0 := blk_frozen BK257.out 0
                   have hfz61_1 := blk_frozen BK257.out 1
                   have hfz61_2 := blk_frozen BK257.out 2
                   have hfz61_3 := blk_frozen BK257.out 3
                   have hfz61_4 := blk_frozen BK257.out 4
                   have hfz61_5 := blk_frozen BK257.out 5
                   try go_wp2
                   (try (rw [drewN_self wc]; generalize hq_ : World.drewN wc _ = wc; have n0_ := Aside0.mk (blk_at hq_ BK250.out); have n1_ := Aside0.mk (blk_at hq_ BK251.out); have n2_ := Aside0.mk (blk_at hq_ BK257.out); have n3_ := Aside0.mk (below_at hq_ HB.out); clear hq_ BK250 BK251 BK257 HB; have BK250 := n0_; have BK251 := n1_; have BK257 := n2_; have HB := n3_; clear n0_ n1_ n2_ n3_))
                   have n0_ : Aside0 (((wc.setCell ⟨gb257, 4, none⟩ (.int .i64 (Int.tmod (wrap64 (bt (xt a0 6 ((wrap64 (6 + t252)) : Int).toNat) 16)) 4))).setCell ⟨gb257, 5, none⟩ (.bool (decide ((wrap64 (bt (xt a0 6 ((wrap64 (6 + t252)) : Int).toNat) 16)) ≥ 4)))).heap[gb250]? = some (.cells #[.int .i64 0, .int .i64 0, .string (⟨#[]⟩ : ByteArray), .string (⟨#[]⟩ : ByteArray), .int .i64 0, .bool false] 25 (0, 0))) := ⟨by (with_reducible repeat (first | refine blk_drewN ?_ _ | refine blk_drew ?_ | refine blk_alloc ?_ _)); refine blk_far ?_ NB250_257.out _; (with_reducible repeat (first | refine blk_drewN ?_ _ | refine blk_drew ?_ | refine blk_alloc ?_ _)); refine blk_far ?_ NB250_257.out _; (with_reducible repeat (first | refine blk_drewN ?_ _ | refine blk_drew ?_ | refine blk_alloc ?_ _)); exact BK250.out⟩
                   have n1_ : Aside0 (((wc.setCell ⟨gb257, 4, none⟩ (.int .i64 (Int.tmod (wrap64 (bt (xt a0 6 ((wrap64 (6 + t252)) : Int).toNat) 16)) 4))).setCell ⟨gb257, 5, none⟩ (.bool (decide ((wrap64 (bt (xt a0 6 ((wrap64 (6 + t252)) : Int).toNat) 16)) ≥ 4)))).heap[gb251]? = some (.cells #[.int .i64 0, .int .i64 0, .string (⟨#[]⟩ : ByteArray), .string (⟨#[]⟩ : ByteArray), .int .i64 0, .bool false] 25 (0, 0))) := ⟨by (with_reducible repeat (first | refine blk_drewN ?_ _ | refine blk_drew ?_ | refine blk_alloc ?_ _)); refine blk_far ?_ NB251_257.out _; (with_reducible repeat (first | refine blk_drewN ?_ _ | refine blk_drew ?_ | refine blk_alloc ?_ _)); refine blk_far ?_ NB251_257.out _; (with_reducible repeat (first | refine blk_drewN ?_ _ | refine blk_drew ?_ | refine blk_alloc ?_ _)); exact BK251.out⟩
                   have n2_ : Aside0 (((wc.setCell ⟨gb257, 4, none⟩ (.int .i64 (Int.tmod (wrap64 (bt (xt a0 6 ((wrap64 (6 + t252)) : Int).toNat) 16)) 4))).setCell ⟨gb257, 5, none⟩ (.bool (decide ((wrap64 (bt (xt a0 6 ((wrap64 (6 + t252)) : Int).toNat) 16)) ≥ 4)))).heap[gb257]? = some (.cells #[.int .i64 t258, .int .i64 t260, .string (⟨#[]⟩ : ByteArray), .string (⟨#[]⟩ : ByteArray), .int .i64 (Int.tmod (wrap64 (bt (xt a0 6 ((wrap64 (6 + t252)) : Int).toNat) 16)) 4), .bool (decide ((wrap64 (bt (xt a0 6 ((wrap64 (6 + t252)) : Int).toNat) 16)) ≥ 4))] 25 (0, 0))) := ⟨by (with_reducible repeat (first | refine blk_drewN ?_ _ | refine blk_drew ?_ | refine blk_alloc ?_ _)); refine blk_put (cs := #[.int .i64 t258, .int .i64 t260, .string (⟨#[]⟩ : ByteArray), .string (⟨#[]⟩ : ByteArray), .int .i64 (Int.tmod (wrap64 (bt (xt a0 6 ((wrap64 (6 + t252)) : Int).toNat) 16)) 4), .bool false]) ?_ 5 _ rfl; (with_reducible repeat (first | refine blk_drewN ?_ _ | refine blk_drew ?_ | refine blk_alloc ?_ _)); refine blk_put (cs := #[.int .i64 t258, .int .i64 t260, .string (⟨#[]⟩ : ByteArray), .string (⟨#[]⟩ : ByteArray), .int .i64 0, .bool false]) ?_ 4 _ rfl; (with_reducible repeat (first | refine blk_drewN ?_ _ | refine blk_drew ?_ | refine blk_alloc ?_ _)); exact BK257.out⟩
                   have n3_ : Aside0 (Below w.heap.size w ((wc.setCell ⟨gb257, 4, none⟩ (.int .i64 (Int.tmod (wrap64 (bt (xt a0 6 ((wrap64 (6 + t252)) : Int).toNat) 16)) 4))).setCell ⟨gb257, 5, none⟩ (.bool (decide ((wrap64 (bt (xt a0 6 ((wrap64 (6 + t252)) : Int).toNat) 16)) ≥ 4))))) := ⟨bo⟩
                   (try clear BK250)
                   (try clear BK251)
                   (try clear BK257)
                   (try clear HB)
                   generalize ((wc.setCell ⟨gb257, 4, none⟩ (.int .i64 (Int.tmod (wrap64 (bt (xt a0 6 ((wrap64 (6 + t252)) : Int).toNat) 16)) 4))).setCell ⟨gb257, 5, none⟩ (.bool (decide ((wrap64 (bt (xt a0 6 ((wrap64 (6 + t252)) : Int).toNat) 16)) ≥ 4)))) = w62 at n0_ n1_ n2_ n3_ ⊢
                   have BK250 := n0_
                   have BK251 := n1_
                   have BK257 := n2_
                   have HB := n3_
                   clear n0_ n1_ n2_ n3_
                   replace BK250 := Aside0.mk (blk_drew BK250.out)
                   replace BK251 := Aside0.mk (blk_drew BK251.out)
                   replace BK257 := Aside0.mk (blk_drew BK257.out)
                   replace HB := Aside0.mk (below_drew1 HB.out)
                   refine start_ (n := 12) (S := fun w' => True) (ds := []) #[O,O,O,O,O,O,O,O,O,O,O,O] (by kernel_rfl) rfl rfl trivial (fun hHeld => ?_); refine with_tabW fairwayref10_Take.tab19 fairwayref10_Take.bits19 (fun HT_ HW_ => ?_)
                   generalize w62.drew = w63 at BK250 BK251 BK257 HB hHeld ⊢
                   refine pz (i := 0) (N := some 92) #[I,O,O,O,O,O,O,O,O,O,O,O] ?_
                   refine pz (i := 1) (N := some 93) #[I,I,O,O,O,O,O,O,O,O,O,O] ?_
                   refine pz (i := 2) (N := some 94) #[I,I,I,O,O,O,O,O,O,O,O,O] ?_
                   refine pz (i := 3) (N := some 95) #[I,I,I,I,O,O,O,O,O,O,O,O] ?_
                   refine pz (i := 4) (N := some 96) #[I,I,I,I,I,O,O,O,O,O,O,O] ?_
                   refine pz (i := 5) (N := some 97) #[I,I,I,I,I,I,O,O,O,O,O,O] ?_
                   refine pz (i := 6) (N := some 98) #[I,I,I,I,I,I,I,O,O,O,O,O] ?_
                   refine pz (i := 7) (N := some 99) #[I,I,I,I,I,I,I,I,O,O,O,O] ?_
                   refine pz (i := 8) (N := some 100) #[I,I,I,I,I,I,I,I,I,O,O,O] ?_
                   refine one_ (i := 9) (N := none) #[I,I,I,I,I,I,I,I,I,I,O,O] rfl rfl (one_of HT_.out (by kernel_rfl)) (by decide) (fun K hK => ?_)
                   have hs64 : w63.cell? ⟨gb257, 2, none⟩ = some (.string (⟨#[]⟩ : ByteArray)) := (blk_cell BK257.out 2).trans rfl
                   have hfs64 := blk_frozen BK257.out 2
                   have hns64_0 := NB250_257.out
                   have hns64_1 := NB251_257.out
                   have hms64_0 := NB257_250.out
                   have hms64_1 := NB257_251.out
                   refine skip_ (w1 := ?_) (by rfl) rfl ?_ ?_
                   rotate_left
                   ·go_simp
                    rfl
                   refine hK.out _ _ trivial (fun hHeld => ?_)
                   clear hK K
                   refine pz (i := 10) (N := some 101) #[I,I,I,I,I,I,I,I,I,I,I,O] ?_
                   refine one_ (i := 11) (N := none) #[I,I,I,I,I,I,I,I,I,I,I,I] rfl rfl (one_of HT_.out (by kernel_rfl)) (by decide) (fun K hK => ?_)
                   have hs65 : w63.cell? ⟨gb257, 3, none⟩ = some (.string (⟨#[]⟩ : ByteArray)) := (blk_cell BK257.out 3).trans rfl
                   have hfs65 := blk_frozen BK257.out 3
                   have hns65_0 := NB250_257.out
                   have hns65_1 := NB251_257.out
                   have hms65_0 := NB257_250.out
                   have hms65_1 := NB257_251.out
                   refine skip_ (w1 := ?_) (by rfl) rfl ?_ ?_
                   rotate_left
                   ·go_simp
                    rfl
                   refine hK.out _ _ trivial (fun hHeld => ?_)
                   clear hK K
                   refine done_ (done_of HT_.out (by kernel_rfl)) ?_
                   have hcz66_0 : w63.cell? ⟨gb257, 0, none⟩ = some (.int .i64 t258) := (blk_cell BK257.out 0).trans rfl
                   have hcz66_1 : w63.cell? ⟨gb257, 1, none⟩ = some (.int .i64 t260) := (blk_cell BK257.out 1).trans rfl
                   have hcz66_2 : w63.cell? ⟨gb257, 2, none⟩ = some (.string (⟨#[]⟩ : ByteArray)) := (blk_cell BK257.out 2).trans rfl
                   have hcz66_3 : w63.cell? ⟨gb257, 3, none⟩ = some (.string (⟨#[]⟩ : ByteArray)) := (blk_cell BK257.out 3).trans rfl
                   have hcz66_4 : w63.cell? ⟨gb257, 4, none⟩ = some (.int .i64 (Int.tmod (wrap64 (bt (xt a0 6 ((wrap64 (6 + t252)) : Int).toNat) 16)) 4)) := (blk_cell BK257.out 4).trans rfl
                   have hcz66_5 : w63.cell? ⟨gb257, 5, none⟩ = some (.bool (decide ((wrap64 (bt (xt a0 6 ((wrap64 (6 + t252)) : Int).toNat) 16)) ≥ 4))) := (blk_cell BK257.out 5).trans rfl
                   have hfz66_0 := blk_frozen BK257.out 0
                   have hfz66_1 := blk_frozen BK257.out 1
                   have hfz66_2 := blk_frozen BK257.out 2
                   have hfz66_3 := blk_frozen BK257.out 3
                   have hfz66_4 := blk_frozen BK257.out 4
                   have hfz66_5 := blk_frozen BK257.out 5
                   try go_wp2_with (first | ((with_reducible refine gate_callee (f := 17) rfl ?_); refine goesL_ (some 103) rfl rfl Try.func17 (by kernel_rfl) rfl #[.agg #[.int .i64 t258, .int .i64 t260, .string (xt (xt a0 6 ((wrap64 (6 + t252)) : Int).toNat) 19 ((ji54) : Int).toNat), .string (xt (xt a0 6 ((wrap64 (6 + t252)) : Int).toNat) ((ji54) : Int).toNat (xt a0 6 ((wrap64 (6 + t252)) : Int).toNat).size), .int .i64 (Int.tmod (wrap64 (bt (xt a0 6 ((wrap64 (6 + t252)) : Int).toNat) 16)) 4), .bool (decide ((wrap64 (bt (xt a0 6 ((wrap64 (6 + t252)) : Int).toNat) 16)) ≥ 4))]] rfl (by (try simp only [List.map_toArray, List.map_cons, List.map_nil]); first | done | (simp only [hji54]; rfl) | rfl | (simp only [List.length_drop, List.length_take]; rfl) | (simp only [ByteArray.size_append]; rfl) | (simp; done)) ?_; (with_reducible refine (fairwayref10_Rec.calls t258 t260 (xt (xt a0 6 ((wrap64 (6 + t252)) : Int).toNat) 19 ((ji54) : Int).toNat) (xt (xt a0 6 ((wrap64 (6 + t252)) : Int).toNat) ((ji54) : Int).toNat (xt a0 6 ((wrap64 (6 + t252)) : Int).toNat).size) (Int.tmod (wrap64 (bt (xt a0 6 ((wrap64 (6 + t252)) : Int).toNat) 16)) 4) (decide ((wrap64 (bt (xt a0 6 ((wrap64 (6 + t252)) : Int).toNat) 16)) ≥ 4)) true _ A57.out).mono ?_); rintro e w67 ⟨rfl, hb⟩; refine ⟨_, rfl, ?_⟩; replace BK250 := Aside0.mk (blk_below (g := gb250) (o := .cells #[.int .i64 0, .int .i64 0, .string (⟨#[]⟩ : ByteArray), .string (⟨#[]⟩ : ByteArray), .int .i64 0, .bool false] 25 (0, 0)) (bf BK250.out) hb); replace BK251 := Aside0.mk (blk_below (g := gb251) (o := .cells #[.int .i64 0, .int .i64 0, .string (⟨#[]⟩ : ByteArray), .string (⟨#[]⟩ : ByteArray), .int .i64 0, .bool false] 25 (0, 0)) (bf BK251.out) hb); replace BK257 := Aside0.mk (blk_below (g := gb257) (o := .cells #[.int .i64 t258, .int .i64 t260, .string (xt (xt a0 6 ((wrap64 (6 + t252)) : Int).toNat) 19 ((ji54) : Int).toNat), .string (xt (xt a0 6 ((wrap64 (6 + t252)) : Int).toNat) ((ji54) : Int).toNat (xt a0 6 ((wrap64 (6 + t252)) : Int).toNat).size), .int .i64 (Int.tmod (wrap64 (bt (xt a0 6 ((wrap64 (6 + t252)) : Int).toNat) 16)) 4), .bool (decide ((wrap64 (bt (xt a0 6 ((wrap64 (6 + t252)) : Int).toNat) 16)) ≥ 4))] 25 (0, 0)) (by (with_reducible repeat (first | refine blk_drewN ?_ _ | refine blk_drew ?_ | refine blk_alloc ?_ _)); refine blk_put (cs := #[.int .i64 t258, .int .i64 t260, .string (xt (xt a0 6 ((wrap64 (6 + t252)) : Int).toNat) 19 ((ji54) : Int).toNat), .string (⟨#[]⟩ : ByteArray), .int .i64 (Int.tmod (wrap64 (bt (xt a0 6 ((wrap64 (6 + t252)) : Int).toNat) 16)) 4), .bool (decide ((wrap64 (bt (xt a0 6 ((wrap64 (6 + t252)) : Int).toNat) 16)) ≥ 4))]) ?_ 3 _ rfl; (with_reducible repeat (first | refine blk_drewN ?_ _ | refine blk_drew ?_ | refine blk_alloc ?_ _)); refine blk_put (cs := #[.int .i64 t258, .int .i64 t260, .string (⟨#[]⟩ : ByteArray), .string (⟨#[]⟩ : ByteArray), .int .i64 (Int.tmod (wrap64 (bt (xt a0 6 ((wrap64 (6 + t252)) : Int).toNat) 16)) 4), .bool (decide ((wrap64 (bt (xt a0 6 ((wrap64 (6 + t252)) : Int).toNat) 16)) ≥ 4))]) ?_ 2 _ rfl; (with_reducible repeat (first | refine blk_drewN ?_ _ | refine blk_drew ?_ | refine blk_alloc ?_ _)); exact BK257.out) hb); replace HB := Aside0.mk (below_step bo hb); (try clear hb); (try clear hb2); (try clear hk); (try clear hi); obtain ⟨hcz68_0, hcz68_1, hcz68_2, hcz68_3, hcz68_4, hcz68_5⟩ := cl6 BK257.out; obtain ⟨hfz68_0, hfz68_1, hfz68_2, hfz68_3, hfz68_4, hfz68_5⟩ := fz6 BK257.out; have hnb69 := NB250_251.out; have hnc69 := NB251_250.out; obtain ⟨hcz70_0, hcz70_1, hcz70_2, hcz70_3, hcz70_4, hcz70_5⟩ := cl6 BK250.out; obtain ⟨hfz70_0, hfz70_1, hfz70_2, hfz70_3, hfz70_4, hfz70_5⟩ := fz6 BK250.out))
                   refine bodyPost_ret (results_ctt rfl _ _ gb250 25 #[.int .i64 t258, .int .i64 t260, .string (xt (xt a0 6 ((wrap64 (6 + t252)) : Int).toNat) 19 ((ji54) : Int).toNat), .string (xt (xt a0 6 ((wrap64 (6 + t252)) : Int).toNat) ((ji54) : Int).toNat (xt a0 6 ((wrap64 (6 + t252)) : Int).toNat).size), .int .i64 (Int.tmod (wrap64 (bt (xt a0 6 ((wrap64 (6 + t252)) : Int).toNat) 16)) 4), .bool (decide ((wrap64 (bt (xt a0 6 ((wrap64 (6 + t252)) : Int).toNat) 16)) ≥ 4))] (0, 0) _ rfl (by (with_reducible repeat (first | refine blk_drewN ?_ _ | refine blk_drew ?_ | refine blk_alloc ?_ _)); refine blk_put (cs := #[.int .i64 t258, .int .i64 t260, .string (xt (xt a0 6 ((wrap64 (6 + t252)) : Int).toNat) 19 ((ji54) : Int).toNat), .string (xt (xt a0 6 ((wrap64 (6 + t252)) : Int).toNat) ((ji54) : Int).toNat (xt a0 6 ((wrap64 (6 + t252)) : Int).toNat).size), .int .i64 (Int.tmod (wrap64 (bt (xt a0 6 ((wrap64 (6 + t252)) : Int).toNat) 16)) 4), .bool false]) ?_ 5 _ rfl; (with_reducible repeat (first | refine blk_drewN ?_ _ | refine blk_drew ?_ | refine blk_alloc ?_ _)); refine blk_put (cs := #[.int .i64 t258, .int .i64 t260, .string (xt (xt a0 6 ((wrap64 (6 + t252)) : Int).toNat) 19 ((ji54) : Int).toNat), .string (xt (xt a0 6 ((wrap64 (6 + t252)) : Int).toNat) ((ji54) : Int).toNat (xt a0 6 ((wrap64 (6 + t252)) : Int).toNat).size), .int .i64 0, .bool false]) ?_ 4 _ rfl; (with_reducible repeat (first | refine blk_drewN ?_ _ | refine blk_drew ?_ | refine blk_alloc ?_ _)); refine blk_put (cs := #[.int .i64 t258, .int .i64 t260, .string (xt (xt a0 6 ((wrap64 (6 + t252)) : Int).toNat) 19 ((ji54) : Int).toNat), .string (⟨#[]⟩ : ByteArray), .int .i64 0, .bool false]) ?_ 3 _ rfl; (with_reducible repeat (first | refine blk_drewN ?_ _ | refine blk_drew ?_ | refine blk_alloc ?_ _)); refine blk_put (cs := #[.int .i64 t258, .int .i64 t260, .string (⟨#[]⟩ : ByteArray), .string (⟨#[]⟩ : ByteArray), .int .i64 0, .bool false]) ?_ 2 _ rfl; (with_reducible repeat (first | refine blk_drewN ?_ _ | refine blk_drew ?_ | refine blk_alloc ?_ _)); refine blk_put (cs := #[.int .i64 t258, .int .i64 0, .string (⟨#[]⟩ : ByteArray), .string (⟨#[]⟩ : ByteArray), .int .i64 0, .bool false]) ?_ 1 _ rfl; (with_reducible repeat (first | refine blk_drewN ?_ _ | refine blk_drew ?_ | refine blk_alloc ?_ _)); refine blk_put (cs := #[.int .i64 0, .int .i64 0, .string (⟨#[]⟩ : ByteArray), .string (⟨#[]⟩ : ByteArray), .int .i64 0, .bool false]) ?_ 0 _ rfl; (with_reducible repeat (first | refine blk_drewN ?_ _ | refine blk_drew ?_ | refine blk_alloc ?_ _)); exact BK250.out) Try.underlying25 rfl (by kernel_rfl)) rfl ?_
                   exact ⟨by first | rfl | (simp [errW_none, errW_some] <;> rfl) | (simp only [← hji54]; first | rfl | (simp [errW_none, errW_some] <;> rfl)) | (simp [*, errW_none, errW_some] <;> rfl), bo⟩
                  ·replace c58 := Bool.eq_false_iff.mpr c58
                   subst c58
                   have H1 : (some (0, 0, (⟨#[]⟩ : ByteArray), (⟨#[]⟩ : ByteArray), 0, false, 0, 8)) = some (r1, r2, r3, r4, r5, r6, r7, r8) := by rw [if_neg (show ¬ (false = true) by decide)] at H; exact H
                   clear H
                   have H := H1
                   clear H1
                   simp only [Option.some.injEq, Prod.mk.injEq] at H
                   obtain ⟨rfl, rfl, rfl, rfl, rfl, rfl, rfl, rfl⟩ := H
                   have hnb71 := NB257_250.out
                   have hnc71 := NB250_257.out
                   have hnb72 := NB257_251.out
                   have hnc72 := NB251_257.out
                   have hcz73_0 : wc.cell? ⟨gb257, 0, none⟩ = some (.int .i64 t258) := (blk_cell BK257.out 0).trans rfl
                   have hcz73_1 : wc.cell? ⟨gb257, 1, none⟩ = some (.int .i64 t260) := (blk_cell BK257.out 1).trans rfl
                   have hcz73_2 : wc.cell? ⟨gb257, 2, none⟩ = some (.string (⟨#[]⟩ : ByteArray)) := (blk_cell BK257.out 2).trans rfl
                   have hcz73_3 : wc.cell? ⟨gb257, 3, none⟩ = some (.string (⟨#[]⟩ : ByteArray)) := (blk_cell BK257.out 3).trans rfl
                   have hcz73_4 : wc.cell? ⟨gb257, 4, none⟩ = some (.int .i64 0) := (blk_cell BK257.out 4).trans rfl
                   have hcz73_5 : wc.cell? ⟨gb257, 5, none⟩ = some (.bool false) := (blk_cell BK257.out 5).trans rfl
                   have hfz73_0 := blk_frozen BK257.out 0
                   have hfz73_1 := blk_frozen BK257.out 1
                   have hfz73_2 := blk_frozen BK257.out 2
                   have hfz73_3 := blk_frozen BK257.out 3
                   have hfz73_4 := blk_frozen BK257.out 4
                   have hfz73_5 := blk_frozen BK257.out 5
                   try go_wp2
                   (try (rw [drewN_self wc]; generalize hq_ : World.drewN wc _ = wc; have n0_ := Aside0.mk (blk_at hq_ BK250.out); have n1_ := Aside0.mk (blk_at hq_ BK251.out); have n2_ := Aside0.mk (blk_at hq_ BK257.out); have n3_ := Aside0.mk (below_at hq_ HB.out); clear hq_ BK250 BK251 BK257 HB; have BK250 := n0_; have BK251 := n1_; have BK257 := n2_; have HB := n3_; clear n0_ n1_ n2_ n3_))
                   have n0_ : Aside0 (((wc.setCell ⟨gb257, 4, none⟩ (.int .i64 (Int.tmod (wrap64 (bt (xt a0 6 ((wrap64 (6 + t252)) : Int).toNat) 16)) 4))).setCell ⟨gb257, 5, none⟩ (.bool (decide ((wrap64 (bt (xt a0 6 ((wrap64 (6 + t252)) : Int).toNat) 16)) ≥ 4)))).heap[gb250]? = some (.cells #[.int .i64 0, .int .i64 0, .string (⟨#[]⟩ : ByteArray), .string (⟨#[]⟩ : ByteArray), .int .i64 0, .bool false] 25 (0, 0))) := ⟨by (with_reducible repeat (first | refine blk_drewN ?_ _ | refine blk_drew ?_ | refine blk_alloc ?_ _)); refine blk_far ?_ NB250_257.out _; (with_reducible repeat (first | refine blk_drewN ?_ _ | refine blk_drew ?_ | refine blk_alloc ?_ _)); refine blk_far ?_ NB250_257.out _; (with_reducible repeat (first | refine blk_drewN ?_ _ | refine blk_drew ?_ | refine blk_alloc ?_ _)); exact BK250.out⟩
                   have n1_ : Aside0 (((wc.setCell ⟨gb257, 4, none⟩ (.int .i64 (Int.tmod (wrap64 (bt (xt a0 6 ((wrap64 (6 + t252)) : Int).toNat) 16)) 4))).setCell ⟨gb257, 5, none⟩ (.bool (decide ((wrap64 (bt (xt a0 6 ((wrap64 (6 + t252)) : Int).toNat) 16)) ≥ 4)))).heap[gb251]? = some (.cells #[.int .i64 0, .int .i64 0, .string (⟨#[]⟩ : ByteArray), .string (⟨#[]⟩ : ByteArray), .int .i64 0, .bool false] 25 (0, 0))) := ⟨by (with_reducible repeat (first | refine blk_drewN ?_ _ | refine blk_drew ?_ | refine blk_alloc ?_ _)); refine blk_far ?_ NB251_257.out _; (with_reducible repeat (first | refine blk_drewN ?_ _ | refine blk_drew ?_ | refine blk_alloc ?_ _)); refine blk_far ?_ NB251_257.out _; (with_reducible repeat (first | refine blk_drewN ?_ _ | refine blk_drew ?_ | refine blk_alloc ?_ _)); exact BK251.out⟩
                   have n2_ : Aside0 (((wc.setCell ⟨gb257, 4, none⟩ (.int .i64 (Int.tmod (wrap64 (bt (xt a0 6 ((wrap64 (6 + t252)) : Int).toNat) 16)) 4))).setCell ⟨gb257, 5, none⟩ (.bool (decide ((wrap64 (bt (xt a0 6 ((wrap64 (6 + t252)) : Int).toNat) 16)) ≥ 4)))).heap[gb257]? = some (.cells #[.int .i64 t258, .int .i64 t260, .string (⟨#[]⟩ : ByteArray), .string (⟨#[]⟩ : ByteArray), .int .i64 (Int.tmod (wrap64 (bt (xt a0 6 ((wrap64 (6 + t252)) : Int).toNat) 16)) 4), .bool (decide ((wrap64 (bt (xt a0 6 ((wrap64 (6 + t252)) : Int).toNat) 16)) ≥ 4))] 25 (0, 0))) := ⟨by (with_reducible repeat (first | refine blk_drewN ?_ _ | refine blk_drew ?_ | refine blk_alloc ?_ _)); refine blk_put (cs := #[.int .i64 t258, .int .i64 t260, .string (⟨#[]⟩ : ByteArray), .string (⟨#[]⟩ : ByteArray), .int .i64 (Int.tmod (wrap64 (bt (xt a0 6 ((wrap64 (6 + t252)) : Int).toNat) 16)) 4), .bool false]) ?_ 5 _ rfl; (with_reducible repeat (first | refine blk_drewN ?_ _ | refine blk_drew ?_ | refine blk_alloc ?_ _)); refine blk_put (cs := #[.int .i64 t258, .int .i64 t260, .string (⟨#[]⟩ : ByteArray), .string (⟨#[]⟩ : ByteArray), .int .i64 0, .bool false]) ?_ 4 _ rfl; (with_reducible repeat (first | refine blk_drewN ?_ _ | refine blk_drew ?_ | refine blk_alloc ?_ _)); exact BK257.out⟩
                   have n3_ : Aside0 (Below w.heap.size w ((wc.setCell ⟨gb257, 4, none⟩ (.int .i64 (Int.tmod (wrap64 (bt (xt a0 6 ((wrap64 (6 + t252)) : Int).toNat) 16)) 4))).setCell ⟨gb257, 5, none⟩ (.bool (decide ((wrap64 (bt (xt a0 6 ((wrap64 (6 + t252)) : Int).toNat) 16)) ≥ 4))))) := ⟨bo⟩
                   (try clear BK250)
                   (try clear BK251)
                   (try clear BK257)
                   (try clear HB)
                   generalize ((wc.setCell ⟨gb257, 4, none⟩ (.int .i64 (Int.tmod (wrap64 (bt (xt a0 6 ((wrap64 (6 + t252)) : Int).toNat) 16)) 4))).setCell ⟨gb257, 5, none⟩ (.bool (decide ((wrap64 (bt (xt a0 6 ((wrap64 (6 + t252)) : Int).toNat) 16)) ≥ 4)))) = w74 at n0_ n1_ n2_ n3_ ⊢
                   have BK250 := n0_
                   have BK251 := n1_
                   have BK257 := n2_
                   have HB := n3_
                   clear n0_ n1_ n2_ n3_
                   replace BK250 := Aside0.mk (blk_drew BK250.out)
                   replace BK251 := Aside0.mk (blk_drew BK251.out)
                   replace BK257 := Aside0.mk (blk_drew BK257.out)
                   replace HB := Aside0.mk (below_drew1 HB.out)
                   refine start_ (n := 12) (S := fun w' => True) (ds := []) #[O,O,O,O,O,O,O,O,O,O,O,O] (by kernel_rfl) rfl rfl trivial (fun hHeld => ?_); refine with_tabW fairwayref10_Take.tab19 fairwayref10_Take.bits19 (fun HT_ HW_ => ?_)
                   generalize w74.drew = w75 at BK250 BK251 BK257 HB hHeld ⊢
                   refine pz (i := 0) (N := some 92) #[I,O,O,O,O,O,O,O,O,O,O,O] ?_
                   refine pz (i := 1) (N := some 93) #[I,I,O,O,O,O,O,O,O,O,O,O] ?_
                   refine pz (i := 2) (N := some 94) #[I,I,I,O,O,O,O,O,O,O,O,O] ?_
                   refine pz (i := 3) (N := some 95) #[I,I,I,I,O,O,O,O,O,O,O,O] ?_
                   refine pz (i := 4) (N := some 96) #[I,I,I,I,I,O,O,O,O,O,O,O] ?_
                   refine pz (i := 5) (N := some 97) #[I,I,I,I,I,I,O,O,O,O,O,O] ?_
                   refine pz (i := 6) (N := some 98) #[I,I,I,I,I,I,I,O,O,O,O,O] ?_
                   refine pz (i := 7) (N := some 99) #[I,I,I,I,I,I,I,I,O,O,O,O] ?_
                   refine pz (i := 8) (N := some 100) #[I,I,I,I,I,I,I,I,I,O,O,O] ?_
                   refine one_ (i := 9) (N := none) #[I,I,I,I,I,I,I,I,I,I,O,O] rfl rfl (one_of HT_.out (by kernel_rfl)) (by decide) (fun K hK => ?_)
                   have hs76 : w75.cell? ⟨gb257, 2, none⟩ = some (.string (⟨#[]⟩ : ByteArray)) := (blk_cell BK257.out 2).trans rfl
                   have hfs76 := blk_frozen BK257.out 2
                   have hns76_0 := NB250_257.out
                   have hns76_1 := NB251_257.out
                   have hms76_0 := NB257_250.out
                   have hms76_1 := NB257_251.out
                   refine skip_ (w1 := ?_) (by rfl) rfl ?_ ?_
                   rotate_left
                   ·go_simp
                    rfl
                   refine hK.out _ _ trivial (fun hHeld => ?_)
                   clear hK K
                   refine pz (i := 10) (N := some 101) #[I,I,I,I,I,I,I,I,I,I,I,O] ?_
                   refine one_ (i := 11) (N := none) #[I,I,I,I,I,I,I,I,I,I,I,I] rfl rfl (one_of HT_.out (by kernel_rfl)) (by decide) (fun K hK => ?_)
                   have hs77 : w75.cell? ⟨gb257, 3, none⟩ = some (.string (⟨#[]⟩ : ByteArray)) := (blk_cell BK257.out 3).trans rfl
                   have hfs77 := blk_frozen BK257.out 3
                   have hns77_0 := NB250_257.out
                   have hns77_1 := NB251_257.out
                   have hms77_0 := NB257_250.out
                   have hms77_1 := NB257_251.out
                   refine skip_ (w1 := ?_) (by rfl) rfl ?_ ?_
                   rotate_left
                   ·go_simp
                    rfl
                   refine hK.out _ _ trivial (fun hHeld => ?_)
                   clear hK K
                   refine done_ (done_of HT_.out (by kernel_rfl)) ?_
                   have hcz78_0 : w75.cell? ⟨gb257, 0, none⟩ = some (.int .i64 t258) := (blk_cell BK257.out 0).trans rfl
                   have hcz78_1 : w75.cell? ⟨gb257, 1, none⟩ = some (.int .i64 t260) := (blk_cell BK257.out 1).trans rfl
                   have hcz78_2 : w75.cell? ⟨gb257, 2, none⟩ = some (.string (⟨#[]⟩ : ByteArray)) := (blk_cell BK257.out 2).trans rfl
                   have hcz78_3 : w75.cell? ⟨gb257, 3, none⟩ = some (.string (⟨#[]⟩ : ByteArray)) := (blk_cell BK257.out 3).trans rfl
                   have hcz78_4 : w75.cell? ⟨gb257, 4, none⟩ = some (.int .i64 (Int.tmod (wrap64 (bt (xt a0 6 ((wrap64 (6 + t252)) : Int).toNat) 16)) 4)) := (blk_cell BK257.out 4).trans rfl
                   have hcz78_5 : w75.cell? ⟨gb257, 5, none⟩ = some (.bool (decide ((wrap64 (bt (xt a0 6 ((wrap64 (6 + t252)) : Int).toNat) 16)) ≥ 4))) := (blk_cell BK257.out 5).trans rfl
                   have hfz78_0 := blk_frozen BK257.out 0
                   have hfz78_1 := blk_frozen BK257.out 1
                   have hfz78_2 := blk_frozen BK257.out 2
                   have hfz78_3 := blk_frozen BK257.out 3
                   have hfz78_4 := blk_frozen BK257.out 4
                   have hfz78_5 := blk_frozen BK257.out 5
                   try go_wp2_with (first | ((with_reducible refine gate_callee (f := 17) rfl ?_); refine goesL_ (some 103) rfl rfl Try.func17 (by kernel_rfl) rfl #[.agg #[.int .i64 t258, .int .i64 t260, .string (xt (xt a0 6 ((wrap64 (6 + t252)) : Int).toNat) 19 ((ji54) : Int).toNat), .string (xt (xt a0 6 ((wrap64 (6 + t252)) : Int).toNat) ((ji54) : Int).toNat (xt a0 6 ((wrap64 (6 + t252)) : Int).toNat).size), .int .i64 (Int.tmod (wrap64 (bt (xt a0 6 ((wrap64 (6 + t252)) : Int).toNat) 16)) 4), .bool (decide ((wrap64 (bt (xt a0 6 ((wrap64 (6 + t252)) : Int).toNat) 16)) ≥ 4))]] rfl (by (try simp only [List.map_toArray, List.map_cons, List.map_nil]); first | done | (simp only [hji54]; rfl) | rfl | (simp only [List.length_drop, List.length_take]; rfl) | (simp only [ByteArray.size_append]; rfl) | (simp; done)) ?_; (with_reducible refine (fairwayref10_Rec.calls t258 t260 (xt (xt a0 6 ((wrap64 (6 + t252)) : Int).toNat) 19 ((ji54) : Int).toNat) (xt (xt a0 6 ((wrap64 (6 + t252)) : Int).toNat) ((ji54) : Int).toNat (xt a0 6 ((wrap64 (6 + t252)) : Int).toNat).size) (Int.tmod (wrap64 (bt (xt a0 6 ((wrap64 (6 + t252)) : Int).toNat) 16)) 4) (decide ((wrap64 (bt (xt a0 6 ((wrap64 (6 + t252)) : Int).toNat) 16)) ≥ 4)) false _ A57.out).mono ?_); rintro e w79 ⟨rfl, hb⟩; refine ⟨_, rfl, ?_⟩; replace BK250 := Aside0.mk (blk_below (g := gb250) (o := .cells #[.int .i64 0, .int .i64 0, .string (⟨#[]⟩ : ByteArray), .string (⟨#[]⟩ : ByteArray), .int .i64 0, .bool false] 25 (0, 0)) (bf BK250.out) hb); replace BK251 := Aside0.mk (blk_below (g := gb251) (o := .cells #[.int .i64 0, .int .i64 0, .string (⟨#[]⟩ : ByteArray), .string (⟨#[]⟩ : ByteArray), .int .i64 0, .bool false] 25 (0, 0)) (bf BK251.out) hb); replace BK257 := Aside0.mk (blk_below (g := gb257) (o := .cells #[.int .i64 t258, .int .i64 t260, .string (xt (xt a0 6 ((wrap64 (6 + t252)) : Int).toNat) 19 ((ji54) : Int).toNat), .string (xt (xt a0 6 ((wrap64 (6 + t252)) : Int).toNat) ((ji54) : Int).toNat (xt a0 6 ((wrap64 (6 + t252)) : Int).toNat).size), .int .i64 (Int.tmod (wrap64 (bt (xt a0 6 ((wrap64 (6 + t252)) : Int).toNat) 16)) 4), .bool (decide ((wrap64 (bt (xt a0 6 ((wrap64 (6 + t252)) : Int).toNat) 16)) ≥ 4))] 25 (0, 0)) (by (with_reducible repeat (first | refine blk_drewN ?_ _ | refine blk_drew ?_ | refine blk_alloc ?_ _)); refine blk_put (cs := #[.int .i64 t258, .int .i64 t260, .string (xt (xt a0 6 ((wrap64 (6 + t252)) : Int).toNat) 19 ((ji54) : Int).toNat), .string (⟨#[]⟩ : ByteArray), .int .i64 (Int.tmod (wrap64 (bt (xt a0 6 ((wrap64 (6 + t252)) : Int).toNat) 16)) 4), .bool (decide ((wrap64 (bt (xt a0 6 ((wrap64 (6 + t252)) : Int).toNat) 16)) ≥ 4))]) ?_ 3 _ rfl; (with_reducible repeat (first | refine blk_drewN ?_ _ | refine blk_drew ?_ | refine blk_alloc ?_ _)); refine blk_put (cs := #[.int .i64 t258, .int .i64 t260, .string (⟨#[]⟩ : ByteArray), .string (⟨#[]⟩ : ByteArray), .int .i64 (Int.tmod (wrap64 (bt (xt a0 6 ((wrap64 (6 + t252)) : Int).toNat) 16)) 4), .bool (decide ((wrap64 (bt (xt a0 6 ((wrap64 (6 + t252)) : Int).toNat) 16)) ≥ 4))]) ?_ 2 _ rfl; (with_reducible repeat (first | refine blk_drewN ?_ _ | refine blk_drew ?_ | refine blk_alloc ?_ _)); exact BK257.out) hb); replace HB := Aside0.mk (below_step bo hb); (try clear hb); (try clear hb2); (try clear hk); (try clear hi); have hnb80 := NB251_250.out; have hnc80 := NB250_251.out; obtain ⟨hcz81_0, hcz81_1, hcz81_2, hcz81_3, hcz81_4, hcz81_5⟩ := cl6 BK251.out; obtain ⟨hfz81_0, hfz81_1, hfz81_2, hfz81_3, hfz81_4, hfz81_5⟩ := fz6 BK251.out; obtain ⟨hcz82_0, hcz82_1, hcz82_2, hcz82_3, hcz82_4, hcz82_5⟩ := cl6 BK250.out; obtain ⟨hfz82_0, hfz82_1, hfz82_2, hfz82_3, hfz82_4, hfz82_5⟩ := fz6 BK250.out))
                   refine bodyPost_ret (results_ctt rfl _ _ gb250 25 #[.int .i64 0, .int .i64 0, .string (⟨#[]⟩ : ByteArray), .string (⟨#[]⟩ : ByteArray), .int .i64 0, .bool false] (0, 0) _ rfl (by (with_reducible repeat (first | refine blk_drewN ?_ _ | refine blk_drew ?_ | refine blk_alloc ?_ _)); refine blk_put (cs := #[.int .i64 0, .int .i64 0, .string (⟨#[]⟩ : ByteArray), .string (⟨#[]⟩ : ByteArray), .int .i64 0, .bool false]) ?_ 5 _ rfl; (with_reducible repeat (first | refine blk_drewN ?_ _ | refine blk_drew ?_ | refine blk_alloc ?_ _)); refine blk_put (cs := #[.int .i64 0, .int .i64 0, .string (⟨#[]⟩ : ByteArray), .string (⟨#[]⟩ : ByteArray), .int .i64 0, .bool false]) ?_ 4 _ rfl; (with_reducible repeat (first | refine blk_drewN ?_ _ | refine blk_drew ?_ | refine blk_alloc ?_ _)); refine blk_put (cs := #[.int .i64 0, .int .i64 0, .string (⟨#[]⟩ : ByteArray), .string (⟨#[]⟩ : ByteArray), .int .i64 0, .bool false]) ?_ 3 _ rfl; (with_reducible repeat (first | refine blk_drewN ?_ _ | refine blk_drew ?_ | refine blk_alloc ?_ _)); refine blk_put (cs := #[.int .i64 0, .int .i64 0, .string (⟨#[]⟩ : ByteArray), .string (⟨#[]⟩ : ByteArray), .int .i64 0, .bool false]) ?_ 2 _ rfl; (with_reducible repeat (first | refine blk_drewN ?_ _ | refine blk_drew ?_ | refine blk_alloc ?_ _)); refine blk_put (cs := #[.int .i64 0, .int .i64 0, .string (⟨#[]⟩ : ByteArray), .string (⟨#[]⟩ : ByteArray), .int .i64 0, .bool false]) ?_ 1 _ rfl; (with_reducible repeat (first | refine blk_drewN ?_ _ | refine blk_drew ?_ | refine blk_alloc ?_ _)); refine blk_put (cs := #[.int .i64 0, .int .i64 0, .string (⟨#[]⟩ : ByteArray), .string (⟨#[]⟩ : ByteArray), .int .i64 0, .bool false]) ?_ 0 _ rfl; (with_reducible repeat (first | refine blk_drewN ?_ _ | refine blk_drew ?_ | refine blk_alloc ?_ _)); exact BK250.out) Try.underlying25 rfl (by kernel_rfl)) rfl ?_
                   exact ⟨by first | rfl | (simp [errW_none, errW_some] <;> rfl) | (simp only [← hji54]; first | rfl | (simp [errW_none, errW_some] <;> rfl)) | (simp [*, errW_none, errW_some] <;> rfl), bo⟩
                 ·rw [if_neg c55] at H
                  exact absurd H (by simp)
                ·rw [if_neg c53] at H
                 exact absurd H (by simp)
               ·rw [if_neg c52] at H
                exact absurd H (by simp)
           ·rw [if_neg c38] at H
            exact absurd H (by simp)
          ·rw [if_neg c36] at H
           exact absurd H (by simp)
         ·rw [if_neg c34] at H
          exact absurd H (by simp)
     ·rw [if_neg c18] at H
      exact absurd H (by simp)
    ·rw [if_neg c17] at H
     exact absurd H (by simp)
   ·rw [if_neg c15] at H
    exact absurd H (by simp)

end Go.Proofs.Ytmabdfdmccbfnaa.P

-- written by a program of the proving session, out of the translation; Lean checks it
namespace Go.Proofs.Ytmabdfdmccbfnaa.P
open Go.RowKit Go.Proofs.Ytmabdfdmccbfnaa.Sq Go.Proofs.YtmabdfdmccbfnaaW.PrintWords Go.Proofs.YtmabdfdmccbfnaaW.PrintLast Go.Proofs.YtmabdfdmccbfnaaW.PrintMore
attribute [local go_sem] max2_int min2_int max_two min_two max_three min_three max_four min_four   -- for this text's walks alone
set_option linter.unusedVariables false
set_option linter.unusedSimpArgs false

/-! ### fairwayref10_Scan: function 26 -/
def fairwayref10_Scan.l0 : Nat → ByteArray → List (S25) → Int → Option ((List (S25)) × Int × Bool)
 | 0, _, _, _ => none
 | k + 1, x0, x5, x6 => if x6 < (x0.size : Int) then (if 0 ≤ x6 then (if x6 ≤ (x0.size : Int) then ((fairwayref10_Take.f k (x0.extract (x6 : Int).toNat x0.size)).bind fun bt277 => (if bt277.2.2.2.2.2.2.2 = 0 then (if x5.length < 2199023255552 then (fairwayref10_Scan.l0 k x0 (x5 ++ [(⟨bt277.1, bt277.2.1, bt277.2.2.1, bt277.2.2.2.1, bt277.2.2.2.2.1, bt277.2.2.2.2.2.1⟩ : S25)]) (wrap64 (x6 + bt277.2.2.2.2.2.2.1))) else (none)) else (some (x5, x6, false)))) else (none)) else (none)) else (some (x5, x6, true))
def fairwayref10_Scan.f (k : Nat) (a0 : ByteArray) : Option ((List (S25)) × Int × Bool) := fairwayref10_Scan.l0 k a0 ([] : List (S25)) 0
theorem fairwayref10_Scan.mono_l : ∀ k, (∀ y0 y1 y2, LeO (fairwayref10_Scan.l0 k y0 y1 y2) (fairwayref10_Scan.l0 (k + 1) y0 y1 y2))
 | 0 => fun _ _ _ r h => by simp [fairwayref10_Scan.l0] at h
 | k + 1 => by
  have ih0 := fairwayref10_Scan.mono_l k
  ·intro y0 y1 y2
   unfold fairwayref10_Scan.l0
   repeat' first
   | (with_reducible exact ih0 _ _ _)
   | (with_reducible exact fairwayref10_Take.mono _ _)
   | (with_reducible exact LeO.refl _)
   | (with_reducible exact LeO.none _)
   | (with_reducible refine LeO.ite ?_ ?_)
   | (with_reducible refine LeO.bind ?_ (fun _ => ?_))
   | exact ih0 _ _ _
   | exact fairwayref10_Take.mono _ _
   | exact LeO.none _
   | refine LeO.ite ?_ ?_
   | refine LeO.bind ?_ (fun _ => ?_)
theorem fairwayref10_Scan.mono : ∀ a0 k, LeO (fairwayref10_Scan.f k a0) (fairwayref10_Scan.f (k + 1) a0) := by
 intro a0 k
 have ih0 := fairwayref10_Scan.mono_l k
 unfold fairwayref10_Scan.f
 repeat' first
  | (with_reducible exact ih0 _ _ _)
  | (with_reducible exact fairwayref10_Take.mono _ _)
  | (with_reducible exact LeO.refl _)
  | (with_reducible exact LeO.none _)
  | (with_reducible refine LeO.ite ?_ ?_)
  | (with_reducible refine LeO.bind ?_ (fun _ => ?_))
  | exact ih0 _ _ _
  | exact fairwayref10_Take.mono _ _
  | exact LeO.none _
  | refine LeO.ite ?_ ?_
  | refine LeO.bind ?_ (fun _ => ?_)
set_option maxHeartbeats 8000000 in
set_option maxRecDepth 100000 in
theorem fairwayref10_Scan.calls (k : Nat) (a0 : ByteArray) (r1 : List (S25)) (r2 : Int) (r3 : Bool) (w : World) (h : fairwayref10_Scan.f k a0 = some (r1, r2, r3)) :
 Calls Try.prog 26 #[.string a0] w fun e w' => ∃ v0_ : Value, e = .returned (.tuple #[v0_, .int .i64 r2, .bool r3]) ∧ Kd.R k25 25 w' w.heap.size (fun _ => True) v0_ r1 ∧ Below w.heap.size w w' := by
 have hu25 := Try.underlying25
 have HB := Aside0.mk (Below.refl w.heap.size w)
 have H : (fairwayref10_Scan.l0 k a0 ([] : List (S25)) 0) = some (r1, r2, r3) := h
 clear h
 have H' := Aside0.mk H
 clear H
 go_enter Try.func26, Try.ntmps26
 go_wp2
 go_loopg [5, 6] k (fun kq v5 v6 w' => ∃ (x5_1 : List (S25)) (x6_1 : Int), v6 = .int .i64 x6_1 ∧ Aside0 (fairwayref10_Scan.l0 kq a0 x5_1 x6_1 = some (r1, r2, r3)) ∧ Aside0 (kq ≤ k) ∧ Aside0 (Kd.R k25 25 w' w.heap.size (fun _ => True) v5 x5_1) ∧ Aside0 (Below w.heap.size w w'))
 case atStart => exact ⟨(([] : List (S25))), (0), ap, H', ⟨Nat.le_refl _⟩, ⟨by first | exact Kd.R_nil _ _ _ _ _ | exact Kd.N_nil _ _ _ _ _ | exact Kd.V_nil _ _ _ _ _ | exact Kd.Q_nil _ _ _ _ _ | exact Kd.S_nil _ _ _ _ _⟩, ⟨bo⟩⟩
 case round =>
  clear H'
  obtain ⟨x5_1, x6_1, rfl, HA, HK1, HO_5, HB⟩ := hrel
  cases gk with
  | zero => exact absurd HA.out (by simp [fairwayref10_Scan.l0])
  | succ k1 =>
   have H := HA.out
   clear HA
   simp only [fairwayref10_Scan.l0] at H
   by_cases c2 : x6_1 < (a0.size : Int)
   ·rw [if_pos c2] at H
    have c2b0 : decide (x6_1 < (a0.size : Int)) = true := decide_eq_true c2
    clear c2
    by_cases c3 : 0 ≤ x6_1
    ·rw [if_pos c3] at H
     have c3b0 := eq_true c3
     have c3b1 : decide (0 ≤ x6_1) = true := decide_eq_true c3
     clear c3
     by_cases c4 : x6_1 ≤ (a0.size : Int)
     ·rw [if_pos c4] at H
      have c4b0 := eq_true c4
      have c4b1 : decide (x6_1 ≤ (a0.size : Int)) = true := decide_eq_true c4
      clear c4
      replace H := Option.bind_eq_some_iff.mp H
      obtain ⟨⟨t277, t278, t279, t280, t281, t282, t283, t284⟩, A50, H⟩ := H
      replace H : (if t284 = 0 then (if x5_1.length < 2199023255552 then (fairwayref10_Scan.l0 k1 a0 (x5_1 ++ [(⟨t277, t278, t279, t280, t281, t282⟩ : S25)]) (wrap64 (x6_1 + t283))) else (none)) else (some (x5_1, x6_1, false))) = some (r1, r2, r3) := H
      have A5 := Aside0.mk A50
      clear A50
      by_cases c6 : t284 = 0
      ·rw [if_pos c6] at H
       have c6b0 : (t284 == 0) = true := beq_iff_eq.mpr c6
       have c6b1 : (t284 != 0) = false := bne_eq_false_iff_eq.mpr c6
       clear c6
       by_cases c7 : x5_1.length < 2199023255552
       ·rw [if_pos c7] at H
        have LMc7 := Aside0.mk c7
        clear c7
        obtain ⟨y286, hy286⟩ : ∃ y_ : List (S25), y_ = (x5_1 ++ [(⟨t277, t278, t279, t280, t281, t282⟩ : S25)]) := ⟨_, rfl⟩
        replace H : (fairwayref10_Scan.l0 k1 a0 y286 (wrap64 (x6_1 + t283))) = some (r1, r2, r3) := by first | (rw [hy286]; with_reducible exact H) | (have H2_ := (Option.bind_some _ _).symm.trans H; rw [hy286]; with_reducible exact H2_) | (have H2_ := (Option.bind_some _ _).symm.trans H; with_reducible exact H2_) | with_reducible exact H | (rw [hy286]; exact H) | exact H
        have Ny286 := Aside0.mk hy286
        clear hy286
        have H' := Aside0.mk H
        clear H
        go_wp2_with (first | ((with_reducible refine gate_callee (f := 24) rfl ?_); refine goesL_ (some 18) rfl rfl Try.func24 (by kernel_rfl) rfl #[.string (a0.extract (x6_1 : Int).toNat a0.size)] rfl aa ?_; (with_reducible refine (fairwayref10_Take.calls k1 (a0.extract (x6_1 : Int).toNat a0.size) t277 t278 t279 t280 t281 t282 t283 t284 _ A5.out).mono ?_); rintro e w8 ⟨rfl, hb⟩; refine ⟨_, rfl, ?_⟩; replace HO_5 := Aside0.mk (Kd.R_below (rk HO_5.out) hb); replace HB := Aside0.mk (below_step bo hb); (try clear hb); (try clear hb2); (try clear hk); (try clear hi)) | ((with_reducible refine gate_dst (N := 7) rfl ?_); refine box_event ?hg (N := 7) ?hd (cs := #[.int .i64 0, .int .i64 0, .string (⟨#[]⟩ : ByteArray), .string (⟨#[]⟩ : ByteArray), .int .i64 0, .bool false]) (t := 25) ?hr ?_; (case hd => rfl); (case hg => rfl); (case hr => first | (go_simp; done) | (go_simp; rfl)); intro gb285 hg w9 hbox hb; replace HO_5 := Aside0.mk (Kd.R_below (Kd.R_elderB (rk HO_5.out) gb285 (Nat.le_of_eq hg.symm)) hb); have BK285 := Aside0.mk (hbox); have GW285 := Aside0.mk ((by rw [hg]; exact (below_size bo) : w.heap.size ≤ gb285)); have GE285 := Aside0.mk ((by rw [hg]; exact (below_size bo) : w.heap.size ≤ gb285)); replace HB := Aside0.mk (below_step bo hb); clear hb hbox hg; obtain ⟨hcz10_0, hcz10_1, hcz10_2, hcz10_3, hcz10_4, hcz10_5⟩ := cl6 BK285.out; obtain ⟨hfz10_0, hfz10_1, hfz10_2, hfz10_3, hfz10_4, hfz10_5⟩ := fz6 BK285.out) | ((with_reducible refine gate_builtin (b := .append) (xs := #[.tmp 26, .tmp 28]) rfl ?_); at_builtin; refine Kd.R_append k25 (w0 := w) w.heap.size rfl (.tmp 26) (.tmp 28) 36 25 (.agg #[(.int .i64 0), (.int .i64 0), (.string ⟨#[]⟩), (.string ⟨#[]⟩), (.int .i64 0), (.bool false)]) 64 rfl Try.underlying36 info25 rfl (by decide) (by omega) u5 x5_1 (⟨t277, t278, t279, t280, t281, t282⟩ : S25) [.int .i64 t277, .int .i64 t278, .string t279, .string t280, .int .i64 t281, .bool t282] (fun k_ => k_ ≠ gb285) (fun _ => False) rfl (by first | (go_simp; done) | (go_simp; rfl)) ?aP (fun _ hk => hk.elim) ?aF ?aO ?aB ?aS ?aL ?_; (case aP => exact k25_mkM _ _ _ (⟨t277, t278, t279, t280, t281, t282⟩ : S25)); (case aB => exact bo); (case aF => exact (fun k_ hk => Kd.freshB (g := gb285) (o := .cells #[.int .i64 t277, .int .i64 t278, .string t279, .string t280, .int .i64 t281, .bool t282] 25 (0, 0)) (by (with_reducible repeat (first | refine blk_drewN ?_ _ | refine blk_drew ?_ | refine blk_alloc ?_ _)); refine blk_put (cs := #[.int .i64 t277, .int .i64 t278, .string t279, .string t280, .int .i64 t281, .bool false]) ?_ 5 _ rfl; (with_reducible repeat (first | refine blk_drewN ?_ _ | refine blk_drew ?_ | refine blk_alloc ?_ _)); refine blk_put (cs := #[.int .i64 t277, .int .i64 t278, .string t279, .string t280, .int .i64 0, .bool false]) ?_ 4 _ rfl; (with_reducible repeat (first | refine blk_drewN ?_ _ | refine blk_drew ?_ | refine blk_alloc ?_ _)); refine blk_put (cs := #[.int .i64 t277, .int .i64 t278, .string t279, .string (⟨#[]⟩ : ByteArray), .int .i64 0, .bool false]) ?_ 3 _ rfl; (with_reducible repeat (first | refine blk_drewN ?_ _ | refine blk_drew ?_ | refine blk_alloc ?_ _)); refine blk_put (cs := #[.int .i64 t277, .int .i64 t278, .string (⟨#[]⟩ : ByteArray), .string (⟨#[]⟩ : ByteArray), .int .i64 0, .bool false]) ?_ 2 _ rfl; (with_reducible repeat (first | refine blk_drewN ?_ _ | refine blk_drew ?_ | refine blk_alloc ?_ _)); refine blk_put (cs := #[.int .i64 t277, .int .i64 0, .string (⟨#[]⟩ : ByteArray), .string (⟨#[]⟩ : ByteArray), .int .i64 0, .bool false]) ?_ 1 _ rfl; (with_reducible repeat (first | refine blk_drewN ?_ _ | refine blk_drew ?_ | refine blk_alloc ?_ _)); refine blk_put (cs := #[.int .i64 0, .int .i64 0, .string (⟨#[]⟩ : ByteArray), .string (⟨#[]⟩ : ByteArray), .int .i64 0, .bool false]) ?_ 0 _ rfl; (with_reducible repeat (first | refine blk_drewN ?_ _ | refine blk_drew ?_ | refine blk_alloc ?_ _)); exact BK285.out) k_ hk)); (case aO => exact (by (with_reducible repeat (first | apply Kd.R_alloc | apply Kd.R_drewN | apply Kd.R_drew)); exact Kd.R_mono (Kd.R_far (p := ⟨gb285, 5, none⟩) (Kd.R_far (p := ⟨gb285, 4, none⟩) (Kd.R_far (p := ⟨gb285, 3, none⟩) (Kd.R_far (p := ⟨gb285, 2, none⟩) (Kd.R_far (p := ⟨gb285, 1, none⟩) (Kd.R_far (p := ⟨gb285, 0, none⟩) (Kd.R_mono HO_5.out (fun k_ hk => (⟨hk, hk.2⟩ : _ ∧ k_ ≠ gb285))) (fun _ hk => hk.2) (.int .i64 t277)) (fun _ hk => hk.2) (.int .i64 t278)) (fun _ hk => hk.2) (.string t279)) (fun _ hk => hk.2) (.string t280)) (fun _ hk => hk.2) (.int .i64 t281)) (fun _ hk => hk.2) (.bool t282)) (fun _ hk => hk.1.2))); (case aS => exact (below_size bo)); (case aL => have := LMc7.out; omega); intro v287 w11 ho hb hg hat; rw [← Ny286.out] at ho; have n0_ := Aside0.mk (blk_grown (g := gb285) (o := .cells #[.int .i64 t277, .int .i64 t278, .string t279, .string t280, .int .i64 t281, .bool t282] 25 (0, 0)) (by (with_reducible repeat (first | refine blk_drewN ?_ _ | refine blk_drew ?_ | refine blk_alloc ?_ _)); refine blk_put (cs := #[.int .i64 t277, .int .i64 t278, .string t279, .string t280, .int .i64 t281, .bool false]) ?_ 5 _ rfl; (with_reducible repeat (first | refine blk_drewN ?_ _ | refine blk_drew ?_ | refine blk_alloc ?_ _)); refine blk_put (cs := #[.int .i64 t277, .int .i64 t278, .string t279, .string t280, .int .i64 0, .bool false]) ?_ 4 _ rfl; (with_reducible repeat (first | refine blk_drewN ?_ _ | refine blk_drew ?_ | refine blk_alloc ?_ _)); refine blk_put (cs := #[.int .i64 t277, .int .i64 t278, .string t279, .string (⟨#[]⟩ : ByteArray), .int .i64 0, .bool false]) ?_ 3 _ rfl; (with_reducible repeat (first | refine blk_drewN ?_ _ | refine blk_drew ?_ | refine blk_alloc ?_ _)); refine blk_put (cs := #[.int .i64 t277, .int .i64 t278, .string (⟨#[]⟩ : ByteArray), .string (⟨#[]⟩ : ByteArray), .int .i64 0, .bool false]) ?_ 2 _ rfl; (with_reducible repeat (first | refine blk_drewN ?_ _ | refine blk_drew ?_ | refine blk_alloc ?_ _)); refine blk_put (cs := #[.int .i64 t277, .int .i64 0, .string (⟨#[]⟩ : ByteArray), .string (⟨#[]⟩ : ByteArray), .int .i64 0, .bool false]) ?_ 1 _ rfl; (with_reducible repeat (first | refine blk_drewN ?_ _ | refine blk_drew ?_ | refine blk_alloc ?_ _)); refine blk_put (cs := #[.int .i64 0, .int .i64 0, .string (⟨#[]⟩ : ByteArray), .string (⟨#[]⟩ : ByteArray), .int .i64 0, .bool false]) ?_ 0 _ rfl; (with_reducible repeat (first | refine blk_drewN ?_ _ | refine blk_drew ?_ | refine blk_alloc ?_ _)); exact BK285.out) hg (Kd.R_away HO_5.out (fun _ hk => hk.2))); have n1_ := Aside0.mk (hb); have n2_ := Aside0.mk (ho); clear BK285; clear HB; clear HO_5; have BK285 := n0_; have HB := n1_; have HO288 := n2_; clear n0_ n1_ n2_; clear ho hb hg hat))
        go_roundg k1
        case measure => have := HK1.out; omega
        case rel => exact ⟨(y286), (wrap64 (x6_1 + t283)), ap, H', ⟨by have := HK1.out; omega⟩, ⟨by (with_reducible repeat (first | apply Kd.R_alloc | apply Kd.R_drewN | apply Kd.R_drew)); exact Kd.R_mono HO288.out (fun _ hk => trivial)⟩, ⟨bo⟩⟩
       ·rw [if_neg c7] at H
        exact absurd H (by simp)
      ·rw [if_neg c6] at H
       have c6b0 : (t284 == 0) = false := beq_eq_false_iff_ne.mpr c6
       have c6b1 : (t284 != 0) = true := bne_iff_ne.mpr c6
       simp only [Option.some.injEq, Prod.mk.injEq] at H
       obtain ⟨rfl, rfl, rfl⟩ := H
       go_wp2_with (first | ((with_reducible refine gate_callee (f := 24) rfl ?_); refine goesL_ (some 18) rfl rfl Try.func24 (by kernel_rfl) rfl #[.string (a0.extract (x6_1 : Int).toNat a0.size)] rfl aa ?_; (with_reducible refine (fairwayref10_Take.calls k1 (a0.extract (x6_1 : Int).toNat a0.size) t277 t278 t279 t280 t281 t282 t283 t284 _ A5.out).mono ?_); rintro e w12 ⟨rfl, hb⟩; refine ⟨_, rfl, ?_⟩; replace HO_5 := Aside0.mk (Kd.R_below (rk HO_5.out) hb); replace HB := Aside0.mk (below_step bo hb); (try clear hb); (try clear hb2); (try clear hk); (try clear hi)) | ((with_reducible refine gate_dst (N := 7) rfl ?_); refine box_event ?hg (N := 7) ?hd (cs := #[.int .i64 0, .int .i64 0, .string (⟨#[]⟩ : ByteArray), .string (⟨#[]⟩ : ByteArray), .int .i64 0, .bool false]) (t := 25) ?hr ?_; (case hd => rfl); (case hg => rfl); (case hr => first | (go_simp; done) | (go_simp; rfl)); intro gb285 hg w13 hbox hb; replace HO_5 := Aside0.mk (Kd.R_below (Kd.R_elderB (rk HO_5.out) gb285 (Nat.le_of_eq hg.symm)) hb); have BK285 := Aside0.mk (hbox); have GW285 := Aside0.mk ((by rw [hg]; exact (below_size bo) : w.heap.size ≤ gb285)); have GE285 := Aside0.mk ((by rw [hg]; exact (below_size bo) : w.heap.size ≤ gb285)); replace HB := Aside0.mk (below_step bo hb); clear hb hbox hg; obtain ⟨hcz14_0, hcz14_1, hcz14_2, hcz14_3, hcz14_4, hcz14_5⟩ := cl6 BK285.out; obtain ⟨hfz14_0, hfz14_1, hfz14_2, hfz14_3, hfz14_4, hfz14_5⟩ := fz6 BK285.out))
       go_ret3
       exact ⟨_, er, by (with_reducible repeat (first | apply Kd.R_alloc | apply Kd.R_drewN | apply Kd.R_drew)); exact Kd.R_mono (Kd.R_far (p := ⟨gb285, 5, none⟩) (Kd.R_far (p := ⟨gb285, 4, none⟩) (Kd.R_far (p := ⟨gb285, 3, none⟩) (Kd.R_far (p := ⟨gb285, 2, none⟩) (Kd.R_far (p := ⟨gb285, 1, none⟩) (Kd.R_far (p := ⟨gb285, 0, none⟩) (Kd.R_mono HO_5.out (fun k_ hk => (⟨hk, hk.2⟩ : _ ∧ k_ ≠ gb285))) (fun _ hk => hk.2) (.int .i64 t277)) (fun _ hk => hk.2) (.int .i64 t278)) (fun _ hk => hk.2) (.string t279)) (fun _ hk => hk.2) (.string t280)) (fun _ hk => hk.2) (.int .i64 t281)) (fun _ hk => hk.2) (.bool t282)) (fun _ hk => trivial), bo⟩
     ·rw [if_neg c4] at H
      exact absurd H (by simp)
    ·rw [if_neg c3] at H
     exact absurd H (by simp)
   ·rw [if_neg c2] at H
    have c2b0 : decide (x6_1 < (a0.size : Int)) = false := decide_eq_false c2
    clear c2
    simp only [Option.some.injEq, Prod.mk.injEq] at H
    obtain ⟨rfl, rfl, rfl⟩ := H
    go_wp2
    go_ret3
    exact ⟨_, er, by (with_reducible repeat (first | apply Kd.R_alloc | apply Kd.R_drewN | apply Kd.R_drew)); exact HO_5.out, bo⟩

end Go.Proofs.Ytmabdfdmccbfnaa.P

-- written by a program of the proving session, out of the translation; Lean checks it
namespace Go.Proofs.Ytmabdfdmccbfnaa.P
open Go.RowKit Go.Proofs.Ytmabdfdmccbfnaa.Sq Go.Proofs.YtmabdfdmccbfnaaW.PrintWords Go.Proofs.YtmabdfdmccbfnaaW.PrintLast Go.Proofs.YtmabdfdmccbfnaaW.PrintMore
attribute [local go_sem] max2_int min2_int max_two min_two max_three min_three max_four min_four   -- for this text's walks alone
set_option linter.unusedVariables false
set_option linter.unusedSimpArgs false

/-! ### fairwayref10_Seg: function 31 -/
mutual
def fairwayref10_Seg.l0 : Nat → Int → Int → List (S25) → Option (Bool)
 | 0, _, _, _ => none
 | k + 1, x3, x351000, x351001 => if x3 < (x351001.length : Int) then (fairwayref10_Seg.j1 k x3 x351000 x351001) else ((fairwayref0_Num.f x351000 1099511627776).bind fun t351 => (if t351 = true then (some (decide ((x351001.length : Int) ≤ 200))) else (some false)))
def fairwayref10_Seg.j1 : Nat → Int → Int → List (S25) → Option (Bool)
 | 0, _, _, _ => none
 | k + 1, x3, x351000, x351001 => if 0 ≤ x3 then (if x3 < (x351001.length : Int) then ((fairwayref10_Rec.f ((rd_T25 x351001 x3).f0) ((rd_T25 x351001 x3).f1) ((rd_T25 x351001 x3).f2) ((rd_T25 x351001 x3).f3) ((rd_T25 x351001 x3).f4) ((rd_T25 x351001 x3).f5)).bind fun t353 => (if t353 = true then (if ((rd_T25 x351001 x3).f0) < x351000 then (fairwayref10_Seg.j2 k x3 true x351000 x351001) else (if x3 > 0 then (if 0 ≤ (wrap64 (x3 - 1)) then (if (wrap64 (x3 - 1)) < (x351001.length : Int) then (if ((rd_T25 x351001 (wrap64 (x3 - 1))).f0) ≥ ((rd_T25 x351001 x3).f0) then (fairwayref10_Seg.j2 k x3 true x351000 x351001) else (fairwayref10_Seg.j2 k x3 (decide (((rd_T25 x351001 (wrap64 (x3 - 1))).f1) > ((rd_T25 x351001 x3).f1))) x351000 x351001)) else (none)) else (none)) else (fairwayref10_Seg.j2 k x3 false x351000 x351001))) else (fairwayref10_Seg.j2 k x3 true x351000 x351001))) else (none)) else (none)
def fairwayref10_Seg.j2 : Nat → Int → Bool → Int → List (S25) → Option (Bool)
 | 0, _, _, _, _ => none
 | k + 1, x3, x64, x351000, x351001 => if x64 = true then (some false) else (fairwayref10_Seg.l0 k (wrap64 (x3 + 1)) x351000 x351001)
end
def fairwayref10_Seg.f (k : Nat) (a0_0 : Int) (l0_1 : List (S25)) : Option (Bool) := fairwayref10_Seg.l0 k 0 a0_0 l0_1
theorem fairwayref10_Seg.mono_l : ∀ k, (∀ y0 y1 y2, LeO (fairwayref10_Seg.l0 k y0 y1 y2) (fairwayref10_Seg.l0 (k + 1) y0 y1 y2)) ∧ (∀ y0 y1 y2, LeO (fairwayref10_Seg.j1 k y0 y1 y2) (fairwayref10_Seg.j1 (k + 1) y0 y1 y2)) ∧ (∀ y0 y1 y2 y3, LeO (fairwayref10_Seg.j2 k y0 y1 y2 y3) (fairwayref10_Seg.j2 (k + 1) y0 y1 y2 y3))
 | 0 => ⟨fun _ _ _ r h => by simp [fairwayref10_Seg.l0] at h, fun _ _ _ r h => by simp [fairwayref10_Seg.j1] at h, fun _ _ _ _ r h => by simp [fairwayref10_Seg.j2] at h⟩
 | k + 1 => by
  obtain ⟨ih0, ih1, ih2⟩ := fairwayref10_Seg.mono_l k
  refine ⟨?_, ?_, ?_⟩
  ·intro y0 y1 y2
   unfold fairwayref10_Seg.l0
   repeat' first
   | (with_reducible exact ih0 _ _ _)
   | (with_reducible exact ih1 _ _ _)
   | (with_reducible exact ih2 _ _ _ _)
   | (with_reducible exact LeO.refl _)
   | (with_reducible exact LeO.none _)
   | (with_reducible refine LeO.ite ?_ ?_)
   | (with_reducible refine LeO.bind ?_ (fun _ => ?_))
   | exact ih0 _ _ _
   | exact ih1 _ _ _
   | exact ih2 _ _ _ _
   | exact LeO.none _
   | refine LeO.ite ?_ ?_
   | refine LeO.bind ?_ (fun _ => ?_)
  ·intro y0 y1 y2
   unfold fairwayref10_Seg.j1
   repeat' first
   | (with_reducible exact ih0 _ _ _)
   | (with_reducible exact ih1 _ _ _)
   | (with_reducible exact ih2 _ _ _ _)
   | (with_reducible exact LeO.refl _)
   | (with_reducible exact LeO.none _)
   | (with_reducible refine LeO.ite ?_ ?_)
   | (with_reducible refine LeO.bind ?_ (fun _ => ?_))
   | exact ih0 _ _ _
   | exact ih1 _ _ _
   | exact ih2 _ _ _ _
   | exact LeO.none _
   | refine LeO.ite ?_ ?_
   | refine LeO.bind ?_ (fun _ => ?_)
  ·intro y0 y1 y2 y3
   unfold fairwayref10_Seg.j2
   repeat' first
   | (with_reducible exact ih0 _ _ _)
   | (with_reducible exact ih1 _ _ _)
   | (with_reducible exact ih2 _ _ _ _)
   | (with_reducible exact LeO.refl _)
   | (with_reducible exact LeO.none _)
   | (with_reducible refine LeO.ite ?_ ?_)
   | (with_reducible refine LeO.bind ?_ (fun _ => ?_))
   | exact ih0 _ _ _
   | exact ih1 _ _ _
   | exact ih2 _ _ _ _
   | exact LeO.none _
   | refine LeO.ite ?_ ?_
   | refine LeO.bind ?_ (fun _ => ?_)
theorem fairwayref10_Seg.mono : ∀ a0 a1 k, LeO (fairwayref10_Seg.f k a0 a1) (fairwayref10_Seg.f (k + 1) a0 a1) := by
 intro a0 a1 k
 obtain ⟨ih0, ih1, ih2⟩ := fairwayref10_Seg.mono_l k
 unfold fairwayref10_Seg.f
 repeat' first
  | (with_reducible exact ih0 _ _ _)
  | (with_reducible exact ih1 _ _ _)
  | (with_reducible exact ih2 _ _ _ _)
  | (with_reducible exact LeO.refl _)
  | (with_reducible exact LeO.none _)
  | (with_reducible refine LeO.ite ?_ ?_)
  | (with_reducible refine LeO.bind ?_ (fun _ => ?_))
  | exact ih0 _ _ _
  | exact ih1 _ _ _
  | exact ih2 _ _ _ _
  | exact LeO.none _
  | refine LeO.ite ?_ ?_
  | refine LeO.bind ?_ (fun _ => ?_)
def fairwayref10_Seg.T4 : Bool × List (List Nat × List Nat) := (true, [([], []), ([0], [0]), ([], []), ([1, 2], [1, 2]), ([3], [3]), ([4], [4]), ([5], [5]), ([6, 5], [6]), ([7], [7]), ([8, 7], [7, 8]), ([7], [7]), ([9, 10, 7], [7, 9, 10]), ([11, 7], [7, 11]), ([12, 7], [7, 12]), ([7], [7]), ([14, 7], [7, 14]), ([13, 15, 7], [7, 13, 15]), ([7, 16], [7, 16]), ([17, 7], [17]), ([18], [18]), ([19, 18], [18, 19]), ([20, 18, 18], [18, 20]), ([21], [21]), ([22, 21], [21, 22]), ([21], [21]), ([24, 21], [21, 24]), ([23, 25, 21], [21, 23, 25]), ([26, 21], [21, 26]), ([27, 21], [21, 27]), ([21], [21]), ([29, 21], [21, 29]), ([21], [21]), ([30, 31, 21], [21, 30, 31]), ([32, 21], [21, 32]), ([33, 21], [21, 33]), ([28, 34, 21], [21, 28, 34]), ([35, 21, 21], [21, 35]), ([36], [36]), ([37, 36], [36, 37]), ([36], [36]), ([39, 36], [36, 39]), ([38, 40, 36], [36, 38, 40]), ([41, 36], [36, 41]), ([42, 36], [36, 42]), ([36], [36]), ([44, 36], [36, 44]), ([36], [36]), ([45, 46, 36], [36, 45, 46]), ([47, 36], [36, 47]), ([48, 36], [36, 48]), ([43, 49, 36], [36, 43, 49]), ([36, 50, 21], [21, 36, 50]), ([21, 51, 18], [18, 21, 51]), ([18, 52], [18, 52])])
def fairwayref10_Seg.B4 : List Nat := [0, 1, 0, 7, 15, 31, 63, 127, 255, 511, 255, 2047, 4095, 8191, 255, 16639, 65535, 131071, 262143, 524287, 1048575, 2097151, 4194303, 8388607, 4194303, 20971519, 67108863, 134217727, 268435455, 4194303, 541065215, 4194303, 3762290687, 8057257983, 16647192575, 34359738367, 68719476735, 137438953471, 274877906943, 137438953471, 687194767359, 2199023255551, 4398046511103, 8796093022207, 137438953471, 17729624997887, 137438953471, 123282741264383, 264020229619711, 545495206330367, 1125899906842623, 2251799813685247, 4503599627370495, 9007199254740991]
theorem fairwayref10_Seg.tab4 : rtab .any (opsOf Try.f31 4) = fairwayref10_Seg.T4 := by kernel_rfl
theorem fairwayref10_Seg.bits4 : waitsOk fairwayref10_Seg.T4.2 fairwayref10_Seg.B4 = true := by kernel_rfl
set_option maxHeartbeats 8000000 in
set_option maxRecDepth 100000 in
theorem fairwayref10_Seg.calls (k : Nat) (a0_0 : Int) (A0_1 : Option Addr) (c0_1 : Nat) (l0_1 : List (S25)) (r : Bool) (w : World) (hr0_1 : Kd.C k25 w A0_1 l0_1.length l0_1) (hc0_1 : l0_1.length ≤ c0_1) (h : fairwayref10_Seg.f k a0_0 l0_1 = some r) :
 Calls Try.prog 31 #[.agg #[.int .i64 a0_0, .slice A0_1 l0_1.length c0_1]] w fun e w' => e = .returned (.bool r) ∧ Below w.heap.size w w' := by
 have hu53 := Try.underlying53
 have hu25 := Try.underlying25
 have HR0_1 := Aside0.mk hr0_1
 have HC0_1 := Aside0.mk hc0_1
 clear hr0_1 hc0_1
 have HB := Aside0.mk (Below.refl w.heap.size w)
 have H : (fairwayref10_Seg.l0 k 0 a0_0 l0_1) = some r := h
 clear h
 have H' := Aside0.mk H
 clear H
 go_enter Try.func31, Try.ntmps31
 go_wp2_with (first | ((with_reducible refine gate_dst (N := 1) rfl ?_); (try (refine gate_guard (by rfl) ?_; dsimp only)); refine box_event ?hg (N := 1) ?hd (cs := #[.int .i64 a0_0, .slice A0_1 l0_1.length c0_1]) (t := 53) ?hr ?_; (case hd => rfl); (case hg => rfl); (case hr => first | (go_simp; done) | (go_simp; rfl)); intro gb350 hg w2 hbox hb; have BK350 := Aside0.mk (hbox); have GW350 := Aside0.mk ((by rw [hg]; exact (below_size bo) : w.heap.size ≤ gb350)); have GE350 := Aside0.mk ((by rw [hg]; exact (below_size bo) : w.heap.size ≤ gb350)); replace HB := Aside0.mk (below_step bo hb); clear hb hbox hg))
 go_loopg [3] k (fun kq v3 w' => ∃ (x3_1 : Int), v3 = .int .i64 x3_1 ∧ Aside0 (fairwayref10_Seg.l0 kq x3_1 a0_0 l0_1 = some r) ∧ Aside0 (kq ≤ k) ∧ Aside0 (w'.heap[gb350]? = some (.cells #[.int .i64 a0_0, (.slice A0_1 l0_1.length c0_1)] 53 (0, 0))) ∧ Aside0 (Below w.heap.size w w'))
 case atStart => exact ⟨(0), ap, H', ⟨Nat.le_refl _⟩, ⟨by (with_reducible repeat (first | refine blk_drewN ?_ _ | refine blk_drew ?_ | refine blk_alloc ?_ _)); exact BK350.out⟩, ⟨bo⟩⟩
 case round =>
  clear H'
  try clear p2
  obtain ⟨x3_1, rfl, HA, HK1, BK350, HB⟩ := hrel
  cases gk with
  | zero => exact absurd HA.out (by simp [fairwayref10_Seg.l0])
  | succ k1 =>
   have H := HA.out
   clear HA
   simp only [fairwayref10_Seg.l0] at H
   have HC3 := Aside0.mk H
   clear H
   have hcz4_0 : wr.cell? ⟨gb350, 0, none⟩ = some (.int .i64 a0_0) := (blk_cell BK350.out 0).trans rfl
   have hcz4_1 : wr.cell? ⟨gb350, 1, none⟩ = some (.slice A0_1 l0_1.length c0_1) := (blk_cell BK350.out 1).trans rfl
   have hfz4_0 := blk_frozen BK350.out 0
   have hfz4_1 := blk_frozen BK350.out 1
   go_upto_if 8 with (fail)
   go_cut [] (fun wc => ∃ (kq : Nat), Aside0 (fairwayref10_Seg.j1 kq x3_1 a0_0 l0_1 = some r) ∧ Aside0 (kq ≤ k1) ∧ Aside0 (wc.heap[gb350]? = some (.cells #[.int .i64 a0_0, (.slice A0_1 l0_1.length c0_1)] 53 (0, 0))) ∧ Aside0 (Below w.heap.size w wc))
   case first =>
    have H := HC3.out
    clear HC3
    by_cases c5 : x3_1 < (l0_1.length : Int)
    ·rw [if_pos c5] at H
     have c5b0 : decide (x3_1 < (l0_1.length : Int)) = true := decide_eq_true c5
     clear c5
     (first | rw [c5b0] | (simp only [i64_w, i32_w]; rw [c5b0]) | skip)
     have H' := Aside0.mk H
     clear H
     go_wp2
     go_meet
     case rel => exact ⟨_, H', ⟨by have := HK1.out; first | omega | exact Nat.le_refl _⟩, ⟨by (with_reducible repeat (first | refine blk_drewN ?_ _ | refine blk_drew ?_ | refine blk_alloc ?_ _)); exact BK350.out⟩, ⟨bo⟩⟩
    ·rw [if_neg c5] at H
     have c5b0 : decide (x3_1 < (l0_1.length : Int)) = false := decide_eq_false c5
     clear c5
     (first | rw [c5b0] | (simp only [i64_w, i32_w]; rw [c5b0]) | skip)
     replace H := Option.bind_eq_some_iff.mp H
     obtain ⟨t351, A60, H⟩ := H
     replace H : (if t351 = true then (some (decide ((l0_1.length : Int) ≤ 200))) else (some false)) = some r := H
     have A6 := Aside0.mk A60
     clear A60
     by_cases c7 : t351 = true
     ·subst c7
      have H1 : (some (decide ((l0_1.length : Int) ≤ 200))) = some r := by rw [if_pos rfl] at H; exact H
      clear H
      have H := H1
      clear H1
      obtain rfl := Option.some.inj H
      have hcz8_0 : wr.cell? ⟨gb350, 0, none⟩ = some (.int .i64 a0_0) := (blk_cell BK350.out 0).trans rfl
      have hcz8_1 : wr.cell? ⟨gb350, 1, none⟩ = some (.slice A0_1 l0_1.length c0_1) := (blk_cell BK350.out 1).trans rfl
      have hfz8_0 := blk_frozen BK350.out 0
      have hfz8_1 := blk_frozen BK350.out 1
      go_wp2_with (first | ((with_reducible refine gate_callee (f := 39) rfl ?_); refine goesL_ (some 67) rfl rfl Try.func39 (by kernel_rfl) rfl #[.int .i64 a0_0, .int .i64 1099511627776] rfl aa ?_; (with_reducible refine (fairwayref0_Num.calls a0_0 1099511627776 true _ A6.out).mono ?_); rintro e w' ⟨rfl, ⟨nd, rfl⟩⟩; refine ⟨_, rfl, ?_⟩))
      go_ret
      exact ⟨er, bo⟩
     ·replace c7 := Bool.eq_false_iff.mpr c7
      subst c7
      have H1 : (some false) = some r := by rw [if_neg (show ¬ (false = true) by decide)] at H; exact H
      clear H
      have H := H1
      clear H1
      obtain rfl := Option.some.inj H
      have hcz9_0 : wr.cell? ⟨gb350, 0, none⟩ = some (.int .i64 a0_0) := (blk_cell BK350.out 0).trans rfl
      have hcz9_1 : wr.cell? ⟨gb350, 1, none⟩ = some (.slice A0_1 l0_1.length c0_1) := (blk_cell BK350.out 1).trans rfl
      have hfz9_0 := blk_frozen BK350.out 0
      have hfz9_1 := blk_frozen BK350.out 1
      go_wp2_with (first | ((with_reducible refine gate_callee (f := 39) rfl ?_); refine goesL_ (some 67) rfl rfl Try.func39 (by kernel_rfl) rfl #[.int .i64 a0_0, .int .i64 1099511627776] rfl aa ?_; (with_reducible refine (fairwayref0_Num.calls a0_0 1099511627776 false _ A6.out).mono ?_); rintro e w' ⟨rfl, ⟨nd, rfl⟩⟩; refine ⟨_, rfl, ?_⟩))
      go_ret
      exact ⟨er, bo⟩
   case rest =>
    clear HC3
    try clear p2
    try clear c3
    try clear c5
    try clear c5b0
    try clear c7
    try clear hcz4_0
    try clear hcz4_1
    try clear hcz8_0
    try clear hcz8_1
    try clear hcz9_0
    try clear hcz9_1
    try clear hfz4_0
    try clear hfz4_1
    try clear hfz8_0
    try clear hfz8_1
    try clear hfz9_0
    try clear hfz9_1
    try clear p2
    obtain ⟨kq, HA, HJ2, BK350, HB⟩ := hcut
    cases kq with
    | zero => exact absurd HA.out (by simp [fairwayref10_Seg.j1])
    | succ kj2 =>
     have H := HA.out
     clear HA
     simp only [fairwayref10_Seg.j1] at H
     have HC10 := Aside0.mk H
     clear H
     go_upto_region 4 with (fail)
     go_cut [64] (fun v64 wc => ∃ (kq : Nat) (x64_9 : Bool), v64 = .bool x64_9 ∧ Aside0 (fairwayref10_Seg.j2 kq x3_1 x64_9 a0_0 l0_1 = some r) ∧ Aside0 (kq ≤ kj2) ∧ Aside0 (wc.heap[gb350]? = some (.cells #[.int .i64 a0_0, (.slice A0_1 l0_1.length c0_1)] 53 (0, 0))) ∧ Aside0 (Below w.heap.size w wc))
     case first =>
      have H := HC10.out
      clear HC10
      by_cases c11 : 0 ≤ x3_1
      ·rw [if_pos c11] at H
       have c11b0 : decide (0 ≤ x3_1) = true := decide_eq_true c11
       clear c11
       (first | rw [c11b0] | (simp only [i64_w, i32_w]; rw [c11b0]) | skip)
       by_cases c12 : x3_1 < (l0_1.length : Int)
       ·rw [if_pos c12] at H
        have c12b0 : decide (x3_1 < (l0_1.length : Int)) = true := decide_eq_true c12
        clear c12
        replace H := Option.bind_eq_some_iff.mp H
        obtain ⟨t353, A130, H⟩ := H
        replace H : (if t353 = true then (if ((rd_T25 l0_1 x3_1).f0) < a0_0 then (fairwayref10_Seg.j2 kj2 x3_1 true a0_0 l0_1) else (if x3_1 > 0 then (if 0 ≤ (wrap64 (x3_1 - 1)) then (if (wrap64 (x3_1 - 1)) < (l0_1.length : Int) then (if ((rd_T25 l0_1 (wrap64 (x3_1 - 1))).f0) ≥ ((rd_T25 l0_1 x3_1).f0) then (fairwayref10_Seg.j2 kj2 x3_1 true a0_0 l0_1) else (fairwayref10_Seg.j2 kj2 x3_1 (decide (((rd_T25 l0_1 (wrap64 (x3_1 - 1))).f1) > ((rd_T25 l0_1 x3_1).f1))) a0_0 l0_1)) else (none)) else (none)) else (fairwayref10_Seg.j2 kj2 x3_1 false a0_0 l0_1))) else (fairwayref10_Seg.j2 kj2 x3_1 true a0_0 l0_1)) = some r := H
        have A13 := Aside0.mk A130
        clear A130
        by_cases c14 : t353 = true
        ·subst c14
         have H1 : (if ((rd_T25 l0_1 x3_1).f0) < a0_0 then (fairwayref10_Seg.j2 kj2 x3_1 true a0_0 l0_1) else (if x3_1 > 0 then (if 0 ≤ (wrap64 (x3_1 - 1)) then (if (wrap64 (x3_1 - 1)) < (l0_1.length : Int) then (if ((rd_T25 l0_1 (wrap64 (x3_1 - 1))).f0) ≥ ((rd_T25 l0_1 x3_1).f0) then (fairwayref10_Seg.j2 kj2 x3_1 true a0_0 l0_1) else (fairwayref10_Seg.j2 kj2 x3_1 (decide (((rd_T25 l0_1 (wrap64 (x3_1 - 1))).f1) > ((rd_T25 l0_1 x3_1).f1))) a0_0 l0_1)) else (none)) else (none)) else (fairwayref10_Seg.j2 kj2 x3_1 false a0_0 l0_1))) = some r := by rw [if_pos rfl] at H; exact H
         clear H
         have H := H1
         clear H1
         by_cases c15 : ((rd_T25 l0_1 x3_1).f0) < a0_0
         ·rw [if_pos c15] at H
          have c15b0 : decide (((rd_T25 l0_1 x3_1).f0) < a0_0) = true := decide_eq_true c15
          clear c15
          have H' := Aside0.mk H
          clear H
          try go_wp2
          replace BK350 := Aside0.mk (blk_drew BK350.out)
          replace HB := Aside0.mk (below_drew1 HB.out)
          have p352 : 0 ≤ (x3_1 : Int) := od
          have q352 : x3_1 < (l0_1.length : Int) := od
          obtain ⟨ad352, e352, hx352_0, hx352_1, hx352_2, hx352_3, hx352_4, hx352_5⟩ := at_T25 HR0_1.out x3_1 p352 q352
          have hw352_5 := hx352_5
          have hw352_4 := hx352_4
          have hw352_3 := hx352_3
          have hw352_2 := hx352_2
          have hw352_1 := hx352_1
          have hw352_0 := hx352_0
          cases e352
          replace hx352_0 := cx HB.out hx352_0
          replace hx352_1 := cx HB.out hx352_1
          replace hx352_2 := cx HB.out hx352_2
          replace hx352_3 := cx HB.out hx352_3
          replace hx352_4 := cx HB.out hx352_4
          replace hx352_5 := cx HB.out hx352_5
          replace p352 := eq_true p352
          replace q352 := eq_true q352
          have p354 : 0 ≤ (x3_1 : Int) := od
          have q354 : x3_1 < (l0_1.length : Int) := od
          obtain ⟨ad354, e354, hx354_0, hx354_1, hx354_2, hx354_3, hx354_4, hx354_5⟩ := at_T25 HR0_1.out x3_1 p354 q354
          have hw354_5 := hx354_5
          have hw354_4 := hx354_4
          have hw354_3 := hx354_3
          have hw354_2 := hx354_2
          have hw354_1 := hx354_1
          have hw354_0 := hx354_0
          obtain rfl : ad352 = ad354 := (by injection e354)
          replace hx354_0 := cx HB.out hx354_0
          replace hx354_1 := cx HB.out hx354_1
          replace hx354_2 := cx HB.out hx354_2
          replace hx354_3 := cx HB.out hx354_3
          replace hx354_4 := cx HB.out hx354_4
          replace hx354_5 := cx HB.out hx354_5
          replace p354 := eq_true p354
          replace q354 := eq_true q354
          refine start_ (n := 54) (S := fun w' => w'.cell? ⟨gb350, 0, none⟩ = some (.int .i64 a0_0) ∧ w'.cell? ⟨gb350, 1, none⟩ = some (.slice (some ad352) l0_1.length c0_1) ∧ w'.cell? (ad352.add ((x3_1).toNat * 6)) = some (.int .i64 ((rd_T25 l0_1 x3_1).f0)) ∧ w'.cell? ⟨(ad352.add ((x3_1).toNat * 6)).block, (ad352.add ((x3_1).toNat * 6)).off + 1, none⟩ = some (.int .i64 ((rd_T25 l0_1 x3_1).f1)) ∧ w'.cell? ⟨(ad352.add ((x3_1).toNat * 6)).block, (ad352.add ((x3_1).toNat * 6)).off + 2, none⟩ = some (.string ((rd_T25 l0_1 x3_1).f2)) ∧ w'.cell? ⟨(ad352.add ((x3_1).toNat * 6)).block, (ad352.add ((x3_1).toNat * 6)).off + 3, none⟩ = some (.string ((rd_T25 l0_1 x3_1).f3)) ∧ w'.cell? ⟨(ad352.add ((x3_1).toNat * 6)).block, (ad352.add ((x3_1).toNat * 6)).off + 4, none⟩ = some (.int .i64 ((rd_T25 l0_1 x3_1).f4)) ∧ w'.cell? ⟨(ad352.add ((x3_1).toNat * 6)).block, (ad352.add ((x3_1).toNat * 6)).off + 5, none⟩ = some (.bool ((rd_T25 l0_1 x3_1).f5)) ∧ w'.cell? (ad352.add ((x3_1).toNat * 6)) = some (.int .i64 ((rd_T25 l0_1 x3_1).f0)) ∧ w'.cell? ⟨(ad352.add ((x3_1).toNat * 6)).block, (ad352.add ((x3_1).toNat * 6)).off + 1, none⟩ = some (.int .i64 ((rd_T25 l0_1 x3_1).f1)) ∧ w'.cell? ⟨(ad352.add ((x3_1).toNat * 6)).block, (ad352.add ((x3_1).toNat * 6)).off + 2, none⟩ = some (.string ((rd_T25 l0_1 x3_1).f2)) ∧ w'.cell? ⟨(ad352.add ((x3_1).toNat * 6)).block, (ad352.add ((x3_1).toNat * 6)).off + 3, none⟩ = some (.string ((rd_T25 l0_1 x3_1).f3)) ∧ w'.cell? ⟨(ad352.add ((x3_1).toNat * 6)).block, (ad352.add ((x3_1).toNat * 6)).off + 4, none⟩ = some (.int .i64 ((rd_T25 l0_1 x3_1).f4)) ∧ w'.cell? ⟨(ad352.add ((x3_1).toNat * 6)).block, (ad352.add ((x3_1).toNat * 6)).off + 5, none⟩ = some (.bool ((rd_T25 l0_1 x3_1).f5))) (ds := []) #[O,O,O,O,O,O,O,O,O,O,O,O,O,O,O,O,O,O,O,O,O,O,O,O,O,O,O,O,O,O,O,O,O,O,O,O,O,O,O,O,O,O,O,O,O,O,O,O,O,O,O,O,O,O] (by kernel_rfl) rfl rfl ⟨(blk_cell BK350.out 0).trans rfl, (blk_cell BK350.out 1).trans rfl, ((HB.out.cell (World.block_lt_of_cell? w _ hw352_0)).trans hw352_0), ((HB.out.cell (World.block_lt_of_cell? w _ hw352_1)).trans hw352_1), ((HB.out.cell (World.block_lt_of_cell? w _ hw352_2)).trans hw352_2), ((HB.out.cell (World.block_lt_of_cell? w _ hw352_3)).trans hw352_3), ((HB.out.cell (World.block_lt_of_cell? w _ hw352_4)).trans hw352_4), ((HB.out.cell (World.block_lt_of_cell? w _ hw352_5)).trans hw352_5), ((HB.out.cell (World.block_lt_of_cell? w _ hw354_0)).trans hw354_0), ((HB.out.cell (World.block_lt_of_cell? w _ hw354_1)).trans hw354_1), ((HB.out.cell (World.block_lt_of_cell? w _ hw354_2)).trans hw354_2), ((HB.out.cell (World.block_lt_of_cell? w _ hw354_3)).trans hw354_3), ((HB.out.cell (World.block_lt_of_cell? w _ hw354_4)).trans hw354_4), ((HB.out.cell (World.block_lt_of_cell? w _ hw354_5)).trans hw354_5)⟩ (fun hHeld => ?_); refine with_tabW fairwayref10_Seg.tab4 fairwayref10_Seg.bits4 (fun HT_ HW_ => ?_)
          generalize wc.drew = w16 at BK350 HB hx352_0 hx352_1 hx352_2 hx352_3 hx352_4 hx352_5 hx354_0 hx354_1 hx354_2 hx354_3 hx354_4 hx354_5 hHeld ⊢
          refine pz (i := 0) (N := some 11) #[I,O,O,O,O,O,O,O,O,O,O,O,O,O,O,O,O,O,O,O,O,O,O,O,O,O,O,O,O,O,O,O,O,O,O,O,O,O,O,O,O,O,O,O,O,O,O,O,O,O,O,O,O,O] ?_
          refine pz (i := 2) (N := some 13) #[I,O,I,O,O,O,O,O,O,O,O,O,O,O,O,O,O,O,O,O,O,O,O,O,O,O,O,O,O,O,O,O,O,O,O,O,O,O,O,O,O,O,O,O,O,O,O,O,O,O,O,O,O,O] ?_
          refine tz (i := 1) (N := some 12) #[I,I,I,O,O,O,O,O,O,O,O,O,O,O,O,O,O,O,O,O,O,O,O,O,O,O,O,O,O,O,O,O,O,O,O,O,O,O,O,O,O,O,O,O,O,O,O,O,O,O,O,O,O,O] ?_
          refine pz (i := 3) (N := some 14) #[I,I,I,I,O,O,O,O,O,O,O,O,O,O,O,O,O,O,O,O,O,O,O,O,O,O,O,O,O,O,O,O,O,O,O,O,O,O,O,O,O,O,O,O,O,O,O,O,O,O,O,O,O,O] ?_
          refine tz (i := 4) (N := some 15) #[I,I,I,I,I,O,O,O,O,O,O,O,O,O,O,O,O,O,O,O,O,O,O,O,O,O,O,O,O,O,O,O,O,O,O,O,O,O,O,O,O,O,O,O,O,O,O,O,O,O,O,O,O,O] ?_
          refine one_ (i := 5) (N := some 16) #[I,I,I,I,I,I,O,O,O,O,O,O,O,O,O,O,O,O,O,O,O,O,O,O,O,O,O,O,O,O,O,O,O,O,O,O,O,O,O,O,O,O,O,O,O,O,O,O,O,O,O,O,O,O] rfl rfl (one_of HT_.out (by kernel_rfl)) (by decide) (fun K hK => ?_)
          refine goes_ Try.func17 (by kernel_rfl) rfl #[.agg #[.int .i64 ((rd_T25 l0_1 x3_1).f0), .int .i64 ((rd_T25 l0_1 x3_1).f1), .string ((rd_T25 l0_1 x3_1).f2), .string ((rd_T25 l0_1 x3_1).f3), .int .i64 ((rd_T25 l0_1 x3_1).f4), .bool ((rd_T25 l0_1 x3_1).f5)]] (by rfl) rfl rfl aa ?_
          with_reducible refine (fairwayref10_Rec.calls ((rd_T25 l0_1 x3_1).f0) ((rd_T25 l0_1 x3_1).f1) ((rd_T25 l0_1 x3_1).f2) ((rd_T25 l0_1 x3_1).f3) ((rd_T25 l0_1 x3_1).f4) ((rd_T25 l0_1 x3_1).f5) true _ A13.out).mono ?_
          rintro e w17 ⟨rfl, hb⟩
          refine ⟨_, rfl, ?_⟩
          replace BK350 := Aside0.mk (blk_below (g := gb350) (o := .cells #[.int .i64 a0_0, .slice (some ad352) l0_1.length c0_1] 53 (0, 0)) (bk BK350.out) hb)
          replace HB := Aside0.mk (below_step bo hb)
          (try clear hb)
          (try clear hb2)
          (try clear hk)
          (try clear hi)
          refine hK.out _ _ ⟨(blk_cell BK350.out 0).trans rfl, (blk_cell BK350.out 1).trans rfl, ((HB.out.cell (World.block_lt_of_cell? w _ hw352_0)).trans hw352_0), ((HB.out.cell (World.block_lt_of_cell? w _ hw352_1)).trans hw352_1), ((HB.out.cell (World.block_lt_of_cell? w _ hw352_2)).trans hw352_2), ((HB.out.cell (World.block_lt_of_cell? w _ hw352_3)).trans hw352_3), ((HB.out.cell (World.block_lt_of_cell? w _ hw352_4)).trans hw352_4), ((HB.out.cell (World.block_lt_of_cell? w _ hw352_5)).trans hw352_5), ((HB.out.cell (World.block_lt_of_cell? w _ hw354_0)).trans hw354_0), ((HB.out.cell (World.block_lt_of_cell? w _ hw354_1)).trans hw354_1), ((HB.out.cell (World.block_lt_of_cell? w _ hw354_2)).trans hw354_2), ((HB.out.cell (World.block_lt_of_cell? w _ hw354_3)).trans hw354_3), ((HB.out.cell (World.block_lt_of_cell? w _ hw354_4)).trans hw354_4), ((HB.out.cell (World.block_lt_of_cell? w _ hw354_5)).trans hw354_5)⟩ (fun hHeld => ?_)
          clear hK K
          refine norm_ (a' := ?_) ?_ ?_
          rotate_left
          ·show Act.put _ (some 16) _ = _
           simp only [Act.put, List.setIfInBounds_toArray, List.set_cons_zero, List.set_cons_succ, i64_w, i32_w]
           rfl
          refine pz (i := 6) (N := some 17) #[I,I,I,I,I,I,I,O,O,O,O,O,O,O,O,O,O,O,O,O,O,O,O,O,O,O,O,O,O,O,O,O,O,O,O,O,O,O,O,O,O,O,O,O,O,O,O,O,O,O,O,O,O,O] ?_
          refine pz (i := 7) (N := some 18) #[I,I,I,I,I,I,I,I,O,O,O,O,O,O,O,O,O,O,O,O,O,O,O,O,O,O,O,O,O,O,O,O,O,O,O,O,O,O,O,O,O,O,O,O,O,O,O,O,O,O,O,O,O,O] ?_
          refine pz (i := 8) (N := some 19) #[I,I,I,I,I,I,I,I,I,O,O,O,O,O,O,O,O,O,O,O,O,O,O,O,O,O,O,O,O,O,O,O,O,O,O,O,O,O,O,O,O,O,O,O,O,O,O,O,O,O,O,O,O,O] ?_
          refine pz (i := 10) (N := some 21) #[I,I,I,I,I,I,I,I,I,O,I,O,O,O,O,O,O,O,O,O,O,O,O,O,O,O,O,O,O,O,O,O,O,O,O,O,O,O,O,O,O,O,O,O,O,O,O,O,O,O,O,O,O,O] ?_
          refine pz (i := 14) (N := some 25) #[I,I,I,I,I,I,I,I,I,O,I,O,O,O,I,O,O,O,O,O,O,O,O,O,O,O,O,O,O,O,O,O,O,O,O,O,O,O,O,O,O,O,O,O,O,O,O,O,O,O,O,O,O,O] ?_
          refine tz (i := 9) (N := some 20) #[I,I,I,I,I,I,I,I,I,I,I,O,O,O,I,O,O,O,O,O,O,O,O,O,O,O,O,O,O,O,O,O,O,O,O,O,O,O,O,O,O,O,O,O,O,O,O,O,O,O,O,O,O,O] ?_
          refine pz (i := 11) (N := some 22) #[I,I,I,I,I,I,I,I,I,I,I,I,O,O,I,O,O,O,O,O,O,O,O,O,O,O,O,O,O,O,O,O,O,O,O,O,O,O,O,O,O,O,O,O,O,O,O,O,O,O,O,O,O,O] ?_
          refine pz (i := 12) (N := some 23) #[I,I,I,I,I,I,I,I,I,I,I,I,I,O,I,O,O,O,O,O,O,O,O,O,O,O,O,O,O,O,O,O,O,O,O,O,O,O,O,O,O,O,O,O,O,O,O,O,O,O,O,O,O,O] ?_
          refine tz (i := 13) (N := some 24) #[I,I,I,I,I,I,I,I,I,I,I,I,I,I,I,O,O,O,O,O,O,O,O,O,O,O,O,O,O,O,O,O,O,O,O,O,O,O,O,O,O,O,O,O,O,O,O,O,O,O,O,O,O,O] ?_
          refine tz (i := 15) (N := some 26) #[I,I,I,I,I,I,I,I,I,I,I,I,I,I,I,I,O,O,O,O,O,O,O,O,O,O,O,O,O,O,O,O,O,O,O,O,O,O,O,O,O,O,O,O,O,O,O,O,O,O,O,O,O,O] ?_
          refine pz (i := 16) (N := some 27) #[I,I,I,I,I,I,I,I,I,I,I,I,I,I,I,I,I,O,O,O,O,O,O,O,O,O,O,O,O,O,O,O,O,O,O,O,O,O,O,O,O,O,O,O,O,O,O,O,O,O,O,O,O,O] ?_
          refine pz (i := 17) (N := some 28) #[I,I,I,I,I,I,I,I,I,I,I,I,I,I,I,I,I,I,O,O,O,O,O,O,O,O,O,O,O,O,O,O,O,O,O,O,O,O,O,O,O,O,O,O,O,O,O,O,O,O,O,O,O,O] ?_
          refine pz (i := 18) (N := some 29) #[I,I,I,I,I,I,I,I,I,I,I,I,I,I,I,I,I,I,I,O,O,O,O,O,O,O,O,O,O,O,O,O,O,O,O,O,O,O,O,O,O,O,O,O,O,O,O,O,O,O,O,O,O,O] ?_
          refine pu (i := 19) (N := some 30) #[I,I,I,I,I,I,I,I,I,I,I,I,I,I,I,I,I,I,I,I,O,O,O,O,O,O,O,O,O,O,O,O,O,O,O,O,O,O,O,O,O,O,O,O,O,O,O,O,O,O,O,O,O,O] ?_
          refine pu (i := 20) (N := some 31) #[I,I,I,I,I,I,I,I,I,I,I,I,I,I,I,I,I,I,I,I,I,O,O,O,O,O,O,O,O,O,O,O,O,O,O,O,O,O,O,O,O,O,O,O,O,O,O,O,O,O,O,O,O,O] ?_
          refine pu (i := 21) (N := some 32) #[I,I,I,I,I,I,I,I,I,I,I,I,I,I,I,I,I,I,I,I,I,I,O,O,O,O,O,O,O,O,O,O,O,O,O,O,O,O,O,O,O,O,O,O,O,O,O,O,O,O,O,O,O,O] ?_
          refine pu (i := 22) (N := some 33) #[I,I,I,I,I,I,I,I,I,I,I,I,I,I,I,I,I,I,I,I,I,I,I,O,O,O,O,O,O,O,O,O,O,O,O,O,O,O,O,O,O,O,O,O,O,O,O,O,O,O,O,O,O,O] ?_
          refine pu (i := 23) (N := some 34) #[I,I,I,I,I,I,I,I,I,I,I,I,I,I,I,I,I,I,I,I,I,I,I,I,O,O,O,O,O,O,O,O,O,O,O,O,O,O,O,O,O,O,O,O,O,O,O,O,O,O,O,O,O,O] ?_
          refine pu (i := 24) (N := some 35) #[I,I,I,I,I,I,I,I,I,I,I,I,I,I,I,I,I,I,I,I,I,I,I,I,I,O,O,O,O,O,O,O,O,O,O,O,O,O,O,O,O,O,O,O,O,O,O,O,O,O,O,O,O,O] ?_
          refine pu (i := 25) (N := some 36) #[I,I,I,I,I,I,I,I,I,I,I,I,I,I,I,I,I,I,I,I,I,I,I,I,I,I,O,O,O,O,O,O,O,O,O,O,O,O,O,O,O,O,O,O,O,O,O,O,O,O,O,O,O,O] ?_
          refine pu (i := 26) (N := some 37) #[I,I,I,I,I,I,I,I,I,I,I,I,I,I,I,I,I,I,I,I,I,I,I,I,I,I,I,O,O,O,O,O,O,O,O,O,O,O,O,O,O,O,O,O,O,O,O,O,O,O,O,O,O,O] ?_
          refine pu (i := 27) (N := some 38) #[I,I,I,I,I,I,I,I,I,I,I,I,I,I,I,I,I,I,I,I,I,I,I,I,I,I,I,I,O,O,O,O,O,O,O,O,O,O,O,O,O,O,O,O,O,O,O,O,O,O,O,O,O,O] ?_
          refine pu (i := 28) (N := some 39) #[I,I,I,I,I,I,I,I,I,I,I,I,I,I,I,I,I,I,I,I,I,I,I,I,I,I,I,I,I,O,O,O,O,O,O,O,O,O,O,O,O,O,O,O,O,O,O,O,O,O,O,O,O,O] ?_
          refine pu (i := 29) (N := some 40) #[I,I,I,I,I,I,I,I,I,I,I,I,I,I,I,I,I,I,I,I,I,I,I,I,I,I,I,I,I,I,O,O,O,O,O,O,O,O,O,O,O,O,O,O,O,O,O,O,O,O,O,O,O,O] ?_
          refine pu (i := 30) (N := some 41) #[I,I,I,I,I,I,I,I,I,I,I,I,I,I,I,I,I,I,I,I,I,I,I,I,I,I,I,I,I,I,I,O,O,O,O,O,O,O,O,O,O,O,O,O,O,O,O,O,O,O,O,O,O,O] ?_
          refine pu (i := 31) (N := some 42) #[I,I,I,I,I,I,I,I,I,I,I,I,I,I,I,I,I,I,I,I,I,I,I,I,I,I,I,I,I,I,I,I,O,O,O,O,O,O,O,O,O,O,O,O,O,O,O,O,O,O,O,O,O,O] ?_
          refine pu (i := 32) (N := some 43) #[I,I,I,I,I,I,I,I,I,I,I,I,I,I,I,I,I,I,I,I,I,I,I,I,I,I,I,I,I,I,I,I,I,O,O,O,O,O,O,O,O,O,O,O,O,O,O,O,O,O,O,O,O,O] ?_
          refine pu (i := 33) (N := some 44) #[I,I,I,I,I,I,I,I,I,I,I,I,I,I,I,I,I,I,I,I,I,I,I,I,I,I,I,I,I,I,I,I,I,I,O,O,O,O,O,O,O,O,O,O,O,O,O,O,O,O,O,O,O,O] ?_
          refine pu (i := 34) (N := some 45) #[I,I,I,I,I,I,I,I,I,I,I,I,I,I,I,I,I,I,I,I,I,I,I,I,I,I,I,I,I,I,I,I,I,I,I,O,O,O,O,O,O,O,O,O,O,O,O,O,O,O,O,O,O,O] ?_
          refine pu (i := 35) (N := some 46) #[I,I,I,I,I,I,I,I,I,I,I,I,I,I,I,I,I,I,I,I,I,I,I,I,I,I,I,I,I,I,I,I,I,I,I,I,O,O,O,O,O,O,O,O,O,O,O,O,O,O,O,O,O,O] ?_
          refine pu (i := 36) (N := some 47) #[I,I,I,I,I,I,I,I,I,I,I,I,I,I,I,I,I,I,I,I,I,I,I,I,I,I,I,I,I,I,I,I,I,I,I,I,I,O,O,O,O,O,O,O,O,O,O,O,O,O,O,O,O,O] ?_
          refine pu (i := 37) (N := some 48) #[I,I,I,I,I,I,I,I,I,I,I,I,I,I,I,I,I,I,I,I,I,I,I,I,I,I,I,I,I,I,I,I,I,I,I,I,I,I,O,O,O,O,O,O,O,O,O,O,O,O,O,O,O,O] ?_
          refine pu (i := 38) (N := some 49) #[I,I,I,I,I,I,I,I,I,I,I,I,I,I,I,I,I,I,I,I,I,I,I,I,I,I,I,I,I,I,I,I,I,I,I,I,I,I,I,O,O,O,O,O,O,O,O,O,O,O,O,O,O,O] ?_
          refine pu (i := 39) (N := some 50) #[I,I,I,I,I,I,I,I,I,I,I,I,I,I,I,I,I,I,I,I,I,I,I,I,I,I,I,I,I,I,I,I,I,I,I,I,I,I,I,I,O,O,O,O,O,O,O,O,O,O,O,O,O,O] ?_
          refine pu (i := 40) (N := some 51) #[I,I,I,I,I,I,I,I,I,I,I,I,I,I,I,I,I,I,I,I,I,I,I,I,I,I,I,I,I,I,I,I,I,I,I,I,I,I,I,I,I,O,O,O,O,O,O,O,O,O,O,O,O,O] ?_
          refine pu (i := 41) (N := some 52) #[I,I,I,I,I,I,I,I,I,I,I,I,I,I,I,I,I,I,I,I,I,I,I,I,I,I,I,I,I,I,I,I,I,I,I,I,I,I,I,I,I,I,O,O,O,O,O,O,O,O,O,O,O,O] ?_
          refine pu (i := 42) (N := some 53) #[I,I,I,I,I,I,I,I,I,I,I,I,I,I,I,I,I,I,I,I,I,I,I,I,I,I,I,I,I,I,I,I,I,I,I,I,I,I,I,I,I,I,I,O,O,O,O,O,O,O,O,O,O,O] ?_
          refine pu (i := 43) (N := some 54) #[I,I,I,I,I,I,I,I,I,I,I,I,I,I,I,I,I,I,I,I,I,I,I,I,I,I,I,I,I,I,I,I,I,I,I,I,I,I,I,I,I,I,I,I,O,O,O,O,O,O,O,O,O,O] ?_
          refine pu (i := 44) (N := some 55) #[I,I,I,I,I,I,I,I,I,I,I,I,I,I,I,I,I,I,I,I,I,I,I,I,I,I,I,I,I,I,I,I,I,I,I,I,I,I,I,I,I,I,I,I,I,O,O,O,O,O,O,O,O,O] ?_
          refine pu (i := 45) (N := some 56) #[I,I,I,I,I,I,I,I,I,I,I,I,I,I,I,I,I,I,I,I,I,I,I,I,I,I,I,I,I,I,I,I,I,I,I,I,I,I,I,I,I,I,I,I,I,I,O,O,O,O,O,O,O,O] ?_
          refine pu (i := 46) (N := some 57) #[I,I,I,I,I,I,I,I,I,I,I,I,I,I,I,I,I,I,I,I,I,I,I,I,I,I,I,I,I,I,I,I,I,I,I,I,I,I,I,I,I,I,I,I,I,I,I,O,O,O,O,O,O,O] ?_
          refine pu (i := 47) (N := some 58) #[I,I,I,I,I,I,I,I,I,I,I,I,I,I,I,I,I,I,I,I,I,I,I,I,I,I,I,I,I,I,I,I,I,I,I,I,I,I,I,I,I,I,I,I,I,I,I,I,O,O,O,O,O,O] ?_
          refine pu (i := 48) (N := some 59) #[I,I,I,I,I,I,I,I,I,I,I,I,I,I,I,I,I,I,I,I,I,I,I,I,I,I,I,I,I,I,I,I,I,I,I,I,I,I,I,I,I,I,I,I,I,I,I,I,I,O,O,O,O,O] ?_
          refine pu (i := 49) (N := some 60) #[I,I,I,I,I,I,I,I,I,I,I,I,I,I,I,I,I,I,I,I,I,I,I,I,I,I,I,I,I,I,I,I,I,I,I,I,I,I,I,I,I,I,I,I,I,I,I,I,I,I,O,O,O,O] ?_
          refine pu (i := 50) (N := some 61) #[I,I,I,I,I,I,I,I,I,I,I,I,I,I,I,I,I,I,I,I,I,I,I,I,I,I,I,I,I,I,I,I,I,I,I,I,I,I,I,I,I,I,I,I,I,I,I,I,I,I,I,O,O,O] ?_
          refine pu (i := 51) (N := some 62) #[I,I,I,I,I,I,I,I,I,I,I,I,I,I,I,I,I,I,I,I,I,I,I,I,I,I,I,I,I,I,I,I,I,I,I,I,I,I,I,I,I,I,I,I,I,I,I,I,I,I,I,I,O,O] ?_
          refine pu (i := 52) (N := some 63) #[I,I,I,I,I,I,I,I,I,I,I,I,I,I,I,I,I,I,I,I,I,I,I,I,I,I,I,I,I,I,I,I,I,I,I,I,I,I,I,I,I,I,I,I,I,I,I,I,I,I,I,I,I,O] ?_
          refine pz (i := 53) (N := some 64) #[I,I,I,I,I,I,I,I,I,I,I,I,I,I,I,I,I,I,I,I,I,I,I,I,I,I,I,I,I,I,I,I,I,I,I,I,I,I,I,I,I,I,I,I,I,I,I,I,I,I,I,I,I,I] ?_
          refine done_ (done_of HT_.out (by kernel_rfl)) ?_
          try go_wp2
          go_meet
          case rel => exact ⟨_, (true), ap, H', ⟨by have := HK1.out; have := HJ2.out; first | omega | exact Nat.le_refl _⟩, ⟨by (with_reducible repeat (first | refine blk_drewN ?_ _ | refine blk_drew ?_ | refine blk_alloc ?_ _)); exact BK350.out⟩, ⟨bo⟩⟩
         ·rw [if_neg c15] at H
          have c15b0 : decide (((rd_T25 l0_1 x3_1).f0) < a0_0) = false := decide_eq_false c15
          clear c15
          by_cases c18 : x3_1 > 0
          ·rw [if_pos c18] at H
           have c18b0 : decide (0 < x3_1) = true := decide_eq_true c18
           clear c18
           obtain ⟨ji19, hji19⟩ : ∃ j_ : Int, (wrap64 (x3_1 - 1)) = j_ := ⟨_, rfl⟩
           replace H : (if 0 ≤ (ji19) then (if (ji19) < (l0_1.length : Int) then (if ((rd_T25 l0_1 (ji19)).f0) ≥ ((rd_T25 l0_1 x3_1).f0) then (fairwayref10_Seg.j2 kj2 x3_1 true a0_0 l0_1) else (fairwayref10_Seg.j2 kj2 x3_1 (decide (((rd_T25 l0_1 (ji19)).f1) > ((rd_T25 l0_1 x3_1).f1))) a0_0 l0_1)) else (none)) else (none)) = some r := by first | (rw [hji19] at H; exact H) | (simp only [hji19] at H ⊢; exact H)
           (try rw [hji19] at A13)
           have hji19w : (IntKind.i64.wrap (x3_1 - 1)) = ji19 := (i64_w _).trans hji19
           by_cases c20 : 0 ≤ (ji19)
           ·rw [if_pos c20] at H
            have c20b0 : decide (0 ≤ (ji19)) = true := decide_eq_true c20
            clear c20
            by_cases c21 : (ji19) < (l0_1.length : Int)
            ·rw [if_pos c21] at H
             have c21b0 : decide ((ji19) < (l0_1.length : Int)) = true := decide_eq_true c21
             clear c21
             by_cases c22 : ((rd_T25 l0_1 (ji19)).f0) ≥ ((rd_T25 l0_1 x3_1).f0)
             ·rw [if_pos c22] at H
              have c22b0 : decide (((rd_T25 l0_1 x3_1).f0) ≤ ((rd_T25 l0_1 (ji19)).f0)) = true := decide_eq_true c22
              clear c22
              have H' := Aside0.mk H
              clear H
              try go_wp2
              replace BK350 := Aside0.mk (blk_drew BK350.out)
              replace HB := Aside0.mk (below_drew1 HB.out)
              have p352 : 0 ≤ (x3_1 : Int) := od
              have q352 : x3_1 < (l0_1.length : Int) := od
              obtain ⟨ad352, e352, hx352_0, hx352_1, hx352_2, hx352_3, hx352_4, hx352_5⟩ := at_T25 HR0_1.out x3_1 p352 q352
              have hw352_5 := hx352_5
              have hw352_4 := hx352_4
              have hw352_3 := hx352_3
              have hw352_2 := hx352_2
              have hw352_1 := hx352_1
              have hw352_0 := hx352_0
              cases e352
              replace hx352_0 := cx HB.out hx352_0
              replace hx352_1 := cx HB.out hx352_1
              replace hx352_2 := cx HB.out hx352_2
              replace hx352_3 := cx HB.out hx352_3
              replace hx352_4 := cx HB.out hx352_4
              replace hx352_5 := cx HB.out hx352_5
              replace p352 := eq_true p352
              replace q352 := eq_true q352
              have p354 : 0 ≤ (x3_1 : Int) := od
              have q354 : x3_1 < (l0_1.length : Int) := od
              obtain ⟨ad354, e354, hx354_0, hx354_1, hx354_2, hx354_3, hx354_4, hx354_5⟩ := at_T25 HR0_1.out x3_1 p354 q354
              have hw354_5 := hx354_5
              have hw354_4 := hx354_4
              have hw354_3 := hx354_3
              have hw354_2 := hx354_2
              have hw354_1 := hx354_1
              have hw354_0 := hx354_0
              obtain rfl : ad352 = ad354 := (by injection e354)
              replace hx354_0 := cx HB.out hx354_0
              replace hx354_1 := cx HB.out hx354_1
              replace hx354_2 := cx HB.out hx354_2
              replace hx354_3 := cx HB.out hx354_3
              replace hx354_4 := cx HB.out hx354_4
              replace hx354_5 := cx HB.out hx354_5
              replace p354 := eq_true p354
              replace q354 := eq_true q354
              have p355 : 0 ≤ ((ji19) : Int) := od
              have q355 : (ji19) < (l0_1.length : Int) := od
              obtain ⟨ad355, e355, hx355_0, hx355_1, hx355_2, hx355_3, hx355_4, hx355_5⟩ := at_T25 HR0_1.out (ji19) p355 q355
              have hw355_5 := hx355_5
              have hw355_4 := hx355_4
              have hw355_3 := hx355_3
              have hw355_2 := hx355_2
              have hw355_1 := hx355_1
              have hw355_0 := hx355_0
              obtain rfl : ad352 = ad355 := (by injection e355)
              replace hx355_0 := cx HB.out hx355_0
              replace hx355_1 := cx HB.out hx355_1
              replace hx355_2 := cx HB.out hx355_2
              replace hx355_3 := cx HB.out hx355_3
              replace hx355_4 := cx HB.out hx355_4
              replace hx355_5 := cx HB.out hx355_5
              replace p355 := eq_true p355
              replace q355 := eq_true q355
              have p356 : 0 ≤ (x3_1 : Int) := od
              have q356 : x3_1 < (l0_1.length : Int) := od
              obtain ⟨ad356, e356, hx356_0, hx356_1, hx356_2, hx356_3, hx356_4, hx356_5⟩ := at_T25 HR0_1.out x3_1 p356 q356
              have hw356_5 := hx356_5
              have hw356_4 := hx356_4
              have hw356_3 := hx356_3
              have hw356_2 := hx356_2
              have hw356_1 := hx356_1
              have hw356_0 := hx356_0
              obtain rfl : ad352 = ad356 := (by injection e356)
              replace hx356_0 := cx HB.out hx356_0
              replace hx356_1 := cx HB.out hx356_1
              replace hx356_2 := cx HB.out hx356_2
              replace hx356_3 := cx HB.out hx356_3
              replace hx356_4 := cx HB.out hx356_4
              replace hx356_5 := cx HB.out hx356_5
              replace p356 := eq_true p356
              replace q356 := eq_true q356
              refine start_ (n := 54) (S := fun w' => w'.cell? ⟨gb350, 0, none⟩ = some (.int .i64 a0_0) ∧ w'.cell? ⟨gb350, 1, none⟩ = some (.slice (some ad352) l0_1.length c0_1) ∧ w'.cell? (ad352.add ((x3_1).toNat * 6)) = some (.int .i64 ((rd_T25 l0_1 x3_1).f0)) ∧ w'.cell? ⟨(ad352.add ((x3_1).toNat * 6)).block, (ad352.add ((x3_1).toNat * 6)).off + 1, none⟩ = some (.int .i64 ((rd_T25 l0_1 x3_1).f1)) ∧ w'.cell? ⟨(ad352.add ((x3_1).toNat * 6)).block, (ad352.add ((x3_1).toNat * 6)).off + 2, none⟩ = some (.string ((rd_T25 l0_1 x3_1).f2)) ∧ w'.cell? ⟨(ad352.add ((x3_1).toNat * 6)).block, (ad352.add ((x3_1).toNat * 6)).off + 3, none⟩ = some (.string ((rd_T25 l0_1 x3_1).f3)) ∧ w'.cell? ⟨(ad352.add ((x3_1).toNat * 6)).block, (ad352.add ((x3_1).toNat * 6)).off + 4, none⟩ = some (.int .i64 ((rd_T25 l0_1 x3_1).f4)) ∧ w'.cell? ⟨(ad352.add ((x3_1).toNat * 6)).block, (ad352.add ((x3_1).toNat * 6)).off + 5, none⟩ = some (.bool ((rd_T25 l0_1 x3_1).f5)) ∧ w'.cell? (ad352.add ((x3_1).toNat * 6)) = some (.int .i64 ((rd_T25 l0_1 x3_1).f0)) ∧ w'.cell? ⟨(ad352.add ((x3_1).toNat * 6)).block, (ad352.add ((x3_1).toNat * 6)).off + 1, none⟩ = some (.int .i64 ((rd_T25 l0_1 x3_1).f1)) ∧ w'.cell? ⟨(ad352.add ((x3_1).toNat * 6)).block, (ad352.add ((x3_1).toNat * 6)).off + 2, none⟩ = some (.string ((rd_T25 l0_1 x3_1).f2)) ∧ w'.cell? ⟨(ad352.add ((x3_1).toNat * 6)).block, (ad352.add ((x3_1).toNat * 6)).off + 3, none⟩ = some (.string ((rd_T25 l0_1 x3_1).f3)) ∧ w'.cell? ⟨(ad352.add ((x3_1).toNat * 6)).block, (ad352.add ((x3_1).toNat * 6)).off + 4, none⟩ = some (.int .i64 ((rd_T25 l0_1 x3_1).f4)) ∧ w'.cell? ⟨(ad352.add ((x3_1).toNat * 6)).block, (ad352.add ((x3_1).toNat * 6)).off + 5, none⟩ = some (.bool ((rd_T25 l0_1 x3_1).f5)) ∧ w'.cell? (ad352.add (((ji19)).toNat * 6)) = some (.int .i64 ((rd_T25 l0_1 (ji19)).f0)) ∧ w'.cell? ⟨(ad352.add (((ji19)).toNat * 6)).block, (ad352.add (((ji19)).toNat * 6)).off + 1, none⟩ = some (.int .i64 ((rd_T25 l0_1 (ji19)).f1)) ∧ w'.cell? ⟨(ad352.add (((ji19)).toNat * 6)).block, (ad352.add (((ji19)).toNat * 6)).off + 2, none⟩ = some (.string ((rd_T25 l0_1 (ji19)).f2)) ∧ w'.cell? ⟨(ad352.add (((ji19)).toNat * 6)).block, (ad352.add (((ji19)).toNat * 6)).off + 3, none⟩ = some (.string ((rd_T25 l0_1 (ji19)).f3)) ∧ w'.cell? ⟨(ad352.add (((ji19)).toNat * 6)).block, (ad352.add (((ji19)).toNat * 6)).off + 4, none⟩ = some (.int .i64 ((rd_T25 l0_1 (ji19)).f4)) ∧ w'.cell? ⟨(ad352.add (((ji19)).toNat * 6)).block, (ad352.add (((ji19)).toNat * 6)).off + 5, none⟩ = some (.bool ((rd_T25 l0_1 (ji19)).f5)) ∧ w'.cell? (ad352.add ((x3_1).toNat * 6)) = some (.int .i64 ((rd_T25 l0_1 x3_1).f0)) ∧ w'.cell? ⟨(ad352.add ((x3_1).toNat * 6)).block, (ad352.add ((x3_1).toNat * 6)).off + 1, none⟩ = some (.int .i64 ((rd_T25 l0_1 x3_1).f1)) ∧ w'.cell? ⟨(ad352.add ((x3_1).toNat * 6)).block, (ad352.add ((x3_1).toNat * 6)).off + 2, none⟩ = some (.string ((rd_T25 l0_1 x3_1).f2)) ∧ w'.cell? ⟨(ad352.add ((x3_1).toNat * 6)).block, (ad352.add ((x3_1).toNat * 6)).off + 3, none⟩ = some (.string ((rd_T25 l0_1 x3_1).f3)) ∧ w'.cell? ⟨(ad352.add ((x3_1).toNat * 6)).block, (ad352.add ((x3_1).toNat * 6)).off + 4, none⟩ = some (.int .i64 ((rd_T25 l0_1 x3_1).f4)) ∧ w'.cell? ⟨(ad352.add ((x3_1).toNat * 6)).block, (ad352.add ((x3_1).toNat * 6)).off + 5, none⟩ = some (.bool ((rd_T25 l0_1 x3_1).f5))) (ds := []) #[O,O,O,O,O,O,O,O,O,O,O,O,O,O,O,O,O,O,O,O,O,O,O,O,O,O,O,O,O,O,O,O,O,O,O,O,O,O,O,O,O,O,O,O,O,O,O,O,O,O,O,O,O,O] (by kernel_rfl) rfl rfl ⟨(blk_cell BK350.out 0).trans rfl, (blk_cell BK350.out 1).trans rfl, ((HB.out.cell (World.block_lt_of_cell? w _ hw352_0)).trans hw352_0), ((HB.out.cell (World.block_lt_of_cell? w _ hw352_1)).trans hw352_1), ((HB.out.cell (World.block_lt_of_cell? w _ hw352_2)).trans hw352_2), ((HB.out.cell (World.block_lt_of_cell? w _ hw352_3)).trans hw352_3), ((HB.out.cell (World.block_lt_of_cell? w _ hw352_4)).trans hw352_4), ((HB.out.cell (World.block_lt_of_cell? w _ hw352_5)).trans hw352_5), ((HB.out.cell (World.block_lt_of_cell? w _ hw354_0)).trans hw354_0), ((HB.out.cell (World.block_lt_of_cell? w _ hw354_1)).trans hw354_1), ((HB.out.cell (World.block_lt_of_cell? w _ hw354_2)).trans hw354_2), ((HB.out.cell (World.block_lt_of_cell? w _ hw354_3)).trans hw354_3), ((HB.out.cell (World.block_lt_of_cell? w _ hw354_4)).trans hw354_4), ((HB.out.cell (World.block_lt_of_cell? w _ hw354_5)).trans hw354_5), ((HB.out.cell (World.block_lt_of_cell? w _ hw355_0)).trans hw355_0), ((HB.out.cell (World.block_lt_of_cell? w _ hw355_1)).trans hw355_1), ((HB.out.cell (World.block_lt_of_cell? w _ hw355_2)).trans hw355_2), ((HB.out.cell (World.block_lt_of_cell? w _ hw355_3)).trans hw355_3), ((HB.out.cell (World.block_lt_of_cell? w _ hw355_4)).trans hw355_4), ((HB.out.cell (World.block_lt_of_cell? w _ hw355_5)).trans hw355_5), ((HB.out.cell (World.block_lt_of_cell? w _ hw356_0)).trans hw356_0), ((HB.out.cell (World.block_lt_of_cell? w _ hw356_1)).trans hw356_1), ((HB.out.cell (World.block_lt_of_cell? w _ hw356_2)).trans hw356_2), ((HB.out.cell (World.block_lt_of_cell? w _ hw356_3)).trans hw356_3), ((HB.out.cell (World.block_lt_of_cell? w _ hw356_4)).trans hw356_4), ((HB.out.cell (World.block_lt_of_cell? w _ hw356_5)).trans hw356_5)⟩ (fun hHeld => ?_); refine with_tabW fairwayref10_Seg.tab4 fairwayref10_Seg.bits4 (fun HT_ HW_ => ?_)
              generalize wc.drew = w23 at BK350 HB hx352_0 hx352_1 hx352_2 hx352_3 hx352_4 hx352_5 hx354_0 hx354_1 hx354_2 hx354_3 hx354_4 hx354_5 hx355_0 hx355_1 hx355_2 hx355_3 hx355_4 hx355_5 hx356_0 hx356_1 hx356_2 hx356_3 hx356_4 hx356_5 hHeld ⊢
              refine pz (i := 0) (N := some 11) #[I,O,O,O,O,O,O,O,O,O,O,O,O,O,O,O,O,O,O,O,O,O,O,O,O,O,O,O,O,O,O,O,O,O,O,O,O,O,O,O,O,O,O,O,O,O,O,O,O,O,O,O,O,O] ?_
              refine pz (i := 2) (N := some 13) #[I,O,I,O,O,O,O,O,O,O,O,O,O,O,O,O,O,O,O,O,O,O,O,O,O,O,O,O,O,O,O,O,O,O,O,O,O,O,O,O,O,O,O,O,O,O,O,O,O,O,O,O,O,O] ?_
              refine tz (i := 1) (N := some 12) #[I,I,I,O,O,O,O,O,O,O,O,O,O,O,O,O,O,O,O,O,O,O,O,O,O,O,O,O,O,O,O,O,O,O,O,O,O,O,O,O,O,O,O,O,O,O,O,O,O,O,O,O,O,O] ?_
              refine pz (i := 3) (N := some 14) #[I,I,I,I,O,O,O,O,O,O,O,O,O,O,O,O,O,O,O,O,O,O,O,O,O,O,O,O,O,O,O,O,O,O,O,O,O,O,O,O,O,O,O,O,O,O,O,O,O,O,O,O,O,O] ?_
              refine tz (i := 4) (N := some 15) #[I,I,I,I,I,O,O,O,O,O,O,O,O,O,O,O,O,O,O,O,O,O,O,O,O,O,O,O,O,O,O,O,O,O,O,O,O,O,O,O,O,O,O,O,O,O,O,O,O,O,O,O,O,O] ?_
              refine one_ (i := 5) (N := some 16) #[I,I,I,I,I,I,O,O,O,O,O,O,O,O,O,O,O,O,O,O,O,O,O,O,O,O,O,O,O,O,O,O,O,O,O,O,O,O,O,O,O,O,O,O,O,O,O,O,O,O,O,O,O,O] rfl rfl (one_of HT_.out (by kernel_rfl)) (by decide) (fun K hK => ?_)
              refine goes_ Try.func17 (by kernel_rfl) rfl #[.agg #[.int .i64 ((rd_T25 l0_1 x3_1).f0), .int .i64 ((rd_T25 l0_1 x3_1).f1), .string ((rd_T25 l0_1 x3_1).f2), .string ((rd_T25 l0_1 x3_1).f3), .int .i64 ((rd_T25 l0_1 x3_1).f4), .bool ((rd_T25 l0_1 x3_1).f5)]] (by rfl) rfl rfl aa ?_
              with_reducible refine (fairwayref10_Rec.calls ((rd_T25 l0_1 x3_1).f0) ((rd_T25 l0_1 x3_1).f1) ((rd_T25 l0_1 x3_1).f2) ((rd_T25 l0_1 x3_1).f3) ((rd_T25 l0_1 x3_1).f4) ((rd_T25 l0_1 x3_1).f5) true _ A13.out).mono ?_
              rintro e w24 ⟨rfl, hb⟩
              refine ⟨_, rfl, ?_⟩
              replace BK350 := Aside0.mk (blk_below (g := gb350) (o := .cells #[.int .i64 a0_0, .slice (some ad352) l0_1.length c0_1] 53 (0, 0)) (bk BK350.out) hb)
              replace HB := Aside0.mk (below_step bo hb)
              (try clear hb)
              (try clear hb2)
              (try clear hk)
              (try clear hi)
              refine hK.out _ _ ⟨(blk_cell BK350.out 0).trans rfl, (blk_cell BK350.out 1).trans rfl, ((HB.out.cell (World.block_lt_of_cell? w _ hw352_0)).trans hw352_0), ((HB.out.cell (World.block_lt_of_cell? w _ hw352_1)).trans hw352_1), ((HB.out.cell (World.block_lt_of_cell? w _ hw352_2)).trans hw352_2), ((HB.out.cell (World.block_lt_of_cell? w _ hw352_3)).trans hw352_3), ((HB.out.cell (World.block_lt_of_cell? w _ hw352_4)).trans hw352_4), ((HB.out.cell (World.block_lt_of_cell? w _ hw352_5)).trans hw352_5), ((HB.out.cell (World.block_lt_of_cell? w _ hw354_0)).trans hw354_0), ((HB.out.cell (World.block_lt_of_cell? w _ hw354_1)).trans hw354_1), ((HB.out.cell (World.block_lt_of_cell? w _ hw354_2)).trans hw354_2), ((HB.out.cell (World.block_lt_of_cell? w _ hw354_3)).trans hw354_3), ((HB.out.cell (World.block_lt_of_cell? w _ hw354_4)).trans hw354_4), ((HB.out.cell (World.block_lt_of_cell? w _ hw354_5)).trans hw354_5), ((HB.out.cell (World.block_lt_of_cell? w _ hw355_0)).trans hw355_0), ((HB.out.cell (World.block_lt_of_cell? w _ hw355_1)).trans hw355_1), ((HB.out.cell (World.block_lt_of_cell? w _ hw355_2)).trans hw355_2), ((HB.out.cell (World.block_lt_of_cell? w _ hw355_3)).trans hw355_3), ((HB.out.cell (World.block_lt_of_cell? w _ hw355_4)).trans hw355_4), ((HB.out.cell (World.block_lt_of_cell? w _ hw355_5)).trans hw355_5), ((HB.out.cell (World.block_lt_of_cell? w _ hw356_0)).trans hw356_0), ((HB.out.cell (World.block_lt_of_cell? w _ hw356_1)).trans hw356_1), ((HB.out.cell (World.block_lt_of_cell? w _ hw356_2)).trans hw356_2), ((HB.out.cell (World.block_lt_of_cell? w _ hw356_3)).trans hw356_3), ((HB.out.cell (World.block_lt_of_cell? w _ hw356_4)).trans hw356_4), ((HB.out.cell (World.block_lt_of_cell? w _ hw356_5)).trans hw356_5)⟩ (fun hHeld => ?_)
              clear hK K
              refine norm_ (a' := ?_) ?_ ?_
              rotate_left
              ·show Act.put _ (some 16) _ = _
               simp only [Act.put, List.setIfInBounds_toArray, List.set_cons_zero, List.set_cons_succ, i64_w, i32_w]
               rfl
              refine pz (i := 6) (N := some 17) #[I,I,I,I,I,I,I,O,O,O,O,O,O,O,O,O,O,O,O,O,O,O,O,O,O,O,O,O,O,O,O,O,O,O,O,O,O,O,O,O,O,O,O,O,O,O,O,O,O,O,O,O,O,O] ?_
              refine pz (i := 7) (N := some 18) #[I,I,I,I,I,I,I,I,O,O,O,O,O,O,O,O,O,O,O,O,O,O,O,O,O,O,O,O,O,O,O,O,O,O,O,O,O,O,O,O,O,O,O,O,O,O,O,O,O,O,O,O,O,O] ?_
              refine pz (i := 8) (N := some 19) #[I,I,I,I,I,I,I,I,I,O,O,O,O,O,O,O,O,O,O,O,O,O,O,O,O,O,O,O,O,O,O,O,O,O,O,O,O,O,O,O,O,O,O,O,O,O,O,O,O,O,O,O,O,O] ?_
              refine pz (i := 10) (N := some 21) #[I,I,I,I,I,I,I,I,I,O,I,O,O,O,O,O,O,O,O,O,O,O,O,O,O,O,O,O,O,O,O,O,O,O,O,O,O,O,O,O,O,O,O,O,O,O,O,O,O,O,O,O,O,O] ?_
              refine pz (i := 14) (N := some 25) #[I,I,I,I,I,I,I,I,I,O,I,O,O,O,I,O,O,O,O,O,O,O,O,O,O,O,O,O,O,O,O,O,O,O,O,O,O,O,O,O,O,O,O,O,O,O,O,O,O,O,O,O,O,O] ?_
              refine tz (i := 9) (N := some 20) #[I,I,I,I,I,I,I,I,I,I,I,O,O,O,I,O,O,O,O,O,O,O,O,O,O,O,O,O,O,O,O,O,O,O,O,O,O,O,O,O,O,O,O,O,O,O,O,O,O,O,O,O,O,O] ?_
              refine pz (i := 11) (N := some 22) #[I,I,I,I,I,I,I,I,I,I,I,I,O,O,I,O,O,O,O,O,O,O,O,O,O,O,O,O,O,O,O,O,O,O,O,O,O,O,O,O,O,O,O,O,O,O,O,O,O,O,O,O,O,O] ?_
              refine pz (i := 12) (N := some 23) #[I,I,I,I,I,I,I,I,I,I,I,I,I,O,I,O,O,O,O,O,O,O,O,O,O,O,O,O,O,O,O,O,O,O,O,O,O,O,O,O,O,O,O,O,O,O,O,O,O,O,O,O,O,O] ?_
              refine tz (i := 13) (N := some 24) #[I,I,I,I,I,I,I,I,I,I,I,I,I,I,I,O,O,O,O,O,O,O,O,O,O,O,O,O,O,O,O,O,O,O,O,O,O,O,O,O,O,O,O,O,O,O,O,O,O,O,O,O,O,O] ?_
              refine tz (i := 15) (N := some 26) #[I,I,I,I,I,I,I,I,I,I,I,I,I,I,I,I,O,O,O,O,O,O,O,O,O,O,O,O,O,O,O,O,O,O,O,O,O,O,O,O,O,O,O,O,O,O,O,O,O,O,O,O,O,O] ?_
              refine pz (i := 16) (N := some 27) #[I,I,I,I,I,I,I,I,I,I,I,I,I,I,I,I,I,O,O,O,O,O,O,O,O,O,O,O,O,O,O,O,O,O,O,O,O,O,O,O,O,O,O,O,O,O,O,O,O,O,O,O,O,O] ?_
              refine pz (i := 17) (N := some 28) #[I,I,I,I,I,I,I,I,I,I,I,I,I,I,I,I,I,I,O,O,O,O,O,O,O,O,O,O,O,O,O,O,O,O,O,O,O,O,O,O,O,O,O,O,O,O,O,O,O,O,O,O,O,O] ?_
              refine pz (i := 18) (N := some 29) #[I,I,I,I,I,I,I,I,I,I,I,I,I,I,I,I,I,I,I,O,O,O,O,O,O,O,O,O,O,O,O,O,O,O,O,O,O,O,O,O,O,O,O,O,O,O,O,O,O,O,O,O,O,O] ?_
              refine pz (i := 19) (N := some 30) #[I,I,I,I,I,I,I,I,I,I,I,I,I,I,I,I,I,I,I,I,O,O,O,O,O,O,O,O,O,O,O,O,O,O,O,O,O,O,O,O,O,O,O,O,O,O,O,O,O,O,O,O,O,O] ?_
              refine pz (i := 20) (N := some 31) #[I,I,I,I,I,I,I,I,I,I,I,I,I,I,I,I,I,I,I,I,I,O,O,O,O,O,O,O,O,O,O,O,O,O,O,O,O,O,O,O,O,O,O,O,O,O,O,O,O,O,O,O,O,O] ?_
              refine pz (i := 21) (N := some 32) #[I,I,I,I,I,I,I,I,I,I,I,I,I,I,I,I,I,I,I,I,I,I,O,O,O,O,O,O,O,O,O,O,O,O,O,O,O,O,O,O,O,O,O,O,O,O,O,O,O,O,O,O,O,O] ?_
              refine pz (i := 22) (N := some 33) #[I,I,I,I,I,I,I,I,I,I,I,I,I,I,I,I,I,I,I,I,I,I,I,O,O,O,O,O,O,O,O,O,O,O,O,O,O,O,O,O,O,O,O,O,O,O,O,O,O,O,O,O,O,O] ?_
              refine pz (i := 24) (N := some 35) #[I,I,I,I,I,I,I,I,I,I,I,I,I,I,I,I,I,I,I,I,I,I,I,O,I,O,O,O,O,O,O,O,O,O,O,O,O,O,O,O,O,O,O,O,O,O,O,O,O,O,O,O,O,O] ?_
              refine pz (i := 25) (N := some 36) #[I,I,I,I,I,I,I,I,I,I,I,I,I,I,I,I,I,I,I,I,I,I,I,O,I,I,O,O,O,O,O,O,O,O,O,O,O,O,O,O,O,O,O,O,O,O,O,O,O,O,O,O,O,O] ?_
              refine pz (i := 29) (N := some 40) #[I,I,I,I,I,I,I,I,I,I,I,I,I,I,I,I,I,I,I,I,I,I,I,O,I,I,O,O,O,I,O,O,O,O,O,O,O,O,O,O,O,O,O,O,O,O,O,O,O,O,O,O,O,O] ?_
              refine pz (i := 31) (N := some 42) #[I,I,I,I,I,I,I,I,I,I,I,I,I,I,I,I,I,I,I,I,I,I,I,O,I,I,O,O,O,I,O,I,O,O,O,O,O,O,O,O,O,O,O,O,O,O,O,O,O,O,O,O,O,O] ?_
              refine tz (i := 23) (N := some 34) #[I,I,I,I,I,I,I,I,I,I,I,I,I,I,I,I,I,I,I,I,I,I,I,I,I,I,O,O,O,I,O,I,O,O,O,O,O,O,O,O,O,O,O,O,O,O,O,O,O,O,O,O,O,O] ?_
              refine pz (i := 26) (N := some 37) #[I,I,I,I,I,I,I,I,I,I,I,I,I,I,I,I,I,I,I,I,I,I,I,I,I,I,I,O,O,I,O,I,O,O,O,O,O,O,O,O,O,O,O,O,O,O,O,O,O,O,O,O,O,O] ?_
              refine pz (i := 27) (N := some 38) #[I,I,I,I,I,I,I,I,I,I,I,I,I,I,I,I,I,I,I,I,I,I,I,I,I,I,I,I,O,I,O,I,O,O,O,O,O,O,O,O,O,O,O,O,O,O,O,O,O,O,O,O,O,O] ?_
              refine tz (i := 28) (N := some 39) #[I,I,I,I,I,I,I,I,I,I,I,I,I,I,I,I,I,I,I,I,I,I,I,I,I,I,I,I,I,I,O,I,O,O,O,O,O,O,O,O,O,O,O,O,O,O,O,O,O,O,O,O,O,O] ?_
              refine tz (i := 30) (N := some 41) #[I,I,I,I,I,I,I,I,I,I,I,I,I,I,I,I,I,I,I,I,I,I,I,I,I,I,I,I,I,I,I,I,O,O,O,O,O,O,O,O,O,O,O,O,O,O,O,O,O,O,O,O,O,O] ?_
              refine pz (i := 32) (N := some 43) #[I,I,I,I,I,I,I,I,I,I,I,I,I,I,I,I,I,I,I,I,I,I,I,I,I,I,I,I,I,I,I,I,I,O,O,O,O,O,O,O,O,O,O,O,O,O,O,O,O,O,O,O,O,O] ?_
              refine pz (i := 33) (N := some 44) #[I,I,I,I,I,I,I,I,I,I,I,I,I,I,I,I,I,I,I,I,I,I,I,I,I,I,I,I,I,I,I,I,I,I,O,O,O,O,O,O,O,O,O,O,O,O,O,O,O,O,O,O,O,O] ?_
              refine tz (i := 34) (N := some 45) #[I,I,I,I,I,I,I,I,I,I,I,I,I,I,I,I,I,I,I,I,I,I,I,I,I,I,I,I,I,I,I,I,I,I,I,O,O,O,O,O,O,O,O,O,O,O,O,O,O,O,O,O,O,O] ?_
              refine pz (i := 35) (N := some 46) #[I,I,I,I,I,I,I,I,I,I,I,I,I,I,I,I,I,I,I,I,I,I,I,I,I,I,I,I,I,I,I,I,I,I,I,I,O,O,O,O,O,O,O,O,O,O,O,O,O,O,O,O,O,O] ?_
              refine pz (i := 36) (N := some 47) #[I,I,I,I,I,I,I,I,I,I,I,I,I,I,I,I,I,I,I,I,I,I,I,I,I,I,I,I,I,I,I,I,I,I,I,I,I,O,O,O,O,O,O,O,O,O,O,O,O,O,O,O,O,O] ?_
              refine pu (i := 37) (N := some 48) #[I,I,I,I,I,I,I,I,I,I,I,I,I,I,I,I,I,I,I,I,I,I,I,I,I,I,I,I,I,I,I,I,I,I,I,I,I,I,O,O,O,O,O,O,O,O,O,O,O,O,O,O,O,O] ?_
              refine pu (i := 38) (N := some 49) #[I,I,I,I,I,I,I,I,I,I,I,I,I,I,I,I,I,I,I,I,I,I,I,I,I,I,I,I,I,I,I,I,I,I,I,I,I,I,I,O,O,O,O,O,O,O,O,O,O,O,O,O,O,O] ?_
              refine pu (i := 39) (N := some 50) #[I,I,I,I,I,I,I,I,I,I,I,I,I,I,I,I,I,I,I,I,I,I,I,I,I,I,I,I,I,I,I,I,I,I,I,I,I,I,I,I,O,O,O,O,O,O,O,O,O,O,O,O,O,O] ?_
              refine pu (i := 40) (N := some 51) #[I,I,I,I,I,I,I,I,I,I,I,I,I,I,I,I,I,I,I,I,I,I,I,I,I,I,I,I,I,I,I,I,I,I,I,I,I,I,I,I,I,O,O,O,O,O,O,O,O,O,O,O,O,O] ?_
              refine pu (i := 41) (N := some 52) #[I,I,I,I,I,I,I,I,I,I,I,I,I,I,I,I,I,I,I,I,I,I,I,I,I,I,I,I,I,I,I,I,I,I,I,I,I,I,I,I,I,I,O,O,O,O,O,O,O,O,O,O,O,O] ?_
              refine pu (i := 42) (N := some 53) #[I,I,I,I,I,I,I,I,I,I,I,I,I,I,I,I,I,I,I,I,I,I,I,I,I,I,I,I,I,I,I,I,I,I,I,I,I,I,I,I,I,I,I,O,O,O,O,O,O,O,O,O,O,O] ?_
              refine pu (i := 43) (N := some 54) #[I,I,I,I,I,I,I,I,I,I,I,I,I,I,I,I,I,I,I,I,I,I,I,I,I,I,I,I,I,I,I,I,I,I,I,I,I,I,I,I,I,I,I,I,O,O,O,O,O,O,O,O,O,O] ?_
              refine pu (i := 44) (N := some 55) #[I,I,I,I,I,I,I,I,I,I,I,I,I,I,I,I,I,I,I,I,I,I,I,I,I,I,I,I,I,I,I,I,I,I,I,I,I,I,I,I,I,I,I,I,I,O,O,O,O,O,O,O,O,O] ?_
              refine pu (i := 45) (N := some 56) #[I,I,I,I,I,I,I,I,I,I,I,I,I,I,I,I,I,I,I,I,I,I,I,I,I,I,I,I,I,I,I,I,I,I,I,I,I,I,I,I,I,I,I,I,I,I,O,O,O,O,O,O,O,O] ?_
              refine pu (i := 46) (N := some 57) #[I,I,I,I,I,I,I,I,I,I,I,I,I,I,I,I,I,I,I,I,I,I,I,I,I,I,I,I,I,I,I,I,I,I,I,I,I,I,I,I,I,I,I,I,I,I,I,O,O,O,O,O,O,O] ?_
              refine pu (i := 47) (N := some 58) #[I,I,I,I,I,I,I,I,I,I,I,I,I,I,I,I,I,I,I,I,I,I,I,I,I,I,I,I,I,I,I,I,I,I,I,I,I,I,I,I,I,I,I,I,I,I,I,I,O,O,O,O,O,O] ?_
              refine pu (i := 48) (N := some 59) #[I,I,I,I,I,I,I,I,I,I,I,I,I,I,I,I,I,I,I,I,I,I,I,I,I,I,I,I,I,I,I,I,I,I,I,I,I,I,I,I,I,I,I,I,I,I,I,I,I,O,O,O,O,O] ?_
              refine pu (i := 49) (N := some 60) #[I,I,I,I,I,I,I,I,I,I,I,I,I,I,I,I,I,I,I,I,I,I,I,I,I,I,I,I,I,I,I,I,I,I,I,I,I,I,I,I,I,I,I,I,I,I,I,I,I,I,O,O,O,O] ?_
              refine pu (i := 50) (N := some 61) #[I,I,I,I,I,I,I,I,I,I,I,I,I,I,I,I,I,I,I,I,I,I,I,I,I,I,I,I,I,I,I,I,I,I,I,I,I,I,I,I,I,I,I,I,I,I,I,I,I,I,I,O,O,O] ?_
              refine pz (i := 51) (N := some 62) #[I,I,I,I,I,I,I,I,I,I,I,I,I,I,I,I,I,I,I,I,I,I,I,I,I,I,I,I,I,I,I,I,I,I,I,I,I,I,I,I,I,I,I,I,I,I,I,I,I,I,I,I,O,O] ?_
              refine pz (i := 52) (N := some 63) #[I,I,I,I,I,I,I,I,I,I,I,I,I,I,I,I,I,I,I,I,I,I,I,I,I,I,I,I,I,I,I,I,I,I,I,I,I,I,I,I,I,I,I,I,I,I,I,I,I,I,I,I,I,O] ?_
              refine pz (i := 53) (N := some 64) #[I,I,I,I,I,I,I,I,I,I,I,I,I,I,I,I,I,I,I,I,I,I,I,I,I,I,I,I,I,I,I,I,I,I,I,I,I,I,I,I,I,I,I,I,I,I,I,I,I,I,I,I,I,I] ?_
              refine done_ (done_of HT_.out (by kernel_rfl)) ?_
              try go_wp2
              go_meet
              case rel => exact ⟨_, (true), ap, H', ⟨by have := HK1.out; have := HJ2.out; first | omega | exact Nat.le_refl _⟩, ⟨by (with_reducible repeat (first | refine blk_drewN ?_ _ | refine blk_drew ?_ | refine blk_alloc ?_ _)); exact BK350.out⟩, ⟨bo⟩⟩
             ·rw [if_neg c22] at H
              have c22b0 : decide (((rd_T25 l0_1 x3_1).f0) ≤ ((rd_T25 l0_1 (ji19)).f0)) = false := decide_eq_false c22
              clear c22
              have H' := Aside0.mk H
              clear H
              try go_wp2
              replace BK350 := Aside0.mk (blk_drew BK350.out)
              replace HB := Aside0.mk (below_drew1 HB.out)
              have p352 : 0 ≤ (x3_1 : Int) := od
              have q352 : x3_1 < (l0_1.length : Int) := od
              obtain ⟨ad352, e352, hx352_0, hx352_1, hx352_2, hx352_3, hx352_4, hx352_5⟩ := at_T25 HR0_1.out x3_1 p352 q352
              have hw352_5 := hx352_5
              have hw352_4 := hx352_4
              have hw352_3 := hx352_3
              have hw352_2 := hx352_2
              have hw352_1 := hx352_1
              have hw352_0 := hx352_0
              cases e352
              replace hx352_0 := cx HB.out hx352_0
              replace hx352_1 := cx HB.out hx352_1
              replace hx352_2 := cx HB.out hx352_2
              replace hx352_3 := cx HB.out hx352_3
              replace hx352_4 := cx HB.out hx352_4
              replace hx352_5 := cx HB.out hx352_5
              replace p352 := eq_true p352
              replace q352 := eq_true q352
              have p354 : 0 ≤ (x3_1 : Int) := od
              have q354 : x3_1 < (l0_1.length : Int) := od
              obtain ⟨ad354, e354, hx354_0, hx354_1, hx354_2, hx354_3, hx354_4, hx354_5⟩ := at_T25 HR0_1.out x3_1 p354 q354
              have hw354_5 := hx354_5
              have hw354_4 := hx354_4
              have hw354_3 := hx354_3
              have hw354_2 := hx354_2
              have hw354_1 := hx354_1
              have hw354_0 := hx354_0
              obtain rfl : ad352 = ad354 := (by injection e354)
              replace hx354_0 := cx HB.out hx354_0
              replace hx354_1 := cx HB.out hx354_1
              replace hx354_2 := cx HB.out hx354_2
              replace hx354_3 := cx HB.out hx354_3
              replace hx354_4 := cx HB.out hx354_4
              replace hx354_5 := cx HB.out hx354_5
              replace p354 := eq_true p354
              replace q354 := eq_true q354
              have p355 : 0 ≤ ((ji19) : Int) := od
              have q355 : (ji19) < (l0_1.length : Int) := od
              obtain ⟨ad355, e355, hx355_0, hx355_1, hx355_2, hx355_3, hx355_4, hx355_5⟩ := at_T25 HR0_1.out (ji19) p355 q355
              have hw355_5 := hx355_5
              have hw355_4 := hx355_4
              have hw355_3 := hx355_3
              have hw355_2 := hx355_2
              have hw355_1 := hx355_1
              have hw355_0 := hx355_0
              obtain rfl : ad352 = ad355 := (by injection e355)
              replace hx355_0 := cx HB.out hx355_0
              replace hx355_1 := cx HB.out hx355_1
              replace hx355_2 := cx HB.out hx355_2
              replace hx355_3 := cx HB.out hx355_3
              replace hx355_4 := cx HB.out hx355_4
              replace hx355_5 := cx HB.out hx355_5
              replace p355 := eq_true p355
              replace q355 := eq_true q355
              have p356 : 0 ≤ (x3_1 : Int) := od
              have q356 : x3_1 < (l0_1.length : Int) := od
              obtain ⟨ad356, e356, hx356_0, hx356_1, hx356_2, hx356_3, hx356_4, hx356_5⟩ := at_T25 HR0_1.out x3_1 p356 q356
              have hw356_5 := hx356_5
              have hw356_4 := hx356_4
              have hw356_3 := hx356_3
              have hw356_2 := hx356_2
              have hw356_1 := hx356_1
              have hw356_0 := hx356_0
              obtain rfl : ad352 = ad356 := (by injection e356)
              replace hx356_0 := cx HB.out hx356_0
              replace hx356_1 := cx HB.out hx356_1
              replace hx356_2 := cx HB.out hx356_2
              replace hx356_3 := cx HB.out hx356_3
              replace hx356_4 := cx HB.out hx356_4
              replace hx356_5 := cx HB.out hx356_5
              replace p356 := eq_true p356
              replace q356 := eq_true q356
              have p357 : 0 ≤ ((ji19) : Int) := od
              have q357 : (ji19) < (l0_1.length : Int) := od
              obtain ⟨ad357, e357, hx357_0, hx357_1, hx357_2, hx357_3, hx357_4, hx357_5⟩ := at_T25 HR0_1.out (ji19) p357 q357
              have hw357_5 := hx357_5
              have hw357_4 := hx357_4
              have hw357_3 := hx357_3
              have hw357_2 := hx357_2
              have hw357_1 := hx357_1
              have hw357_0 := hx357_0
              obtain rfl : ad352 = ad357 := (by injection e357)
              replace hx357_0 := cx HB.out hx357_0
              replace hx357_1 := cx HB.out hx357_1
              replace hx357_2 := cx HB.out hx357_2
              replace hx357_3 := cx HB.out hx357_3
              replace hx357_4 := cx HB.out hx357_4
              replace hx357_5 := cx HB.out hx357_5
              replace p357 := eq_true p357
              replace q357 := eq_true q357
              have p358 : 0 ≤ (x3_1 : Int) := od
              have q358 : x3_1 < (l0_1.length : Int) := od
              obtain ⟨ad358, e358, hx358_0, hx358_1, hx358_2, hx358_3, hx358_4, hx358_5⟩ := at_T25 HR0_1.out x3_1 p358 q358
              have hw358_5 := hx358_5
              have hw358_4 := hx358_4
              have hw358_3 := hx358_3
              have hw358_2 := hx358_2
              have hw358_1 := hx358_1
              have hw358_0 := hx358_0
              obtain rfl : ad352 = ad358 := (by injection e358)
              replace hx358_0 := cx HB.out hx358_0
              replace hx358_1 := cx HB.out hx358_1
              replace hx358_2 := cx HB.out hx358_2
              replace hx358_3 := cx HB.out hx358_3
              replace hx358_4 := cx HB.out hx358_4
              replace hx358_5 := cx HB.out hx358_5
              replace p358 := eq_true p358
              replace q358 := eq_true q358
              refine start_ (n := 54) (S := fun w' => w'.cell? ⟨gb350, 0, none⟩ = some (.int .i64 a0_0) ∧ w'.cell? ⟨gb350, 1, none⟩ = some (.slice (some ad352) l0_1.length c0_1) ∧ w'.cell? (ad352.add ((x3_1).toNat * 6)) = some (.int .i64 ((rd_T25 l0_1 x3_1).f0)) ∧ w'.cell? ⟨(ad352.add ((x3_1).toNat * 6)).block, (ad352.add ((x3_1).toNat * 6)).off + 1, none⟩ = some (.int .i64 ((rd_T25 l0_1 x3_1).f1)) ∧ w'.cell? ⟨(ad352.add ((x3_1).toNat * 6)).block, (ad352.add ((x3_1).toNat * 6)).off + 2, none⟩ = some (.string ((rd_T25 l0_1 x3_1).f2)) ∧ w'.cell? ⟨(ad352.add ((x3_1).toNat * 6)).block, (ad352.add ((x3_1).toNat * 6)).off + 3, none⟩ = some (.string ((rd_T25 l0_1 x3_1).f3)) ∧ w'.cell? ⟨(ad352.add ((x3_1).toNat * 6)).block, (ad352.add ((x3_1).toNat * 6)).off + 4, none⟩ = some (.int .i64 ((rd_T25 l0_1 x3_1).f4)) ∧ w'.cell? ⟨(ad352.add ((x3_1).toNat * 6)).block, (ad352.add ((x3_1).toNat * 6)).off + 5, none⟩ = some (.bool ((rd_T25 l0_1 x3_1).f5)) ∧ w'.cell? (ad352.add ((x3_1).toNat * 6)) = some (.int .i64 ((rd_T25 l0_1 x3_1).f0)) ∧ w'.cell? ⟨(ad352.add ((x3_1).toNat * 6)).block, (ad352.add ((x3_1).toNat * 6)).off + 1, none⟩ = some (.int .i64 ((rd_T25 l0_1 x3_1).f1)) ∧ w'.cell? ⟨(ad352.add ((x3_1).toNat * 6)).block, (ad352.add ((x3_1).toNat * 6)).off + 2, none⟩ = some (.string ((rd_T25 l0_1 x3_1).f2)) ∧ w'.cell? ⟨(ad352.add ((x3_1).toNat * 6)).block, (ad352.add ((x3_1).toNat * 6)).off + 3, none⟩ = some (.string ((rd_T25 l0_1 x3_1).f3)) ∧ w'.cell? ⟨(ad352.add ((x3_1).toNat * 6)).block, (ad352.add ((x3_1).toNat * 6)).off + 4, none⟩ = some (.int .i64 ((rd_T25 l0_1 x3_1).f4)) ∧ w'.cell? ⟨(ad352.add ((x3_1).toNat * 6)).block, (ad352.add ((x3_1).toNat * 6)).off + 5, none⟩ = some (.bool ((rd_T25 l0_1 x3_1).f5)) ∧ w'.cell? (ad352.add (((ji19)).toNat * 6)) = some (.int .i64 ((rd_T25 l0_1 (ji19)).f0)) ∧ w'.cell? ⟨(ad352.add (((ji19)).toNat * 6)).block, (ad352.add (((ji19)).toNat * 6)).off + 1, none⟩ = some (.int .i64 ((rd_T25 l0_1 (ji19)).f1)) ∧ w'.cell? ⟨(ad352.add (((ji19)).toNat * 6)).block, (ad352.add (((ji19)).toNat * 6)).off + 2, none⟩ = some (.string ((rd_T25 l0_1 (ji19)).f2)) ∧ w'.cell? ⟨(ad352.add (((ji19)).toNat * 6)).block, (ad352.add (((ji19)).toNat * 6)).off + 3, none⟩ = some (.string ((rd_T25 l0_1 (ji19)).f3)) ∧ w'.cell? ⟨(ad352.add (((ji19)).toNat * 6)).block, (ad352.add (((ji19)).toNat * 6)).off + 4, none⟩ = some (.int .i64 ((rd_T25 l0_1 (ji19)).f4)) ∧ w'.cell? ⟨(ad352.add (((ji19)).toNat * 6)).block, (ad352.add (((ji19)).toNat * 6)).off + 5, none⟩ = some (.bool ((rd_T25 l0_1 (ji19)).f5)) ∧ w'.cell? (ad352.add ((x3_1).toNat * 6)) = some (.int .i64 ((rd_T25 l0_1 x3_1).f0)) ∧ w'.cell? ⟨(ad352.add ((x3_1).toNat * 6)).block, (ad352.add ((x3_1).toNat * 6)).off + 1, none⟩ = some (.int .i64 ((rd_T25 l0_1 x3_1).f1)) ∧ w'.cell? ⟨(ad352.add ((x3_1).toNat * 6)).block, (ad352.add ((x3_1).toNat * 6)).off + 2, none⟩ = some (.string ((rd_T25 l0_1 x3_1).f2)) ∧ w'.cell? ⟨(ad352.add ((x3_1).toNat * 6)).block, (ad352.add ((x3_1).toNat * 6)).off + 3, none⟩ = some (.string ((rd_T25 l0_1 x3_1).f3)) ∧ w'.cell? ⟨(ad352.add ((x3_1).toNat * 6)).block, (ad352.add ((x3_1).toNat * 6)).off + 4, none⟩ = some (.int .i64 ((rd_T25 l0_1 x3_1).f4)) ∧ w'.cell? ⟨(ad352.add ((x3_1).toNat * 6)).block, (ad352.add ((x3_1).toNat * 6)).off + 5, none⟩ = some (.bool ((rd_T25 l0_1 x3_1).f5)) ∧ w'.cell? (ad352.add (((ji19)).toNat * 6)) = some (.int .i64 ((rd_T25 l0_1 (ji19)).f0)) ∧ w'.cell? ⟨(ad352.add (((ji19)).toNat * 6)).block, (ad352.add (((ji19)).toNat * 6)).off + 1, none⟩ = some (.int .i64 ((rd_T25 l0_1 (ji19)).f1)) ∧ w'.cell? ⟨(ad352.add (((ji19)).toNat * 6)).block, (ad352.add (((ji19)).toNat * 6)).off + 2, none⟩ = some (.string ((rd_T25 l0_1 (ji19)).f2)) ∧ w'.cell? ⟨(ad352.add (((ji19)).toNat * 6)).block, (ad352.add (((ji19)).toNat * 6)).off + 3, none⟩ = some (.string ((rd_T25 l0_1 (ji19)).f3)) ∧ w'.cell? ⟨(ad352.add (((ji19)).toNat * 6)).block, (ad352.add (((ji19)).toNat * 6)).off + 4, none⟩ = some (.int .i64 ((rd_T25 l0_1 (ji19)).f4)) ∧ w'.cell? ⟨(ad352.add (((ji19)).toNat * 6)).block, (ad352.add (((ji19)).toNat * 6)).off + 5, none⟩ = some (.bool ((rd_T25 l0_1 (ji19)).f5)) ∧ w'.cell? (ad352.add ((x3_1).toNat * 6)) = some (.int .i64 ((rd_T25 l0_1 x3_1).f0)) ∧ w'.cell? ⟨(ad352.add ((x3_1).toNat * 6)).block, (ad352.add ((x3_1).toNat * 6)).off + 1, none⟩ = some (.int .i64 ((rd_T25 l0_1 x3_1).f1)) ∧ w'.cell? ⟨(ad352.add ((x3_1).toNat * 6)).block, (ad352.add ((x3_1).toNat * 6)).off + 2, none⟩ = some (.string ((rd_T25 l0_1 x3_1).f2)) ∧ w'.cell? ⟨(ad352.add ((x3_1).toNat * 6)).block, (ad352.add ((x3_1).toNat * 6)).off + 3, none⟩ = some (.string ((rd_T25 l0_1 x3_1).f3)) ∧ w'.cell? ⟨(ad352.add ((x3_1).toNat * 6)).block, (ad352.add ((x3_1).toNat * 6)).off + 4, none⟩ = some (.int .i64 ((rd_T25 l0_1 x3_1).f4)) ∧ w'.cell? ⟨(ad352.add ((x3_1).toNat * 6)).block, (ad352.add ((x3_1).toNat * 6)).off + 5, none⟩ = some (.bool ((rd_T25 l0_1 x3_1).f5))) (ds := []) #[O,O,O,O,O,O,O,O,O,O,O,O,O,O,O,O,O,O,O,O,O,O,O,O,O,O,O,O,O,O,O,O,O,O,O,O,O,O,O,O,O,O,O,O,O,O,O,O,O,O,O,O,O,O] (by kernel_rfl) rfl rfl ⟨(blk_cell BK350.out 0).trans rfl, (blk_cell BK350.out 1).trans rfl, ((HB.out.cell (World.block_lt_of_cell? w _ hw352_0)).trans hw352_0), ((HB.out.cell (World.block_lt_of_cell? w _ hw352_1)).trans hw352_1), ((HB.out.cell (World.block_lt_of_cell? w _ hw352_2)).trans hw352_2), ((HB.out.cell (World.block_lt_of_cell? w _ hw352_3)).trans hw352_3), ((HB.out.cell (World.block_lt_of_cell? w _ hw352_4)).trans hw352_4), ((HB.out.cell (World.block_lt_of_cell? w _ hw352_5)).trans hw352_5), ((HB.out.cell (World.block_lt_of_cell? w _ hw354_0)).trans hw354_0), ((HB.out.cell (World.block_lt_of_cell? w _ hw354_1)).trans hw354_1), ((HB.out.cell (World.block_lt_of_cell? w _ hw354_2)).trans hw354_2), ((HB.out.cell (World.block_lt_of_cell? w _ hw354_3)).trans hw354_3), ((HB.out.cell (World.block_lt_of_cell? w _ hw354_4)).trans hw354_4), ((HB.out.cell (World.block_lt_of_cell? w _ hw354_5)).trans hw354_5), ((HB.out.cell (World.block_lt_of_cell? w _ hw355_0)).trans hw355_0), ((HB.out.cell (World.block_lt_of_cell? w _ hw355_1)).trans hw355_1), ((HB.out.cell (World.block_lt_of_cell? w _ hw355_2)).trans hw355_2), ((HB.out.cell (World.block_lt_of_cell? w _ hw355_3)).trans hw355_3), ((HB.out.cell (World.block_lt_of_cell? w _ hw355_4)).trans hw355_4), ((HB.out.cell (World.block_lt_of_cell? w _ hw355_5)).trans hw355_5), ((HB.out.cell (World.block_lt_of_cell? w _ hw356_0)).trans hw356_0), ((HB.out.cell (World.block_lt_of_cell? w _ hw356_1)).trans hw356_1), ((HB.out.cell (World.block_lt_of_cell? w _ hw356_2)).trans hw356_2), ((HB.out.cell (World.block_lt_of_cell? w _ hw356_3)).trans hw356_3), ((HB.out.cell (World.block_lt_of_cell? w _ hw356_4)).trans hw356_4), ((HB.out.cell (World.block_lt_of_cell? w _ hw356_5)).trans hw356_5), ((HB.out.cell (World.block_lt_of_cell? w _ hw357_0)).trans hw357_0), ((HB.out.cell (World.block_lt_of_cell? w _ hw357_1)).trans hw357_1), ((HB.out.cell (World.block_lt_of_cell? w _ hw357_2)).trans hw357_2), ((HB.out.cell (World.block_lt_of_cell? w _ hw357_3)).trans hw357_3), ((HB.out.cell (World.block_lt_of_cell? w _ hw357_4)).trans hw357_4), ((HB.out.cell (World.block_lt_of_cell? w _ hw357_5)).trans hw357_5), ((HB.out.cell (World.block_lt_of_cell? w _ hw358_0)).trans hw358_0), ((HB.out.cell (World.block_lt_of_cell? w _ hw358_1)).trans hw358_1), ((HB.out.cell (World.block_lt_of_cell? w _ hw358_2)).trans hw358_2), ((HB.out.cell (World.block_lt_of_cell? w _ hw358_3)).trans hw358_3), ((HB.out.cell (World.block_lt_of_cell? w _ hw358_4)).trans hw358_4), ((HB.out.cell (World.block_lt_of_cell? w _ hw358_5)).trans hw358_5)⟩ (fun hHeld => ?_); refine with_tabW fairwayref10_Seg.tab4 fairwayref10_Seg.bits4 (fun HT_ HW_ => ?_)
              generalize wc.drew = w25 at BK350 HB hx352_0 hx352_1 hx352_2 hx352_3 hx352_4 hx352_5 hx354_0 hx354_1 hx354_2 hx354_3 hx354_4 hx354_5 hx355_0 hx355_1 hx355_2 hx355_3 hx355_4 hx355_5 hx356_0 hx356_1 hx356_2 hx356_3 hx356_4 hx356_5 hx357_0 hx357_1 hx357_2 hx357_3 hx357_4 hx357_5 hx358_0 hx358_1 hx358_2 hx358_3 hx358_4 hx358_5 hHeld ⊢
              refine pz (i := 0) (N := some 11) #[I,O,O,O,O,O,O,O,O,O,O,O,O,O,O,O,O,O,O,O,O,O,O,O,O,O,O,O,O,O,O,O,O,O,O,O,O,O,O,O,O,O,O,O,O,O,O,O,O,O,O,O,O,O] ?_
              refine pz (i := 2) (N := some 13) #[I,O,I,O,O,O,O,O,O,O,O,O,O,O,O,O,O,O,O,O,O,O,O,O,O,O,O,O,O,O,O,O,O,O,O,O,O,O,O,O,O,O,O,O,O,O,O,O,O,O,O,O,O,O] ?_
              refine tz (i := 1) (N := some 12) #[I,I,I,O,O,O,O,O,O,O,O,O,O,O,O,O,O,O,O,O,O,O,O,O,O,O,O,O,O,O,O,O,O,O,O,O,O,O,O,O,O,O,O,O,O,O,O,O,O,O,O,O,O,O] ?_
              refine pz (i := 3) (N := some 14) #[I,I,I,I,O,O,O,O,O,O,O,O,O,O,O,O,O,O,O,O,O,O,O,O,O,O,O,O,O,O,O,O,O,O,O,O,O,O,O,O,O,O,O,O,O,O,O,O,O,O,O,O,O,O] ?_
              refine tz (i := 4) (N := some 15) #[I,I,I,I,I,O,O,O,O,O,O,O,O,O,O,O,O,O,O,O,O,O,O,O,O,O,O,O,O,O,O,O,O,O,O,O,O,O,O,O,O,O,O,O,O,O,O,O,O,O,O,O,O,O] ?_
              refine one_ (i := 5) (N := some 16) #[I,I,I,I,I,I,O,O,O,O,O,O,O,O,O,O,O,O,O,O,O,O,O,O,O,O,O,O,O,O,O,O,O,O,O,O,O,O,O,O,O,O,O,O,O,O,O,O,O,O,O,O,O,O] rfl rfl (one_of HT_.out (by kernel_rfl)) (by decide) (fun K hK => ?_)
              refine goes_ Try.func17 (by kernel_rfl) rfl #[.agg #[.int .i64 ((rd_T25 l0_1 x3_1).f0), .int .i64 ((rd_T25 l0_1 x3_1).f1), .string ((rd_T25 l0_1 x3_1).f2), .string ((rd_T25 l0_1 x3_1).f3), .int .i64 ((rd_T25 l0_1 x3_1).f4), .bool ((rd_T25 l0_1 x3_1).f5)]] (by rfl) rfl rfl aa ?_
              with_reducible refine (fairwayref10_Rec.calls ((rd_T25 l0_1 x3_1).f0) ((rd_T25 l0_1 x3_1).f1) ((rd_T25 l0_1 x3_1).f2) ((rd_T25 l0_1 x3_1).f3) ((rd_T25 l0_1 x3_1).f4) ((rd_T25 l0_1 x3_1).f5) true _ A13.out).mono ?_
              rintro e w26 ⟨rfl, hb⟩
              refine ⟨_, rfl, ?_⟩
              replace BK350 := Aside0.mk (blk_below (g := gb350) (o := .cells #[.int .i64 a0_0, .slice (some ad352) l0_1.length c0_1] 53 (0, 0)) (bk BK350.out) hb)
              replace HB := Aside0.mk (below_step bo hb)
              (try clear hb)
              (try clear hb2)
              (try clear hk)
              (try clear hi)
              refine hK.out _ _ ⟨(blk_cell BK350.out 0).trans rfl, (blk_cell BK350.out 1).trans rfl, ((HB.out.cell (World.block_lt_of_cell? w _ hw352_0)).trans hw352_0), ((HB.out.cell (World.block_lt_of_cell? w _ hw352_1)).trans hw352_1), ((HB.out.cell (World.block_lt_of_cell? w _ hw352_2)).trans hw352_2), ((HB.out.cell (World.block_lt_of_cell? w _ hw352_3)).trans hw352_3), ((HB.out.cell (World.block_lt_of_cell? w _ hw352_4)).trans hw352_4), ((HB.out.cell (World.block_lt_of_cell? w _ hw352_5)).trans hw352_5), ((HB.out.cell (World.block_lt_of_cell? w _ hw354_0)).trans hw354_0), ((HB.out.cell (World.block_lt_of_cell? w _ hw354_1)).trans hw354_1), ((HB.out.cell (World.block_lt_of_cell? w _ hw354_2)).trans hw354_2), ((HB.out.cell (World.block_lt_of_cell? w _ hw354_3)).trans hw354_3), ((HB.out.cell (World.block_lt_of_cell? w _ hw354_4)).trans hw354_4), ((HB.out.cell (World.block_lt_of_cell? w _ hw354_5)).trans hw354_5), ((HB.out.cell (World.block_lt_of_cell? w _ hw355_0)).trans hw355_0), ((HB.out.cell (World.block_lt_of_cell? w _ hw355_1)).trans hw355_1), ((HB.out.cell (World.block_lt_of_cell? w _ hw355_2)).trans hw355_2), ((HB.out.cell (World.block_lt_of_cell? w _ hw355_3)).trans hw355_3), ((HB.out.cell (World.block_lt_of_cell? w _ hw355_4)).trans hw355_4), ((HB.out.cell (World.block_lt_of_cell? w _ hw355_5)).trans hw355_5), ((HB.out.cell (World.block_lt_of_cell? w _ hw356_0)).trans hw356_0), ((HB.out.cell (World.block_lt_of_cell? w _ hw356_1)).trans hw356_1), ((HB.out.cell (World.block_lt_of_cell? w _ hw356_2)).trans hw356_2), ((HB.out.cell (World.block_lt_of_cell? w _ hw356_3)).trans hw356_3), ((HB.out.cell (World.block_lt_of_cell? w _ hw356_4)).trans hw356_4), ((HB.out.cell (World.block_lt_of_cell? w _ hw356_5)).trans hw356_5), ((HB.out.cell (World.block_lt_of_cell? w _ hw357_0)).trans hw357_0), ((HB.out.cell (World.block_lt_of_cell? w _ hw357_1)).trans hw357_1), ((HB.out.cell (World.block_lt_of_cell? w _ hw357_2)).trans hw357_2), ((HB.out.cell (World.block_lt_of_cell? w _ hw357_3)).trans hw357_3), ((HB.out.cell (World.block_lt_of_cell? w _ hw357_4)).trans hw357_4), ((HB.out.cell (World.block_lt_of_cell? w _ hw357_5)).trans hw357_5), ((HB.out.cell (World.block_lt_of_cell? w _ hw358_0)).trans hw358_0), ((HB.out.cell (World.block_lt_of_cell? w _ hw358_1)).trans hw358_1), ((HB.out.cell (World.block_lt_of_cell? w _ hw358_2)).trans hw358_2), ((HB.out.cell (World.block_lt_of_cell? w _ hw358_3)).trans hw358_3), ((HB.out.cell (World.block_lt_of_cell? w _ hw358_4)).trans hw358_4), ((HB.out.cell (World.block_lt_of_cell? w _ hw358_5)).trans hw358_5)⟩ (fun hHeld => ?_)
              clear hK K
              refine norm_ (a' := ?_) ?_ ?_
              rotate_left
              ·show Act.put _ (some 16) _ = _
               simp only [Act.put, List.setIfInBounds_toArray, List.set_cons_zero, List.set_cons_succ, i64_w, i32_w]
               rfl
              refine pz (i := 6) (N := some 17) #[I,I,I,I,I,I,I,O,O,O,O,O,O,O,O,O,O,O,O,O,O,O,O,O,O,O,O,O,O,O,O,O,O,O,O,O,O,O,O,O,O,O,O,O,O,O,O,O,O,O,O,O,O,O] ?_
              refine pz (i := 7) (N := some 18) #[I,I,I,I,I,I,I,I,O,O,O,O,O,O,O,O,O,O,O,O,O,O,O,O,O,O,O,O,O,O,O,O,O,O,O,O,O,O,O,O,O,O,O,O,O,O,O,O,O,O,O,O,O,O] ?_
              refine pz (i := 8) (N := some 19) #[I,I,I,I,I,I,I,I,I,O,O,O,O,O,O,O,O,O,O,O,O,O,O,O,O,O,O,O,O,O,O,O,O,O,O,O,O,O,O,O,O,O,O,O,O,O,O,O,O,O,O,O,O,O] ?_
              refine pz (i := 10) (N := some 21) #[I,I,I,I,I,I,I,I,I,O,I,O,O,O,O,O,O,O,O,O,O,O,O,O,O,O,O,O,O,O,O,O,O,O,O,O,O,O,O,O,O,O,O,O,O,O,O,O,O,O,O,O,O,O] ?_
              refine pz (i := 14) (N := some 25) #[I,I,I,I,I,I,I,I,I,O,I,O,O,O,I,O,O,O,O,O,O,O,O,O,O,O,O,O,O,O,O,O,O,O,O,O,O,O,O,O,O,O,O,O,O,O,O,O,O,O,O,O,O,O] ?_
              refine tz (i := 9) (N := some 20) #[I,I,I,I,I,I,I,I,I,I,I,O,O,O,I,O,O,O,O,O,O,O,O,O,O,O,O,O,O,O,O,O,O,O,O,O,O,O,O,O,O,O,O,O,O,O,O,O,O,O,O,O,O,O] ?_
              refine pz (i := 11) (N := some 22) #[I,I,I,I,I,I,I,I,I,I,I,I,O,O,I,O,O,O,O,O,O,O,O,O,O,O,O,O,O,O,O,O,O,O,O,O,O,O,O,O,O,O,O,O,O,O,O,O,O,O,O,O,O,O] ?_
              refine pz (i := 12) (N := some 23) #[I,I,I,I,I,I,I,I,I,I,I,I,I,O,I,O,O,O,O,O,O,O,O,O,O,O,O,O,O,O,O,O,O,O,O,O,O,O,O,O,O,O,O,O,O,O,O,O,O,O,O,O,O,O] ?_
              refine tz (i := 13) (N := some 24) #[I,I,I,I,I,I,I,I,I,I,I,I,I,I,I,O,O,O,O,O,O,O,O,O,O,O,O,O,O,O,O,O,O,O,O,O,O,O,O,O,O,O,O,O,O,O,O,O,O,O,O,O,O,O] ?_
              refine tz (i := 15) (N := some 26) #[I,I,I,I,I,I,I,I,I,I,I,I,I,I,I,I,O,O,O,O,O,O,O,O,O,O,O,O,O,O,O,O,O,O,O,O,O,O,O,O,O,O,O,O,O,O,O,O,O,O,O,O,O,O] ?_
              refine pz (i := 16) (N := some 27) #[I,I,I,I,I,I,I,I,I,I,I,I,I,I,I,I,I,O,O,O,O,O,O,O,O,O,O,O,O,O,O,O,O,O,O,O,O,O,O,O,O,O,O,O,O,O,O,O,O,O,O,O,O,O] ?_
              refine pz (i := 17) (N := some 28) #[I,I,I,I,I,I,I,I,I,I,I,I,I,I,I,I,I,I,O,O,O,O,O,O,O,O,O,O,O,O,O,O,O,O,O,O,O,O,O,O,O,O,O,O,O,O,O,O,O,O,O,O,O,O] ?_
              refine pz (i := 18) (N := some 29) #[I,I,I,I,I,I,I,I,I,I,I,I,I,I,I,I,I,I,I,O,O,O,O,O,O,O,O,O,O,O,O,O,O,O,O,O,O,O,O,O,O,O,O,O,O,O,O,O,O,O,O,O,O,O] ?_
              refine pz (i := 19) (N := some 30) #[I,I,I,I,I,I,I,I,I,I,I,I,I,I,I,I,I,I,I,I,O,O,O,O,O,O,O,O,O,O,O,O,O,O,O,O,O,O,O,O,O,O,O,O,O,O,O,O,O,O,O,O,O,O] ?_
              refine pz (i := 20) (N := some 31) #[I,I,I,I,I,I,I,I,I,I,I,I,I,I,I,I,I,I,I,I,I,O,O,O,O,O,O,O,O,O,O,O,O,O,O,O,O,O,O,O,O,O,O,O,O,O,O,O,O,O,O,O,O,O] ?_
              refine pz (i := 21) (N := some 32) #[I,I,I,I,I,I,I,I,I,I,I,I,I,I,I,I,I,I,I,I,I,I,O,O,O,O,O,O,O,O,O,O,O,O,O,O,O,O,O,O,O,O,O,O,O,O,O,O,O,O,O,O,O,O] ?_
              refine pz (i := 22) (N := some 33) #[I,I,I,I,I,I,I,I,I,I,I,I,I,I,I,I,I,I,I,I,I,I,I,O,O,O,O,O,O,O,O,O,O,O,O,O,O,O,O,O,O,O,O,O,O,O,O,O,O,O,O,O,O,O] ?_
              refine pz (i := 24) (N := some 35) #[I,I,I,I,I,I,I,I,I,I,I,I,I,I,I,I,I,I,I,I,I,I,I,O,I,O,O,O,O,O,O,O,O,O,O,O,O,O,O,O,O,O,O,O,O,O,O,O,O,O,O,O,O,O] ?_
              refine pz (i := 25) (N := some 36) #[I,I,I,I,I,I,I,I,I,I,I,I,I,I,I,I,I,I,I,I,I,I,I,O,I,I,O,O,O,O,O,O,O,O,O,O,O,O,O,O,O,O,O,O,O,O,O,O,O,O,O,O,O,O] ?_
              refine pz (i := 29) (N := some 40) #[I,I,I,I,I,I,I,I,I,I,I,I,I,I,I,I,I,I,I,I,I,I,I,O,I,I,O,O,O,I,O,O,O,O,O,O,O,O,O,O,O,O,O,O,O,O,O,O,O,O,O,O,O,O] ?_
              refine pz (i := 31) (N := some 42) #[I,I,I,I,I,I,I,I,I,I,I,I,I,I,I,I,I,I,I,I,I,I,I,O,I,I,O,O,O,I,O,I,O,O,O,O,O,O,O,O,O,O,O,O,O,O,O,O,O,O,O,O,O,O] ?_
              refine tz (i := 23) (N := some 34) #[I,I,I,I,I,I,I,I,I,I,I,I,I,I,I,I,I,I,I,I,I,I,I,I,I,I,O,O,O,I,O,I,O,O,O,O,O,O,O,O,O,O,O,O,O,O,O,O,O,O,O,O,O,O] ?_
              refine pz (i := 26) (N := some 37) #[I,I,I,I,I,I,I,I,I,I,I,I,I,I,I,I,I,I,I,I,I,I,I,I,I,I,I,O,O,I,O,I,O,O,O,O,O,O,O,O,O,O,O,O,O,O,O,O,O,O,O,O,O,O] ?_
              refine pz (i := 27) (N := some 38) #[I,I,I,I,I,I,I,I,I,I,I,I,I,I,I,I,I,I,I,I,I,I,I,I,I,I,I,I,O,I,O,I,O,O,O,O,O,O,O,O,O,O,O,O,O,O,O,O,O,O,O,O,O,O] ?_
              refine tz (i := 28) (N := some 39) #[I,I,I,I,I,I,I,I,I,I,I,I,I,I,I,I,I,I,I,I,I,I,I,I,I,I,I,I,I,I,O,I,O,O,O,O,O,O,O,O,O,O,O,O,O,O,O,O,O,O,O,O,O,O] ?_
              refine tz (i := 30) (N := some 41) #[I,I,I,I,I,I,I,I,I,I,I,I,I,I,I,I,I,I,I,I,I,I,I,I,I,I,I,I,I,I,I,I,O,O,O,O,O,O,O,O,O,O,O,O,O,O,O,O,O,O,O,O,O,O] ?_
              refine pz (i := 32) (N := some 43) #[I,I,I,I,I,I,I,I,I,I,I,I,I,I,I,I,I,I,I,I,I,I,I,I,I,I,I,I,I,I,I,I,I,O,O,O,O,O,O,O,O,O,O,O,O,O,O,O,O,O,O,O,O,O] ?_
              refine pz (i := 33) (N := some 44) #[I,I,I,I,I,I,I,I,I,I,I,I,I,I,I,I,I,I,I,I,I,I,I,I,I,I,I,I,I,I,I,I,I,I,O,O,O,O,O,O,O,O,O,O,O,O,O,O,O,O,O,O,O,O] ?_
              refine tz (i := 34) (N := some 45) #[I,I,I,I,I,I,I,I,I,I,I,I,I,I,I,I,I,I,I,I,I,I,I,I,I,I,I,I,I,I,I,I,I,I,I,O,O,O,O,O,O,O,O,O,O,O,O,O,O,O,O,O,O,O] ?_
              refine pz (i := 35) (N := some 46) #[I,I,I,I,I,I,I,I,I,I,I,I,I,I,I,I,I,I,I,I,I,I,I,I,I,I,I,I,I,I,I,I,I,I,I,I,O,O,O,O,O,O,O,O,O,O,O,O,O,O,O,O,O,O] ?_
              refine pz (i := 36) (N := some 47) #[I,I,I,I,I,I,I,I,I,I,I,I,I,I,I,I,I,I,I,I,I,I,I,I,I,I,I,I,I,I,I,I,I,I,I,I,I,O,O,O,O,O,O,O,O,O,O,O,O,O,O,O,O,O] ?_
              refine pz (i := 37) (N := some 48) #[I,I,I,I,I,I,I,I,I,I,I,I,I,I,I,I,I,I,I,I,I,I,I,I,I,I,I,I,I,I,I,I,I,I,I,I,I,I,O,O,O,O,O,O,O,O,O,O,O,O,O,O,O,O] ?_
              refine pz (i := 39) (N := some 50) #[I,I,I,I,I,I,I,I,I,I,I,I,I,I,I,I,I,I,I,I,I,I,I,I,I,I,I,I,I,I,I,I,I,I,I,I,I,I,O,I,O,O,O,O,O,O,O,O,O,O,O,O,O,O] ?_
              refine pz (i := 40) (N := some 51) #[I,I,I,I,I,I,I,I,I,I,I,I,I,I,I,I,I,I,I,I,I,I,I,I,I,I,I,I,I,I,I,I,I,I,I,I,I,I,O,I,I,O,O,O,O,O,O,O,O,O,O,O,O,O] ?_
              refine pz (i := 44) (N := some 55) #[I,I,I,I,I,I,I,I,I,I,I,I,I,I,I,I,I,I,I,I,I,I,I,I,I,I,I,I,I,I,I,I,I,I,I,I,I,I,O,I,I,O,O,O,I,O,O,O,O,O,O,O,O,O] ?_
              refine pz (i := 46) (N := some 57) #[I,I,I,I,I,I,I,I,I,I,I,I,I,I,I,I,I,I,I,I,I,I,I,I,I,I,I,I,I,I,I,I,I,I,I,I,I,I,O,I,I,O,O,O,I,O,I,O,O,O,O,O,O,O] ?_
              refine tz (i := 38) (N := some 49) #[I,I,I,I,I,I,I,I,I,I,I,I,I,I,I,I,I,I,I,I,I,I,I,I,I,I,I,I,I,I,I,I,I,I,I,I,I,I,I,I,I,O,O,O,I,O,I,O,O,O,O,O,O,O] ?_
              refine pz (i := 41) (N := some 52) #[I,I,I,I,I,I,I,I,I,I,I,I,I,I,I,I,I,I,I,I,I,I,I,I,I,I,I,I,I,I,I,I,I,I,I,I,I,I,I,I,I,I,O,O,I,O,I,O,O,O,O,O,O,O] ?_
              refine pz (i := 42) (N := some 53) #[I,I,I,I,I,I,I,I,I,I,I,I,I,I,I,I,I,I,I,I,I,I,I,I,I,I,I,I,I,I,I,I,I,I,I,I,I,I,I,I,I,I,I,O,I,O,I,O,O,O,O,O,O,O] ?_
              refine tz (i := 43) (N := some 54) #[I,I,I,I,I,I,I,I,I,I,I,I,I,I,I,I,I,I,I,I,I,I,I,I,I,I,I,I,I,I,I,I,I,I,I,I,I,I,I,I,I,I,I,I,I,O,I,O,O,O,O,O,O,O] ?_
              refine tz (i := 45) (N := some 56) #[I,I,I,I,I,I,I,I,I,I,I,I,I,I,I,I,I,I,I,I,I,I,I,I,I,I,I,I,I,I,I,I,I,I,I,I,I,I,I,I,I,I,I,I,I,I,I,O,O,O,O,O,O,O] ?_
              refine pz (i := 47) (N := some 58) #[I,I,I,I,I,I,I,I,I,I,I,I,I,I,I,I,I,I,I,I,I,I,I,I,I,I,I,I,I,I,I,I,I,I,I,I,I,I,I,I,I,I,I,I,I,I,I,I,O,O,O,O,O,O] ?_
              refine pz (i := 48) (N := some 59) #[I,I,I,I,I,I,I,I,I,I,I,I,I,I,I,I,I,I,I,I,I,I,I,I,I,I,I,I,I,I,I,I,I,I,I,I,I,I,I,I,I,I,I,I,I,I,I,I,I,O,O,O,O,O] ?_
              refine tz (i := 49) (N := some 60) #[I,I,I,I,I,I,I,I,I,I,I,I,I,I,I,I,I,I,I,I,I,I,I,I,I,I,I,I,I,I,I,I,I,I,I,I,I,I,I,I,I,I,I,I,I,I,I,I,I,I,O,O,O,O] ?_
              refine pz (i := 50) (N := some 61) #[I,I,I,I,I,I,I,I,I,I,I,I,I,I,I,I,I,I,I,I,I,I,I,I,I,I,I,I,I,I,I,I,I,I,I,I,I,I,I,I,I,I,I,I,I,I,I,I,I,I,I,O,O,O] ?_
              refine pz (i := 51) (N := some 62) #[I,I,I,I,I,I,I,I,I,I,I,I,I,I,I,I,I,I,I,I,I,I,I,I,I,I,I,I,I,I,I,I,I,I,I,I,I,I,I,I,I,I,I,I,I,I,I,I,I,I,I,I,O,O] ?_
              refine pz (i := 52) (N := some 63) #[I,I,I,I,I,I,I,I,I,I,I,I,I,I,I,I,I,I,I,I,I,I,I,I,I,I,I,I,I,I,I,I,I,I,I,I,I,I,I,I,I,I,I,I,I,I,I,I,I,I,I,I,I,O] ?_
              refine pz (i := 53) (N := some 64) #[I,I,I,I,I,I,I,I,I,I,I,I,I,I,I,I,I,I,I,I,I,I,I,I,I,I,I,I,I,I,I,I,I,I,I,I,I,I,I,I,I,I,I,I,I,I,I,I,I,I,I,I,I,I] ?_
              refine done_ (done_of HT_.out (by kernel_rfl)) ?_
              try go_wp2
              go_meet
              case rel => exact ⟨_, (decide (((rd_T25 l0_1 (ji19)).f1) > ((rd_T25 l0_1 x3_1).f1))), (by first | rfl | (simp; done) | (simp only [← hji19] <;> (first | rfl | simp)) | (simp [*]; done)), H', ⟨by have := HK1.out; have := HJ2.out; first | omega | exact Nat.le_refl _⟩, ⟨by (with_reducible repeat (first | refine blk_drewN ?_ _ | refine blk_drew ?_ | refine blk_alloc ?_ _)); exact BK350.out⟩, ⟨bo⟩⟩
            ·rw [if_neg c21] at H
             exact absurd H (by simp)
           ·rw [if_neg c20] at H
            exact absurd H (by simp)
          ·rw [if_neg c18] at H
           have c18b0 : decide (0 < x3_1) = false := decide_eq_false c18
           clear c18
           have H' := Aside0.mk H
           clear H
           try go_wp2
           replace BK350 := Aside0.mk (blk_drew BK350.out)
           replace HB := Aside0.mk (below_drew1 HB.out)
           have p352 : 0 ≤ (x3_1 : Int) := od
           have q352 : x3_1 < (l0_1.length : Int) := od
           obtain ⟨ad352, e352, hx352_0, hx352_1, hx352_2, hx352_3, hx352_4, hx352_5⟩ := at_T25 HR0_1.out x3_1 p352 q352
           have hw352_5 := hx352_5
           have hw352_4 := hx352_4
           have hw352_3 := hx352_3
           have hw352_2 := hx352_2
           have hw352_1 := hx352_1
           have hw352_0 := hx352_0
           cases e352
           replace hx352_0 := cx HB.out hx352_0
           replace hx352_1 := cx HB.out hx352_1
           replace hx352_2 := cx HB.out hx352_2
           replace hx352_3 := cx HB.out hx352_3
           replace hx352_4 := cx HB.out hx352_4
           replace hx352_5 := cx HB.out hx352_5
           replace p352 := eq_true p352
           replace q352 := eq_true q352
           have p354 : 0 ≤ (x3_1 : Int) := od
           have q354 : x3_1 < (l0_1.length : Int) := od
           obtain ⟨ad354, e354, hx354_0, hx354_1, hx354_2, hx354_3, hx354_4, hx354_5⟩ := at_T25 HR0_1.out x3_1 p354 q354
           have hw354_5 := hx354_5
           have hw354_4 := hx354_4
           have hw354_3 := hx354_3
           have hw354_2 := hx354_2
           have hw354_1 := hx354_1
           have hw354_0 := hx354_0
           obtain rfl : ad352 = ad354 := (by injection e354)
           replace hx354_0 := cx HB.out hx354_0
           replace hx354_1 := cx HB.out hx354_1
           replace hx354_2 := cx HB.out hx354_2
           replace hx354_3 := cx HB.out hx354_3
           replace hx354_4 := cx HB.out hx354_4
           replace hx354_5 := cx HB.out hx354_5
           replace p354 := eq_true p354
           replace q354 := eq_true q354
           refine start_ (n := 54) (S := fun w' => w'.cell? ⟨gb350, 0, none⟩ = some (.int .i64 a0_0) ∧ w'.cell? ⟨gb350, 1, none⟩ = some (.slice (some ad352) l0_1.length c0_1) ∧ w'.cell? (ad352.add ((x3_1).toNat * 6)) = some (.int .i64 ((rd_T25 l0_1 x3_1).f0)) ∧ w'.cell? ⟨(ad352.add ((x3_1).toNat * 6)).block, (ad352.add ((x3_1).toNat * 6)).off + 1, none⟩ = some (.int .i64 ((rd_T25 l0_1 x3_1).f1)) ∧ w'.cell? ⟨(ad352.add ((x3_1).toNat * 6)).block, (ad352.add ((x3_1).toNat * 6)).off + 2, none⟩ = some (.string ((rd_T25 l0_1 x3_1).f2)) ∧ w'.cell? ⟨(ad352.add ((x3_1).toNat * 6)).block, (ad352.add ((x3_1).toNat * 6)).off + 3, none⟩ = some (.string ((rd_T25 l0_1 x3_1).f3)) ∧ w'.cell? ⟨(ad352.add ((x3_1).toNat * 6)).block, (ad352.add ((x3_1).toNat * 6)).off + 4, none⟩ = some (.int .i64 ((rd_T25 l0_1 x3_1).f4)) ∧ w'.cell? ⟨(ad352.add ((x3_1).toNat * 6)).block, (ad352.add ((x3_1).toNat * 6)).off + 5, none⟩ = some (.bool ((rd_T25 l0_1 x3_1).f5)) ∧ w'.cell? (ad352.add ((x3_1).toNat * 6)) = some (.int .i64 ((rd_T25 l0_1 x3_1).f0)) ∧ w'.cell? ⟨(ad352.add ((x3_1).toNat * 6)).block, (ad352.add ((x3_1).toNat * 6)).off + 1, none⟩ = some (.int .i64 ((rd_T25 l0_1 x3_1).f1)) ∧ w'.cell? ⟨(ad352.add ((x3_1).toNat * 6)).block, (ad352.add ((x3_1).toNat * 6)).off + 2, none⟩ = some (.string ((rd_T25 l0_1 x3_1).f2)) ∧ w'.cell? ⟨(ad352.add ((x3_1).toNat * 6)).block, (ad352.add ((x3_1).toNat * 6)).off + 3, none⟩ = some (.string ((rd_T25 l0_1 x3_1).f3)) ∧ w'.cell? ⟨(ad352.add ((x3_1).toNat * 6)).block, (ad352.add ((x3_1).toNat * 6)).off + 4, none⟩ = some (.int .i64 ((rd_T25 l0_1 x3_1).f4)) ∧ w'.cell? ⟨(ad352.add ((x3_1).toNat * 6)).block, (ad352.add ((x3_1).toNat * 6)).off + 5, none⟩ = some (.bool ((rd_T25 l0_1 x3_1).f5))) (ds := []) #[O,O,O,O,O,O,O,O,O,O,O,O,O,O,O,O,O,O,O,O,O,O,O,O,O,O,O,O,O,O,O,O,O,O,O,O,O,O,O,O,O,O,O,O,O,O,O,O,O,O,O,O,O,O] (by kernel_rfl) rfl rfl ⟨(blk_cell BK350.out 0).trans rfl, (blk_cell BK350.out 1).trans rfl, ((HB.out.cell (World.block_lt_of_cell? w _ hw352_0)).trans hw352_0), ((HB.out.cell (World.block_lt_of_cell? w _ hw352_1)).trans hw352_1), ((HB.out.cell (World.block_lt_of_cell? w _ hw352_2)).trans hw352_2), ((HB.out.cell (World.block_lt_of_cell? w _ hw352_3)).trans hw352_3), ((HB.out.cell (World.block_lt_of_cell? w _ hw352_4)).trans hw352_4), ((HB.out.cell (World.block_lt_of_cell? w _ hw352_5)).trans hw352_5), ((HB.out.cell (World.block_lt_of_cell? w _ hw354_0)).trans hw354_0), ((HB.out.cell (World.block_lt_of_cell? w _ hw354_1)).trans hw354_1), ((HB.out.cell (World.block_lt_of_cell? w _ hw354_2)).trans hw354_2), ((HB.out.cell (World.block_lt_of_cell? w _ hw354_3)).trans hw354_3), ((HB.out.cell (World.block_lt_of_cell? w _ hw354_4)).trans hw354_4), ((HB.out.cell (World.block_lt_of_cell? w _ hw354_5)).trans hw354_5)⟩ (fun hHeld => ?_); refine with_tabW fairwayref10_Seg.tab4 fairwayref10_Seg.bits4 (fun HT_ HW_ => ?_)
           generalize wc.drew = w27 at BK350 HB hx352_0 hx352_1 hx352_2 hx352_3 hx352_4 hx352_5 hx354_0 hx354_1 hx354_2 hx354_3 hx354_4 hx354_5 hHeld ⊢
           refine pz (i := 0) (N := some 11) #[I,O,O,O,O,O,O,O,O,O,O,O,O,O,O,O,O,O,O,O,O,O,O,O,O,O,O,O,O,O,O,O,O,O,O,O,O,O,O,O,O,O,O,O,O,O,O,O,O,O,O,O,O,O] ?_
           refine pz (i := 2) (N := some 13) #[I,O,I,O,O,O,O,O,O,O,O,O,O,O,O,O,O,O,O,O,O,O,O,O,O,O,O,O,O,O,O,O,O,O,O,O,O,O,O,O,O,O,O,O,O,O,O,O,O,O,O,O,O,O] ?_
           refine tz (i := 1) (N := some 12) #[I,I,I,O,O,O,O,O,O,O,O,O,O,O,O,O,O,O,O,O,O,O,O,O,O,O,O,O,O,O,O,O,O,O,O,O,O,O,O,O,O,O,O,O,O,O,O,O,O,O,O,O,O,O] ?_
           refine pz (i := 3) (N := some 14) #[I,I,I,I,O,O,O,O,O,O,O,O,O,O,O,O,O,O,O,O,O,O,O,O,O,O,O,O,O,O,O,O,O,O,O,O,O,O,O,O,O,O,O,O,O,O,O,O,O,O,O,O,O,O] ?_
           refine tz (i := 4) (N := some 15) #[I,I,I,I,I,O,O,O,O,O,O,O,O,O,O,O,O,O,O,O,O,O,O,O,O,O,O,O,O,O,O,O,O,O,O,O,O,O,O,O,O,O,O,O,O,O,O,O,O,O,O,O,O,O] ?_
           refine one_ (i := 5) (N := some 16) #[I,I,I,I,I,I,O,O,O,O,O,O,O,O,O,O,O,O,O,O,O,O,O,O,O,O,O,O,O,O,O,O,O,O,O,O,O,O,O,O,O,O,O,O,O,O,O,O,O,O,O,O,O,O] rfl rfl (one_of HT_.out (by kernel_rfl)) (by decide) (fun K hK => ?_)
           refine goes_ Try.func17 (by kernel_rfl) rfl #[.agg #[.int .i64 ((rd_T25 l0_1 x3_1).f0), .int .i64 ((rd_T25 l0_1 x3_1).f1), .string ((rd_T25 l0_1 x3_1).f2), .string ((rd_T25 l0_1 x3_1).f3), .int .i64 ((rd_T25 l0_1 x3_1).f4), .bool ((rd_T25 l0_1 x3_1).f5)]] (by rfl) rfl rfl aa ?_
           with_reducible refine (fairwayref10_Rec.calls ((rd_T25 l0_1 x3_1).f0) ((rd_T25 l0_1 x3_1).f1) ((rd_T25 l0_1 x3_1).f2) ((rd_T25 l0_1 x3_1).f3) ((rd_T25 l0_1 x3_1).f4) ((rd_T25 l0_1 x3_1).f5) true _ A13.out).mono ?_
           rintro e w28 ⟨rfl, hb⟩
           refine ⟨_, rfl, ?_⟩
           replace BK350 := Aside0.mk (blk_below (g := gb350) (o := .cells #[.int .i64 a0_0, .slice (some ad352) l0_1.length c0_1] 53 (0, 0)) (bk BK350.out) hb)
           replace HB := Aside0.mk (below_step bo hb)
           (try clear hb)
           (try clear hb2)
           (try clear hk)
           (try clear hi)
           refine hK.out _ _ ⟨(blk_cell BK350.out 0).trans rfl, (blk_cell BK350.out 1).trans rfl, ((HB.out.cell (World.block_lt_of_cell? w _ hw352_0)).trans hw352_0), ((HB.out.cell (World.block_lt_of_cell? w _ hw352_1)).trans hw352_1), ((HB.out.cell (World.block_lt_of_cell? w _ hw352_2)).trans hw352_2), ((HB.out.cell (World.block_lt_of_cell? w _ hw352_3)).trans hw352_3), ((HB.out.cell (World.block_lt_of_cell? w _ hw352_4)).trans hw352_4), ((HB.out.cell (World.block_lt_of_cell? w _ hw352_5)).trans hw352_5), ((HB.out.cell (World.block_lt_of_cell? w _ hw354_0)).trans hw354_0), ((HB.out.cell (World.block_lt_of_cell? w _ hw354_1)).trans hw354_1), ((HB.out.cell (World.block_lt_of_cell? w _ hw354_2)).trans hw354_2), ((HB.out.cell (World.block_lt_of_cell? w _ hw354_3)).trans hw354_3), ((HB.out.cell (World.block_lt_of_cell? w _ hw354_4)).trans hw354_4), ((HB.out.cell (World.block_lt_of_cell? w _ hw354_5)).trans hw354_5)⟩ (fun hHeld => ?_)
           clear hK K
           refine norm_ (a' := ?_) ?_ ?_
           rotate_left
           ·show Act.put _ (some 16) _ = _
            simp only [Act.put, List.setIfInBounds_toArray, List.set_cons_zero, List.set_cons_succ, i64_w, i32_w]
            rfl
           refine pz (i := 6) (N := some 17) #[I,I,I,I,I,I,I,O,O,O,O,O,O,O,O,O,O,O,O,O,O,O,O,O,O,O,O,O,O,O,O,O,O,O,O,O,O,O,O,O,O,O,O,O,O,O,O,O,O,O,O,O,O,O] ?_
           refine pz (i := 7) (N := some 18) #[I,I,I,I,I,I,I,I,O,O,O,O,O,O,O,O,O,O,O,O,O,O,O,O,O,O,O,O,O,O,O,O,O,O,O,O,O,O,O,O,O,O,O,O,O,O,O,O,O,O,O,O,O,O] ?_
           refine pz (i := 8) (N := some 19) #[I,I,I,I,I,I,I,I,I,O,O,O,O,O,O,O,O,O,O,O,O,O,O,O,O,O,O,O,O,O,O,O,O,O,O,O,O,O,O,O,O,O,O,O,O,O,O,O,O,O,O,O,O,O] ?_
           refine pz (i := 10) (N := some 21) #[I,I,I,I,I,I,I,I,I,O,I,O,O,O,O,O,O,O,O,O,O,O,O,O,O,O,O,O,O,O,O,O,O,O,O,O,O,O,O,O,O,O,O,O,O,O,O,O,O,O,O,O,O,O] ?_
           refine pz (i := 14) (N := some 25) #[I,I,I,I,I,I,I,I,I,O,I,O,O,O,I,O,O,O,O,O,O,O,O,O,O,O,O,O,O,O,O,O,O,O,O,O,O,O,O,O,O,O,O,O,O,O,O,O,O,O,O,O,O,O] ?_
           refine tz (i := 9) (N := some 20) #[I,I,I,I,I,I,I,I,I,I,I,O,O,O,I,O,O,O,O,O,O,O,O,O,O,O,O,O,O,O,O,O,O,O,O,O,O,O,O,O,O,O,O,O,O,O,O,O,O,O,O,O,O,O] ?_
           refine pz (i := 11) (N := some 22) #[I,I,I,I,I,I,I,I,I,I,I,I,O,O,I,O,O,O,O,O,O,O,O,O,O,O,O,O,O,O,O,O,O,O,O,O,O,O,O,O,O,O,O,O,O,O,O,O,O,O,O,O,O,O] ?_
           refine pz (i := 12) (N := some 23) #[I,I,I,I,I,I,I,I,I,I,I,I,I,O,I,O,O,O,O,O,O,O,O,O,O,O,O,O,O,O,O,O,O,O,O,O,O,O,O,O,O,O,O,O,O,O,O,O,O,O,O,O,O,O] ?_
           refine tz (i := 13) (N := some 24) #[I,I,I,I,I,I,I,I,I,I,I,I,I,I,I,O,O,O,O,O,O,O,O,O,O,O,O,O,O,O,O,O,O,O,O,O,O,O,O,O,O,O,O,O,O,O,O,O,O,O,O,O,O,O] ?_
           refine tz (i := 15) (N := some 26) #[I,I,I,I,I,I,I,I,I,I,I,I,I,I,I,I,O,O,O,O,O,O,O,O,O,O,O,O,O,O,O,O,O,O,O,O,O,O,O,O,O,O,O,O,O,O,O,O,O,O,O,O,O,O] ?_
           refine pz (i := 16) (N := some 27) #[I,I,I,I,I,I,I,I,I,I,I,I,I,I,I,I,I,O,O,O,O,O,O,O,O,O,O,O,O,O,O,O,O,O,O,O,O,O,O,O,O,O,O,O,O,O,O,O,O,O,O,O,O,O] ?_
           refine pz (i := 17) (N := some 28) #[I,I,I,I,I,I,I,I,I,I,I,I,I,I,I,I,I,I,O,O,O,O,O,O,O,O,O,O,O,O,O,O,O,O,O,O,O,O,O,O,O,O,O,O,O,O,O,O,O,O,O,O,O,O] ?_
           refine pz (i := 18) (N := some 29) #[I,I,I,I,I,I,I,I,I,I,I,I,I,I,I,I,I,I,I,O,O,O,O,O,O,O,O,O,O,O,O,O,O,O,O,O,O,O,O,O,O,O,O,O,O,O,O,O,O,O,O,O,O,O] ?_
           refine pz (i := 19) (N := some 30) #[I,I,I,I,I,I,I,I,I,I,I,I,I,I,I,I,I,I,I,I,O,O,O,O,O,O,O,O,O,O,O,O,O,O,O,O,O,O,O,O,O,O,O,O,O,O,O,O,O,O,O,O,O,O] ?_
           refine pz (i := 20) (N := some 31) #[I,I,I,I,I,I,I,I,I,I,I,I,I,I,I,I,I,I,I,I,I,O,O,O,O,O,O,O,O,O,O,O,O,O,O,O,O,O,O,O,O,O,O,O,O,O,O,O,O,O,O,O,O,O] ?_
           refine pz (i := 21) (N := some 32) #[I,I,I,I,I,I,I,I,I,I,I,I,I,I,I,I,I,I,I,I,I,I,O,O,O,O,O,O,O,O,O,O,O,O,O,O,O,O,O,O,O,O,O,O,O,O,O,O,O,O,O,O,O,O] ?_
           refine pu (i := 22) (N := some 33) #[I,I,I,I,I,I,I,I,I,I,I,I,I,I,I,I,I,I,I,I,I,I,I,O,O,O,O,O,O,O,O,O,O,O,O,O,O,O,O,O,O,O,O,O,O,O,O,O,O,O,O,O,O,O] ?_
           refine pu (i := 23) (N := some 34) #[I,I,I,I,I,I,I,I,I,I,I,I,I,I,I,I,I,I,I,I,I,I,I,I,O,O,O,O,O,O,O,O,O,O,O,O,O,O,O,O,O,O,O,O,O,O,O,O,O,O,O,O,O,O] ?_
           refine pu (i := 24) (N := some 35) #[I,I,I,I,I,I,I,I,I,I,I,I,I,I,I,I,I,I,I,I,I,I,I,I,I,O,O,O,O,O,O,O,O,O,O,O,O,O,O,O,O,O,O,O,O,O,O,O,O,O,O,O,O,O] ?_
           refine pu (i := 25) (N := some 36) #[I,I,I,I,I,I,I,I,I,I,I,I,I,I,I,I,I,I,I,I,I,I,I,I,I,I,O,O,O,O,O,O,O,O,O,O,O,O,O,O,O,O,O,O,O,O,O,O,O,O,O,O,O,O] ?_
           refine pu (i := 26) (N := some 37) #[I,I,I,I,I,I,I,I,I,I,I,I,I,I,I,I,I,I,I,I,I,I,I,I,I,I,I,O,O,O,O,O,O,O,O,O,O,O,O,O,O,O,O,O,O,O,O,O,O,O,O,O,O,O] ?_
           refine pu (i := 27) (N := some 38) #[I,I,I,I,I,I,I,I,I,I,I,I,I,I,I,I,I,I,I,I,I,I,I,I,I,I,I,I,O,O,O,O,O,O,O,O,O,O,O,O,O,O,O,O,O,O,O,O,O,O,O,O,O,O] ?_
           refine pu (i := 28) (N := some 39) #[I,I,I,I,I,I,I,I,I,I,I,I,I,I,I,I,I,I,I,I,I,I,I,I,I,I,I,I,I,O,O,O,O,O,O,O,O,O,O,O,O,O,O,O,O,O,O,O,O,O,O,O,O,O] ?_
           refine pu (i := 29) (N := some 40) #[I,I,I,I,I,I,I,I,I,I,I,I,I,I,I,I,I,I,I,I,I,I,I,I,I,I,I,I,I,I,O,O,O,O,O,O,O,O,O,O,O,O,O,O,O,O,O,O,O,O,O,O,O,O] ?_
           refine pu (i := 30) (N := some 41) #[I,I,I,I,I,I,I,I,I,I,I,I,I,I,I,I,I,I,I,I,I,I,I,I,I,I,I,I,I,I,I,O,O,O,O,O,O,O,O,O,O,O,O,O,O,O,O,O,O,O,O,O,O,O] ?_
           refine pu (i := 31) (N := some 42) #[I,I,I,I,I,I,I,I,I,I,I,I,I,I,I,I,I,I,I,I,I,I,I,I,I,I,I,I,I,I,I,I,O,O,O,O,O,O,O,O,O,O,O,O,O,O,O,O,O,O,O,O,O,O] ?_
           refine pu (i := 32) (N := some 43) #[I,I,I,I,I,I,I,I,I,I,I,I,I,I,I,I,I,I,I,I,I,I,I,I,I,I,I,I,I,I,I,I,I,O,O,O,O,O,O,O,O,O,O,O,O,O,O,O,O,O,O,O,O,O] ?_
           refine pu (i := 33) (N := some 44) #[I,I,I,I,I,I,I,I,I,I,I,I,I,I,I,I,I,I,I,I,I,I,I,I,I,I,I,I,I,I,I,I,I,I,O,O,O,O,O,O,O,O,O,O,O,O,O,O,O,O,O,O,O,O] ?_
           refine pu (i := 34) (N := some 45) #[I,I,I,I,I,I,I,I,I,I,I,I,I,I,I,I,I,I,I,I,I,I,I,I,I,I,I,I,I,I,I,I,I,I,I,O,O,O,O,O,O,O,O,O,O,O,O,O,O,O,O,O,O,O] ?_
           refine pu (i := 35) (N := some 46) #[I,I,I,I,I,I,I,I,I,I,I,I,I,I,I,I,I,I,I,I,I,I,I,I,I,I,I,I,I,I,I,I,I,I,I,I,O,O,O,O,O,O,O,O,O,O,O,O,O,O,O,O,O,O] ?_
           refine pu (i := 36) (N := some 47) #[I,I,I,I,I,I,I,I,I,I,I,I,I,I,I,I,I,I,I,I,I,I,I,I,I,I,I,I,I,I,I,I,I,I,I,I,I,O,O,O,O,O,O,O,O,O,O,O,O,O,O,O,O,O] ?_
           refine pu (i := 37) (N := some 48) #[I,I,I,I,I,I,I,I,I,I,I,I,I,I,I,I,I,I,I,I,I,I,I,I,I,I,I,I,I,I,I,I,I,I,I,I,I,I,O,O,O,O,O,O,O,O,O,O,O,O,O,O,O,O] ?_
           refine pu (i := 38) (N := some 49) #[I,I,I,I,I,I,I,I,I,I,I,I,I,I,I,I,I,I,I,I,I,I,I,I,I,I,I,I,I,I,I,I,I,I,I,I,I,I,I,O,O,O,O,O,O,O,O,O,O,O,O,O,O,O] ?_
           refine pu (i := 39) (N := some 50) #[I,I,I,I,I,I,I,I,I,I,I,I,I,I,I,I,I,I,I,I,I,I,I,I,I,I,I,I,I,I,I,I,I,I,I,I,I,I,I,I,O,O,O,O,O,O,O,O,O,O,O,O,O,O] ?_
           refine pu (i := 40) (N := some 51) #[I,I,I,I,I,I,I,I,I,I,I,I,I,I,I,I,I,I,I,I,I,I,I,I,I,I,I,I,I,I,I,I,I,I,I,I,I,I,I,I,I,O,O,O,O,O,O,O,O,O,O,O,O,O] ?_
           refine pu (i := 41) (N := some 52) #[I,I,I,I,I,I,I,I,I,I,I,I,I,I,I,I,I,I,I,I,I,I,I,I,I,I,I,I,I,I,I,I,I,I,I,I,I,I,I,I,I,I,O,O,O,O,O,O,O,O,O,O,O,O] ?_
           refine pu (i := 42) (N := some 53) #[I,I,I,I,I,I,I,I,I,I,I,I,I,I,I,I,I,I,I,I,I,I,I,I,I,I,I,I,I,I,I,I,I,I,I,I,I,I,I,I,I,I,I,O,O,O,O,O,O,O,O,O,O,O] ?_
           refine pu (i := 43) (N := some 54) #[I,I,I,I,I,I,I,I,I,I,I,I,I,I,I,I,I,I,I,I,I,I,I,I,I,I,I,I,I,I,I,I,I,I,I,I,I,I,I,I,I,I,I,I,O,O,O,O,O,O,O,O,O,O] ?_
           refine pu (i := 44) (N := some 55) #[I,I,I,I,I,I,I,I,I,I,I,I,I,I,I,I,I,I,I,I,I,I,I,I,I,I,I,I,I,I,I,I,I,I,I,I,I,I,I,I,I,I,I,I,I,O,O,O,O,O,O,O,O,O] ?_
           refine pu (i := 45) (N := some 56) #[I,I,I,I,I,I,I,I,I,I,I,I,I,I,I,I,I,I,I,I,I,I,I,I,I,I,I,I,I,I,I,I,I,I,I,I,I,I,I,I,I,I,I,I,I,I,O,O,O,O,O,O,O,O] ?_
           refine pu (i := 46) (N := some 57) #[I,I,I,I,I,I,I,I,I,I,I,I,I,I,I,I,I,I,I,I,I,I,I,I,I,I,I,I,I,I,I,I,I,I,I,I,I,I,I,I,I,I,I,I,I,I,I,O,O,O,O,O,O,O] ?_
           refine pu (i := 47) (N := some 58) #[I,I,I,I,I,I,I,I,I,I,I,I,I,I,I,I,I,I,I,I,I,I,I,I,I,I,I,I,I,I,I,I,I,I,I,I,I,I,I,I,I,I,I,I,I,I,I,I,O,O,O,O,O,O] ?_
           refine pu (i := 48) (N := some 59) #[I,I,I,I,I,I,I,I,I,I,I,I,I,I,I,I,I,I,I,I,I,I,I,I,I,I,I,I,I,I,I,I,I,I,I,I,I,I,I,I,I,I,I,I,I,I,I,I,I,O,O,O,O,O] ?_
           refine pu (i := 49) (N := some 60) #[I,I,I,I,I,I,I,I,I,I,I,I,I,I,I,I,I,I,I,I,I,I,I,I,I,I,I,I,I,I,I,I,I,I,I,I,I,I,I,I,I,I,I,I,I,I,I,I,I,I,O,O,O,O] ?_
           refine pu (i := 50) (N := some 61) #[I,I,I,I,I,I,I,I,I,I,I,I,I,I,I,I,I,I,I,I,I,I,I,I,I,I,I,I,I,I,I,I,I,I,I,I,I,I,I,I,I,I,I,I,I,I,I,I,I,I,I,O,O,O] ?_
           refine pu (i := 51) (N := some 62) #[I,I,I,I,I,I,I,I,I,I,I,I,I,I,I,I,I,I,I,I,I,I,I,I,I,I,I,I,I,I,I,I,I,I,I,I,I,I,I,I,I,I,I,I,I,I,I,I,I,I,I,I,O,O] ?_
           refine pz (i := 52) (N := some 63) #[I,I,I,I,I,I,I,I,I,I,I,I,I,I,I,I,I,I,I,I,I,I,I,I,I,I,I,I,I,I,I,I,I,I,I,I,I,I,I,I,I,I,I,I,I,I,I,I,I,I,I,I,I,O] ?_
           refine pz (i := 53) (N := some 64) #[I,I,I,I,I,I,I,I,I,I,I,I,I,I,I,I,I,I,I,I,I,I,I,I,I,I,I,I,I,I,I,I,I,I,I,I,I,I,I,I,I,I,I,I,I,I,I,I,I,I,I,I,I,I] ?_
           refine done_ (done_of HT_.out (by kernel_rfl)) ?_
           try go_wp2
           go_meet
           case rel => exact ⟨_, (false), ap, H', ⟨by have := HK1.out; have := HJ2.out; first | omega | exact Nat.le_refl _⟩, ⟨by (with_reducible repeat (first | refine blk_drewN ?_ _ | refine blk_drew ?_ | refine blk_alloc ?_ _)); exact BK350.out⟩, ⟨bo⟩⟩
        ·replace c14 := Bool.eq_false_iff.mpr c14
         subst c14
         have H1 : (fairwayref10_Seg.j2 kj2 x3_1 true a0_0 l0_1) = some r := by rw [if_neg (show ¬ (false = true) by decide)] at H; exact H
         clear H
         have H := H1
         clear H1
         have H' := Aside0.mk H
         clear H
         try go_wp2
         replace BK350 := Aside0.mk (blk_drew BK350.out)
         replace HB := Aside0.mk (below_drew1 HB.out)
         have p352 : 0 ≤ (x3_1 : Int) := od
         have q352 : x3_1 < (l0_1.length : Int) := od
         obtain ⟨ad352, e352, hx352_0, hx352_1, hx352_2, hx352_3, hx352_4, hx352_5⟩ := at_T25 HR0_1.out x3_1 p352 q352
         have hw352_5 := hx352_5
         have hw352_4 := hx352_4
         have hw352_3 := hx352_3
         have hw352_2 := hx352_2
         have hw352_1 := hx352_1
         have hw352_0 := hx352_0
         cases e352
         replace hx352_0 := cx HB.out hx352_0
         replace hx352_1 := cx HB.out hx352_1
         replace hx352_2 := cx HB.out hx352_2
         replace hx352_3 := cx HB.out hx352_3
         replace hx352_4 := cx HB.out hx352_4
         replace hx352_5 := cx HB.out hx352_5
         replace p352 := eq_true p352
         replace q352 := eq_true q352
         refine start_ (n := 54) (S := fun w' => w'.cell? ⟨gb350, 0, none⟩ = some (.int .i64 a0_0) ∧ w'.cell? ⟨gb350, 1, none⟩ = some (.slice (some ad352) l0_1.length c0_1) ∧ w'.cell? (ad352.add ((x3_1).toNat * 6)) = some (.int .i64 ((rd_T25 l0_1 x3_1).f0)) ∧ w'.cell? ⟨(ad352.add ((x3_1).toNat * 6)).block, (ad352.add ((x3_1).toNat * 6)).off + 1, none⟩ = some (.int .i64 ((rd_T25 l0_1 x3_1).f1)) ∧ w'.cell? ⟨(ad352.add ((x3_1).toNat * 6)).block, (ad352.add ((x3_1).toNat * 6)).off + 2, none⟩ = some (.string ((rd_T25 l0_1 x3_1).f2)) ∧ w'.cell? ⟨(ad352.add ((x3_1).toNat * 6)).block, (ad352.add ((x3_1).toNat * 6)).off + 3, none⟩ = some (.string ((rd_T25 l0_1 x3_1).f3)) ∧ w'.cell? ⟨(ad352.add ((x3_1).toNat * 6)).block, (ad352.add ((x3_1).toNat * 6)).off + 4, none⟩ = some (.int .i64 ((rd_T25 l0_1 x3_1).f4)) ∧ w'.cell? ⟨(ad352.add ((x3_1).toNat * 6)).block, (ad352.add ((x3_1).toNat * 6)).off + 5, none⟩ = some (.bool ((rd_T25 l0_1 x3_1).f5))) (ds := []) #[O,O,O,O,O,O,O,O,O,O,O,O,O,O,O,O,O,O,O,O,O,O,O,O,O,O,O,O,O,O,O,O,O,O,O,O,O,O,O,O,O,O,O,O,O,O,O,O,O,O,O,O,O,O] (by kernel_rfl) rfl rfl ⟨(blk_cell BK350.out 0).trans rfl, (blk_cell BK350.out 1).trans rfl, ((HB.out.cell (World.block_lt_of_cell? w _ hw352_0)).trans hw352_0), ((HB.out.cell (World.block_lt_of_cell? w _ hw352_1)).trans hw352_1), ((HB.out.cell (World.block_lt_of_cell? w _ hw352_2)).trans hw352_2), ((HB.out.cell (World.block_lt_of_cell? w _ hw352_3)).trans hw352_3), ((HB.out.cell (World.block_lt_of_cell? w _ hw352_4)).trans hw352_4), ((HB.out.cell (World.block_lt_of_cell? w _ hw352_5)).trans hw352_5)⟩ (fun hHeld => ?_); refine with_tabW fairwayref10_Seg.tab4 fairwayref10_Seg.bits4 (fun HT_ HW_ => ?_)
         generalize wc.drew = w29 at BK350 HB hx352_0 hx352_1 hx352_2 hx352_3 hx352_4 hx352_5 hHeld ⊢
         refine pz (i := 0) (N := some 11) #[I,O,O,O,O,O,O,O,O,O,O,O,O,O,O,O,O,O,O,O,O,O,O,O,O,O,O,O,O,O,O,O,O,O,O,O,O,O,O,O,O,O,O,O,O,O,O,O,O,O,O,O,O,O] ?_
         refine pz (i := 2) (N := some 13) #[I,O,I,O,O,O,O,O,O,O,O,O,O,O,O,O,O,O,O,O,O,O,O,O,O,O,O,O,O,O,O,O,O,O,O,O,O,O,O,O,O,O,O,O,O,O,O,O,O,O,O,O,O,O] ?_
         refine tz (i := 1) (N := some 12) #[I,I,I,O,O,O,O,O,O,O,O,O,O,O,O,O,O,O,O,O,O,O,O,O,O,O,O,O,O,O,O,O,O,O,O,O,O,O,O,O,O,O,O,O,O,O,O,O,O,O,O,O,O,O] ?_
         refine pz (i := 3) (N := some 14) #[I,I,I,I,O,O,O,O,O,O,O,O,O,O,O,O,O,O,O,O,O,O,O,O,O,O,O,O,O,O,O,O,O,O,O,O,O,O,O,O,O,O,O,O,O,O,O,O,O,O,O,O,O,O] ?_
         refine tz (i := 4) (N := some 15) #[I,I,I,I,I,O,O,O,O,O,O,O,O,O,O,O,O,O,O,O,O,O,O,O,O,O,O,O,O,O,O,O,O,O,O,O,O,O,O,O,O,O,O,O,O,O,O,O,O,O,O,O,O,O] ?_
         refine one_ (i := 5) (N := some 16) #[I,I,I,I,I,I,O,O,O,O,O,O,O,O,O,O,O,O,O,O,O,O,O,O,O,O,O,O,O,O,O,O,O,O,O,O,O,O,O,O,O,O,O,O,O,O,O,O,O,O,O,O,O,O] rfl rfl (one_of HT_.out (by kernel_rfl)) (by decide) (fun K hK => ?_)
         refine goes_ Try.func17 (by kernel_rfl) rfl #[.agg #[.int .i64 ((rd_T25 l0_1 x3_1).f0), .int .i64 ((rd_T25 l0_1 x3_1).f1), .string ((rd_T25 l0_1 x3_1).f2), .string ((rd_T25 l0_1 x3_1).f3), .int .i64 ((rd_T25 l0_1 x3_1).f4), .bool ((rd_T25 l0_1 x3_1).f5)]] (by rfl) rfl rfl aa ?_
         with_reducible refine (fairwayref10_Rec.calls ((rd_T25 l0_1 x3_1).f0) ((rd_T25 l0_1 x3_1).f1) ((rd_T25 l0_1 x3_1).f2) ((rd_T25 l0_1 x3_1).f3) ((rd_T25 l0_1 x3_1).f4) ((rd_T25 l0_1 x3_1).f5) false _ A13.out).mono ?_
         rintro e w30 ⟨rfl, hb⟩
         refine ⟨_, rfl, ?_⟩
         replace BK350 := Aside0.mk (blk_below (g := gb350) (o := .cells #[.int .i64 a0_0, .slice (some ad352) l0_1.length c0_1] 53 (0, 0)) (bk BK350.out) hb)
         replace HB := Aside0.mk (below_step bo hb)
         (try clear hb)
         (try clear hb2)
         (try clear hk)
         (try clear hi)
         refine hK.out _ _ ⟨(blk_cell BK350.out 0).trans rfl, (blk_cell BK350.out 1).trans rfl, ((HB.out.cell (World.block_lt_of_cell? w _ hw352_0)).trans hw352_0), ((HB.out.cell (World.block_lt_of_cell? w _ hw352_1)).trans hw352_1), ((HB.out.cell (World.block_lt_of_cell? w _ hw352_2)).trans hw352_2), ((HB.out.cell (World.block_lt_of_cell? w _ hw352_3)).trans hw352_3), ((HB.out.cell (World.block_lt_of_cell? w _ hw352_4)).trans hw352_4), ((HB.out.cell (World.block_lt_of_cell? w _ hw352_5)).trans hw352_5)⟩ (fun hHeld => ?_)
         clear hK K
         refine norm_ (a' := ?_) ?_ ?_
         rotate_left
         ·show Act.put _ (some 16) _ = _
          simp only [Act.put, List.setIfInBounds_toArray, List.set_cons_zero, List.set_cons_succ, i64_w, i32_w]
          rfl
         refine pz (i := 6) (N := some 17) #[I,I,I,I,I,I,I,O,O,O,O,O,O,O,O,O,O,O,O,O,O,O,O,O,O,O,O,O,O,O,O,O,O,O,O,O,O,O,O,O,O,O,O,O,O,O,O,O,O,O,O,O,O,O] ?_
         refine pz (i := 7) (N := some 18) #[I,I,I,I,I,I,I,I,O,O,O,O,O,O,O,O,O,O,O,O,O,O,O,O,O,O,O,O,O,O,O,O,O,O,O,O,O,O,O,O,O,O,O,O,O,O,O,O,O,O,O,O,O,O] ?_
         refine pu (i := 8) (N := some 19) #[I,I,I,I,I,I,I,I,I,O,O,O,O,O,O,O,O,O,O,O,O,O,O,O,O,O,O,O,O,O,O,O,O,O,O,O,O,O,O,O,O,O,O,O,O,O,O,O,O,O,O,O,O,O] ?_
         refine pu (i := 9) (N := some 20) #[I,I,I,I,I,I,I,I,I,I,O,O,O,O,O,O,O,O,O,O,O,O,O,O,O,O,O,O,O,O,O,O,O,O,O,O,O,O,O,O,O,O,O,O,O,O,O,O,O,O,O,O,O,O] ?_
         refine pu (i := 10) (N := some 21) #[I,I,I,I,I,I,I,I,I,I,I,O,O,O,O,O,O,O,O,O,O,O,O,O,O,O,O,O,O,O,O,O,O,O,O,O,O,O,O,O,O,O,O,O,O,O,O,O,O,O,O,O,O,O] ?_
         refine pu (i := 11) (N := some 22) #[I,I,I,I,I,I,I,I,I,I,I,I,O,O,O,O,O,O,O,O,O,O,O,O,O,O,O,O,O,O,O,O,O,O,O,O,O,O,O,O,O,O,O,O,O,O,O,O,O,O,O,O,O,O] ?_
         refine pu (i := 12) (N := some 23) #[I,I,I,I,I,I,I,I,I,I,I,I,I,O,O,O,O,O,O,O,O,O,O,O,O,O,O,O,O,O,O,O,O,O,O,O,O,O,O,O,O,O,O,O,O,O,O,O,O,O,O,O,O,O] ?_
         refine pu (i := 13) (N := some 24) #[I,I,I,I,I,I,I,I,I,I,I,I,I,I,O,O,O,O,O,O,O,O,O,O,O,O,O,O,O,O,O,O,O,O,O,O,O,O,O,O,O,O,O,O,O,O,O,O,O,O,O,O,O,O] ?_
         refine pu (i := 14) (N := some 25) #[I,I,I,I,I,I,I,I,I,I,I,I,I,I,I,O,O,O,O,O,O,O,O,O,O,O,O,O,O,O,O,O,O,O,O,O,O,O,O,O,O,O,O,O,O,O,O,O,O,O,O,O,O,O] ?_
         refine pu (i := 15) (N := some 26) #[I,I,I,I,I,I,I,I,I,I,I,I,I,I,I,I,O,O,O,O,O,O,O,O,O,O,O,O,O,O,O,O,O,O,O,O,O,O,O,O,O,O,O,O,O,O,O,O,O,O,O,O,O,O] ?_
         refine pu (i := 16) (N := some 27) #[I,I,I,I,I,I,I,I,I,I,I,I,I,I,I,I,I,O,O,O,O,O,O,O,O,O,O,O,O,O,O,O,O,O,O,O,O,O,O,O,O,O,O,O,O,O,O,O,O,O,O,O,O,O] ?_
         refine pz (i := 17) (N := some 28) #[I,I,I,I,I,I,I,I,I,I,I,I,I,I,I,I,I,I,O,O,O,O,O,O,O,O,O,O,O,O,O,O,O,O,O,O,O,O,O,O,O,O,O,O,O,O,O,O,O,O,O,O,O,O] ?_
         refine pz (i := 18) (N := some 29) #[I,I,I,I,I,I,I,I,I,I,I,I,I,I,I,I,I,I,I,O,O,O,O,O,O,O,O,O,O,O,O,O,O,O,O,O,O,O,O,O,O,O,O,O,O,O,O,O,O,O,O,O,O,O] ?_
         refine pu (i := 19) (N := some 30) #[I,I,I,I,I,I,I,I,I,I,I,I,I,I,I,I,I,I,I,I,O,O,O,O,O,O,O,O,O,O,O,O,O,O,O,O,O,O,O,O,O,O,O,O,O,O,O,O,O,O,O,O,O,O] ?_
         refine pu (i := 20) (N := some 31) #[I,I,I,I,I,I,I,I,I,I,I,I,I,I,I,I,I,I,I,I,I,O,O,O,O,O,O,O,O,O,O,O,O,O,O,O,O,O,O,O,O,O,O,O,O,O,O,O,O,O,O,O,O,O] ?_
         refine pu (i := 21) (N := some 32) #[I,I,I,I,I,I,I,I,I,I,I,I,I,I,I,I,I,I,I,I,I,I,O,O,O,O,O,O,O,O,O,O,O,O,O,O,O,O,O,O,O,O,O,O,O,O,O,O,O,O,O,O,O,O] ?_
         refine pu (i := 22) (N := some 33) #[I,I,I,I,I,I,I,I,I,I,I,I,I,I,I,I,I,I,I,I,I,I,I,O,O,O,O,O,O,O,O,O,O,O,O,O,O,O,O,O,O,O,O,O,O,O,O,O,O,O,O,O,O,O] ?_
         refine pu (i := 23) (N := some 34) #[I,I,I,I,I,I,I,I,I,I,I,I,I,I,I,I,I,I,I,I,I,I,I,I,O,O,O,O,O,O,O,O,O,O,O,O,O,O,O,O,O,O,O,O,O,O,O,O,O,O,O,O,O,O] ?_
         refine pu (i := 24) (N := some 35) #[I,I,I,I,I,I,I,I,I,I,I,I,I,I,I,I,I,I,I,I,I,I,I,I,I,O,O,O,O,O,O,O,O,O,O,O,O,O,O,O,O,O,O,O,O,O,O,O,O,O,O,O,O,O] ?_
         refine pu (i := 25) (N := some 36) #[I,I,I,I,I,I,I,I,I,I,I,I,I,I,I,I,I,I,I,I,I,I,I,I,I,I,O,O,O,O,O,O,O,O,O,O,O,O,O,O,O,O,O,O,O,O,O,O,O,O,O,O,O,O] ?_
         refine pu (i := 26) (N := some 37) #[I,I,I,I,I,I,I,I,I,I,I,I,I,I,I,I,I,I,I,I,I,I,I,I,I,I,I,O,O,O,O,O,O,O,O,O,O,O,O,O,O,O,O,O,O,O,O,O,O,O,O,O,O,O] ?_
         refine pu (i := 27) (N := some 38) #[I,I,I,I,I,I,I,I,I,I,I,I,I,I,I,I,I,I,I,I,I,I,I,I,I,I,I,I,O,O,O,O,O,O,O,O,O,O,O,O,O,O,O,O,O,O,O,O,O,O,O,O,O,O] ?_
         refine pu (i := 28) (N := some 39) #[I,I,I,I,I,I,I,I,I,I,I,I,I,I,I,I,I,I,I,I,I,I,I,I,I,I,I,I,I,O,O,O,O,O,O,O,O,O,O,O,O,O,O,O,O,O,O,O,O,O,O,O,O,O] ?_
         refine pu (i := 29) (N := some 40) #[I,I,I,I,I,I,I,I,I,I,I,I,I,I,I,I,I,I,I,I,I,I,I,I,I,I,I,I,I,I,O,O,O,O,O,O,O,O,O,O,O,O,O,O,O,O,O,O,O,O,O,O,O,O] ?_
         refine pu (i := 30) (N := some 41) #[I,I,I,I,I,I,I,I,I,I,I,I,I,I,I,I,I,I,I,I,I,I,I,I,I,I,I,I,I,I,I,O,O,O,O,O,O,O,O,O,O,O,O,O,O,O,O,O,O,O,O,O,O,O] ?_
         refine pu (i := 31) (N := some 42) #[I,I,I,I,I,I,I,I,I,I,I,I,I,I,I,I,I,I,I,I,I,I,I,I,I,I,I,I,I,I,I,I,O,O,O,O,O,O,O,O,O,O,O,O,O,O,O,O,O,O,O,O,O,O] ?_
         refine pu (i := 32) (N := some 43) #[I,I,I,I,I,I,I,I,I,I,I,I,I,I,I,I,I,I,I,I,I,I,I,I,I,I,I,I,I,I,I,I,I,O,O,O,O,O,O,O,O,O,O,O,O,O,O,O,O,O,O,O,O,O] ?_
         refine pu (i := 33) (N := some 44) #[I,I,I,I,I,I,I,I,I,I,I,I,I,I,I,I,I,I,I,I,I,I,I,I,I,I,I,I,I,I,I,I,I,I,O,O,O,O,O,O,O,O,O,O,O,O,O,O,O,O,O,O,O,O] ?_
         refine pu (i := 34) (N := some 45) #[I,I,I,I,I,I,I,I,I,I,I,I,I,I,I,I,I,I,I,I,I,I,I,I,I,I,I,I,I,I,I,I,I,I,I,O,O,O,O,O,O,O,O,O,O,O,O,O,O,O,O,O,O,O] ?_
         refine pu (i := 35) (N := some 46) #[I,I,I,I,I,I,I,I,I,I,I,I,I,I,I,I,I,I,I,I,I,I,I,I,I,I,I,I,I,I,I,I,I,I,I,I,O,O,O,O,O,O,O,O,O,O,O,O,O,O,O,O,O,O] ?_
         refine pu (i := 36) (N := some 47) #[I,I,I,I,I,I,I,I,I,I,I,I,I,I,I,I,I,I,I,I,I,I,I,I,I,I,I,I,I,I,I,I,I,I,I,I,I,O,O,O,O,O,O,O,O,O,O,O,O,O,O,O,O,O] ?_
         refine pu (i := 37) (N := some 48) #[I,I,I,I,I,I,I,I,I,I,I,I,I,I,I,I,I,I,I,I,I,I,I,I,I,I,I,I,I,I,I,I,I,I,I,I,I,I,O,O,O,O,O,O,O,O,O,O,O,O,O,O,O,O] ?_
         refine pu (i := 38) (N := some 49) #[I,I,I,I,I,I,I,I,I,I,I,I,I,I,I,I,I,I,I,I,I,I,I,I,I,I,I,I,I,I,I,I,I,I,I,I,I,I,I,O,O,O,O,O,O,O,O,O,O,O,O,O,O,O] ?_
         refine pu (i := 39) (N := some 50) #[I,I,I,I,I,I,I,I,I,I,I,I,I,I,I,I,I,I,I,I,I,I,I,I,I,I,I,I,I,I,I,I,I,I,I,I,I,I,I,I,O,O,O,O,O,O,O,O,O,O,O,O,O,O] ?_
         refine pu (i := 40) (N := some 51) #[I,I,I,I,I,I,I,I,I,I,I,I,I,I,I,I,I,I,I,I,I,I,I,I,I,I,I,I,I,I,I,I,I,I,I,I,I,I,I,I,I,O,O,O,O,O,O,O,O,O,O,O,O,O] ?_
         refine pu (i := 41) (N := some 52) #[I,I,I,I,I,I,I,I,I,I,I,I,I,I,I,I,I,I,I,I,I,I,I,I,I,I,I,I,I,I,I,I,I,I,I,I,I,I,I,I,I,I,O,O,O,O,O,O,O,O,O,O,O,O] ?_
         refine pu (i := 42) (N := some 53) #[I,I,I,I,I,I,I,I,I,I,I,I,I,I,I,I,I,I,I,I,I,I,I,I,I,I,I,I,I,I,I,I,I,I,I,I,I,I,I,I,I,I,I,O,O,O,O,O,O,O,O,O,O,O] ?_
         refine pu (i := 43) (N := some 54) #[I,I,I,I,I,I,I,I,I,I,I,I,I,I,I,I,I,I,I,I,I,I,I,I,I,I,I,I,I,I,I,I,I,I,I,I,I,I,I,I,I,I,I,I,O,O,O,O,O,O,O,O,O,O] ?_
         refine pu (i := 44) (N := some 55) #[I,I,I,I,I,I,I,I,I,I,I,I,I,I,I,I,I,I,I,I,I,I,I,I,I,I,I,I,I,I,I,I,I,I,I,I,I,I,I,I,I,I,I,I,I,O,O,O,O,O,O,O,O,O] ?_
         refine pu (i := 45) (N := some 56) #[I,I,I,I,I,I,I,I,I,I,I,I,I,I,I,I,I,I,I,I,I,I,I,I,I,I,I,I,I,I,I,I,I,I,I,I,I,I,I,I,I,I,I,I,I,I,O,O,O,O,O,O,O,O] ?_
         refine pu (i := 46) (N := some 57) #[I,I,I,I,I,I,I,I,I,I,I,I,I,I,I,I,I,I,I,I,I,I,I,I,I,I,I,I,I,I,I,I,I,I,I,I,I,I,I,I,I,I,I,I,I,I,I,O,O,O,O,O,O,O] ?_
         refine pu (i := 47) (N := some 58) #[I,I,I,I,I,I,I,I,I,I,I,I,I,I,I,I,I,I,I,I,I,I,I,I,I,I,I,I,I,I,I,I,I,I,I,I,I,I,I,I,I,I,I,I,I,I,I,I,O,O,O,O,O,O] ?_
         refine pu (i := 48) (N := some 59) #[I,I,I,I,I,I,I,I,I,I,I,I,I,I,I,I,I,I,I,I,I,I,I,I,I,I,I,I,I,I,I,I,I,I,I,I,I,I,I,I,I,I,I,I,I,I,I,I,I,O,O,O,O,O] ?_
         refine pu (i := 49) (N := some 60) #[I,I,I,I,I,I,I,I,I,I,I,I,I,I,I,I,I,I,I,I,I,I,I,I,I,I,I,I,I,I,I,I,I,I,I,I,I,I,I,I,I,I,I,I,I,I,I,I,I,I,O,O,O,O] ?_
         refine pu (i := 50) (N := some 61) #[I,I,I,I,I,I,I,I,I,I,I,I,I,I,I,I,I,I,I,I,I,I,I,I,I,I,I,I,I,I,I,I,I,I,I,I,I,I,I,I,I,I,I,I,I,I,I,I,I,I,I,O,O,O] ?_
         refine pu (i := 51) (N := some 62) #[I,I,I,I,I,I,I,I,I,I,I,I,I,I,I,I,I,I,I,I,I,I,I,I,I,I,I,I,I,I,I,I,I,I,I,I,I,I,I,I,I,I,I,I,I,I,I,I,I,I,I,I,O,O] ?_
         refine pu (i := 52) (N := some 63) #[I,I,I,I,I,I,I,I,I,I,I,I,I,I,I,I,I,I,I,I,I,I,I,I,I,I,I,I,I,I,I,I,I,I,I,I,I,I,I,I,I,I,I,I,I,I,I,I,I,I,I,I,I,O] ?_
         refine pz (i := 53) (N := some 64) #[I,I,I,I,I,I,I,I,I,I,I,I,I,I,I,I,I,I,I,I,I,I,I,I,I,I,I,I,I,I,I,I,I,I,I,I,I,I,I,I,I,I,I,I,I,I,I,I,I,I,I,I,I,I] ?_
         refine done_ (done_of HT_.out (by kernel_rfl)) ?_
         try go_wp2
         go_meet
         case rel => exact ⟨_, (true), ap, H', ⟨by have := HK1.out; have := HJ2.out; first | omega | exact Nat.le_refl _⟩, ⟨by (with_reducible repeat (first | refine blk_drewN ?_ _ | refine blk_drew ?_ | refine blk_alloc ?_ _)); exact BK350.out⟩, ⟨bo⟩⟩
       ·rw [if_neg c12] at H
        exact absurd H (by simp)
      ·rw [if_neg c11] at H
       exact absurd H (by simp)
     case rest =>
      clear HC10
      try clear c1
      try clear p2
      try clear p3
      try clear q3
      try clear hx3
      try clear c11
      try clear c12
      try clear c14
      try clear c17
      try clear hx352_0
      try clear hx352_1
      try clear hx352_2
      try clear hx352_3
      try clear hx352_4
      try clear hx352_5
      try clear p352
      try clear q352
      obtain ⟨kq, x64_9, rfl, HA, HJ9, BK350, HB⟩ := hcut
      cases kq with
      | zero => exact absurd HA.out (by simp [fairwayref10_Seg.j2])
      | succ kj9 =>
       have H := HA.out
       clear HA
       simp only [fairwayref10_Seg.j2] at H
       by_cases c31 : x64_9 = true
       ·subst c31
        have H1 : (some false) = some r := by rw [if_pos rfl] at H; exact H
        clear H
        have H := H1
        clear H1
        obtain rfl := Option.some.inj H
        go_wp2
        go_ret
        exact ⟨er, bo⟩
       ·replace c31 := Bool.eq_false_iff.mpr c31
        subst c31
        have H1 : (fairwayref10_Seg.l0 kj9 (wrap64 (x3_1 + 1)) a0_0 l0_1) = some r := by rw [if_neg (show ¬ (false = true) by decide)] at H; exact H
        clear H
        have H := H1
        clear H1
        have H' := Aside0.mk H
        clear H
        go_wp2
        go_roundg kj9
        case measure => have := HK1.out; have := HJ2.out; have := HJ9.out; omega
        case rel => exact ⟨(wrap64 (x3_1 + 1)), ap, H', ⟨by have := HK1.out; have := HJ2.out; have := HJ9.out; omega⟩, ⟨by (with_reducible repeat (first | refine blk_drewN ?_ _ | refine blk_drew ?_ | refine blk_alloc ?_ _)); exact BK350.out⟩, ⟨bo⟩⟩

end Go.Proofs.Ytmabdfdmccbfnaa.P

-- written by a program of the proving session, out of the translation; Lean checks it
namespace Go.Proofs.Ytmabdfdmccbfnaa.P
open Go.RowKit Go.Proofs.Ytmabdfdmccbfnaa.Sq Go.Proofs.YtmabdfdmccbfnaaW.PrintWords Go.Proofs.YtmabdfdmccbfnaaW.PrintLast Go.Proofs.YtmabdfdmccbfnaaW.PrintMore
attribute [local go_sem] max2_int min2_int max_two min_two max_three min_three max_four min_four   -- for this text's walks alone
set_option linter.unusedVariables false
set_option linter.unusedSimpArgs false

/-! ### fairwayref0_CopyRecs: function 76 -/
def fairwayref0_CopyRecs.l0 : Nat → List (S25) → List (S25) → Int → Option ((List (S25)))
 | 0, _, _, _ => none
 | k + 1, x0, x3, x4 => if x4 < (x0.length : Int) then (if 0 ≤ x4 then (if x3.length < 2199023255552 then (fairwayref0_CopyRecs.l0 k x0 (x3 ++ [(⟨(rd_T25 x0 x4).f0, (rd_T25 x0 x4).f1, (rd_T25 x0 x4).f2, (rd_T25 x0 x4).f3, (rd_T25 x0 x4).f4, (rd_T25 x0 x4).f5⟩ : S25)]) (wrap64 (x4 + 1))) else (none)) else (none)) else (some x3)
def fairwayref0_CopyRecs.f (k : Nat) (l0 : List (S25)) : Option ((List (S25))) := fairwayref0_CopyRecs.l0 k l0 ([] : List (S25)) 0
theorem fairwayref0_CopyRecs.mono_l : ∀ k, (∀ y0 y1 y2, LeO (fairwayref0_CopyRecs.l0 k y0 y1 y2) (fairwayref0_CopyRecs.l0 (k + 1) y0 y1 y2))
 | 0 => fun _ _ _ r h => by simp [fairwayref0_CopyRecs.l0] at h
 | k + 1 => by
  have ih0 := fairwayref0_CopyRecs.mono_l k
  ·intro y0 y1 y2
   unfold fairwayref0_CopyRecs.l0
   repeat' first
   | (with_reducible exact ih0 _ _ _)
   | (with_reducible exact LeO.refl _)
   | (with_reducible exact LeO.none _)
   | (with_reducible refine LeO.ite ?_ ?_)
   | (with_reducible refine LeO.bind ?_ (fun _ => ?_))
   | exact ih0 _ _ _
   | exact LeO.none _
   | refine LeO.ite ?_ ?_
   | refine LeO.bind ?_ (fun _ => ?_)
theorem fairwayref0_CopyRecs.mono : ∀ a0 k, LeO (fairwayref0_CopyRecs.f k a0) (fairwayref0_CopyRecs.f (k + 1) a0) := by
 intro a0 k
 have ih0 := fairwayref0_CopyRecs.mono_l k
 unfold fairwayref0_CopyRecs.f
 repeat' first
  | (with_reducible exact ih0 _ _ _)
  | (with_reducible exact LeO.refl _)
  | (with_reducible exact LeO.none _)
  | (with_reducible refine LeO.ite ?_ ?_)
  | (with_reducible refine LeO.bind ?_ (fun _ => ?_))
  | exact ih0 _ _ _
  | exact LeO.none _
  | refine LeO.ite ?_ ?_
  | refine LeO.bind ?_ (fun _ => ?_)
set_option maxHeartbeats 8000000 in
set_option maxRecDepth 100000 in
theorem fairwayref0_CopyRecs.calls (k : Nat) (A0 : Option Addr) (c0 : Nat) (l0 : List (S25)) (r : List (S25)) (w : World) (hr0 : Kd.C k25 w A0 l0.length l0) (hc0 : l0.length ≤ c0) (h : fairwayref0_CopyRecs.f k l0 = some r) :
 Calls Try.prog 76 #[.slice A0 l0.length c0] w fun e w' => ∃ v0_ : Value, e = .returned (v0_) ∧ Kd.R k25 25 w' w.heap.size (fun _ => True) v0_ r ∧ Below w.heap.size w w' := by
 have hu25 := Try.underlying25
 have HR0 := Aside0.mk hr0
 have HC0 := Aside0.mk hc0
 clear hr0 hc0
 have HB := Aside0.mk (Below.refl w.heap.size w)
 have H : (fairwayref0_CopyRecs.l0 k l0 ([] : List (S25)) 0) = some r := h
 clear h
 have H' := Aside0.mk H
 clear H
 go_enter Try.func76, Try.ntmps76
 go_wp2
 go_loopg [3, 4] k (fun kq v3 v4 w' => ∃ (x3_1 : List (S25)) (x4_1 : Int), v4 = .int .i64 x4_1 ∧ Aside0 (fairwayref0_CopyRecs.l0 kq l0 x3_1 x4_1 = some r) ∧ Aside0 (kq ≤ k) ∧ Aside0 (Kd.R k25 25 w' w.heap.size (fun _ => True) v3 x3_1) ∧ Aside0 (Below w.heap.size w w'))
 case atStart => exact ⟨(([] : List (S25))), (0), ap, H', ⟨Nat.le_refl _⟩, ⟨by first | exact Kd.R_nil _ _ _ _ _ | exact Kd.N_nil _ _ _ _ _ | exact Kd.V_nil _ _ _ _ _ | exact Kd.Q_nil _ _ _ _ _ | exact Kd.S_nil _ _ _ _ _⟩, ⟨bo⟩⟩
 case round =>
  clear H'
  obtain ⟨x3_1, x4_1, rfl, HA, HK1, HO_3, HB⟩ := hrel
  cases gk with
  | zero => exact absurd HA.out (by simp [fairwayref0_CopyRecs.l0])
  | succ k1 =>
   have H := HA.out
   clear HA
   simp only [fairwayref0_CopyRecs.l0] at H
   by_cases c2 : x4_1 < (l0.length : Int)
   ·rw [if_pos c2] at H
    have c2b0 : decide (x4_1 < (l0.length : Int)) = true := decide_eq_true c2
    clear c2
    by_cases c3 : 0 ≤ x4_1
    ·rw [if_pos c3] at H
     have c3b0 : decide (0 ≤ x4_1) = true := decide_eq_true c3
     clear c3
     by_cases c4 : x3_1.length < 2199023255552
     ·rw [if_pos c4] at H
      have LMc4 := Aside0.mk c4
      clear c4
      obtain ⟨y456, hy456⟩ : ∃ y_ : List (S25), y_ = (x3_1 ++ [(⟨(rd_T25 l0 x4_1).f0, (rd_T25 l0 x4_1).f1, (rd_T25 l0 x4_1).f2, (rd_T25 l0 x4_1).f3, (rd_T25 l0 x4_1).f4, (rd_T25 l0 x4_1).f5⟩ : S25)]) := ⟨_, rfl⟩
      replace H : (fairwayref0_CopyRecs.l0 k1 l0 y456 (wrap64 (x4_1 + 1))) = some r := by first | (rw [hy456]; with_reducible exact H) | (have H2_ := (Option.bind_some _ _).symm.trans H; rw [hy456]; with_reducible exact H2_) | (have H2_ := (Option.bind_some _ _).symm.trans H; with_reducible exact H2_) | with_reducible exact H | (rw [hy456]; exact H) | exact H
      have Ny456 := Aside0.mk hy456
      clear hy456
      have H' := Aside0.mk H
      clear H
      have p455 : 0 ≤ (x4_1 : Int) := od
      have q455 : x4_1 < (l0.length : Int) := od
      obtain ⟨ad455, e455, hx455_0, hx455_1, hx455_2, hx455_3, hx455_4, hx455_5⟩ := at_T25 HR0.out x4_1 p455 q455
      cases e455
      replace hx455_0 := cx HB.out hx455_0
      replace hx455_1 := cx HB.out hx455_1
      replace hx455_2 := cx HB.out hx455_2
      replace hx455_3 := cx HB.out hx455_3
      replace hx455_4 := cx HB.out hx455_4
      replace hx455_5 := cx HB.out hx455_5
      replace p455 := eq_true p455
      replace q455 := eq_true q455
      go_wp2_with (first | ((with_reducible refine gate_builtin (b := .append) (xs := #[.tmp 11, .tmp 16]) rfl ?_); at_builtin; refine Kd.R_append k25 (w0 := w) w.heap.size rfl (.tmp 11) (.tmp 16) 36 25 (.agg #[(.int .i64 0), (.int .i64 0), (.string ⟨#[]⟩), (.string ⟨#[]⟩), (.int .i64 0), (.bool false)]) 64 rfl Try.underlying36 info25 rfl (by decide) (by omega) u3 x3_1 (⟨(rd_T25 l0 x4_1).f0, (rd_T25 l0 x4_1).f1, (rd_T25 l0 x4_1).f2, (rd_T25 l0 x4_1).f3, (rd_T25 l0 x4_1).f4, (rd_T25 l0 x4_1).f5⟩ : S25) [.int .i64 ((rd_T25 l0 x4_1).f0), .int .i64 ((rd_T25 l0 x4_1).f1), .string ((rd_T25 l0 x4_1).f2), .string ((rd_T25 l0 x4_1).f3), .int .i64 ((rd_T25 l0 x4_1).f4), .bool ((rd_T25 l0 x4_1).f5)] (fun _ => True) (fun _ => False) rfl rfl ?aP (fun _ hk => hk.elim) ?aF ?aO ?aB ?aS ?aL ?_; (case aP => exact k25_mkM _ _ _ (⟨(rd_T25 l0 x4_1).f0, (rd_T25 l0 x4_1).f1, (rd_T25 l0 x4_1).f2, (rd_T25 l0 x4_1).f3, (rd_T25 l0 x4_1).f4, (rd_T25 l0 x4_1).f5⟩ : S25)); (case aB => exact bo); (case aF => exact (fun _ _ => trivial)); (case aO => exact (rk HO_3.out)); (case aS => exact (below_size bo)); (case aL => have := LMc4.out; omega); intro v457 w5 ho hb hg hat; rw [← Ny456.out] at ho; have n0_ := Aside0.mk (hb); have n1_ := Aside0.mk (ho); clear HB; clear HO_3; have HB := n0_; have HO458 := n1_; clear n0_ n1_; clear ho hb hg hat))
      go_roundg k1
      case measure => have := HK1.out; omega
      case rel => exact ⟨(y456), (wrap64 (x4_1 + 1)), ap, H', ⟨by have := HK1.out; omega⟩, ⟨by (with_reducible repeat (first | apply Kd.R_alloc | apply Kd.R_drewN | apply Kd.R_drew)); exact HO458.out⟩, ⟨bo⟩⟩
     ·rw [if_neg c4] at H
      exact absurd H (by simp)
    ·rw [if_neg c3] at H
     exact absurd H (by simp)
   ·rw [if_neg c2] at H
    have c2b0 : decide (x4_1 < (l0.length : Int)) = false := decide_eq_false c2
    clear c2
    obtain rfl := Option.some.inj H
    go_wp2
    go_ret
    exact ⟨_, er, by (with_reducible repeat (first | apply Kd.R_alloc | apply Kd.R_drewN | apply Kd.R_drew)); exact HO_3.out, bo⟩

end Go.Proofs.Ytmabdfdmccbfnaa.P

-- written by a program of the proving session, out of the translation; Lean checks it
namespace Go.Proofs.Ytmabdfdmccbfnaa.P
open Go.RowKit Go.Proofs.Ytmabdfdmccbfnaa.Sq Go.Proofs.YtmabdfdmccbfnaaW.PrintWords Go.Proofs.YtmabdfdmccbfnaaW.PrintLast Go.Proofs.YtmabdfdmccbfnaaW.PrintMore
attribute [local go_sem] max2_int min2_int max_two min_two max_three min_three max_four min_four   -- for this text's walks alone
set_option linter.unusedVariables false
set_option linter.unusedSimpArgs false

/-! ### fairwayref0_CopySeg: function 42 -/
def fairwayref0_CopySeg.f (k : Nat) (a0_0 : Int) (l0_1 : List (S25)) : Option (Int × (List (S25))) := (fairwayref0_CopyRecs.f k l0_1).bind fun t462 => (some (a0_0, t462))
theorem fairwayref0_CopySeg.mono : ∀ a0 a1 k, LeO (fairwayref0_CopySeg.f k a0 a1) (fairwayref0_CopySeg.f (k + 1) a0 a1) := by
 intro a0 a1 k
 unfold fairwayref0_CopySeg.f
 repeat' first
  | (with_reducible exact fairwayref0_CopyRecs.mono _ _)
  | (with_reducible exact LeO.refl _)
  | (with_reducible exact LeO.none _)
  | (with_reducible refine LeO.ite ?_ ?_)
  | (with_reducible refine LeO.bind ?_ (fun _ => ?_))
  | exact fairwayref0_CopyRecs.mono _ _
  | exact LeO.none _
  | refine LeO.ite ?_ ?_
  | refine LeO.bind ?_ (fun _ => ?_)
set_option maxHeartbeats 8000000 in
set_option maxRecDepth 100000 in
theorem fairwayref0_CopySeg.calls (k : Nat) (a0_0 : Int) (A0_1 : Option Addr) (c0_1 : Nat) (l0_1 : List (S25)) (r1 : Int) (r2 : List (S25)) (w : World) (hr0_1 : Kd.C k25 w A0_1 l0_1.length l0_1) (hc0_1 : l0_1.length ≤ c0_1) (h : fairwayref0_CopySeg.f k a0_0 l0_1 = some (r1, r2)) :
 Calls Try.prog 42 #[.agg #[.int .i64 a0_0, .slice A0_1 l0_1.length c0_1]] w fun e w' => ∃ v1_ : Value, e = .returned (.agg #[.int .i64 r1, v1_]) ∧ Kd.R k25 25 w' w.heap.size (fun _ => True) v1_ r2 ∧ Below w.heap.size w w' := by
 have hu53 := Try.underlying53
 have HR0_1 := Aside0.mk hr0_1
 have HC0_1 := Aside0.mk hc0_1
 clear hr0_1 hc0_1
 have HB := Aside0.mk (Below.refl w.heap.size w)
 have H : ((fairwayref0_CopyRecs.f k l0_1).bind fun t462 => (some (a0_0, t462))) = some (r1, r2) := h
 clear h
 replace H := Option.bind_eq_some_iff.mp H
 obtain ⟨t462, A20, H⟩ := H
 replace H : (some (a0_0, t462)) = some (r1, r2) := H
 have A2 := Aside0.mk A20
 clear A20
 simp only [Option.some.injEq, Prod.mk.injEq] at H
 obtain ⟨rfl, rfl⟩ := H
 go_enter Try.func42, Try.ntmps42
 go_wp2_with (first | ((with_reducible refine gate_dst (N := 1) rfl ?_); refine box_event ?hg (N := 1) ?hd (cs := #[.int .i64 a0_0, .slice A0_1 l0_1.length c0_1]) (t := 53) ?hr ?_; (case hd => rfl); (case hg => rfl); (case hr => first | (go_simp; done) | (go_simp; rfl)); intro gb459 hg w3 hbox hb; have BK459 := Aside0.mk (hbox); have GW459 := Aside0.mk ((by rw [hg]; exact (below_size bo) : w.heap.size ≤ gb459)); have GE459 := Aside0.mk ((by rw [hg]; exact (below_size bo) : w.heap.size ≤ gb459)); replace HB := Aside0.mk (below_step bo hb); clear hb hbox hg) | ((with_reducible refine gate_dst (N := 2) rfl ?_); refine box_event ?hg (N := 2) ?hd (cs := #[.int .i64 0, .slice none 0 0]) (t := 53) ?hr ?_; (case hd => rfl); (case hg => rfl); (case hr => first | (go_simp; done) | (go_simp; rfl)); intro gb460 hg w4 hbox hb; have BK460 := Aside0.mk (hbox); have GW460 := Aside0.mk ((by rw [hg]; exact (below_size bo) : w.heap.size ≤ gb460)); have GE460 := Aside0.mk ((by rw [hg]; exact (below_size bo) : w.heap.size ≤ gb460)); replace HB := Aside0.mk (below_step bo hb); have NB459_460 := Aside0.mk ((by rw [hg]; exact Nat.ne_of_lt (blk_lt (g := gb459) (o := .cells #[.int .i64 a0_0, .slice A0_1 l0_1.length c0_1] 53 (0, 0)) (bk BK459.out)) : gb459 ≠ gb460)); have NB460_459 := Aside0.mk ((by rw [hg]; exact Nat.ne_of_gt (blk_lt (g := gb459) (o := .cells #[.int .i64 a0_0, .slice A0_1 l0_1.length c0_1] 53 (0, 0)) (bk BK459.out)) : gb460 ≠ gb459)); replace BK459 := Aside0.mk (blk_below (g := gb459) (o := .cells #[.int .i64 a0_0, .slice A0_1 l0_1.length c0_1] 53 (0, 0)) (bk BK459.out) hb); clear hb hbox hg; have hnb5 := NB459_460.out; have hnc5 := NB460_459.out; obtain ⟨hcz6_0, hcz6_1⟩ := cl2 BK459.out; obtain ⟨hfz6_0, hfz6_1⟩ := fz2 BK459.out) | ((with_reducible refine gate_dst (N := 3) rfl ?_); refine box_event ?hg (N := 3) ?hd (cs := #[.int .i64 0, .slice none 0 0]) (t := 53) ?hr ?_; (case hd => rfl); (case hg => rfl); (case hr => first | (go_simp; done) | (go_simp; rfl)); intro gb461 hg w7 hbox hb; have BK461 := Aside0.mk (hbox); have GW461 := Aside0.mk ((by rw [hg]; exact (below_size bo) : w.heap.size ≤ gb461)); have GE461 := Aside0.mk ((by rw [hg]; exact (below_size bo) : w.heap.size ≤ gb461)); replace HB := Aside0.mk (below_step bo hb); have NB459_461 := Aside0.mk ((by rw [hg]; exact Nat.ne_of_lt (blk_lt (g := gb459) (o := .cells #[.int .i64 a0_0, .slice A0_1 l0_1.length c0_1] 53 (0, 0)) (bk BK459.out)) : gb459 ≠ gb461)); have NB461_459 := Aside0.mk ((by rw [hg]; exact Nat.ne_of_gt (blk_lt (g := gb459) (o := .cells #[.int .i64 a0_0, .slice A0_1 l0_1.length c0_1] 53 (0, 0)) (bk BK459.out)) : gb461 ≠ gb459)); replace BK459 := Aside0.mk (blk_below (g := gb459) (o := .cells #[.int .i64 a0_0, .slice A0_1 l0_1.length c0_1] 53 (0, 0)) (bk BK459.out) hb); have NB460_461 := Aside0.mk ((by rw [hg]; exact Nat.ne_of_lt (blk_lt (g := gb460) (o := .cells #[.int .i64 0, .slice none 0 0] 53 (0, 0)) (bk BK460.out)) : gb460 ≠ gb461)); have NB461_460 := Aside0.mk ((by rw [hg]; exact Nat.ne_of_gt (blk_lt (g := gb460) (o := .cells #[.int .i64 0, .slice none 0 0] 53 (0, 0)) (bk BK460.out)) : gb461 ≠ gb460)); replace BK460 := Aside0.mk (blk_below (g := gb460) (o := .cells #[.int .i64 0, .slice none 0 0] 53 (0, 0)) (bk BK460.out) hb); clear hb hbox hg; have hnb8 := NB461_459.out; have hnc8 := NB459_461.out; have hnb9 := NB461_460.out; have hnc9 := NB460_461.out; obtain ⟨hcz10_0, hcz10_1⟩ := cl2 BK461.out; obtain ⟨hfz10_0, hfz10_1⟩ := fz2 BK461.out; obtain ⟨hcz11_0, hcz11_1⟩ := cl2 BK459.out; obtain ⟨hfz11_0, hfz11_1⟩ := fz2 BK459.out) | ((with_reducible refine gate_callee (f := 76) rfl ?_); refine goesL_ (some 7) rfl rfl Try.func76 (by kernel_rfl) rfl #[.slice A0_1 l0_1.length c0_1] rfl aa ?_; (with_reducible refine (fairwayref0_CopyRecs.calls k _ _ l0_1 t462 _ ?side1 ?side2 A2.out).mono ?_); (case side1 => exact Kd.C_below HR0_1.out bo); (case side2 => exact HC0_1.out); rintro e w12 ⟨v463, rfl, ho0, hb⟩; refine ⟨_, rfl, ?_⟩; have HO464 := Aside0.mk (Kd.R_lower ho0 (below_size bo)); replace BK459 := Aside0.mk (blk_below (g := gb459) (o := .cells #[.int .i64 a0_0, .slice A0_1 l0_1.length c0_1] 53 (0, 0)) (bf BK459.out) hb); replace BK460 := Aside0.mk (blk_below (g := gb460) (o := .cells #[.int .i64 0, .slice none 0 0] 53 (0, 0)) (bf BK460.out) hb); replace BK461 := Aside0.mk (blk_below (g := gb461) (o := .cells #[.int .i64 a0_0, .slice A0_1 l0_1.length c0_1] 53 (0, 0)) (by (with_reducible repeat (first | refine blk_drewN ?_ _ | refine blk_drew ?_ | refine blk_alloc ?_ _)); refine blk_put (cs := #[.int .i64 a0_0, .slice none 0 0]) ?_ 1 _ rfl; (with_reducible repeat (first | refine blk_drewN ?_ _ | refine blk_drew ?_ | refine blk_alloc ?_ _)); refine blk_put (cs := #[.int .i64 0, .slice none 0 0]) ?_ 0 _ rfl; (with_reducible repeat (first | refine blk_drewN ?_ _ | refine blk_drew ?_ | refine blk_alloc ?_ _)); exact BK461.out) hb); replace HB := Aside0.mk (below_step bo hb); (try clear hb); (try clear hb2); (try clear hk); (try clear hi); (try clear ho0); obtain ⟨Ao13, co13, eo13⟩ := Kd.R_slice HO464.out; subst eo13; obtain ⟨hcz14_0, hcz14_1⟩ := cl2 BK461.out; obtain ⟨hfz14_0, hfz14_1⟩ := fz2 BK461.out; obtain ⟨hcz15_0, hcz15_1⟩ := cl2 BK460.out; obtain ⟨hfz15_0, hfz15_1⟩ := fz2 BK460.out))
 refine bodyPost_ret (results_cell_row rfl _ _ gb460 53 #[.int .i64 a0_0, .slice Ao13 t462.length co13] (0, 0) _ rfl (by (with_reducible repeat (first | refine blk_drewN ?_ _ | refine blk_drew ?_ | refine blk_alloc ?_ _)); refine blk_put (cs := #[.int .i64 a0_0, .slice none 0 0]) ?_ 1 _ rfl; (with_reducible repeat (first | refine blk_drewN ?_ _ | refine blk_drew ?_ | refine blk_alloc ?_ _)); refine blk_put (cs := #[.int .i64 0, .slice none 0 0]) ?_ 0 _ rfl; (with_reducible repeat (first | refine blk_drewN ?_ _ | refine blk_drew ?_ | refine blk_alloc ?_ _)); refine blk_far ?_ NB460_461.out _; (with_reducible repeat (first | refine blk_drewN ?_ _ | refine blk_drew ?_ | refine blk_alloc ?_ _)); exact BK460.out) Try.underlying53 rfl (by kernel_rfl)) rfl ?_
 exact ⟨_, er, by (with_reducible repeat (first | apply Kd.R_alloc | apply Kd.R_drewN | apply Kd.R_drew)); exact Kd.R_mono (Kd.R_far (p := ⟨gb460, 1, none⟩) (Kd.R_far (p := ⟨gb460, 0, none⟩) (Kd.R_far (p := ⟨gb461, 1, none⟩) (Kd.R_types (Kd.R_types HO464.out BK461.out (by decide)) BK460.out (by decide)) (fun _ hk => hk.1.2) (.slice Ao13 t462.length co13)) (fun _ hk => hk.2) (.int .i64 a0_0)) (fun _ hk => hk.2) (.slice Ao13 t462.length co13)) (fun _ hk => trivial), bo⟩

end Go.Proofs.Ytmabdfdmccbfnaa.P

-- written by a program of the proving session, out of the translation; Lean checks it
namespace Go.Proofs.Ytmabdfdmccbfnaa.P
open Go.RowKit Go.Proofs.Ytmabdfdmccbfnaa.Sq Go.Proofs.YtmabdfdmccbfnaaW.PrintWords Go.Proofs.YtmabdfdmccbfnaaW.PrintLast Go.Proofs.YtmabdfdmccbfnaaW.PrintMore
attribute [local go_sem] max2_int min2_int max_two min_two max_three min_three max_four min_four   -- for this text's walks alone
set_option linter.unusedVariables false
set_option linter.unusedSimpArgs false

/-! ### fairwayref10_With: function 48 -/
def fairwayref10_With.f (k : Nat) (a0_0 : Int) (l0_1 : List (S25)) (a1_0 : Int) (a1_1 : Int) (a1_2 : ByteArray) (a1_3 : ByteArray) (a1_4 : Int) (a1_5 : Bool) : Option (Int × (List (S25))) := (fairwayref0_CopySeg.f k a0_0 l0_1).bind fun bt468 => (if bt468.2.length < 2199023255552 then (some (bt468.1, (bt468.2 ++ [(⟨a1_0, a1_1, a1_2, a1_3, a1_4, a1_5⟩ : S25)]))) else (none))
theorem fairwayref10_With.mono : ∀ a0 a1 a2 a3 a4 a5 a6 a7 k, LeO (fairwayref10_With.f k a0 a1 a2 a3 a4 a5 a6 a7) (fairwayref10_With.f (k + 1) a0 a1 a2 a3 a4 a5 a6 a7) := by
 intro a0 a1 a2 a3 a4 a5 a6 a7 k
 unfold fairwayref10_With.f
 repeat' first
  | (with_reducible exact fairwayref0_CopySeg.mono _ _ _)
  | (with_reducible exact LeO.refl _)
  | (with_reducible exact LeO.none _)
  | (with_reducible refine LeO.ite ?_ ?_)
  | (with_reducible refine LeO.bind ?_ (fun _ => ?_))
  | exact fairwayref0_CopySeg.mono _ _ _
  | exact LeO.none _
  | refine LeO.ite ?_ ?_
  | refine LeO.bind ?_ (fun _ => ?_)
set_option maxHeartbeats 8000000 in
set_option maxRecDepth 100000 in
theorem fairwayref10_With.calls (k : Nat) (a0_0 : Int) (A0_1 : Option Addr) (c0_1 : Nat) (l0_1 : List (S25)) (a1_0 : Int) (a1_1 : Int) (a1_2 : ByteArray) (a1_3 : ByteArray) (a1_4 : Int) (a1_5 : Bool) (r1 : Int) (r2 : List (S25)) (w : World) (hr0_1 : Kd.C k25 w A0_1 l0_1.length l0_1) (hc0_1 : l0_1.length ≤ c0_1) (h : fairwayref10_With.f k a0_0 l0_1 a1_0 a1_1 a1_2 a1_3 a1_4 a1_5 = some (r1, r2)) :
 Calls Try.prog 48 #[.agg #[.int .i64 a0_0, .slice A0_1 l0_1.length c0_1], .agg #[.int .i64 a1_0, .int .i64 a1_1, .string a1_2, .string a1_3, .int .i64 a1_4, .bool a1_5]] w fun e w' => ∃ v1_ : Value, e = .returned (.agg #[.int .i64 r1, v1_]) ∧ Kd.R k25 25 w' w.heap.size (fun _ => True) v1_ r2 ∧ Below w.heap.size w w' := by
 have hu53 := Try.underlying53
 have hu25 := Try.underlying25
 have HR0_1 := Aside0.mk hr0_1
 have HC0_1 := Aside0.mk hc0_1
 clear hr0_1 hc0_1
 have HB := Aside0.mk (Below.refl w.heap.size w)
 have H : ((fairwayref0_CopySeg.f k a0_0 l0_1).bind fun bt468 => (if bt468.2.length < 2199023255552 then (some (bt468.1, (bt468.2 ++ [(⟨a1_0, a1_1, a1_2, a1_3, a1_4, a1_5⟩ : S25)]))) else (none))) = some (r1, r2) := h
 clear h
 replace H := Option.bind_eq_some_iff.mp H
 obtain ⟨⟨t468, t469⟩, A30, H⟩ := H
 replace H : (if t469.length < 2199023255552 then (some (t468, (t469 ++ [(⟨a1_0, a1_1, a1_2, a1_3, a1_4, a1_5⟩ : S25)]))) else (none)) = some (r1, r2) := H
 have A3 := Aside0.mk A30
 clear A30
 by_cases c4 : t469.length < 2199023255552
 ·rw [if_pos c4] at H
  have LMc4 := Aside0.mk c4
  clear c4
  obtain ⟨y473, hy473⟩ : ∃ y_ : List (S25), y_ = (t469 ++ [(⟨a1_0, a1_1, a1_2, a1_3, a1_4, a1_5⟩ : S25)]) := ⟨_, rfl⟩
  replace H : (some (t468, y473)) = some (r1, r2) := by first | (rw [hy473]; with_reducible exact H) | (have H2_ := (Option.bind_some _ _).symm.trans H; rw [hy473]; with_reducible exact H2_) | (have H2_ := (Option.bind_some _ _).symm.trans H; with_reducible exact H2_) | with_reducible exact H | (rw [hy473]; exact H) | exact H
  have Ny473 := Aside0.mk hy473
  clear hy473
  simp only [Option.some.injEq, Prod.mk.injEq] at H
  obtain ⟨rfl, rfl⟩ := H
  go_enter Try.func48, Try.ntmps48
  go_wp2_with (first | ((with_reducible refine gate_dst (N := 2) rfl ?_); refine box_event ?hg (N := 2) ?hd (cs := #[.int .i64 a0_0, .slice A0_1 l0_1.length c0_1]) (t := 53) ?hr ?_; (case hd => rfl); (case hg => rfl); (case hr => first | (go_simp; done) | (go_simp; rfl)); intro gb465 hg w5 hbox hb; have BK465 := Aside0.mk (hbox); have GW465 := Aside0.mk ((by rw [hg]; exact (below_size bo) : w.heap.size ≤ gb465)); have GE465 := Aside0.mk ((by rw [hg]; exact (below_size bo) : w.heap.size ≤ gb465)); replace HB := Aside0.mk (below_step bo hb); clear hb hbox hg) | ((with_reducible refine gate_dst (N := 3) rfl ?_); refine box_event ?hg (N := 3) ?hd (cs := #[.int .i64 a1_0, .int .i64 a1_1, .string a1_2, .string a1_3, .int .i64 a1_4, .bool a1_5]) (t := 25) ?hr ?_; (case hd => rfl); (case hg => rfl); (case hr => first | (go_simp; done) | (go_simp; rfl)); intro gb466 hg w6 hbox hb; have BK466 := Aside0.mk (hbox); have GW466 := Aside0.mk ((by rw [hg]; exact (below_size bo) : w.heap.size ≤ gb466)); have GE466 := Aside0.mk ((by rw [hg]; exact (below_size bo) : w.heap.size ≤ gb466)); replace HB := Aside0.mk (below_step bo hb); have NB465_466 := Aside0.mk ((by rw [hg]; exact Nat.ne_of_lt (blk_lt (g := gb465) (o := .cells #[.int .i64 a0_0, .slice A0_1 l0_1.length c0_1] 53 (0, 0)) (bk BK465.out)) : gb465 ≠ gb466)); have NB466_465 := Aside0.mk ((by rw [hg]; exact Nat.ne_of_gt (blk_lt (g := gb465) (o := .cells #[.int .i64 a0_0, .slice A0_1 l0_1.length c0_1] 53 (0, 0)) (bk BK465.out)) : gb466 ≠ gb465)); replace BK465 := Aside0.mk (blk_below (g := gb465) (o := .cells #[.int .i64 a0_0, .slice A0_1 l0_1.length c0_1] 53 (0, 0)) (bk BK465.out) hb); clear hb hbox hg) | ((with_reducible refine gate_dst (N := 4) rfl ?_); refine box_event ?hg (N := 4) ?hd (cs := #[.int .i64 0, .slice none 0 0]) (t := 53) ?hr ?_; (case hd => rfl); (case hg => rfl); (case hr => first | (go_simp; done) | (go_simp; rfl)); intro gb467 hg w7 hbox hb; have BK467 := Aside0.mk (hbox); have GW467 := Aside0.mk ((by rw [hg]; exact (below_size bo) : w.heap.size ≤ gb467)); have GE467 := Aside0.mk ((by rw [hg]; exact (below_size bo) : w.heap.size ≤ gb467)); replace HB := Aside0.mk (below_step bo hb); have NB465_467 := Aside0.mk ((by rw [hg]; exact Nat.ne_of_lt (blk_lt (g := gb465) (o := .cells #[.int .i64 a0_0, .slice A0_1 l0_1.length c0_1] 53 (0, 0)) (bk BK465.out)) : gb465 ≠ gb467)); have NB467_465 := Aside0.mk ((by rw [hg]; exact Nat.ne_of_gt (blk_lt (g := gb465) (o := .cells #[.int .i64 a0_0, .slice A0_1 l0_1.length c0_1] 53 (0, 0)) (bk BK465.out)) : gb467 ≠ gb465)); replace BK465 := Aside0.mk (blk_below (g := gb465) (o := .cells #[.int .i64 a0_0, .slice A0_1 l0_1.length c0_1] 53 (0, 0)) (bk BK465.out) hb); have NB466_467 := Aside0.mk ((by rw [hg]; exact Nat.ne_of_lt (blk_lt (g := gb466) (o := .cells #[.int .i64 a1_0, .int .i64 a1_1, .string a1_2, .string a1_3, .int .i64 a1_4, .bool a1_5] 25 (0, 0)) (bk BK466.out)) : gb466 ≠ gb467)); have NB467_466 := Aside0.mk ((by rw [hg]; exact Nat.ne_of_gt (blk_lt (g := gb466) (o := .cells #[.int .i64 a1_0, .int .i64 a1_1, .string a1_2, .string a1_3, .int .i64 a1_4, .bool a1_5] 25 (0, 0)) (bk BK466.out)) : gb467 ≠ gb466)); replace BK466 := Aside0.mk (blk_below (g := gb466) (o := .cells #[.int .i64 a1_0, .int .i64 a1_1, .string a1_2, .string a1_3, .int .i64 a1_4, .bool a1_5] 25 (0, 0)) (bk BK466.out) hb); clear hb hbox hg; have hnb8 := NB465_466.out; have hnc8 := NB466_465.out; have hnb9 := NB465_467.out; have hnc9 := NB467_465.out; obtain ⟨hcz10_0, hcz10_1⟩ := cl2 BK465.out; obtain ⟨hfz10_0, hfz10_1⟩ := fz2 BK465.out) | ((with_reducible refine gate_callee (f := 42) rfl ?_); refine goesL_ (some 7) rfl rfl Try.func42 (by kernel_rfl) rfl #[.agg #[.int .i64 a0_0, .slice A0_1 l0_1.length c0_1]] rfl aa ?_; (with_reducible refine (fairwayref0_CopySeg.calls k a0_0 _ _ l0_1 t468 t469 _ ?side1 ?side2 A3.out).mono ?_); (case side1 => repeat (first | exact (Kd.C_below HR0_1.out HB.out) | (with_reducible refine Kd.C_alloc ?_ _) | (with_reducible refine Kd.C_drewN ?_ _) | (with_reducible refine Kd.C_drew ?_))); (case side2 => exact HC0_1.out); rintro e w11 ⟨v470, rfl, ho0, hb⟩; refine ⟨_, rfl, ?_⟩; have HO471 := Aside0.mk (Kd.R_lower (Kd.R_newB ho0 (g := gb466) (o := .cells #[.int .i64 a1_0, .int .i64 a1_1, .string a1_2, .string a1_3, .int .i64 a1_4, .bool a1_5] 25 (0, 0)) (bk BK466.out)) (below_size bo)); replace BK465 := Aside0.mk (blk_below (g := gb465) (o := .cells #[.int .i64 a0_0, .slice A0_1 l0_1.length c0_1] 53 (0, 0)) (bk BK465.out) hb); replace BK466 := Aside0.mk (blk_below (g := gb466) (o := .cells #[.int .i64 a1_0, .int .i64 a1_1, .string a1_2, .string a1_3, .int .i64 a1_4, .bool a1_5] 25 (0, 0)) (bk BK466.out) hb); replace BK467 := Aside0.mk (blk_below (g := gb467) (o := .cells #[.int .i64 0, .slice none 0 0] 53 (0, 0)) (bk BK467.out) hb); replace HB := Aside0.mk (below_step bo hb); (try clear hb); (try clear hb2); (try clear hk); (try clear hi); (try clear ho0)) | ((with_reducible refine gate_dst (N := 5) rfl ?_); refine box_event ?hg (N := 5) ?hd (cs := #[.int .i64 0, .slice none 0 0]) (t := 53) ?hr ?_; (case hd => rfl); (case hg => rfl); (case hr => first | (go_simp; done) | (go_simp; rfl)); intro gb472 hg w12 hbox hb; replace HO471 := Aside0.mk (Kd.R_below (rk HO471.out) hb); have BK472 := Aside0.mk (hbox); have GW472 := Aside0.mk ((by rw [hg]; exact (below_size bo) : w.heap.size ≤ gb472)); have GE472 := Aside0.mk ((by rw [hg]; exact (below_size bo) : w.heap.size ≤ gb472)); replace HB := Aside0.mk (below_step bo hb); have NB465_472 := Aside0.mk ((by rw [hg]; exact Nat.ne_of_lt (blk_lt (g := gb465) (o := .cells #[.int .i64 a0_0, .slice A0_1 l0_1.length c0_1] 53 (0, 0)) (bk BK465.out)) : gb465 ≠ gb472)); have NB472_465 := Aside0.mk ((by rw [hg]; exact Nat.ne_of_gt (blk_lt (g := gb465) (o := .cells #[.int .i64 a0_0, .slice A0_1 l0_1.length c0_1] 53 (0, 0)) (bk BK465.out)) : gb472 ≠ gb465)); replace BK465 := Aside0.mk (blk_below (g := gb465) (o := .cells #[.int .i64 a0_0, .slice A0_1 l0_1.length c0_1] 53 (0, 0)) (bk BK465.out) hb); have NB466_472 := Aside0.mk ((by rw [hg]; exact Nat.ne_of_lt (blk_lt (g := gb466) (o := .cells #[.int .i64 a1_0, .int .i64 a1_1, .string a1_2, .string a1_3, .int .i64 a1_4, .bool a1_5] 25 (0, 0)) (bk BK466.out)) : gb466 ≠ gb472)); have NB472_466 := Aside0.mk ((by rw [hg]; exact Nat.ne_of_gt (blk_lt (g := gb466) (o := .cells #[.int .i64 a1_0, .int .i64 a1_1, .string a1_2, .string a1_3, .int .i64 a1_4, .bool a1_5] 25 (0, 0)) (bk BK466.out)) : gb472 ≠ gb466)); replace BK466 := Aside0.mk (blk_below (g := gb466) (o := .cells #[.int .i64 a1_0, .int .i64 a1_1, .string a1_2, .string a1_3, .int .i64 a1_4, .bool a1_5] 25 (0, 0)) (bk BK466.out) hb); have NB467_472 := Aside0.mk ((by rw [hg]; exact Nat.ne_of_lt (blk_lt (g := gb467) (o := .cells #[.int .i64 0, .slice none 0 0] 53 (0, 0)) (bk BK467.out)) : gb467 ≠ gb472)); have NB472_467 := Aside0.mk ((by rw [hg]; exact Nat.ne_of_gt (blk_lt (g := gb467) (o := .cells #[.int .i64 0, .slice none 0 0] 53 (0, 0)) (bk BK467.out)) : gb472 ≠ gb467)); replace BK467 := Aside0.mk (blk_below (g := gb467) (o := .cells #[.int .i64 0, .slice none 0 0] 53 (0, 0)) (bk BK467.out) hb); clear hb hbox hg; have hnb13 := NB472_465.out; have hnc13 := NB465_472.out; have hnb14 := NB472_466.out; have hnc14 := NB466_472.out; have hnb15 := NB472_467.out; have hnc15 := NB467_472.out; obtain ⟨hcz16_0, hcz16_1⟩ := cl2 BK472.out; obtain ⟨hfz16_0, hfz16_1⟩ := fz2 BK472.out; obtain ⟨Ao17, co17, eo17⟩ := Kd.R_slice HO471.out; subst eo17; have hnb18 := NB466_467.out; have hnc18 := NB467_466.out; obtain ⟨hcz19_0, hcz19_1, hcz19_2, hcz19_3, hcz19_4, hcz19_5⟩ := cl6 BK466.out; obtain ⟨hfz19_0, hfz19_1, hfz19_2, hfz19_3, hfz19_4, hfz19_5⟩ := fz6 BK466.out) | ((with_reducible refine gate_builtin (b := .append) (xs := #[.tmp 9, .tmp 11]) rfl ?_); at_builtin; refine Kd.R_append k25 (w0 := w) w.heap.size rfl (.tmp 9) (.tmp 11) 36 25 (.agg #[(.int .i64 0), (.int .i64 0), (.string ⟨#[]⟩), (.string ⟨#[]⟩), (.int .i64 0), (.bool false)]) 64 rfl Try.underlying36 info25 rfl (by decide) (by omega) (.slice Ao17 t469.length co17) t469 (⟨a1_0, a1_1, a1_2, a1_3, a1_4, a1_5⟩ : S25) [.int .i64 a1_0, .int .i64 a1_1, .string a1_2, .string a1_3, .int .i64 a1_4, .bool a1_5] (fun k_ => k_ ≠ gb466) (fun _ => False) rfl (by first | (go_simp; done) | (go_simp; rfl)) ?aP (fun _ hk => hk.elim) ?aF ?aO ?aB ?aS ?aL ?_; (case aP => exact k25_mkM _ _ _ (⟨a1_0, a1_1, a1_2, a1_3, a1_4, a1_5⟩ : S25)); (case aB => exact bo); (case aF => exact (fun k_ hk => Kd.freshB (g := gb466) (o := .cells #[.int .i64 a1_0, .int .i64 a1_1, .string a1_2, .string a1_3, .int .i64 a1_4, .bool a1_5] 25 (0, 0)) (bf BK466.out) k_ hk)); (case aO => exact (by (with_reducible repeat (first | apply Kd.R_alloc | apply Kd.R_drewN | apply Kd.R_drew)); exact Kd.R_mono (Kd.R_far (p := ⟨gb472, 1, none⟩) (Kd.R_far (p := ⟨gb472, 0, none⟩) (Kd.R_types HO471.out BK472.out (by decide)) (fun _ hk => hk.2) (.int .i64 t468)) (fun _ hk => hk.2) (.slice Ao17 t469.length co17)) (fun _ hk => hk.1.2))); (case aS => exact (below_size bo)); (case aL => have := LMc4.out; omega); intro v474 w20 ho hb hg hat; rw [← Ny473.out] at ho; have n0_ := Aside0.mk (blk_grown (g := gb465) (o := .cells #[.int .i64 a0_0, .slice A0_1 l0_1.length c0_1] 53 (0, 0)) (bf BK465.out) hg (Kd.R_ne HO471.out BK465.out (by decide))); have n1_ := Aside0.mk (blk_grown (g := gb466) (o := .cells #[.int .i64 a1_0, .int .i64 a1_1, .string a1_2, .string a1_3, .int .i64 a1_4, .bool a1_5] 25 (0, 0)) (bf BK466.out) hg (Kd.R_away HO471.out (fun _ hk => hk.2))); have n2_ := Aside0.mk (blk_grown (g := gb467) (o := .cells #[.int .i64 0, .slice none 0 0] 53 (0, 0)) (bf BK467.out) hg (Kd.R_ne HO471.out BK467.out (by decide))); have n3_ := Aside0.mk (blk_grown (g := gb472) (o := .cells #[.int .i64 t468, .slice Ao17 t469.length co17] 53 (0, 0)) (by (with_reducible repeat (first | refine blk_drewN ?_ _ | refine blk_drew ?_ | refine blk_alloc ?_ _)); refine blk_put (cs := #[.int .i64 t468, .slice none 0 0]) ?_ 1 _ rfl; (with_reducible repeat (first | refine blk_drewN ?_ _ | refine blk_drew ?_ | refine blk_alloc ?_ _)); refine blk_put (cs := #[.int .i64 0, .slice none 0 0]) ?_ 0 _ rfl; (with_reducible repeat (first | refine blk_drewN ?_ _ | refine blk_drew ?_ | refine blk_alloc ?_ _)); exact BK472.out) hg (Kd.R_ne HO471.out BK472.out (by decide))); have n4_ := Aside0.mk (hb); have n5_ := Aside0.mk (ho); clear BK465; clear BK466; clear BK467; clear BK472; clear HB; clear HO471; have BK465 := n0_; have BK466 := n1_; have BK467 := n2_; have BK472 := n3_; have HB := n4_; have HO475 := n5_; clear n0_ n1_ n2_ n3_ n4_ n5_; clear ho hb hg hat; obtain ⟨Ao21, co21, eo21⟩ := Kd.R_slice HO475.out; subst eo21; obtain ⟨hcz22_0, hcz22_1⟩ := cl2 BK472.out; obtain ⟨hfz22_0, hfz22_1⟩ := fz2 BK472.out; obtain ⟨hcz23_0, hcz23_1⟩ := cl2 BK467.out; obtain ⟨hfz23_0, hfz23_1⟩ := fz2 BK467.out))
  refine bodyPost_ret (results_cell_row rfl _ _ gb467 53 #[.int .i64 t468, .slice Ao21 y473.length co21] (0, 0) _ rfl (by (with_reducible repeat (first | refine blk_drewN ?_ _ | refine blk_drew ?_ | refine blk_alloc ?_ _)); refine blk_put (cs := #[.int .i64 t468, .slice none 0 0]) ?_ 1 _ rfl; (with_reducible repeat (first | refine blk_drewN ?_ _ | refine blk_drew ?_ | refine blk_alloc ?_ _)); refine blk_put (cs := #[.int .i64 0, .slice none 0 0]) ?_ 0 _ rfl; (with_reducible repeat (first | refine blk_drewN ?_ _ | refine blk_drew ?_ | refine blk_alloc ?_ _)); refine blk_far ?_ NB467_472.out _; (with_reducible repeat (first | refine blk_drewN ?_ _ | refine blk_drew ?_ | refine blk_alloc ?_ _)); exact BK467.out) Try.underlying53 rfl (by kernel_rfl)) rfl ?_
  exact ⟨_, er, by (with_reducible repeat (first | apply Kd.R_alloc | apply Kd.R_drewN | apply Kd.R_drew)); exact Kd.R_mono (Kd.R_far (p := ⟨gb467, 1, none⟩) (Kd.R_far (p := ⟨gb467, 0, none⟩) (Kd.R_far (p := ⟨gb472, 1, none⟩) (Kd.R_types (Kd.R_types HO475.out BK472.out (by decide)) BK467.out (by decide)) (fun _ hk => hk.1.2) (.slice Ao21 y473.length co21)) (fun _ hk => hk.2) (.int .i64 t468)) (fun _ hk => hk.2) (.slice Ao21 y473.length co21)) (fun _ hk => trivial), bo⟩
 ·rw [if_neg c4] at H
  exact absurd H (by simp)

end Go.Proofs.Ytmabdfdmccbfnaa.P

