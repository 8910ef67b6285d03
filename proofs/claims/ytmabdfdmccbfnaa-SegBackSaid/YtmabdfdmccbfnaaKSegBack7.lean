/- The law SegBack: printed functions, their contracts, the plain laws and the row, part 7. -/
import Derived.Test.YtmabdfdmccbfnaaKSegBack2
import Derived.Test.YtmabdfdmccbfnaaKSegBack4
import Derived.Test.YtmabdfdmccbfnaaKSegBack6
import Derived.Test.YtmabdfdmccbfnaaKSegBack5
-- written by a program of the proving session, out of the translation; Lean checks it
namespace Go.Proofs.Ytmabdfdmccbfnaa.P
open Go.RowKit Go.Proofs.Ytmabdfdmccbfnaa.Sq Go.Proofs.YtmabdfdmccbfnaaW.PrintWords Go.Proofs.YtmabdfdmccbfnaaW.PrintLast Go.Proofs.YtmabdfdmccbfnaaW.PrintMore
attribute [local go_sem] max2_int min2_int max_two min_two max_three min_three max_four min_four   -- for this text's walks alone
set_option linter.unusedVariables false
set_option linter.unusedSimpArgs false

attribute [local go_sem high] xt_fold
/-! ### fairwayref10_Take: function 24 -/
mutual
def fairwayref10_Take.j0 : Nat → Int → ByteArray → Bool → Int → Int → ByteArray → ByteArray → Int → Bool → Option (Int × Int × ByteArray × ByteArray × Int × Bool × Int × Int)
 | 0, _, _, _, _, _, _, _, _, _ => none
 | k + 1, x6, x10, x52, x252000, x252001, x252002, x252003, x252004, x252005 => if x52 = true then (some (x252000, x252001, x252002, x252003, x252004, x252005, 0, 8)) else ((fairwayref1_TakeFixed.f k x10 8).bind fun bt258 => (if 8 ≤ (x10.size : Int) then ((fairwayref1_TakeFixed.f k (xt x10 8 x10.size) 8).bind fun bt260 => (if 16 < (x10.size : Int) then (if 17 ≤ (x10.size : Int) then ((fairwayref1_TakeFixed.f k (xt x10 17 x10.size) 2).bind fun bt262 => (if (wrap64 (bt x10 16)) > 7 then (fairwayref10_Take.j1 k x6 x10 (wrap64 (bt x10 16)) bt262.1 true x252000 x252001 x252002 x252003 x252004 x252005 bt258.1 bt260.1 (⟨#[]⟩ : ByteArray) (⟨#[]⟩ : ByteArray) 0 false) else (fairwayref10_Take.j1 k x6 x10 (wrap64 (bt x10 16)) bt262.1 (decide (bt262.1 > (wrap64 (x6 - 19)))) x252000 x252001 x252002 x252003 x252004 x252005 bt258.1 bt260.1 (⟨#[]⟩ : ByteArray) (⟨#[]⟩ : ByteArray) 0 false))) else (none)) else (none))) else (none)))
def fairwayref10_Take.j1 : Nat → Int → ByteArray → Int → Int → Bool → Int → Int → ByteArray → ByteArray → Int → Bool → Int → Int → ByteArray → ByteArray → Int → Bool → Option (Int × Int × ByteArray × ByteArray × Int × Bool × Int × Int)
 | 0, _, _, _, _, _, _, _, _, _, _, _, _, _, _, _, _, _ => none
 | k + 1, x6, x10, x12, x13, x84, x252000, x252001, x252002, x252003, x252004, x252005, x258000, x258001, x258002, x258003, x258004, x258005 => if x84 = true then (some (x252000, x252001, x252002, x252003, x252004, x252005, 0, 8)) else (if 19 ≤ (wrap64 (19 + x13)) then (if (wrap64 (19 + x13)) ≤ (x10.size : Int) then (if 0 ≤ (wrap64 (19 + x13)) then ((fairwayref10_Rec.f x258000 x258001 (xt x10 19 ((wrap64 (19 + x13)) : Int).toNat) (xt x10 ((wrap64 (19 + x13)) : Int).toNat x10.size) (Int.tmod x12 4) (decide (x12 ≥ 4))).bind fun t264 => (if t264 = true then (some (x258000, x258001, xt x10 19 ((wrap64 (19 + x13)) : Int).toNat, xt x10 ((wrap64 (19 + x13)) : Int).toNat x10.size, Int.tmod x12 4, decide (x12 ≥ 4), wrap64 (6 + x6), 0)) else (some (x252000, x252001, x252002, x252003, x252004, x252005, 0, 8)))) else (none)) else (none)) else (none))
end
def fairwayref10_Take.f (k : Nat) (a0 : ByteArray) : Option (Int × Int × ByteArray × ByteArray × Int × Bool × Int × Int) := if (a0.size : Int) < 6 then (some (0, 0, (⟨#[]⟩ : ByteArray), (⟨#[]⟩ : ByteArray), 0, false, 0, 7)) else ((fairwayref1_TakeFixed.f k a0 2).bind fun bt252 => (if (wrap64 ((a0.size : Int) - 6)) < bt252.1 then (some (0, 0, (⟨#[]⟩ : ByteArray), (⟨#[]⟩ : ByteArray), 0, false, 0, 7)) else (if 2 ≤ (a0.size : Int) then ((fairwayref1_TakeFixed.f k (xt a0 2 a0.size) 4).bind fun bt254 => (if 6 ≤ (wrap64 (6 + bt252.1)) then (if (wrap64 (6 + bt252.1)) ≤ (a0.size : Int) then (if 0 ≤ 2 then (if (xt a0 0 2).size + (xt a0 6 ((wrap64 (6 + bt252.1)) : Int).toNat).size ≤ 9223372036854775807 then ((fairwayref1_Sum.f k 0 ((xt a0 0 2) ++ (xt a0 6 ((wrap64 (6 + bt252.1)) : Int).toNat))).bind fun t256 => (if ((bt254.1) % 4294967296) = t256 then (fairwayref10_Take.j0 k bt252.1 (xt a0 6 ((wrap64 (6 + bt252.1)) : Int).toNat) (decide (bt252.1 < 19)) 0 0 (⟨#[]⟩ : ByteArray) (⟨#[]⟩ : ByteArray) 0 false) else (fairwayref10_Take.j0 k bt252.1 (xt a0 6 ((wrap64 (6 + bt252.1)) : Int).toNat) true 0 0 (⟨#[]⟩ : ByteArray) (⟨#[]⟩ : ByteArray) 0 false))) else (none)) else (none)) else (none)) else (none))) else (none))))
theorem fairwayref10_Take.mono_l : ∀ k, (∀ y0 y1 y2 y3 y4 y5 y6 y7 y8, LeO (fairwayref10_Take.j0 k y0 y1 y2 y3 y4 y5 y6 y7 y8) (fairwayref10_Take.j0 (k + 1) y0 y1 y2 y3 y4 y5 y6 y7 y8)) ∧ (∀ y0 y1 y2 y3 y4 y5 y6 y7 y8 y9 y10 y11 y12 y13 y14 y15 y16, LeO (fairwayref10_Take.j1 k y0 y1 y2 y3 y4 y5 y6 y7 y8 y9 y10 y11 y12 y13 y14 y15 y16) (fairwayref10_Take.j1 (k + 1) y0 y1 y2 y3 y4 y5 y6 y7 y8 y9 y10 y11 y12 y13 y14 y15 y16))
 | 0 => ⟨fun _ _ _ _ _ _ _ _ _ r h => by simp [fairwayref10_Take.j0] at h, fun _ _ _ _ _ _ _ _ _ _ _ _ _ _ _ _ _ r h => by simp [fairwayref10_Take.j1] at h⟩
 | k + 1 => by
  obtain ⟨ih0, ih1⟩ := fairwayref10_Take.mono_l k
  refine ⟨?_, ?_⟩
  ·intro y0 y1 y2 y3 y4 y5 y6 y7 y8
   unfold fairwayref10_Take.j0
   repeat' first
   | (with_reducible exact ih0 _ _ _ _ _ _ _ _ _)
   | (with_reducible exact ih1 _ _ _ _ _ _ _ _ _ _ _ _ _ _ _ _ _)
   | (with_reducible exact fairwayref1_Sum.mono _ _ _)
   | (with_reducible exact fairwayref1_TakeFixed.mono _ _ _)
   | (with_reducible exact LeO.refl _)
   | (with_reducible exact LeO.none _)
   | (with_reducible refine LeO.ite ?_ ?_)
   | (with_reducible refine LeO.bind ?_ (fun _ => ?_))
   | exact ih0 _ _ _ _ _ _ _ _ _
   | exact ih1 _ _ _ _ _ _ _ _ _ _ _ _ _ _ _ _ _
   | exact fairwayref1_Sum.mono _ _ _
   | exact fairwayref1_TakeFixed.mono _ _ _
   | exact LeO.none _
   | refine LeO.ite ?_ ?_
   | refine LeO.bind ?_ (fun _ => ?_)
  ·intro y0 y1 y2 y3 y4 y5 y6 y7 y8 y9 y10 y11 y12 y13 y14 y15 y16
   unfold fairwayref10_Take.j1
   repeat' first
   | (with_reducible exact ih0 _ _ _ _ _ _ _ _ _)
   | (with_reducible exact ih1 _ _ _ _ _ _ _ _ _ _ _ _ _ _ _ _ _)
   | (with_reducible exact fairwayref1_Sum.mono _ _ _)
   | (with_reducible exact fairwayref1_TakeFixed.mono _ _ _)
   | (with_reducible exact LeO.refl _)
   | (with_reducible exact LeO.none _)
   | (with_reducible refine LeO.ite ?_ ?_)
   | (with_reducible refine LeO.bind ?_ (fun _ => ?_))
   | exact ih0 _ _ _ _ _ _ _ _ _
   | exact ih1 _ _ _ _ _ _ _ _ _ _ _ _ _ _ _ _ _
   | exact fairwayref1_Sum.mono _ _ _
   | exact fairwayref1_TakeFixed.mono _ _ _
   | exact LeO.none _
   | refine LeO.ite ?_ ?_
   | refine LeO.bind ?_ (fun _ => ?_)
theorem fairwayref10_Take.mono : ∀ a0 k, LeO (fairwayref10_Take.f k a0) (fairwayref10_Take.f (k + 1) a0) := by
 intro a0 k
 obtain ⟨ih0, ih1⟩ := fairwayref10_Take.mono_l k
 unfold fairwayref10_Take.f
 repeat' first
  | (with_reducible exact ih0 _ _ _ _ _ _ _ _ _)
  | (with_reducible exact ih1 _ _ _ _ _ _ _ _ _ _ _ _ _ _ _ _ _)
  | (with_reducible exact fairwayref1_Sum.mono _ _ _)
  | (with_reducible exact fairwayref1_TakeFixed.mono _ _ _)
  | (with_reducible exact LeO.refl _)
  | (with_reducible exact LeO.none _)
  | (with_reducible refine LeO.ite ?_ ?_)
  | (with_reducible refine LeO.bind ?_ (fun _ => ?_))
  | exact ih0 _ _ _ _ _ _ _ _ _
  | exact ih1 _ _ _ _ _ _ _ _ _ _ _ _ _ _ _ _ _
  | exact fairwayref1_Sum.mono _ _ _
  | exact fairwayref1_TakeFixed.mono _ _ _
  | exact LeO.none _
  | refine LeO.ite ?_ ?_
  | refine LeO.bind ?_ (fun _ => ?_)
def fairwayref10_Take.T19 : Bool × List (List Nat × List Nat) := (true, [([], []), ([], []), ([1], [1]), ([0, 2], [0, 2]), ([], []), ([], []), ([5], [5]), ([4, 6], [4, 6]), ([0, 1, 2, 3], []), ([8, 3, 0, 1, 2, 3], [3, 8]), ([0, 1, 2, 3, 4, 5, 6, 7, 8, 9], []), ([10, 7, 9, 0, 1, 2, 3, 4, 5, 6, 7, 8, 9], [7, 10])])
def fairwayref10_Take.B19 : List Nat := [0, 0, 2, 7, 0, 0, 32, 112, 15, 271, 1023, 2047]
theorem fairwayref10_Take.tab19 : rtab .any (opsOf Try.f24 19) = fairwayref10_Take.T19 := by kernel_rfl
theorem fairwayref10_Take.bits19 : waitsOk fairwayref10_Take.T19.2 fairwayref10_Take.B19 = true := by kernel_rfl
set_option maxHeartbeats 8000000 in
set_option maxRecDepth 100000 in
theorem fairwayref10_Take.calls (k : Nat) (a0 : ByteArray) (r1 : Int) (r2 : Int) (r3 : ByteArray) (r4 : ByteArray) (r5 : Int) (r6 : Bool) (r7 : Int) (r8 : Int) (w : World) (h : fairwayref10_Take.f k a0 = some (r1, r2, r3, r4, r5, r6, r7, r8)) :
 Calls Try.prog 24 #[.string a0] w fun e w' => e = .returned (.tuple #[.agg #[.int .i64 r1, .int .i64 r2, .string r3, .string r4, .int .i64 r5, .bool r6], .int .i64 r7, .int .i64 r8]) ∧ Below w.heap.size w w' := by
 have hu25 := Try.underlying25
 have HB := Aside0.mk (Below.refl w.heap.size w)
 have H : (if (a0.size : Int) < 6 then (some (0, 0, (⟨#[]⟩ : ByteArray), (⟨#[]⟩ : ByteArray), 0, false, 0, 7)) else ((fairwayref1_TakeFixed.f k a0 2).bind fun bt252 => (if (wrap64 ((a0.size : Int) - 6)) < bt252.1 then (some (0, 0, (⟨#[]⟩ : ByteArray), (⟨#[]⟩ : ByteArray), 0, false, 0, 7)) else (if 2 ≤ (a0.size : Int) then ((fairwayref1_TakeFixed.f k (xt a0 2 a0.size) 4).bind fun bt254 => (if 6 ≤ (wrap64 (6 + bt252.1)) then (if (wrap64 (6 + bt252.1)) ≤ (a0.size : Int) then (if 0 ≤ 2 then (if (xt a0 0 2).size + (xt a0 6 ((wrap64 (6 + bt252.1)) : Int).toNat).size ≤ 9223372036854775807 then ((fairwayref1_Sum.f k 0 ((xt a0 0 2) ++ (xt a0 6 ((wrap64 (6 + bt252.1)) : Int).toNat))).bind fun t256 => (if ((bt254.1) % 4294967296) = t256 then (fairwayref10_Take.j0 k bt252.1 (xt a0 6 ((wrap64 (6 + bt252.1)) : Int).toNat) (decide (bt252.1 < 19)) 0 0 (⟨#[]⟩ : ByteArray) (⟨#[]⟩ : ByteArray) 0 false) else (fairwayref10_Take.j0 k bt252.1 (xt a0 6 ((wrap64 (6 + bt252.1)) : Int).toNat) true 0 0 (⟨#[]⟩ : ByteArray) (⟨#[]⟩ : ByteArray) 0 false))) else (none)) else (none)) else (none)) else (none))) else (none))))) = some (r1, r2, r3, r4, r5, r6, r7, r8) := h
 clear h
 by_cases c2 : (a0.size : Int) < 6
 ·rw [if_pos c2] at H
  have c2b0 : decide ((a0.size : Int) < 6) = true := decide_eq_true c2
  have c2b1 : decide (a0.size < 6) = true := decide_eq_true (by omega)
  clear c2
  simp only [Option.some.injEq, Prod.mk.injEq] at H
  obtain ⟨rfl, rfl, rfl, rfl, rfl, rfl, rfl, rfl⟩ := H
  go_enter Try.func24, Try.ntmps24
  go_wp2_with (first | ((with_reducible refine gate_dst (N := 2) rfl ?_); refine box_event ?hg (N := 2) ?hd (cs := #[.int .i64 0, .int .i64 0, .string (⟨#[]⟩ : ByteArray), .string (⟨#[]⟩ : ByteArray), .int .i64 0, .bool false]) (t := 25) ?hr ?_; (case hd => rfl); (case hg => rfl); (case hr => first | (go_simp; done) | (go_simp; rfl)); intro gb250 hg w3 hbox hb; have BK250 := Aside0.mk (hbox); have GW250 := Aside0.mk ((by rw [hg]; exact (below_size bo) : w.heap.size ≤ gb250)); have GE250 := Aside0.mk ((by rw [hg]; exact (below_size bo) : w.heap.size ≤ gb250)); replace HB := Aside0.mk (below_step bo hb); clear hb hbox hg) | ((with_reducible refine gate_dst (N := 5) rfl ?_); refine box_event ?hg (N := 5) ?hd (cs := #[.int .i64 0, .int .i64 0, .string (⟨#[]⟩ : ByteArray), .string (⟨#[]⟩ : ByteArray), .int .i64 0, .bool false]) (t := 25) ?hr ?_; (case hd => rfl); (case hg => rfl); (case hr => first | (go_simp; done) | (go_simp; rfl)); intro gb251 hg w4 hbox hb; have BK251 := Aside0.mk (hbox); have GW251 := Aside0.mk ((by rw [hg]; exact (below_size bo) : w.heap.size ≤ gb251)); have GE251 := Aside0.mk ((by rw [hg]; exact (below_size bo) : w.heap.size ≤ gb251)); replace HB := Aside0.mk (below_step bo hb); have NB250_251 := Aside0.mk (nl BK250.out hg); have NB251_250 := Aside0.mk (ng BK250.out hg); replace BK250 := Aside0.mk (bb BK250.out hb); clear hb hbox hg; have hnb5 := NB251_250.out; have hnc5 := NB250_251.out; obtain ⟨hcz6_0, hcz6_1, hcz6_2, hcz6_3, hcz6_4, hcz6_5⟩ := cl6 BK251.out; obtain ⟨hfz6_0, hfz6_1, hfz6_2, hfz6_3, hfz6_4, hfz6_5⟩ := fz6 BK251.out; obtain ⟨hcz7_0, hcz7_1, hcz7_2, hcz7_3, hcz7_4, hcz7_5⟩ := cl6 BK250.out; obtain ⟨hfz7_0, hfz7_1, hfz7_2, hfz7_3, hfz7_4, hfz7_5⟩ := fz6 BK250.out))
  refine bodyPost_ret (results_ctt rfl _ _ gb250 25 #[.int .i64 0, .int .i64 0, .string (⟨#[]⟩ : ByteArray), .string (⟨#[]⟩ : ByteArray), .int .i64 0, .bool false] (0, 0) _ rfl (by (with_reducible repeat (first | refine blk_drewN ?_ _ | refine blk_drew ?_ | refine blk_alloc ?_ _)); refine blk_put (cs := #[.int .i64 0, .int .i64 0, .string (⟨#[]⟩ : ByteArray), .string (⟨#[]⟩ : ByteArray), .int .i64 0, .bool false]) ?_ 5 _ rfl; (with_reducible repeat (first | refine blk_drewN ?_ _ | refine blk_drew ?_ | refine blk_alloc ?_ _)); refine blk_put (cs := #[.int .i64 0, .int .i64 0, .string (⟨#[]⟩ : ByteArray), .string (⟨#[]⟩ : ByteArray), .int .i64 0, .bool false]) ?_ 4 _ rfl; (with_reducible repeat (first | refine blk_drewN ?_ _ | refine blk_drew ?_ | refine blk_alloc ?_ _)); refine blk_put (cs := #[.int .i64 0, .int .i64 0, .string (⟨#[]⟩ : ByteArray), .string (⟨#[]⟩ : ByteArray), .int .i64 0, .bool false]) ?_ 3 _ rfl; (with_reducible repeat (first | refine blk_drewN ?_ _ | refine blk_drew ?_ | refine blk_alloc ?_ _)); refine blk_put (cs := #[.int .i64 0, .int .i64 0, .string (⟨#[]⟩ : ByteArray), .string (⟨#[]⟩ : ByteArray), .int .i64 0, .bool false]) ?_ 2 _ rfl; (with_reducible repeat (first | refine blk_drewN ?_ _ | refine blk_drew ?_ | refine blk_alloc ?_ _)); refine blk_put (cs := #[.int .i64 0, .int .i64 0, .string (⟨#[]⟩ : ByteArray), .string (⟨#[]⟩ : ByteArray), .int .i64 0, .bool false]) ?_ 1 _ rfl; (with_reducible repeat (first | refine blk_drewN ?_ _ | refine blk_drew ?_ | refine blk_alloc ?_ _)); refine blk_put (cs := #[.int .i64 0, .int .i64 0, .string (⟨#[]⟩ : ByteArray), .string (⟨#[]⟩ : ByteArray), .int .i64 0, .bool false]) ?_ 0 _ rfl; (with_reducible repeat (first | refine blk_drewN ?_ _ | refine blk_drew ?_ | refine blk_alloc ?_ _)); refine blk_far ?_ NB250_251.out _; (with_reducible repeat (first | refine blk_drewN ?_ _ | refine blk_drew ?_ | refine blk_alloc ?_ _)); refine blk_far ?_ NB250_251.out _; (with_reducible repeat (first | refine blk_drewN ?_ _ | refine blk_drew ?_ | refine blk_alloc ?_ _)); refine blk_far ?_ NB250_251.out _; (with_reducible repeat (first | refine blk_drewN ?_ _ | refine blk_drew ?_ | refine blk_alloc ?_ _)); refine blk_far ?_ NB250_251.out _; (with_reducible repeat (first | refine blk_drewN ?_ _ | refine blk_drew ?_ | refine blk_alloc ?_ _)); refine blk_far ?_ NB250_251.out _; (with_reducible repeat (first | refine blk_drewN ?_ _ | refine blk_drew ?_ | refine blk_alloc ?_ _)); refine blk_far ?_ NB250_251.out _; (with_reducible repeat (first | refine blk_drewN ?_ _ | refine blk_drew ?_ | refine blk_alloc ?_ _)); exact BK250.out) Try.underlying25 rfl (by kernel_rfl)) rfl ?_
  exact ⟨er, bo⟩
 ·rw [if_neg c2] at H
  have c2b0 : decide ((a0.size : Int) < 6) = false := decide_eq_false c2
  have c2b1 : decide (a0.size < 6) = false := decide_eq_false (by omega)
  clear c2
  replace H := Option.bind_eq_some_iff.mp H
  obtain ⟨⟨t252, t253⟩, A80, H⟩ := H
  replace H : (if (wrap64 ((a0.size : Int) - 6)) < t252 then (some (0, 0, (⟨#[]⟩ : ByteArray), (⟨#[]⟩ : ByteArray), 0, false, 0, 7)) else (if 2 ≤ (a0.size : Int) then ((fairwayref1_TakeFixed.f k (xt a0 2 a0.size) 4).bind fun bt254 => (if 6 ≤ (wrap64 (6 + t252)) then (if (wrap64 (6 + t252)) ≤ (a0.size : Int) then (if 0 ≤ 2 then (if (xt a0 0 2).size + (xt a0 6 ((wrap64 (6 + t252)) : Int).toNat).size ≤ 9223372036854775807 then ((fairwayref1_Sum.f k 0 ((xt a0 0 2) ++ (xt a0 6 ((wrap64 (6 + t252)) : Int).toNat))).bind fun t256 => (if ((bt254.1) % 4294967296) = t256 then (fairwayref10_Take.j0 k t252 (xt a0 6 ((wrap64 (6 + t252)) : Int).toNat) (decide (t252 < 19)) 0 0 (⟨#[]⟩ : ByteArray) (⟨#[]⟩ : ByteArray) 0 false) else (fairwayref10_Take.j0 k t252 (xt a0 6 ((wrap64 (6 + t252)) : Int).toNat) true 0 0 (⟨#[]⟩ : ByteArray) (⟨#[]⟩ : ByteArray) 0 false))) else (none)) else (none)) else (none)) else (none))) else (none))) = some (r1, r2, r3, r4, r5, r6, r7, r8) := H
  have A8 := Aside0.mk A80
  clear A80
  by_cases c9 : (wrap64 ((a0.size : Int) - 6)) < t252
  ·rw [if_pos c9] at H
   have c9b0 : decide ((wrap64 ((a0.size : Int) - 6)) < t252) = true := decide_eq_true c9
   clear c9
   simp only [Option.some.injEq, Prod.mk.injEq] at H
   obtain ⟨rfl, rfl, rfl, rfl, rfl, rfl, rfl, rfl⟩ := H
   go_enter Try.func24, Try.ntmps24
   go_wp2_with (first | ((with_reducible refine gate_dst (N := 2) rfl ?_); refine box_event ?hg (N := 2) ?hd (cs := #[.int .i64 0, .int .i64 0, .string (⟨#[]⟩ : ByteArray), .string (⟨#[]⟩ : ByteArray), .int .i64 0, .bool false]) (t := 25) ?hr ?_; (case hd => rfl); (case hg => rfl); (case hr => first | (go_simp; done) | (go_simp; rfl)); intro gb250 hg w10 hbox hb; have BK250 := Aside0.mk (hbox); have GW250 := Aside0.mk ((by rw [hg]; exact (below_size bo) : w.heap.size ≤ gb250)); have GE250 := Aside0.mk ((by rw [hg]; exact (below_size bo) : w.heap.size ≤ gb250)); replace HB := Aside0.mk (below_step bo hb); clear hb hbox hg) | ((with_reducible refine gate_dst (N := 5) rfl ?_); refine box_event ?hg (N := 5) ?hd (cs := #[.int .i64 0, .int .i64 0, .string (⟨#[]⟩ : ByteArray), .string (⟨#[]⟩ : ByteArray), .int .i64 0, .bool false]) (t := 25) ?hr ?_; (case hd => rfl); (case hg => rfl); (case hr => first | (go_simp; done) | (go_simp; rfl)); intro gb251 hg w11 hbox hb; have BK251 := Aside0.mk (hbox); have GW251 := Aside0.mk ((by rw [hg]; exact (below_size bo) : w.heap.size ≤ gb251)); have GE251 := Aside0.mk ((by rw [hg]; exact (below_size bo) : w.heap.size ≤ gb251)); replace HB := Aside0.mk (below_step bo hb); have NB250_251 := Aside0.mk (nl BK250.out hg); have NB251_250 := Aside0.mk (ng BK250.out hg); replace BK250 := Aside0.mk (bb BK250.out hb); clear hb hbox hg; have hnb12 := NB251_250.out; have hnc12 := NB250_251.out; obtain ⟨hcz13_0, hcz13_1, hcz13_2, hcz13_3, hcz13_4, hcz13_5⟩ := cl6 BK251.out; obtain ⟨hfz13_0, hfz13_1, hfz13_2, hfz13_3, hfz13_4, hfz13_5⟩ := fz6 BK251.out) | ((with_reducible refine gate_callee (f := 71) rfl ?_); refine goesL_ (some 22) rfl rfl Try.func71 (by kernel_rfl) rfl #[.string a0, .int .i64 2] rfl aa ?_; (with_reducible refine (fairwayref1_TakeFixed.calls k a0 2 t252 t253 _ A8.out).mono ?_); rintro e w' ⟨rfl, ⟨nd, rfl⟩⟩; refine ⟨_, rfl, ?_⟩; obtain ⟨hcz14_0, hcz14_1, hcz14_2, hcz14_3, hcz14_4, hcz14_5⟩ := cl6 BK250.out; obtain ⟨hfz14_0, hfz14_1, hfz14_2, hfz14_3, hfz14_4, hfz14_5⟩ := fz6 BK250.out))
   refine bodyPost_ret (results_ctt rfl _ _ gb250 25 #[.int .i64 0, .int .i64 0, .string (⟨#[]⟩ : ByteArray), .string (⟨#[]⟩ : ByteArray), .int .i64 0, .bool false] (0, 0) _ rfl (by (with_reducible repeat (first | refine blk_drewN ?_ _ | refine blk_drew ?_ | refine blk_alloc ?_ _)); refine blk_put (cs := #[.int .i64 0, .int .i64 0, .string (⟨#[]⟩ : ByteArray), .string (⟨#[]⟩ : ByteArray), .int .i64 0, .bool false]) ?_ 5 _ rfl; (with_reducible repeat (first | refine blk_drewN ?_ _ | refine blk_drew ?_ | refine blk_alloc ?_ _)); refine blk_put (cs := #[.int .i64 0, .int .i64 0, .string (⟨#[]⟩ : ByteArray), .string (⟨#[]⟩ : ByteArray), .int .i64 0, .bool false]) ?_ 4 _ rfl; (with_reducible repeat (first | refine blk_drewN ?_ _ | refine blk_drew ?_ | refine blk_alloc ?_ _)); refine blk_put (cs := #[.int .i64 0, .int .i64 0, .string (⟨#[]⟩ : ByteArray), .string (⟨#[]⟩ : ByteArray), .int .i64 0, .bool false]) ?_ 3 _ rfl; (with_reducible repeat (first | refine blk_drewN ?_ _ | refine blk_drew ?_ | refine blk_alloc ?_ _)); refine blk_put (cs := #[.int .i64 0, .int .i64 0, .string (⟨#[]⟩ : ByteArray), .string (⟨#[]⟩ : ByteArray), .int .i64 0, .bool false]) ?_ 2 _ rfl; (with_reducible repeat (first | refine blk_drewN ?_ _ | refine blk_drew ?_ | refine blk_alloc ?_ _)); refine blk_put (cs := #[.int .i64 0, .int .i64 0, .string (⟨#[]⟩ : ByteArray), .string (⟨#[]⟩ : ByteArray), .int .i64 0, .bool false]) ?_ 1 _ rfl; (with_reducible repeat (first | refine blk_drewN ?_ _ | refine blk_drew ?_ | refine blk_alloc ?_ _)); refine blk_put (cs := #[.int .i64 0, .int .i64 0, .string (⟨#[]⟩ : ByteArray), .string (⟨#[]⟩ : ByteArray), .int .i64 0, .bool false]) ?_ 0 _ rfl; (with_reducible repeat (first | refine blk_drewN ?_ _ | refine blk_drew ?_ | refine blk_alloc ?_ _)); refine blk_far ?_ NB250_251.out _; (with_reducible repeat (first | refine blk_drewN ?_ _ | refine blk_drew ?_ | refine blk_alloc ?_ _)); refine blk_far ?_ NB250_251.out _; (with_reducible repeat (first | refine blk_drewN ?_ _ | refine blk_drew ?_ | refine blk_alloc ?_ _)); refine blk_far ?_ NB250_251.out _; (with_reducible repeat (first | refine blk_drewN ?_ _ | refine blk_drew ?_ | refine blk_alloc ?_ _)); refine blk_far ?_ NB250_251.out _; (with_reducible repeat (first | refine blk_drewN ?_ _ | refine blk_drew ?_ | refine blk_alloc ?_ _)); refine blk_far ?_ NB250_251.out _; (with_reducible repeat (first | refine blk_drewN ?_ _ | refine blk_drew ?_ | refine blk_alloc ?_ _)); refine blk_far ?_ NB250_251.out _; (with_reducible repeat (first | refine blk_drewN ?_ _ | refine blk_drew ?_ | refine blk_alloc ?_ _)); exact BK250.out) Try.underlying25 rfl (by kernel_rfl)) rfl ?_
   exact ⟨er, bo⟩
  ·rw [if_neg c9] at H
   have c9b0 : decide ((wrap64 ((a0.size : Int) - 6)) < t252) = false := decide_eq_false c9
   clear c9
   by_cases c15 : 2 ≤ (a0.size : Int)
   ·rw [if_pos c15] at H
    have c15b0 := eq_true c15
    have c15b1 : decide (2 ≤ (a0.size : Int)) = true := decide_eq_true c15
    clear c15
    replace H := Option.bind_eq_some_iff.mp H
    obtain ⟨⟨t254, t255⟩, A160, H⟩ := H
    replace H : (if 6 ≤ (wrap64 (6 + t252)) then (if (wrap64 (6 + t252)) ≤ (a0.size : Int) then (if 0 ≤ 2 then (if (xt a0 0 2).size + (xt a0 6 ((wrap64 (6 + t252)) : Int).toNat).size ≤ 9223372036854775807 then ((fairwayref1_Sum.f k 0 ((xt a0 0 2) ++ (xt a0 6 ((wrap64 (6 + t252)) : Int).toNat))).bind fun t256 => (if ((t254) % 4294967296) = t256 then (fairwayref10_Take.j0 k t252 (xt a0 6 ((wrap64 (6 + t252)) : Int).toNat) (decide (t252 < 19)) 0 0 (⟨#[]⟩ : ByteArray) (⟨#[]⟩ : ByteArray) 0 false) else (fairwayref10_Take.j0 k t252 (xt a0 6 ((wrap64 (6 + t252)) : Int).toNat) true 0 0 (⟨#[]⟩ : ByteArray) (⟨#[]⟩ : ByteArray) 0 false))) else (none)) else (none)) else (none)) else (none)) = some (r1, r2, r3, r4, r5, r6, r7, r8) := H
    have A16 := Aside0.mk A160
    clear A160
    by_cases c17 : 6 ≤ (wrap64 (6 + t252))
    ·rw [if_pos c17] at H
     have c17b0 := eq_true c17
     have c17b1 : decide (6 ≤ (wrap64 (6 + t252))) = true := decide_eq_true c17
     by_cases c18 : (wrap64 (6 + t252)) ≤ (a0.size : Int)
     ·rw [if_pos c18] at H
      have c18b0 := eq_true c18
      have c18b1 : decide ((wrap64 (6 + t252)) ≤ (a0.size : Int)) = true := decide_eq_true c18
      have HC19 := Aside0.mk H
      clear H
      go_enter Try.func24, Try.ntmps24
      go_upto_region 9 with (first | ((with_reducible refine gate_dst (N := 2) rfl ?_); refine box_event ?hg (N := 2) ?hd (cs := #[.int .i64 0, .int .i64 0, .string (⟨#[]⟩ : ByteArray), .string (⟨#[]⟩ : ByteArray), .int .i64 0, .bool false]) (t := 25) ?hr ?_; (case hd => rfl); (case hg => rfl); (case hr => first | (go_simp; done) | (go_simp; rfl)); intro gb250 hg w20 hbox hb; have BK250 := Aside0.mk (hbox); have GW250 := Aside0.mk ((by rw [hg]; exact (below_size bo) : w.heap.size ≤ gb250)); have GE250 := Aside0.mk ((by rw [hg]; exact (below_size bo) : w.heap.size ≤ gb250)); replace HB := Aside0.mk (below_step bo hb); clear hb hbox hg) | ((with_reducible refine gate_dst (N := 5) rfl ?_); refine box_event ?hg (N := 5) ?hd (cs := #[.int .i64 0, .int .i64 0, .string (⟨#[]⟩ : ByteArray), .string (⟨#[]⟩ : ByteArray), .int .i64 0, .bool false]) (t := 25) ?hr ?_; (case hd => rfl); (case hg => rfl); (case hr => first | (go_simp; done) | (go_simp; rfl)); intro gb251 hg w21 hbox hb; have BK251 := Aside0.mk (hbox); have GW251 := Aside0.mk ((by rw [hg]; exact (below_size bo) : w.heap.size ≤ gb251)); have GE251 := Aside0.mk ((by rw [hg]; exact (below_size bo) : w.heap.size ≤ gb251)); replace HB := Aside0.mk (below_step bo hb); have NB250_251 := Aside0.mk (nl BK250.out hg); have NB251_250 := Aside0.mk (ng BK250.out hg); replace BK250 := Aside0.mk (bb BK250.out hb); clear hb hbox hg; have hnb22 := NB251_250.out; have hnc22 := NB250_251.out; obtain ⟨hcz23_0, hcz23_1, hcz23_2, hcz23_3, hcz23_4, hcz23_5⟩ := cl6 BK251.out; obtain ⟨hfz23_0, hfz23_1, hfz23_2, hfz23_3, hfz23_4, hfz23_5⟩ := fz6 BK251.out) | ((with_reducible refine gate_callee (f := 71) rfl ?_); refine goesL_ (some 22) rfl rfl Try.func71 (by kernel_rfl) rfl #[.string a0, .int .i64 2] rfl aa ?_; (with_reducible refine (fairwayref1_TakeFixed.calls k a0 2 t252 t253 _ A8.out).mono ?_); rintro e w' ⟨rfl, ⟨nd, rfl⟩⟩; refine ⟨_, rfl, ?_⟩) | ((with_reducible refine gate_callee (f := 71) rfl ?_); refine goesL_ (some 34) rfl rfl Try.func71 (by kernel_rfl) rfl #[.string (xt a0 2 a0.size), .int .i64 4] rfl aa ?_; (with_reducible refine (fairwayref1_TakeFixed.calls k (xt a0 2 a0.size) 4 t254 t255 _ A16.out).mono ?_); rintro e w' ⟨rfl, ⟨nd, rfl⟩⟩; refine ⟨_, rfl, ?_⟩))
      (try simp only [Act.put, List.setIfInBounds_toArray, List.set_cons_zero, List.set_cons_succ])
      go_cut [52] (fun v52 wc => ∃ (kq : Nat) (x52_18 : Bool), v52 = .bool x52_18 ∧ Aside0 (fairwayref10_Take.j0 kq t252 (xt a0 6 ((wrap64 (6 + t252)) : Int).toNat) x52_18 0 0 (⟨#[]⟩ : ByteArray) (⟨#[]⟩ : ByteArray) 0 false = some (r1, r2, r3, r4, r5, r6, r7, r8)) ∧ Aside0 (kq ≤ k) ∧ Aside0 (wc.heap[gb250]? = some (.cells #[.int .i64 0, .int .i64 0, .string (⟨#[]⟩ : ByteArray), .string (⟨#[]⟩ : ByteArray), .int .i64 0, .bool false] 25 (0, 0))) ∧ Aside0 (wc.heap[gb251]? = some (.cells #[.int .i64 0, .int .i64 0, .string (⟨#[]⟩ : ByteArray), .string (⟨#[]⟩ : ByteArray), .int .i64 0, .bool false] 25 (0, 0))) ∧ Aside0 (Below w.heap.size w wc))
      case first =>
       have H := HC19.out
       clear HC19
       by_cases c24 : 0 ≤ 2
       ·rw [if_pos c24] at H
        have c24b0 := eq_true c24
        have c24b1 : decide (0 ≤ 2) = true := decide_eq_true c24
        clear c24
        have c25b0 := eq_true (od : 2 ≤ (a0.size : Int))
        by_cases c26 : (xt a0 0 2).size + (xt a0 6 ((wrap64 (6 + t252)) : Int).toNat).size ≤ 9223372036854775807
        ·rw [if_pos c26] at H
         have c26b0 := eq_true c26
         have c26b1 : decide ((xt a0 0 2).size + (xt a0 6 ((wrap64 (6 + t252)) : Int).toNat).size ≤ 9223372036854775807) = true := decide_eq_true c26
         try have c26b2 : (9223372036854775807 < (xt a0 0 2).size + (xt a0 6 ((wrap64 (6 + t252)) : Int).toNat).size) = False := eq_false (Nat.not_lt.2 c26)
         replace H := Option.bind_eq_some_iff.mp H
         obtain ⟨t256, A270, H⟩ := H
         try dsimp only at H
         have A27 := Aside0.mk A270
         clear A270
         by_cases c28 : ((t254) % 4294967296) = t256
         ·rw [if_pos c28] at H
          have c28b0 : (((t254) % 4294967296) == t256) = true := beq_iff_eq.mpr c28
          have c28b1 : (((t254) % 4294967296) != t256) = false := bne_eq_false_iff_eq.mpr c28
          clear c28
          (first | rw [c28b0] | (simp only [i64_w, i32_w]; rw [c28b0]) | skip)
          have H' := Aside0.mk H
          clear H
          go_wp2_with (first | ((with_reducible refine gate_callee (f := 70) rfl ?_); refine goesL_ (some 47) rfl rfl Try.func70 (by kernel_rfl) rfl #[.int .u32 0, .string ((xt a0 0 2) ++ (xt a0 6 ((wrap64 (6 + t252)) : Int).toNat))] rfl aa ?_; (with_reducible refine (fairwayref1_Sum.calls k 0 ((xt a0 0 2) ++ (xt a0 6 ((wrap64 (6 + t252)) : Int).toNat)) t256 _ A27.out).mono ?_); rintro e w' ⟨rfl, ⟨nd, rfl⟩⟩; refine ⟨_, rfl, ?_⟩))
          go_meet
          case rel => exact ⟨_, (decide (t252 < 19)), ap, H', ⟨by first | omega | exact Nat.le_refl _⟩, ⟨by (with_reducible repeat (first | refine blk_drewN ?_ _ | refine blk_drew ?_ | refine blk_alloc ?_ _)); refine blk_far ?_ NB250_251.out _; (with_reducible repeat (first | refine blk_drewN ?_ _ | refine blk_drew ?_ | refine blk_alloc ?_ _)); refine blk_far ?_ NB250_251.out _; (with_reducible repeat (first | refine blk_drewN ?_ _ | refine blk_drew ?_ | refine blk_alloc ?_ _)); refine blk_far ?_ NB250_251.out _; (with_reducible repeat (first | refine blk_drewN ?_ _ | refine blk_drew ?_ | refine blk_alloc ?_ _)); refine blk_far ?_ NB250_251.out _; (with_reducible repeat (first | refine blk_drewN ?_ _ | refine blk_drew ?_ | refine blk_alloc ?_ _)); refine blk_far ?_ NB250_251.out _; (with_reducible repeat (first | refine blk_drewN ?_ _ | refine blk_drew ?_ | refine blk_alloc ?_ _)); refine blk_far ?_ NB250_251.out _; (with_reducible repeat (first | refine blk_drewN ?_ _ | refine blk_drew ?_ | refine blk_alloc ?_ _)); exact BK250.out⟩, ⟨by (with_reducible repeat (first | refine blk_drewN ?_ _ | refine blk_drew ?_ | refine blk_alloc ?_ _)); refine blk_put (cs := #[.int .i64 0, .int .i64 0, .string (⟨#[]⟩ : ByteArray), .string (⟨#[]⟩ : ByteArray), .int .i64 0, .bool false]) ?_ 5 _ rfl; (with_reducible repeat (first | refine blk_drewN ?_ _ | refine blk_drew ?_ | refine blk_alloc ?_ _)); refine blk_put (cs := #[.int .i64 0, .int .i64 0, .string (⟨#[]⟩ : ByteArray), .string (⟨#[]⟩ : ByteArray), .int .i64 0, .bool false]) ?_ 4 _ rfl; (with_reducible repeat (first | refine blk_drewN ?_ _ | refine blk_drew ?_ | refine blk_alloc ?_ _)); refine blk_put (cs := #[.int .i64 0, .int .i64 0, .string (⟨#[]⟩ : ByteArray), .string (⟨#[]⟩ : ByteArray), .int .i64 0, .bool false]) ?_ 3 _ rfl; (with_reducible repeat (first | refine blk_drewN ?_ _ | refine blk_drew ?_ | refine blk_alloc ?_ _)); refine blk_put (cs := #[.int .i64 0, .int .i64 0, .string (⟨#[]⟩ : ByteArray), .string (⟨#[]⟩ : ByteArray), .int .i64 0, .bool false]) ?_ 2 _ rfl; (with_reducible repeat (first | refine blk_drewN ?_ _ | refine blk_drew ?_ | refine blk_alloc ?_ _)); refine blk_put (cs := #[.int .i64 0, .int .i64 0, .string (⟨#[]⟩ : ByteArray), .string (⟨#[]⟩ : ByteArray), .int .i64 0, .bool false]) ?_ 1 _ rfl; (with_reducible repeat (first | refine blk_drewN ?_ _ | refine blk_drew ?_ | refine blk_alloc ?_ _)); refine blk_put (cs := #[.int .i64 0, .int .i64 0, .string (⟨#[]⟩ : ByteArray), .string (⟨#[]⟩ : ByteArray), .int .i64 0, .bool false]) ?_ 0 _ rfl; (with_reducible repeat (first | refine blk_drewN ?_ _ | refine blk_drew ?_ | refine blk_alloc ?_ _)); exact BK251.out⟩, ⟨bo⟩⟩
         ·rw [if_neg c28] at H
          have c28b0 : (((t254) % 4294967296) == t256) = false := beq_eq_false_iff_ne.mpr c28
          have c28b1 : (((t254) % 4294967296) != t256) = true := bne_iff_ne.mpr c28
          (first | rw [c28b0] | (simp only [i64_w, i32_w]; rw [c28b0]) | skip)
          have H' := Aside0.mk H
          clear H
          go_wp2_with (first | ((with_reducible refine gate_callee (f := 70) rfl ?_); refine goesL_ (some 47) rfl rfl Try.func70 (by kernel_rfl) rfl #[.int .u32 0, .string ((xt a0 0 2) ++ (xt a0 6 ((wrap64 (6 + t252)) : Int).toNat))] rfl aa ?_; (with_reducible refine (fairwayref1_Sum.calls k 0 ((xt a0 0 2) ++ (xt a0 6 ((wrap64 (6 + t252)) : Int).toNat)) t256 _ A27.out).mono ?_); rintro e w' ⟨rfl, ⟨nd, rfl⟩⟩; refine ⟨_, rfl, ?_⟩))
          go_meet
          case rel => exact ⟨_, (true), ap, H', ⟨by first | omega | exact Nat.le_refl _⟩, ⟨by (with_reducible repeat (first | refine blk_drewN ?_ _ | refine blk_drew ?_ | refine blk_alloc ?_ _)); refine blk_far ?_ NB250_251.out _; (with_reducible repeat (first | refine blk_drewN ?_ _ | refine blk_drew ?_ | refine blk_alloc ?_ _)); refine blk_far ?_ NB250_251.out _; (with_reducible repeat (first | refine blk_drewN ?_ _ | refine blk_drew ?_ | refine blk_alloc ?_ _)); refine blk_far ?_ NB250_251.out _; (with_reducible repeat (first | refine blk_drewN ?_ _ | refine blk_drew ?_ | refine blk_alloc ?_ _)); refine blk_far ?_ NB250_251.out _; (with_reducible repeat (first | refine blk_drewN ?_ _ | refine blk_drew ?_ | refine blk_alloc ?_ _)); refine blk_far ?_ NB250_251.out _; (with_reducible repeat (first | refine blk_drewN ?_ _ | refine blk_drew ?_ | refine blk_alloc ?_ _)); refine blk_far ?_ NB250_251.out _; (with_reducible repeat (first | refine blk_drewN ?_ _ | refine blk_drew ?_ | refine blk_alloc ?_ _)); exact BK250.out⟩, ⟨by (with_reducible repeat (first | refine blk_drewN ?_ _ | refine blk_drew ?_ | refine blk_alloc ?_ _)); refine blk_put (cs := #[.int .i64 0, .int .i64 0, .string (⟨#[]⟩ : ByteArray), .string (⟨#[]⟩ : ByteArray), .int .i64 0, .bool false]) ?_ 5 _ rfl; (with_reducible repeat (first | refine blk_drewN ?_ _ | refine blk_drew ?_ | refine blk_alloc ?_ _)); refine blk_put (cs := #[.int .i64 0, .int .i64 0, .string (⟨#[]⟩ : ByteArray), .string (⟨#[]⟩ : ByteArray), .int .i64 0, .bool false]) ?_ 4 _ rfl; (with_reducible repeat (first | refine blk_drewN ?_ _ | refine blk_drew ?_ | refine blk_alloc ?_ _)); refine blk_put (cs := #[.int .i64 0, .int .i64 0, .string (⟨#[]⟩ : ByteArray), .string (⟨#[]⟩ : ByteArray), .int .i64 0, .bool false]) ?_ 3 _ rfl; (with_reducible repeat (first | refine blk_drewN ?_ _ | refine blk_drew ?_ | refine blk_alloc ?_ _)); refine blk_put (cs := #[.int .i64 0, .int .i64 0, .string (⟨#[]⟩ : ByteArray), .string (⟨#[]⟩ : ByteArray), .int .i64 0, .bool false]) ?_ 2 _ rfl; (with_reducible repeat (first | refine blk_drewN ?_ _ | refine blk_drew ?_ | refine blk_alloc ?_ _)); refine blk_put (cs := #[.int .i64 0, .int .i64 0, .string (⟨#[]⟩ : ByteArray), .string (⟨#[]⟩ : ByteArray), .int .i64 0, .bool false]) ?_ 1 _ rfl; (with_reducible repeat (first | refine blk_drewN ?_ _ | refine blk_drew ?_ | refine blk_alloc ?_ _)); refine blk_put (cs := #[.int .i64 0, .int .i64 0, .string (⟨#[]⟩ : ByteArray), .string (⟨#[]⟩ : ByteArray), .int .i64 0, .bool false]) ?_ 0 _ rfl; (with_reducible repeat (first | refine blk_drewN ?_ _ | refine blk_drew ?_ | refine blk_alloc ?_ _)); exact BK251.out⟩, ⟨bo⟩⟩
        ·rw [if_neg c26] at H
         exact absurd H (by simp)
       ·rw [if_neg c24] at H
        exact absurd H (by simp)
      case rest =>
       clear HC19
       (try clear c1); (try clear c2); (try clear c2b0); (try clear c2b1); (try clear p2); (try clear c5); (try clear p6); (try clear c7); (try clear c9); (try clear c9b0); (try clear c12); (try clear c15); (try clear c15b0); (try clear c15b1); (try clear c17); (try clear c17b0); (try clear c17b1); (try clear c18); (try clear c18b0); (try clear c18b1); (try clear c22); (try clear c24); (try clear c24b0); (try clear c24b1); (try clear c25); (try clear c25b0); (try clear c26); (try clear c26b0); (try clear c26b1); (try clear c26b2); (try clear c28); (try clear c28b0); (try clear c28b1); (try clear hcz13_0); (try clear hcz13_1); (try clear hcz13_2); (try clear hcz13_3); (try clear hcz13_4); (try clear hcz13_5); (try clear hcz14_0); (try clear hcz14_1); (try clear hcz14_2); (try clear hcz14_3); (try clear hcz14_4); (try clear hcz14_5); (try clear hcz23_0); (try clear hcz23_1); (try clear hcz23_2); (try clear hcz23_3); (try clear hcz23_4); (try clear hcz23_5); (try clear hcz6_0); (try clear hcz6_1); (try clear hcz6_2); (try clear hcz6_3); (try clear hcz6_4); (try clear hcz6_5); (try clear hcz7_0); (try clear hcz7_1); (try clear hcz7_2); (try clear hcz7_3); (try clear hcz7_4); (try clear hcz7_5); (try clear hfz13_0); (try clear hfz13_1); (try clear hfz13_2); (try clear hfz13_3); (try clear hfz13_4); (try clear hfz13_5); (try clear hfz14_0); (try clear hfz14_1); (try clear hfz14_2); (try clear hfz14_3); (try clear hfz14_4); (try clear hfz14_5); (try clear hfz23_0); (try clear hfz23_1); (try clear hfz23_2); (try clear hfz23_3); (try clear hfz23_4); (try clear hfz23_5); (try clear hfz6_0); (try clear hfz6_1); (try clear hfz6_2); (try clear hfz6_3); (try clear hfz6_4); (try clear hfz6_5); (try clear hfz7_0); (try clear hfz7_1); (try clear hfz7_2); (try clear hfz7_3); (try clear hfz7_4); (try clear hfz7_5)
       obtain ⟨kq, x52_18, rfl, HA, HJ18, BK250, BK251, HB⟩ := hcut
       cases kq with
       | zero => exact absurd HA.out (by simp [fairwayref10_Take.j0])
       | succ kj18 =>
        have H := HA.out
        clear HA
        simp only [fairwayref10_Take.j0] at H
        by_cases c29 : x52_18 = true
        ·subst c29
         have H1 : (some (0, 0, (⟨#[]⟩ : ByteArray), (⟨#[]⟩ : ByteArray), 0, false, 0, 8)) = some (r1, r2, r3, r4, r5, r6, r7, r8) := by rw [if_pos rfl] at H; exact H
         clear H
         have H := H1
         clear H1
         simp only [Option.some.injEq, Prod.mk.injEq] at H
         obtain ⟨rfl, rfl, rfl, rfl, rfl, rfl, rfl, rfl⟩ := H
         have hnb30 := NB251_250.out
         have hnc30 := NB250_251.out
         have hcz31_0 : wc.cell? ⟨gb251, 0, none⟩ = some (.int .i64 0) := (blk_cell BK251.out 0).trans rfl
         have hcz31_1 : wc.cell? ⟨gb251, 1, none⟩ = some (.int .i64 0) := (blk_cell BK251.out 1).trans rfl
         have hcz31_2 : wc.cell? ⟨gb251, 2, none⟩ = some (.string (⟨#[]⟩ : ByteArray)) := (blk_cell BK251.out 2).trans rfl
         have hcz31_3 : wc.cell? ⟨gb251, 3, none⟩ = some (.string (⟨#[]⟩ : ByteArray)) := (blk_cell BK251.out 3).trans rfl
         have hcz31_4 : wc.cell? ⟨gb251, 4, none⟩ = some (.int .i64 0) := (blk_cell BK251.out 4).trans rfl
         have hcz31_5 : wc.cell? ⟨gb251, 5, none⟩ = some (.bool false) := (blk_cell BK251.out 5).trans rfl
         have hfz31_0 := blk_frozen BK251.out 0
         have hfz31_1 := blk_frozen BK251.out 1
         have hfz31_2 := blk_frozen BK251.out 2
         have hfz31_3 := blk_frozen BK251.out 3
         have hfz31_4 := blk_frozen BK251.out 4
         have hfz31_5 := blk_frozen BK251.out 5
         have hcz32_0 : wc.cell? ⟨gb250, 0, none⟩ = some (.int .i64 0) := (blk_cell BK250.out 0).trans rfl
         have hcz32_1 : wc.cell? ⟨gb250, 1, none⟩ = some (.int .i64 0) := (blk_cell BK250.out 1).trans rfl
         have hcz32_2 : wc.cell? ⟨gb250, 2, none⟩ = some (.string (⟨#[]⟩ : ByteArray)) := (blk_cell BK250.out 2).trans rfl
         have hcz32_3 : wc.cell? ⟨gb250, 3, none⟩ = some (.string (⟨#[]⟩ : ByteArray)) := (blk_cell BK250.out 3).trans rfl
         have hcz32_4 : wc.cell? ⟨gb250, 4, none⟩ = some (.int .i64 0) := (blk_cell BK250.out 4).trans rfl
         have hcz32_5 : wc.cell? ⟨gb250, 5, none⟩ = some (.bool false) := (blk_cell BK250.out 5).trans rfl
         have hfz32_0 := blk_frozen BK250.out 0
         have hfz32_1 := blk_frozen BK250.out 1
         have hfz32_2 := blk_frozen BK250.out 2
         have hfz32_3 := blk_frozen BK250.out 3
         have hfz32_4 := blk_frozen BK250.out 4
         have hfz32_5 := blk_frozen BK250.out 5
         go_wp2
         refine bodyPost_ret (results_ctt rfl _ _ gb250 25 #[.int .i64 0, .int .i64 0, .string (⟨#[]⟩ : ByteArray), .string (⟨#[]⟩ : ByteArray), .int .i64 0, .bool false] (0, 0) _ rfl (by (with_reducible repeat (first | refine blk_drewN ?_ _ | refine blk_drew ?_ | refine blk_alloc ?_ _)); refine blk_put (cs := #[.int .i64 0, .int .i64 0, .string (⟨#[]⟩ : ByteArray), .string (⟨#[]⟩ : ByteArray), .int .i64 0, .bool false]) ?_ 5 _ rfl; (with_reducible repeat (first | refine blk_drewN ?_ _ | refine blk_drew ?_ | refine blk_alloc ?_ _)); refine blk_put (cs := #[.int .i64 0, .int .i64 0, .string (⟨#[]⟩ : ByteArray), .string (⟨#[]⟩ : ByteArray), .int .i64 0, .bool false]) ?_ 4 _ rfl; (with_reducible repeat (first | refine blk_drewN ?_ _ | refine blk_drew ?_ | refine blk_alloc ?_ _)); refine blk_put (cs := #[.int .i64 0, .int .i64 0, .string (⟨#[]⟩ : ByteArray), .string (⟨#[]⟩ : ByteArray), .int .i64 0, .bool false]) ?_ 3 _ rfl; (with_reducible repeat (first | refine blk_drewN ?_ _ | refine blk_drew ?_ | refine blk_alloc ?_ _)); refine blk_put (cs := #[.int .i64 0, .int .i64 0, .string (⟨#[]⟩ : ByteArray), .string (⟨#[]⟩ : ByteArray), .int .i64 0, .bool false]) ?_ 2 _ rfl; (with_reducible repeat (first | refine blk_drewN ?_ _ | refine blk_drew ?_ | refine blk_alloc ?_ _)); refine blk_put (cs := #[.int .i64 0, .int .i64 0, .string (⟨#[]⟩ : ByteArray), .string (⟨#[]⟩ : ByteArray), .int .i64 0, .bool false]) ?_ 1 _ rfl; (with_reducible repeat (first | refine blk_drewN ?_ _ | refine blk_drew ?_ | refine blk_alloc ?_ _)); refine blk_put (cs := #[.int .i64 0, .int .i64 0, .string (⟨#[]⟩ : ByteArray), .string (⟨#[]⟩ : ByteArray), .int .i64 0, .bool false]) ?_ 0 _ rfl; (with_reducible repeat (first | refine blk_drewN ?_ _ | refine blk_drew ?_ | refine blk_alloc ?_ _)); exact BK250.out) Try.underlying25 rfl (by kernel_rfl)) rfl ?_
         exact ⟨er, bo⟩
        ·replace c29 := Bool.eq_false_iff.mpr c29
         subst c29
         have H1 : ((fairwayref1_TakeFixed.f kj18 (xt a0 6 ((wrap64 (6 + t252)) : Int).toNat) 8).bind fun bt258 => (if 8 ≤ ((xt a0 6 ((wrap64 (6 + t252)) : Int).toNat).size : Int) then ((fairwayref1_TakeFixed.f kj18 (xt (xt a0 6 ((wrap64 (6 + t252)) : Int).toNat) 8 (xt a0 6 ((wrap64 (6 + t252)) : Int).toNat).size) 8).bind fun bt260 => (if 16 < ((xt a0 6 ((wrap64 (6 + t252)) : Int).toNat).size : Int) then (if 17 ≤ ((xt a0 6 ((wrap64 (6 + t252)) : Int).toNat).size : Int) then ((fairwayref1_TakeFixed.f kj18 (xt (xt a0 6 ((wrap64 (6 + t252)) : Int).toNat) 17 (xt a0 6 ((wrap64 (6 + t252)) : Int).toNat).size) 2).bind fun bt262 => (if (wrap64 (bt (xt a0 6 ((wrap64 (6 + t252)) : Int).toNat) 16)) > 7 then (fairwayref10_Take.j1 kj18 t252 (xt a0 6 ((wrap64 (6 + t252)) : Int).toNat) (wrap64 (bt (xt a0 6 ((wrap64 (6 + t252)) : Int).toNat) 16)) bt262.1 true 0 0 (⟨#[]⟩ : ByteArray) (⟨#[]⟩ : ByteArray) 0 false bt258.1 bt260.1 (⟨#[]⟩ : ByteArray) (⟨#[]⟩ : ByteArray) 0 false) else (fairwayref10_Take.j1 kj18 t252 (xt a0 6 ((wrap64 (6 + t252)) : Int).toNat) (wrap64 (bt (xt a0 6 ((wrap64 (6 + t252)) : Int).toNat) 16)) bt262.1 (decide (bt262.1 > (wrap64 (t252 - 19)))) 0 0 (⟨#[]⟩ : ByteArray) (⟨#[]⟩ : ByteArray) 0 false bt258.1 bt260.1 (⟨#[]⟩ : ByteArray) (⟨#[]⟩ : ByteArray) 0 false))) else (none)) else (none))) else (none))) = some (r1, r2, r3, r4, r5, r6, r7, r8) := by rw [if_neg (show ¬ (false = true) by decide)] at H; exact H
         clear H
         have H := H1
         clear H1
         replace H := Option.bind_eq_some_iff.mp H
         obtain ⟨⟨t258, t259⟩, A330, H⟩ := H
         replace H : (if 8 ≤ ((xt a0 6 ((wrap64 (6 + t252)) : Int).toNat).size : Int) then ((fairwayref1_TakeFixed.f kj18 (xt (xt a0 6 ((wrap64 (6 + t252)) : Int).toNat) 8 (xt a0 6 ((wrap64 (6 + t252)) : Int).toNat).size) 8).bind fun bt260 => (if 16 < ((xt a0 6 ((wrap64 (6 + t252)) : Int).toNat).size : Int) then (if 17 ≤ ((xt a0 6 ((wrap64 (6 + t252)) : Int).toNat).size : Int) then ((fairwayref1_TakeFixed.f kj18 (xt (xt a0 6 ((wrap64 (6 + t252)) : Int).toNat) 17 (xt a0 6 ((wrap64 (6 + t252)) : Int).toNat).size) 2).bind fun bt262 => (if (wrap64 (bt (xt a0 6 ((wrap64 (6 + t252)) : Int).toNat) 16)) > 7 then (fairwayref10_Take.j1 kj18 t252 (xt a0 6 ((wrap64 (6 + t252)) : Int).toNat) (wrap64 (bt (xt a0 6 ((wrap64 (6 + t252)) : Int).toNat) 16)) bt262.1 true 0 0 (⟨#[]⟩ : ByteArray) (⟨#[]⟩ : ByteArray) 0 false t258 bt260.1 (⟨#[]⟩ : ByteArray) (⟨#[]⟩ : ByteArray) 0 false) else (fairwayref10_Take.j1 kj18 t252 (xt a0 6 ((wrap64 (6 + t252)) : Int).toNat) (wrap64 (bt (xt a0 6 ((wrap64 (6 + t252)) : Int).toNat) 16)) bt262.1 (decide (bt262.1 > (wrap64 (t252 - 19)))) 0 0 (⟨#[]⟩ : ByteArray) (⟨#[]⟩ : ByteArray) 0 false t258 bt260.1 (⟨#[]⟩ : ByteArray) (⟨#[]⟩ : ByteArray) 0 false))) else (none)) else (none))) else (none)) = some (r1, r2, r3, r4, r5, r6, r7, r8) := H
         have A33 := Aside0.mk A330
         clear A330
         by_cases c34 : 8 ≤ ((xt a0 6 ((wrap64 (6 + t252)) : Int).toNat).size : Int)
         ·rw [if_pos c34] at H
          have c34b0 := eq_true c34
          have c34b1 : decide (8 ≤ ((xt a0 6 ((wrap64 (6 + t252)) : Int).toNat).size : Int)) = true := decide_eq_true c34
          replace H := Option.bind_eq_some_iff.mp H
          obtain ⟨⟨t260, t261⟩, A350, H⟩ := H
          replace H : (if 16 < ((xt a0 6 ((wrap64 (6 + t252)) : Int).toNat).size : Int) then (if 17 ≤ ((xt a0 6 ((wrap64 (6 + t252)) : Int).toNat).size : Int) then ((fairwayref1_TakeFixed.f kj18 (xt (xt a0 6 ((wrap64 (6 + t252)) : Int).toNat) 17 (xt a0 6 ((wrap64 (6 + t252)) : Int).toNat).size) 2).bind fun bt262 => (if (wrap64 (bt (xt a0 6 ((wrap64 (6 + t252)) : Int).toNat) 16)) > 7 then (fairwayref10_Take.j1 kj18 t252 (xt a0 6 ((wrap64 (6 + t252)) : Int).toNat) (wrap64 (bt (xt a0 6 ((wrap64 (6 + t252)) : Int).toNat) 16)) bt262.1 true 0 0 (⟨#[]⟩ : ByteArray) (⟨#[]⟩ : ByteArray) 0 false t258 t260 (⟨#[]⟩ : ByteArray) (⟨#[]⟩ : ByteArray) 0 false) else (fairwayref10_Take.j1 kj18 t252 (xt a0 6 ((wrap64 (6 + t252)) : Int).toNat) (wrap64 (bt (xt a0 6 ((wrap64 (6 + t252)) : Int).toNat) 16)) bt262.1 (decide (bt262.1 > (wrap64 (t252 - 19)))) 0 0 (⟨#[]⟩ : ByteArray) (⟨#[]⟩ : ByteArray) 0 false t258 t260 (⟨#[]⟩ : ByteArray) (⟨#[]⟩ : ByteArray) 0 false))) else (none)) else (none)) = some (r1, r2, r3, r4, r5, r6, r7, r8) := H
          have A35 := Aside0.mk A350
          clear A350
          by_cases c36 : 16 < ((xt a0 6 ((wrap64 (6 + t252)) : Int).toNat).size : Int)
          ·rw [if_pos c36] at H
           have c36b0 : decide (16 < ((xt a0 6 ((wrap64 (6 + t252)) : Int).toNat).size : Int)) = true := decide_eq_true c36
           have c36b1 : decide (16 < (xt a0 6 ((wrap64 (6 + t252)) : Int).toNat).size) = true := decide_eq_true (by omega)
           clear c36
           by_cases c38 : 17 ≤ ((xt a0 6 ((wrap64 (6 + t252)) : Int).toNat).size : Int)
           ·rw [if_pos c38] at H
            have c38b0 := eq_true c38
            have c38b1 : decide (17 ≤ ((xt a0 6 ((wrap64 (6 + t252)) : Int).toNat).size : Int)) = true := decide_eq_true c38
            replace H := Option.bind_eq_some_iff.mp H
            obtain ⟨⟨t262, t263⟩, A390, H⟩ := H
            replace H : (if (wrap64 (bt (xt a0 6 ((wrap64 (6 + t252)) : Int).toNat) 16)) > 7 then (fairwayref10_Take.j1 kj18 t252 (xt a0 6 ((wrap64 (6 + t252)) : Int).toNat) (wrap64 (bt (xt a0 6 ((wrap64 (6 + t252)) : Int).toNat) 16)) t262 true 0 0 (⟨#[]⟩ : ByteArray) (⟨#[]⟩ : ByteArray) 0 false t258 t260 (⟨#[]⟩ : ByteArray) (⟨#[]⟩ : ByteArray) 0 false) else (fairwayref10_Take.j1 kj18 t252 (xt a0 6 ((wrap64 (6 + t252)) : Int).toNat) (wrap64 (bt (xt a0 6 ((wrap64 (6 + t252)) : Int).toNat) 16)) t262 (decide (t262 > (wrap64 (t252 - 19)))) 0 0 (⟨#[]⟩ : ByteArray) (⟨#[]⟩ : ByteArray) 0 false t258 t260 (⟨#[]⟩ : ByteArray) (⟨#[]⟩ : ByteArray) 0 false)) = some (r1, r2, r3, r4, r5, r6, r7, r8) := H
            have A39 := Aside0.mk A390
            clear A390
            have HC40 := Aside0.mk H
            clear H
            go_upto_region 16 with (first | ((with_reducible refine gate_dst (N := 11) rfl ?_); refine box_event ?hg (N := 11) ?hd (cs := #[.int .i64 0, .int .i64 0, .string (⟨#[]⟩ : ByteArray), .string (⟨#[]⟩ : ByteArray), .int .i64 0, .bool false]) (t := 25) ?hr ?_; (case hd => rfl); (case hg => rfl); (case hr => first | (go_simp; done) | (go_simp; rfl)); intro gb257 hg w41 hbox hb; have BK257 := Aside0.mk (hbox); have GW257 := Aside0.mk ((by rw [hg]; exact (below_size bo) : w.heap.size ≤ gb257)); have GE257 := Aside0.mk ((by rw [hg]; exact (below_size bo) : w.heap.size ≤ gb257)); replace HB := Aside0.mk (below_step bo hb); have NB250_257 := Aside0.mk (nl BK250.out hg); have NB257_250 := Aside0.mk (ng BK250.out hg); replace BK250 := Aside0.mk (bb BK250.out hb); have NB251_257 := Aside0.mk (nl BK251.out hg); have NB257_251 := Aside0.mk (ng BK251.out hg); replace BK251 := Aside0.mk (bb BK251.out hb); clear hb hbox hg; have hnb42 := NB257_250.out; have hnc42 := NB250_257.out; have hnb43 := NB257_251.out; have hnc43 := NB251_257.out; obtain ⟨hcz44_0, hcz44_1, hcz44_2, hcz44_3, hcz44_4, hcz44_5⟩ := cl6 BK257.out; obtain ⟨hfz44_0, hfz44_1, hfz44_2, hfz44_3, hfz44_4, hfz44_5⟩ := fz6 BK257.out) | ((with_reducible refine gate_callee (f := 71) rfl ?_); refine goesL_ (some 57) rfl rfl Try.func71 (by kernel_rfl) rfl #[.string (xt a0 6 ((wrap64 (6 + t252)) : Int).toNat), .int .i64 8] rfl aa ?_; (with_reducible refine (fairwayref1_TakeFixed.calls kj18 (xt a0 6 ((wrap64 (6 + t252)) : Int).toNat) 8 t258 t259 _ A33.out).mono ?_); rintro e w' ⟨rfl, ⟨nd, rfl⟩⟩; refine ⟨_, rfl, ?_⟩) | ((with_reducible refine gate_callee (f := 71) rfl ?_); refine goesL_ (some 64) rfl rfl Try.func71 (by kernel_rfl) rfl #[.string (xt (xt a0 6 ((wrap64 (6 + t252)) : Int).toNat) 8 (xt a0 6 ((wrap64 (6 + t252)) : Int).toNat).size), .int .i64 8] rfl aa ?_; (with_reducible refine (fairwayref1_TakeFixed.calls kj18 (xt (xt a0 6 ((wrap64 (6 + t252)) : Int).toNat) 8 (xt a0 6 ((wrap64 (6 + t252)) : Int).toNat).size) 8 t260 t261 _ A35.out).mono ?_); rintro e w' ⟨rfl, ⟨nd, rfl⟩⟩; refine ⟨_, rfl, ?_⟩; have p37 : 0 ≤ (16 : Int) := (by omega); have q37 : 16 < (xt a0 6 ((wrap64 (6 + t252)) : Int).toNat).size := (by have : (16 : Int) < ((xt a0 6 ((wrap64 (6 + t252)) : Int).toNat).size : Int) := od; omega); have hx37 : ∀ h : 16 < (xt a0 6 ((wrap64 (6 + t252)) : Int).toNat).size, (((xt a0 6 ((wrap64 (6 + t252)) : Int).toNat)[16]'h).toNat : Int) = bt (xt a0 6 ((wrap64 (6 + t252)) : Int).toNat) 16 := bt_at (xt a0 6 ((wrap64 (6 + t252)) : Int).toNat) 16; clear p37; have qi37 : (16 < ((xt a0 6 ((wrap64 (6 + t252)) : Int).toNat).size : Int)) = True := eq_true (od); replace q37 := eq_true q37) | ((with_reducible refine gate_callee (f := 71) rfl ?_); refine goesL_ (some 74) rfl rfl Try.func71 (by kernel_rfl) rfl #[.string (xt (xt a0 6 ((wrap64 (6 + t252)) : Int).toNat) 17 (xt a0 6 ((wrap64 (6 + t252)) : Int).toNat).size), .int .i64 2] rfl aa ?_; (with_reducible refine (fairwayref1_TakeFixed.calls kj18 (xt (xt a0 6 ((wrap64 (6 + t252)) : Int).toNat) 17 (xt a0 6 ((wrap64 (6 + t252)) : Int).toNat).size) 2 t262 t263 _ A39.out).mono ?_); rintro e w' ⟨rfl, ⟨nd, rfl⟩⟩; refine ⟨_, rfl, ?_⟩))
            (try simp only [Act.put, List.setIfInBounds_toArray, List.set_cons_zero, List.set_cons_succ])
            go_cut [84] (fun v84 wc => ∃ (kq : Nat) (x84_39 : Bool), v84 = .bool x84_39 ∧ Aside0 (fairwayref10_Take.j1 kq t252 (xt a0 6 ((wrap64 (6 + t252)) : Int).toNat) (wrap64 (bt (xt a0 6 ((wrap64 (6 + t252)) : Int).toNat) 16)) t262 x84_39 0 0 (⟨#[]⟩ : ByteArray) (⟨#[]⟩ : ByteArray) 0 false t258 t260 (⟨#[]⟩ : ByteArray) (⟨#[]⟩ : ByteArray) 0 false = some (r1, r2, r3, r4, r5, r6, r7, r8)) ∧ Aside0 (kq ≤ kj18) ∧ Aside0 (wc.heap[gb250]? = some (.cells #[.int .i64 0, .int .i64 0, .string (⟨#[]⟩ : ByteArray), .string (⟨#[]⟩ : ByteArray), .int .i64 0, .bool false] 25 (0, 0))) ∧ Aside0 (wc.heap[gb251]? = some (.cells #[.int .i64 0, .int .i64 0, .string (⟨#[]⟩ : ByteArray), .string (⟨#[]⟩ : ByteArray), .int .i64 0, .bool false] 25 (0, 0))) ∧ Aside0 (wc.heap[gb257]? = some (.cells #[.int .i64 t258, .int .i64 t260, .string (⟨#[]⟩ : ByteArray), .string (⟨#[]⟩ : ByteArray), .int .i64 0, .bool false] 25 (0, 0))) ∧ Aside0 (Below w.heap.size w wc))
            case first =>
             have H := HC40.out
             clear HC40
             by_cases c45 : (wrap64 (bt (xt a0 6 ((wrap64 (6 + t252)) : Int).toNat) 16)) > 7
             ·rw [if_pos c45] at H
              have c45b0 : decide (7 < (wrap64 (bt (xt a0 6 ((wrap64 (6 + t252)) : Int).toNat) 16))) = true := decide_eq_true c45
              clear c45
              (first | rw [c45b0] | (simp only [i64_w, i32_w]; rw [c45b0]) | skip)
              have H' := Aside0.mk H
              clear H
              go_wp2
              go_meet
              case rel => exact ⟨_, (true), ap, H', ⟨by have := HJ18.out; first | omega | exact Nat.le_refl _⟩, ⟨by (with_reducible repeat (first | refine blk_drewN ?_ _ | refine blk_drew ?_ | refine blk_alloc ?_ _)); refine blk_far ?_ NB250_257.out _; (with_reducible repeat (first | refine blk_drewN ?_ _ | refine blk_drew ?_ | refine blk_alloc ?_ _)); refine blk_far ?_ NB250_257.out _; (with_reducible repeat (first | refine blk_drewN ?_ _ | refine blk_drew ?_ | refine blk_alloc ?_ _)); refine blk_far ?_ NB250_257.out _; (with_reducible repeat (first | refine blk_drewN ?_ _ | refine blk_drew ?_ | refine blk_alloc ?_ _)); refine blk_far ?_ NB250_257.out _; (with_reducible repeat (first | refine blk_drewN ?_ _ | refine blk_drew ?_ | refine blk_alloc ?_ _)); refine blk_far ?_ NB250_257.out _; (with_reducible repeat (first | refine blk_drewN ?_ _ | refine blk_drew ?_ | refine blk_alloc ?_ _)); refine blk_far ?_ NB250_257.out _; (with_reducible repeat (first | refine blk_drewN ?_ _ | refine blk_drew ?_ | refine blk_alloc ?_ _)); refine blk_far ?_ NB250_257.out _; (with_reducible repeat (first | refine blk_drewN ?_ _ | refine blk_drew ?_ | refine blk_alloc ?_ _)); refine blk_far ?_ NB250_257.out _; (with_reducible repeat (first | refine blk_drewN ?_ _ | refine blk_drew ?_ | refine blk_alloc ?_ _)); exact BK250.out⟩, ⟨by (with_reducible repeat (first | refine blk_drewN ?_ _ | refine blk_drew ?_ | refine blk_alloc ?_ _)); refine blk_far ?_ NB251_257.out _; (with_reducible repeat (first | refine blk_drewN ?_ _ | refine blk_drew ?_ | refine blk_alloc ?_ _)); refine blk_far ?_ NB251_257.out _; (with_reducible repeat (first | refine blk_drewN ?_ _ | refine blk_drew ?_ | refine blk_alloc ?_ _)); refine blk_far ?_ NB251_257.out _; (with_reducible repeat (first | refine blk_drewN ?_ _ | refine blk_drew ?_ | refine blk_alloc ?_ _)); refine blk_far ?_ NB251_257.out _; (with_reducible repeat (first | refine blk_drewN ?_ _ | refine blk_drew ?_ | refine blk_alloc ?_ _)); refine blk_far ?_ NB251_257.out _; (with_reducible repeat (first | refine blk_drewN ?_ _ | refine blk_drew ?_ | refine blk_alloc ?_ _)); refine blk_far ?_ NB251_257.out _; (with_reducible repeat (first | refine blk_drewN ?_ _ | refine blk_drew ?_ | refine blk_alloc ?_ _)); refine blk_far ?_ NB251_257.out _; (with_reducible repeat (first | refine blk_drewN ?_ _ | refine blk_drew ?_ | refine blk_alloc ?_ _)); refine blk_far ?_ NB251_257.out _; (with_reducible repeat (first | refine blk_drewN ?_ _ | refine blk_drew ?_ | refine blk_alloc ?_ _)); exact BK251.out⟩, ⟨by (with_reducible repeat (first | refine blk_drewN ?_ _ | refine blk_drew ?_ | refine blk_alloc ?_ _)); refine blk_put (cs := #[.int .i64 t258, .int .i64 0, .string (⟨#[]⟩ : ByteArray), .string (⟨#[]⟩ : ByteArray), .int .i64 0, .bool false]) ?_ 1 _ rfl; (with_reducible repeat (first | refine blk_drewN ?_ _ | refine blk_drew ?_ | refine blk_alloc ?_ _)); refine blk_put (cs := #[.int .i64 0, .int .i64 0, .string (⟨#[]⟩ : ByteArray), .string (⟨#[]⟩ : ByteArray), .int .i64 0, .bool false]) ?_ 0 _ rfl; (with_reducible repeat (first | refine blk_drewN ?_ _ | refine blk_drew ?_ | refine blk_alloc ?_ _)); refine blk_put (cs := #[.int .i64 0, .int .i64 0, .string (⟨#[]⟩ : ByteArray), .string (⟨#[]⟩ : ByteArray), .int .i64 0, .bool false]) ?_ 5 _ rfl; (with_reducible repeat (first | refine blk_drewN ?_ _ | refine blk_drew ?_ | refine blk_alloc ?_ _)); refine blk_put (cs := #[.int .i64 0, .int .i64 0, .string (⟨#[]⟩ : ByteArray), .string (⟨#[]⟩ : ByteArray), .int .i64 0, .bool false]) ?_ 4 _ rfl; (with_reducible repeat (first | refine blk_drewN ?_ _ | refine blk_drew ?_ | refine blk_alloc ?_ _)); refine blk_put (cs := #[.int .i64 0, .int .i64 0, .string (⟨#[]⟩ : ByteArray), .string (⟨#[]⟩ : ByteArray), .int .i64 0, .bool false]) ?_ 3 _ rfl; (with_reducible repeat (first | refine blk_drewN ?_ _ | refine blk_drew ?_ | refine blk_alloc ?_ _)); refine blk_put (cs := #[.int .i64 0, .int .i64 0, .string (⟨#[]⟩ : ByteArray), .string (⟨#[]⟩ : ByteArray), .int .i64 0, .bool false]) ?_ 2 _ rfl; (with_reducible repeat (first | refine blk_drewN ?_ _ | refine blk_drew ?_ | refine blk_alloc ?_ _)); refine blk_put (cs := #[.int .i64 0, .int .i64 0, .string (⟨#[]⟩ : ByteArray), .string (⟨#[]⟩ : ByteArray), .int .i64 0, .bool false]) ?_ 1 _ rfl; (with_reducible repeat (first | refine blk_drewN ?_ _ | refine blk_drew ?_ | refine blk_alloc ?_ _)); refine blk_put (cs := #[.int .i64 0, .int .i64 0, .string (⟨#[]⟩ : ByteArray), .string (⟨#[]⟩ : ByteArray), .int .i64 0, .bool false]) ?_ 0 _ rfl; (with_reducible repeat (first | refine blk_drewN ?_ _ | refine blk_drew ?_ | refine blk_alloc ?_ _)); exact BK257.out⟩, ⟨bo⟩⟩
             ·rw [if_neg c45] at H
              have c45b0 : decide (7 < (wrap64 (bt (xt a0 6 ((wrap64 (6 + t252)) : Int).toNat) 16))) = false := decide_eq_false c45
              clear c45
              (first | rw [c45b0] | (simp only [i64_w, i32_w]; rw [c45b0]) | skip)
              have H' := Aside0.mk H
              clear H
              go_wp2
              go_meet
              case rel => exact ⟨_, (decide (t262 > (wrap64 (t252 - 19)))), ap, H', ⟨by have := HJ18.out; first | omega | exact Nat.le_refl _⟩, ⟨by (with_reducible repeat (first | refine blk_drewN ?_ _ | refine blk_drew ?_ | refine blk_alloc ?_ _)); refine blk_far ?_ NB250_257.out _; (with_reducible repeat (first | refine blk_drewN ?_ _ | refine blk_drew ?_ | refine blk_alloc ?_ _)); refine blk_far ?_ NB250_257.out _; (with_reducible repeat (first | refine blk_drewN ?_ _ | refine blk_drew ?_ | refine blk_alloc ?_ _)); refine blk_far ?_ NB250_257.out _; (with_reducible repeat (first | refine blk_drewN ?_ _ | refine blk_drew ?_ | refine blk_alloc ?_ _)); refine blk_far ?_ NB250_257.out _; (with_reducible repeat (first | refine blk_drewN ?_ _ | refine blk_drew ?_ | refine blk_alloc ?_ _)); refine blk_far ?_ NB250_257.out _; (with_reducible repeat (first | refine blk_drewN ?_ _ | refine blk_drew ?_ | refine blk_alloc ?_ _)); refine blk_far ?_ NB250_257.out _; (with_reducible repeat (first | refine blk_drewN ?_ _ | refine blk_drew ?_ | refine blk_alloc ?_ _)); refine blk_far ?_ NB250_257.out _; (with_reducible repeat (first | refine blk_drewN ?_ _ | refine blk_drew ?_ | refine blk_alloc ?_ _)); refine blk_far ?_ NB250_257.out _; (with_reducible repeat (first | refine blk_drewN ?_ _ | refine blk_drew ?_ | refine blk_alloc ?_ _)); exact BK250.out⟩, ⟨by (with_reducible repeat (first | refine blk_drewN ?_ _ | refine blk_drew ?_ | refine blk_alloc ?_ _)); refine blk_far ?_ NB251_257.out _; (with_reducible repeat (first | refine blk_drewN ?_ _ | refine blk_drew ?_ | refine blk_alloc ?_ _)); refine blk_far ?_ NB251_257.out _; (with_reducible repeat (first | refine blk_drewN ?_ _ | refine blk_drew ?_ | refine blk_alloc ?_ _)); refine blk_far ?_ NB251_257.out _; (with_reducible repeat (first | refine blk_drewN ?_ _ | refine blk_drew ?_ | refine blk_alloc ?_ _)); refine blk_far ?_ NB251_257.out _; (with_reducible repeat (first | refine blk_drewN ?_ _ | refine blk_drew ?_ | refine blk_alloc ?_ _)); refine blk_far ?_ NB251_257.out _; (with_reducible repeat (first | refine blk_drewN ?_ _ | refine blk_drew ?_ | refine blk_alloc ?_ _)); refine blk_far ?_ NB251_257.out _; (with_reducible repeat (first | refine blk_drewN ?_ _ | refine blk_drew ?_ | refine blk_alloc ?_ _)); refine blk_far ?_ NB251_257.out _; (with_reducible repeat (first | refine blk_drewN ?_ _ | refine blk_drew ?_ | refine blk_alloc ?_ _)); refine blk_far ?_ NB251_257.out _; (with_reducible repeat (first | refine blk_drewN ?_ _ | refine blk_drew ?_ | refine blk_alloc ?_ _)); exact BK251.out⟩, ⟨by (with_reducible repeat (first | refine blk_drewN ?_ _ | refine blk_drew ?_ | refine blk_alloc ?_ _)); refine blk_put (cs := #[.int .i64 t258, .int .i64 0, .string (⟨#[]⟩ : ByteArray), .string (⟨#[]⟩ : ByteArray), .int .i64 0, .bool false]) ?_ 1 _ rfl; (with_reducible repeat (first | refine blk_drewN ?_ _ | refine blk_drew ?_ | refine blk_alloc ?_ _)); refine blk_put (cs := #[.int .i64 0, .int .i64 0, .string (⟨#[]⟩ : ByteArray), .string (⟨#[]⟩ : ByteArray), .int .i64 0, .bool false]) ?_ 0 _ rfl; (with_reducible repeat (first | refine blk_drewN ?_ _ | refine blk_drew ?_ | refine blk_alloc ?_ _)); refine blk_put (cs := #[.int .i64 0, .int .i64 0, .string (⟨#[]⟩ : ByteArray), .string (⟨#[]⟩ : ByteArray), .int .i64 0, .bool false]) ?_ 5 _ rfl; (with_reducible repeat (first | refine blk_drewN ?_ _ | refine blk_drew ?_ | refine blk_alloc ?_ _)); refine blk_put (cs := #[.int .i64 0, .int .i64 0, .string (⟨#[]⟩ : ByteArray), .string (⟨#[]⟩ : ByteArray), .int .i64 0, .bool false]) ?_ 4 _ rfl; (with_reducible repeat (first | refine blk_drewN ?_ _ | refine blk_drew ?_ | refine blk_alloc ?_ _)); refine blk_put (cs := #[.int .i64 0, .int .i64 0, .string (⟨#[]⟩ : ByteArray), .string (⟨#[]⟩ : ByteArray), .int .i64 0, .bool false]) ?_ 3 _ rfl; (with_reducible repeat (first | refine blk_drewN ?_ _ | refine blk_drew ?_ | refine blk_alloc ?_ _)); refine blk_put (cs := #[.int .i64 0, .int .i64 0, .string (⟨#[]⟩ : ByteArray), .string (⟨#[]⟩ : ByteArray), .int .i64 0, .bool false]) ?_ 2 _ rfl; (with_reducible repeat (first | refine blk_drewN ?_ _ | refine blk_drew ?_ | refine blk_alloc ?_ _)); refine blk_put (cs := #[.int .i64 0, .int .i64 0, .string (⟨#[]⟩ : ByteArray), .string (⟨#[]⟩ : ByteArray), .int .i64 0, .bool false]) ?_ 1 _ rfl; (with_reducible repeat (first | refine blk_drewN ?_ _ | refine blk_drew ?_ | refine blk_alloc ?_ _)); refine blk_put (cs := #[.int .i64 0, .int .i64 0, .string (⟨#[]⟩ : ByteArray), .string (⟨#[]⟩ : ByteArray), .int .i64 0, .bool false]) ?_ 0 _ rfl; (with_reducible repeat (first | refine blk_drewN ?_ _ | refine blk_drew ?_ | refine blk_alloc ?_ _)); exact BK257.out⟩, ⟨bo⟩⟩
            case rest =>
             clear HC40
             (try clear c1); (try clear c2); (try clear c2b0); (try clear c2b1); (try clear p2); (try clear c3); (try clear p3); (try clear q3); (try clear hx3); (try clear qi3); (try clear c4); (try clear c5); (try clear p6); (try clear c7); (try clear c9); (try clear c9b0); (try clear c12); (try clear c15); (try clear c15b0); (try clear c15b1); (try clear c17); (try clear c17b0); (try clear c17b1); (try clear c18); (try clear c18b0); (try clear c18b1); (try clear c22); (try clear c24); (try clear c24b0); (try clear c24b1); (try clear c25); (try clear c25b0); (try clear c26); (try clear c26b0); (try clear c26b1); (try clear c26b2); (try clear c28); (try clear c28b0); (try clear c28b1); (try clear c29); (try clear c30); (try clear c34); (try clear c34b0); (try clear c34b1); (try clear c36); (try clear c36b0); (try clear c36b1); (try clear p37); (try clear q37); (try clear hx37); (try clear qi37); (try clear c38); (try clear c38b0); (try clear c38b1); (try clear c42); (try clear c43); (try clear c45); (try clear c45b0); (try clear hcz13_0); (try clear hcz13_1); (try clear hcz13_2); (try clear hcz13_3); (try clear hcz13_4); (try clear hcz13_5); (try clear hcz14_0); (try clear hcz14_1); (try clear hcz14_2); (try clear hcz14_3); (try clear hcz14_4); (try clear hcz14_5); (try clear hcz23_0); (try clear hcz23_1); (try clear hcz23_2); (try clear hcz23_3); (try clear hcz23_4); (try clear hcz23_5); (try clear hcz31_0); (try clear hcz31_1); (try clear hcz31_2); (try clear hcz31_3); (try clear hcz31_4); (try clear hcz31_5); (try clear hcz32_0); (try clear hcz32_1); (try clear hcz32_2); (try clear hcz32_3); (try clear hcz32_4); (try clear hcz32_5); (try clear hcz44_0); (try clear hcz44_1); (try clear hcz44_2); (try clear hcz44_3); (try clear hcz44_4); (try clear hcz44_5); (try clear hcz6_0); (try clear hcz6_1); (try clear hcz6_2); (try clear hcz6_3); (try clear hcz6_4); (try clear hcz6_5); (try clear hcz7_0); (try clear hcz7_1); (try clear hcz7_2); (try clear hcz7_3); (try clear hcz7_4); (try clear hcz7_5); (try clear hfz13_0); (try clear hfz13_1); (try clear hfz13_2); (try clear hfz13_3); (try clear hfz13_4); (try clear hfz13_5); (try clear hfz14_0); (try clear hfz14_1); (try clear hfz14_2); (try clear hfz14_3); (try clear hfz14_4); (try clear hfz14_5); (try clear hfz23_0); (try clear hfz23_1); (try clear hfz23_2); (try clear hfz23_3); (try clear hfz23_4); (try clear hfz23_5); (try clear hfz31_0); (try clear hfz31_1); (try clear hfz31_2); (try clear hfz31_3); (try clear hfz31_4); (try clear hfz31_5); (try clear hfz32_0); (try clear hfz32_1); (try clear hfz32_2); (try clear hfz32_3); (try clear hfz32_4); (try clear hfz32_5); (try clear hfz44_0); (try clear hfz44_1); (try clear hfz44_2); (try clear hfz44_3); (try clear hfz44_4); (try clear hfz44_5); (try clear hfz6_0); (try clear hfz6_1); (try clear hfz6_2); (try clear hfz6_3); (try clear hfz6_4); (try clear hfz6_5); (try clear hfz7_0); (try clear hfz7_1); (try clear hfz7_2); (try clear hfz7_3); (try clear hfz7_4); (try clear hfz7_5); (try clear p2); (try clear p37); (try clear p6); (try clear q37)
             obtain ⟨kq, x84_39, rfl, HA, HJ39, BK250, BK251, BK257, HB⟩ := hcut
             cases kq with
             | zero => exact absurd HA.out (by simp [fairwayref10_Take.j1])
             | succ kj39 =>
              have H := HA.out
              clear HA
              simp only [fairwayref10_Take.j1] at H
              by_cases c46 : x84_39 = true
              ·subst c46
               have H1 : (some (0, 0, (⟨#[]⟩ : ByteArray), (⟨#[]⟩ : ByteArray), 0, false, 0, 8)) = some (r1, r2, r3, r4, r5, r6, r7, r8) := by rw [if_pos rfl] at H; exact H
               clear H
               have H := H1
               clear H1
               simp only [Option.some.injEq, Prod.mk.injEq] at H
               obtain ⟨rfl, rfl, rfl, rfl, rfl, rfl, rfl, rfl⟩ := H
               have hnb47 := NB251_250.out
               have hnc47 := NB250_251.out
               have hnb48 := NB251_257.out
               have hnc48 := NB257_251.out
               have hcz49_0 : wc.cell? ⟨gb251, 0, none⟩ = some (.int .i64 0) := (blk_cell BK251.out 0).trans rfl
               have hcz49_1 : wc.cell? ⟨gb251, 1, none⟩ = some (.int .i64 0) := (blk_cell BK251.out 1).trans rfl
               have hcz49_2 : wc.cell? ⟨gb251, 2, none⟩ = some (.string (⟨#[]⟩ : ByteArray)) := (blk_cell BK251.out 2).trans rfl
               have hcz49_3 : wc.cell? ⟨gb251, 3, none⟩ = some (.string (⟨#[]⟩ : ByteArray)) := (blk_cell BK251.out 3).trans rfl
               have hcz49_4 : wc.cell? ⟨gb251, 4, none⟩ = some (.int .i64 0) := (blk_cell BK251.out 4).trans rfl
               have hcz49_5 : wc.cell? ⟨gb251, 5, none⟩ = some (.bool false) := (blk_cell BK251.out 5).trans rfl
               have hfz49_0 := blk_frozen BK251.out 0
               have hfz49_1 := blk_frozen BK251.out 1
               have hfz49_2 := blk_frozen BK251.out 2
               have hfz49_3 := blk_frozen BK251.out 3
               have hfz49_4 := blk_frozen BK251.out 4
               have hfz49_5 := blk_frozen BK251.out 5
               have hnb50 := NB250_257.out
               have hnc50 := NB257_250.out
               have hcz51_0 : wc.cell? ⟨gb250, 0, none⟩ = some (.int .i64 0) := (blk_cell BK250.out 0).trans rfl
               have hcz51_1 : wc.cell? ⟨gb250, 1, none⟩ = some (.int .i64 0) := (blk_cell BK250.out 1).trans rfl
               have hcz51_2 : wc.cell? ⟨gb250, 2, none⟩ = some (.string (⟨#[]⟩ : ByteArray)) := (blk_cell BK250.out 2).trans rfl
               have hcz51_3 : wc.cell? ⟨gb250, 3, none⟩ = some (.string (⟨#[]⟩ : ByteArray)) := (blk_cell BK250.out 3).trans rfl
               have hcz51_4 : wc.cell? ⟨gb250, 4, none⟩ = some (.int .i64 0) := (blk_cell BK250.out 4).trans rfl
               have hcz51_5 : wc.cell? ⟨gb250, 5, none⟩ = some (.bool false) := (blk_cell BK250.out 5).trans rfl
               have hfz51_0 := blk_frozen BK250.out 0
               have hfz51_1 := blk_frozen BK250.out 1
               have hfz51_2 := blk_frozen BK250.out 2
               have hfz51_3 := blk_frozen BK250.out 3
               have hfz51_4 := blk_frozen BK250.out 4
               have hfz51_5 := blk_frozen BK250.out 5
               go_wp2
               refine bodyPost_ret (results_ctt rfl _ _ gb250 25 #[.int .i64 0, .int .i64 0, .string (⟨#[]⟩ : ByteArray), .string (⟨#[]⟩ : ByteArray), .int .i64 0, .bool false] (0, 0) _ rfl (by (with_reducible repeat (first | refine blk_drewN ?_ _ | refine blk_drew ?_ | refine blk_alloc ?_ _)); refine blk_put (cs := #[.int .i64 0, .int .i64 0, .string (⟨#[]⟩ : ByteArray), .string (⟨#[]⟩ : ByteArray), .int .i64 0, .bool false]) ?_ 5 _ rfl; (with_reducible repeat (first | refine blk_drewN ?_ _ | refine blk_drew ?_ | refine blk_alloc ?_ _)); refine blk_put (cs := #[.int .i64 0, .int .i64 0, .string (⟨#[]⟩ : ByteArray), .string (⟨#[]⟩ : ByteArray), .int .i64 0, .bool false]) ?_ 4 _ rfl; (with_reducible repeat (first | refine blk_drewN ?_ _ | refine blk_drew ?_ | refine blk_alloc ?_ _)); refine blk_put (cs := #[.int .i64 0, .int .i64 0, .string (⟨#[]⟩ : ByteArray), .string (⟨#[]⟩ : ByteArray), .int .i64 0, .bool false]) ?_ 3 _ rfl; (with_reducible repeat (first | refine blk_drewN ?_ _ | refine blk_drew ?_ | refine blk_alloc ?_ _)); refine blk_put (cs := #[.int .i64 0, .int .i64 0, .string (⟨#[]⟩ : ByteArray), .string (⟨#[]⟩ : ByteArray), .int .i64 0, .bool false]) ?_ 2 _ rfl; (with_reducible repeat (first | refine blk_drewN ?_ _ | refine blk_drew ?_ | refine blk_alloc ?_ _)); refine blk_put (cs := #[.int .i64 0, .int .i64 0, .string (⟨#[]⟩ : ByteArray), .string (⟨#[]⟩ : ByteArray), .int .i64 0, .bool false]) ?_ 1 _ rfl; (with_reducible repeat (first | refine blk_drewN ?_ _ | refine blk_drew ?_ | refine blk_alloc ?_ _)); refine blk_put (cs := #[.int .i64 0, .int .i64 0, .string (⟨#[]⟩ : ByteArray), .string (⟨#[]⟩ : ByteArray), .int .i64 0, .bool false]) ?_ 0 _ rfl; (with_reducible repeat (first | refine blk_drewN ?_ _ | refine blk_drew ?_ | refine blk_alloc ?_ _)); exact BK250.out) Try.underlying25 rfl (by kernel_rfl)) rfl ?_
               exact ⟨er, bo⟩
              ·replace c46 := Bool.eq_false_iff.mpr c46
               subst c46
               have H1 : (if 19 ≤ (wrap64 (19 + t262)) then (if (wrap64 (19 + t262)) ≤ ((xt a0 6 ((wrap64 (6 + t252)) : Int).toNat).size : Int) then (if 0 ≤ (wrap64 (19 + t262)) then ((fairwayref10_Rec.f t258 t260 (xt (xt a0 6 ((wrap64 (6 + t252)) : Int).toNat) 19 ((wrap64 (19 + t262)) : Int).toNat) (xt (xt a0 6 ((wrap64 (6 + t252)) : Int).toNat) ((wrap64 (19 + t262)) : Int).toNat (xt a0 6 ((wrap64 (6 + t252)) : Int).toNat).size) (Int.tmod (wrap64 (bt (xt a0 6 ((wrap64 (6 + t252)) : Int).toNat) 16)) 4) (decide ((wrap64 (bt (xt a0 6 ((wrap64 (6 + t252)) : Int).toNat) 16)) ≥ 4))).bind fun t264 => (if t264 = true then (some (t258, t260, xt (xt a0 6 ((wrap64 (6 + t252)) : Int).toNat) 19 ((wrap64 (19 + t262)) : Int).toNat, xt (xt a0 6 ((wrap64 (6 + t252)) : Int).toNat) ((wrap64 (19 + t262)) : Int).toNat (xt a0 6 ((wrap64 (6 + t252)) : Int).toNat).size, Int.tmod (wrap64 (bt (xt a0 6 ((wrap64 (6 + t252)) : Int).toNat) 16)) 4, decide ((wrap64 (bt (xt a0 6 ((wrap64 (6 + t252)) : Int).toNat) 16)) ≥ 4), wrap64 (6 + t252), 0)) else (some (0, 0, (⟨#[]⟩ : ByteArray), (⟨#[]⟩ : ByteArray), 0, false, 0, 8)))) else (none)) else (none)) else (none)) = some (r1, r2, r3, r4, r5, r6, r7, r8) := by rw [if_neg (show ¬ (false = true) by decide)] at H; exact H
               clear H
               have H := H1
               clear H1
               by_cases c52 : 19 ≤ (wrap64 (19 + t262))
               ·rw [if_pos c52] at H
                have c52b0 := eq_true c52
                have c52b1 : decide (19 ≤ (wrap64 (19 + t262))) = true := decide_eq_true c52
                by_cases c53 : (wrap64 (19 + t262)) ≤ ((xt a0 6 ((wrap64 (6 + t252)) : Int).toNat).size : Int)
                ·rw [if_pos c53] at H
                 have c53b0 := eq_true c53
                 have c53b1 : decide ((wrap64 (19 + t262)) ≤ ((xt a0 6 ((wrap64 (6 + t252)) : Int).toNat).size : Int)) = true := decide_eq_true c53
                 obtain ⟨ji54, hji54⟩ : ∃ j_ : Int, (wrap64 (19 + t262)) = j_ := ⟨_, rfl⟩
                 replace H : (if 0 ≤ (ji54) then ((fairwayref10_Rec.f t258 t260 (xt (xt a0 6 ((wrap64 (6 + t252)) : Int).toNat) 19 ((ji54) : Int).toNat) (xt (xt a0 6 ((wrap64 (6 + t252)) : Int).toNat) ((ji54) : Int).toNat (xt a0 6 ((wrap64 (6 + t252)) : Int).toNat).size) (Int.tmod (wrap64 (bt (xt a0 6 ((wrap64 (6 + t252)) : Int).toNat) 16)) 4) (decide ((wrap64 (bt (xt a0 6 ((wrap64 (6 + t252)) : Int).toNat) 16)) ≥ 4))).bind fun t264 => (if t264 = true then (some (t258, t260, xt (xt a0 6 ((wrap64 (6 + t252)) : Int).toNat) 19 ((ji54) : Int).toNat, xt (xt a0 6 ((wrap64 (6 + t252)) : Int).toNat) ((ji54) : Int).toNat (xt a0 6 ((wrap64 (6 + t252)) : Int).toNat).size, Int.tmod (wrap64 (bt (xt a0 6 ((wrap64 (6 + t252)) : Int).toNat) 16)) 4, decide ((wrap64 (bt (xt a0 6 ((wrap64 (6 + t252)) : Int).toNat) 16)) ≥ 4), wrap64 (6 + t252), 0)) else (some (0, 0, (⟨#[]⟩ : ByteArray), (⟨#[]⟩ : ByteArray), 0, false, 0, 8)))) else (none)) = some (r1, r2, r3, r4, r5, r6, r7, r8) := by first | (rw [hji54] at H; exact H) | (simp only [hji54] at H ⊢; exact H)
                 (try rw [hji54] at c52b0)
                 (try rw [hji54] at c52b1)
                 (try rw [hji54] at c52)
                 (try rw [hji54] at c53b0)
                 (try rw [hji54] at c53b1)
                 (try rw [hji54] at c53)
                 have hji54w : (IntKind.i64.wrap (19 + t262)) = ji54 := (i64_w _).trans hji54
                 by_cases c55 : 0 ≤ (ji54)
                 ·rw [if_pos c55] at H
                  have c55b0 := eq_true c55
                  have c55b1 : decide (0 ≤ (ji54)) = true := decide_eq_true c55
                  clear c55
                  have c56b0 := eq_true (od : (ji54) ≤ ((xt a0 6 ((wrap64 (6 + t252)) : Int).toNat).size : Int))
                  replace H := Option.bind_eq_some_iff.mp H
                  obtain ⟨t264, A570, H⟩ := H
                  try dsimp only at H
                  have A57 := Aside0.mk A570
                  clear A570
                  by_cases c58 : t264 = true
                  ·subst c58
                   have H1 : (some (t258, t260, xt (xt a0 6 ((wrap64 (6 + t252)) : Int).toNat) 19 ((ji54) : Int).toNat, xt (xt a0 6 ((wrap64 (6 + t252)) : Int).toNat) ((ji54) : Int).toNat (xt a0 6 ((wrap64 (6 + t252)) : Int).toNat).size, Int.tmod (wrap64 (bt (xt a0 6 ((wrap64 (6 + t252)) : Int).toNat) 16)) 4, decide ((wrap64 (bt (xt a0 6 ((wrap64 (6 + t252)) : Int).toNat) 16)) ≥ 4), wrap64 (6 + t252), 0)) = some (r1, r2, r3, r4, r5, r6, r7, r8) := by rw [if_pos rfl] at H; exact H
                   clear H
                   have H := H1
                   clear H1
                   simp only [Option.some.injEq, Prod.mk.injEq] at H
                   obtain ⟨rfl, rfl, rfl, rfl, rfl, rfl, rfl, rfl⟩ := H
                   have hnb59 := NB257_250.out
                   have hnc59 := NB250_257.out
                   have hnb60 := NB257_251.out
                   have hnc60 := NB251_257.out
                   have hcz61_0 : wc.cell? ⟨gb257, 0, none⟩ = some (.int .i64 t258) := (blk_cell BK257.out 0).trans rfl
                   have hcz61_1 : wc.cell? ⟨gb257, 1, none⟩ = some (.int .i64 t260) := (blk_cell BK257.out 1).trans rfl
                   have hcz61_2 : wc.cell? ⟨gb257, 2, none⟩ = some (.string (⟨#[]⟩ : ByteArray)) := (blk_cell BK257.out 2).trans rfl
                   have hcz61_3 : wc.cell? ⟨gb257, 3, none⟩ = some (.string (⟨#[]⟩ : ByteArray)) := (blk_cell BK257.out 3).trans rfl
                   have hcz61_4 : wc.cell? ⟨gb257, 4, none⟩ = some (.int .i64 0) := (blk_cell BK257.out 4).trans rfl
                   have hcz61_5 : wc.cell? ⟨gb257, 5, none⟩ = some (.bool false) := (blk_cell BK257.out 5).trans rfl
                   have hfz61_0 := blk_frozen BK257.out 0
                   have hfz61_1 := blk_frozen BK257.out 1
                   have hfz61_2 := blk_frozen BK257.out 2
                   have hfz61_3 := blk_frozen BK257.out 3
                   have hfz61_4 := blk_frozen BK257.out 4
                   have hfz61_5 := blk_frozen BK257.out 5
                   try go_wp2
                   (try (rw [drewN_self wc]; generalize hq_ : World.drewN wc _ = wc; have n0_ := Aside0.mk (blk_at hq_ BK250.out); have n1_ := Aside0.mk (blk_at hq_ BK251.out); have n2_ := Aside0.mk (blk_at hq_ BK257.out); have n3_ := Aside0.mk (below_at hq_ HB.out); clear hq_ BK250 BK251 BK257 HB; have BK250 := n0_; have BK251 := n1_; have BK257 := n2_; have HB := n3_; clear n0_ n1_ n2_ n3_))
                   have n0_ : Aside0 (((wc.setCell ⟨gb257, 4, none⟩ (.int .i64 (Int.tmod (wrap64 (bt (xt a0 6 ((wrap64 (6 + t252)) : Int).toNat) 16)) 4))).setCell ⟨gb257, 5, none⟩ (.bool (decide ((wrap64 (bt (xt a0 6 ((wrap64 (6 + t252)) : Int).toNat) 16)) ≥ 4)))).heap[gb250]? = some (.cells #[.int .i64 0, .int .i64 0, .string (⟨#[]⟩ : ByteArray), .string (⟨#[]⟩ : ByteArray), .int .i64 0, .bool false] 25 (0, 0))) := ⟨by (with_reducible repeat (first | refine blk_drewN ?_ _ | refine blk_drew ?_ | refine blk_alloc ?_ _)); refine blk_far ?_ NB250_257.out _; (with_reducible repeat (first | refine blk_drewN ?_ _ | refine blk_drew ?_ | refine blk_alloc ?_ _)); refine blk_far ?_ NB250_257.out _; (with_reducible repeat (first | refine blk_drewN ?_ _ | refine blk_drew ?_ | refine blk_alloc ?_ _)); exact BK250.out⟩
                   have n1_ : Aside0 (((wc.setCell ⟨gb257, 4, none⟩ (.int .i64 (Int.tmod (wrap64 (bt (xt a0 6 ((wrap64 (6 + t252)) : Int).toNat) 16)) 4))).setCell ⟨gb257, 5, none⟩ (.bool (decide ((wrap64 (bt (xt a0 6 ((wrap64 (6 + t252)) : Int).toNat) 16)) ≥ 4)))).heap[gb251]? = some (.cells #[.int .i64 0, .int .i64 0, .string (⟨#[]⟩ : ByteArray), .string (⟨#[]⟩ : ByteArray), .int .i64 0, .bool false] 25 (0, 0))) := ⟨by (with_reducible repeat (first | refine blk_drewN ?_ _ | refine blk_drew ?_ | refine blk_alloc ?_ _)); refine blk_far ?_ NB251_257.out _; (with_reducible repeat (first | refine blk_drewN ?_ _ | refine blk_drew ?_ | refine blk_alloc ?_ _)); refine blk_far ?_ NB251_257.out _; (with_reducible repeat (first | refine blk_drewN ?_ _ | refine blk_drew ?_ | refine blk_alloc ?_ _)); exact BK251.out⟩
                   have n2_ : Aside0 (((wc.setCell ⟨gb257, 4, none⟩ (.int .i64 (Int.tmod (wrap64 (bt (xt a0 6 ((wrap64 (6 + t252)) : Int).toNat) 16)) 4))).setCell ⟨gb257, 5, none⟩ (.bool (decide ((wrap64 (bt (xt a0 6 ((wrap64 (6 + t252)) : Int).toNat) 16)) ≥ 4)))).heap[gb257]? = some (.cells #[.int .i64 t258, .int .i64 t260, .string (⟨#[]⟩ : ByteArray), .string (⟨#[]⟩ : ByteArray), .int .i64 (Int.tmod (wrap64 (bt (xt a0 6 ((wrap64 (6 + t252)) : Int).toNat) 16)) 4), .bool (decide ((wrap64 (bt (xt a0 6 ((wrap64 (6 + t252)) : Int).toNat) 16)) ≥ 4))] 25 (0, 0))) := ⟨by (with_reducible repeat (first | refine blk_drewN ?_ _ | refine blk_drew ?_ | refine blk_alloc ?_ _)); refine blk_put (cs := #[.int .i64 t258, .int .i64 t260, .string (⟨#[]⟩ : ByteArray), .string (⟨#[]⟩ : ByteArray), .int .i64 (Int.tmod (wrap64 (bt (xt a0 6 ((wrap64 (6 + t252)) : Int).toNat) 16)) 4), .bool false]) ?_ 5 _ rfl; (with_reducible repeat (first | refine blk_drewN ?_ _ | refine blk_drew ?_ | refine blk_alloc ?_ _)); refine blk_put (cs := #[.int .i64 t258, .int .i64 t260, .string (⟨#[]⟩ : ByteArray), .string (⟨#[]⟩ : ByteArray), .int .i64 0, .bool false]) ?_ 4 _ rfl; (with_reducible repeat (first | refine blk_drewN ?_ _ | refine blk_drew ?_ | refine blk_alloc ?_ _)); exact BK257.out⟩
                   have n3_ : Aside0 (Below w.heap.size w ((wc.setCell ⟨gb257, 4, none⟩ (.int .i64 (Int.tmod (wrap64 (bt (xt a0 6 ((wrap64 (6 + t252)) : Int).toNat) 16)) 4))).setCell ⟨gb257, 5, none⟩ (.bool (decide ((wrap64 (bt (xt a0 6 ((wrap64 (6 + t252)) : Int).toNat) 16)) ≥ 4))))) := ⟨bo⟩
                   (try clear BK250)
                   (try clear BK251)
                   (try clear BK257)
                   (try clear HB)
                   generalize ((wc.setCell ⟨gb257, 4, none⟩ (.int .i64 (Int.tmod (wrap64 (bt (xt a0 6 ((wrap64 (6 + t252)) : Int).toNat) 16)) 4))).setCell ⟨gb257, 5, none⟩ (.bool (decide ((wrap64 (bt (xt a0 6 ((wrap64 (6 + t252)) : Int).toNat) 16)) ≥ 4)))) = w62 at n0_ n1_ n2_ n3_ ⊢
                   have BK250 := n0_
                   have BK251 := n1_
                   have BK257 := n2_
                   have HB := n3_
                   clear n0_ n1_ n2_ n3_
                   replace BK250 := Aside0.mk (blk_drew BK250.out)
                   replace BK251 := Aside0.mk (blk_drew BK251.out)
                   replace BK257 := Aside0.mk (blk_drew BK257.out)
                   replace HB := Aside0.mk (below_drew1 HB.out)
                   refine start_ (n := 12) (S := fun w' => True) (ds := []) #[O,O,O,O,O,O,O,O,O,O,O,O] (by kernel_rfl) rfl rfl trivial (fun hHeld => ?_); refine with_tabW fairwayref10_Take.tab19 fairwayref10_Take.bits19 (fun HT_ HW_ => ?_)
                   generalize w62.drew = w63 at BK250 BK251 BK257 HB hHeld ⊢
                   refine pz (i := 0) (N := some 92) #[I,O,O,O,O,O,O,O,O,O,O,O] ?_
                   refine pz (i := 1) (N := some 93) #[I,I,O,O,O,O,O,O,O,O,O,O] ?_
                   refine pz (i := 2) (N := some 94) #[I,I,I,O,O,O,O,O,O,O,O,O] ?_
                   refine pz (i := 3) (N := some 95) #[I,I,I,I,O,O,O,O,O,O,O,O] ?_
                   refine pz (i := 4) (N := some 96) #[I,I,I,I,I,O,O,O,O,O,O,O] ?_
                   refine pz (i := 5) (N := some 97) #[I,I,I,I,I,I,O,O,O,O,O,O] ?_
                   refine pz (i := 6) (N := some 98) #[I,I,I,I,I,I,I,O,O,O,O,O] ?_
                   refine pz (i := 7) (N := some 99) #[I,I,I,I,I,I,I,I,O,O,O,O] ?_
                   refine pz (i := 8) (N := some 100) #[I,I,I,I,I,I,I,I,I,O,O,O] ?_
                   refine one_ (i := 9) (N := none) #[I,I,I,I,I,I,I,I,I,I,O,O] rfl rfl (one_of HT_.out (by kernel_rfl)) (by decide) (fun K hK => ?_)
                   have hs64 : w63.cell? ⟨gb257, 2, none⟩ = some (.string (⟨#[]⟩ : ByteArray)) := (blk_cell BK257.out 2).trans rfl
                   have hfs64 := blk_frozen BK257.out 2
                   have hns64_0 := NB250_257.out
                   have hns64_1 := NB251_257.out
                   have hms64_0 := NB257_250.out
                   have hms64_1 := NB257_251.out
                   refine skip_ (w1 := ?_) (by rfl) rfl ?_ ?_
                   rotate_left
                   ·go_simp
                    rfl
                   refine hK.out _ _ trivial (fun hHeld => ?_)
                   clear hK K
                   refine pz (i := 10) (N := some 101) #[I,I,I,I,I,I,I,I,I,I,I,O] ?_
                   refine one_ (i := 11) (N := none) #[I,I,I,I,I,I,I,I,I,I,I,I] rfl rfl (one_of HT_.out (by kernel_rfl)) (by decide) (fun K hK => ?_)
                   have hs65 : w63.cell? ⟨gb257, 3, none⟩ = some (.string (⟨#[]⟩ : ByteArray)) := (blk_cell BK257.out 3).trans rfl
                   have hfs65 := blk_frozen BK257.out 3
                   have hns65_0 := NB250_257.out
                   have hns65_1 := NB251_257.out
                   have hms65_0 := NB257_250.out
                   have hms65_1 := NB257_251.out
                   refine skip_ (w1 := ?_) (by rfl) rfl ?_ ?_
                   rotate_left
                   ·go_simp
                    rfl
                   refine hK.out _ _ trivial (fun hHeld => ?_)
                   clear hK K
                   refine done_ (done_of HT_.out (by kernel_rfl)) ?_
                   have hcz66_0 : w63.cell? ⟨gb257, 0, none⟩ = some (.int .i64 t258) := (blk_cell BK257.out 0).trans rfl
                   have hcz66_1 : w63.cell? ⟨gb257, 1, none⟩ = some (.int .i64 t260) := (blk_cell BK257.out 1).trans rfl
                   have hcz66_2 : w63.cell? ⟨gb257, 2, none⟩ = some (.string (⟨#[]⟩ : ByteArray)) := (blk_cell BK257.out 2).trans rfl
                   have hcz66_3 : w63.cell? ⟨gb257, 3, none⟩ = some (.string (⟨#[]⟩ : ByteArray)) := (blk_cell BK257.out 3).trans rfl
                   have hcz66_4 : w63.cell? ⟨gb257, 4, none⟩ = some (.int .i64 (Int.tmod (wrap64 (bt (xt a0 6 ((wrap64 (6 + t252)) : Int).toNat) 16)) 4)) := (blk_cell BK257.out 4).trans rfl
                   have hcz66_5 : w63.cell? ⟨gb257, 5, none⟩ = some (.bool (decide ((wrap64 (bt (xt a0 6 ((wrap64 (6 + t252)) : Int).toNat) 16)) ≥ 4))) := (blk_cell BK257.out 5).trans rfl
                   have hfz66_0 := blk_frozen BK257.out 0
                   have hfz66_1 := blk_frozen BK257.out 1
                   have hfz66_2 := blk_frozen BK257.out 2
                   have hfz66_3 := blk_frozen BK257.out 3
                   have hfz66_4 := blk_frozen BK257.out 4
                   have hfz66_5 := blk_frozen BK257.out 5
                   try go_wp2_with (first | ((with_reducible refine gate_callee (f := 17) rfl ?_); refine goesL_ (some 103) rfl rfl Try.func17 (by kernel_rfl) rfl #[.agg #[.int .i64 t258, .int .i64 t260, .string (xt (xt a0 6 ((wrap64 (6 + t252)) : Int).toNat) 19 ((ji54) : Int).toNat), .string (xt (xt a0 6 ((wrap64 (6 + t252)) : Int).toNat) ((ji54) : Int).toNat (xt a0 6 ((wrap64 (6 + t252)) : Int).toNat).size), .int .i64 (Int.tmod (wrap64 (bt (xt a0 6 ((wrap64 (6 + t252)) : Int).toNat) 16)) 4), .bool (decide ((wrap64 (bt (xt a0 6 ((wrap64 (6 + t252)) : Int).toNat) 16)) ≥ 4))]] rfl (by (try simp only [List.map_toArray, List.map_cons, List.map_nil]); first | done | (simp only [hji54]; rfl) | rfl | (simp only [List.length_drop, List.length_take]; rfl) | (simp only [ByteArray.size_append]; rfl) | (simp; done)) ?_; (with_reducible refine (fairwayref10_Rec.calls t258 t260 (xt (xt a0 6 ((wrap64 (6 + t252)) : Int).toNat) 19 ((ji54) : Int).toNat) (xt (xt a0 6 ((wrap64 (6 + t252)) : Int).toNat) ((ji54) : Int).toNat (xt a0 6 ((wrap64 (6 + t252)) : Int).toNat).size) (Int.tmod (wrap64 (bt (xt a0 6 ((wrap64 (6 + t252)) : Int).toNat) 16)) 4) (decide ((wrap64 (bt (xt a0 6 ((wrap64 (6 + t252)) : Int).toNat) 16)) ≥ 4)) true _ A57.out).mono ?_); rintro e w67 ⟨rfl, hb⟩; refine ⟨_, rfl, ?_⟩; replace BK250 := Aside0.mk (bB BK250.out hb); replace BK251 := Aside0.mk (bB BK251.out hb); replace BK257 := Aside0.mk (blk_below (g := gb257) (o := .cells #[.int .i64 t258, .int .i64 t260, .string (xt (xt a0 6 ((wrap64 (6 + t252)) : Int).toNat) 19 ((ji54) : Int).toNat), .string (xt (xt a0 6 ((wrap64 (6 + t252)) : Int).toNat) ((ji54) : Int).toNat (xt a0 6 ((wrap64 (6 + t252)) : Int).toNat).size), .int .i64 (Int.tmod (wrap64 (bt (xt a0 6 ((wrap64 (6 + t252)) : Int).toNat) 16)) 4), .bool (decide ((wrap64 (bt (xt a0 6 ((wrap64 (6 + t252)) : Int).toNat) 16)) ≥ 4))] 25 (0, 0)) (by (with_reducible repeat (first | refine blk_drewN ?_ _ | refine blk_drew ?_ | refine blk_alloc ?_ _)); refine blk_put (cs := #[.int .i64 t258, .int .i64 t260, .string (xt (xt a0 6 ((wrap64 (6 + t252)) : Int).toNat) 19 ((ji54) : Int).toNat), .string (⟨#[]⟩ : ByteArray), .int .i64 (Int.tmod (wrap64 (bt (xt a0 6 ((wrap64 (6 + t252)) : Int).toNat) 16)) 4), .bool (decide ((wrap64 (bt (xt a0 6 ((wrap64 (6 + t252)) : Int).toNat) 16)) ≥ 4))]) ?_ 3 _ rfl; (with_reducible repeat (first | refine blk_drewN ?_ _ | refine blk_drew ?_ | refine blk_alloc ?_ _)); refine blk_put (cs := #[.int .i64 t258, .int .i64 t260, .string (⟨#[]⟩ : ByteArray), .string (⟨#[]⟩ : ByteArray), .int .i64 (Int.tmod (wrap64 (bt (xt a0 6 ((wrap64 (6 + t252)) : Int).toNat) 16)) 4), .bool (decide ((wrap64 (bt (xt a0 6 ((wrap64 (6 + t252)) : Int).toNat) 16)) ≥ 4))]) ?_ 2 _ rfl; (with_reducible repeat (first | refine blk_drewN ?_ _ | refine blk_drew ?_ | refine blk_alloc ?_ _)); exact BK257.out) hb); replace HB := Aside0.mk (below_step bo hb); (try clear hb); (try clear hb2); (try clear hk); (try clear hi); obtain ⟨hcz68_0, hcz68_1, hcz68_2, hcz68_3, hcz68_4, hcz68_5⟩ := cl6 BK257.out; obtain ⟨hfz68_0, hfz68_1, hfz68_2, hfz68_3, hfz68_4, hfz68_5⟩ := fz6 BK257.out; have hnb69 := NB250_251.out; have hnc69 := NB251_250.out; obtain ⟨hcz70_0, hcz70_1, hcz70_2, hcz70_3, hcz70_4, hcz70_5⟩ := cl6 BK250.out; obtain ⟨hfz70_0, hfz70_1, hfz70_2, hfz70_3, hfz70_4, hfz70_5⟩ := fz6 BK250.out))
                   refine bodyPost_ret (results_ctt rfl _ _ gb250 25 #[.int .i64 t258, .int .i64 t260, .string (xt (xt a0 6 ((wrap64 (6 + t252)) : Int).toNat) 19 ((ji54) : Int).toNat), .string (xt (xt a0 6 ((wrap64 (6 + t252)) : Int).toNat) ((ji54) : Int).toNat (xt a0 6 ((wrap64 (6 + t252)) : Int).toNat).size), .int .i64 (Int.tmod (wrap64 (bt (xt a0 6 ((wrap64 (6 + t252)) : Int).toNat) 16)) 4), .bool (decide ((wrap64 (bt (xt a0 6 ((wrap64 (6 + t252)) : Int).toNat) 16)) ≥ 4))] (0, 0) _ rfl (by (with_reducible repeat (first | refine blk_drewN ?_ _ | refine blk_drew ?_ | refine blk_alloc ?_ _)); refine blk_put (cs := #[.int .i64 t258, .int .i64 t260, .string (xt (xt a0 6 ((wrap64 (6 + t252)) : Int).toNat) 19 ((ji54) : Int).toNat), .string (xt (xt a0 6 ((wrap64 (6 + t252)) : Int).toNat) ((ji54) : Int).toNat (xt a0 6 ((wrap64 (6 + t252)) : Int).toNat).size), .int .i64 (Int.tmod (wrap64 (bt (xt a0 6 ((wrap64 (6 + t252)) : Int).toNat) 16)) 4), .bool false]) ?_ 5 _ rfl; (with_reducible repeat (first | refine blk_drewN ?_ _ | refine blk_drew ?_ | refine blk_alloc ?_ _)); refine blk_put (cs := #[.int .i64 t258, .int .i64 t260, .string (xt (xt a0 6 ((wrap64 (6 + t252)) : Int).toNat) 19 ((ji54) : Int).toNat), .string (xt (xt a0 6 ((wrap64 (6 + t252)) : Int).toNat) ((ji54) : Int).toNat (xt a0 6 ((wrap64 (6 + t252)) : Int).toNat).size), .int .i64 0, .bool false]) ?_ 4 _ rfl; (with_reducible repeat (first | refine blk_drewN ?_ _ | refine blk_drew ?_ | refine blk_alloc ?_ _)); refine blk_put (cs := #[.int .i64 t258, .int .i64 t260, .string (xt (xt a0 6 ((wrap64 (6 + t252)) : Int).toNat) 19 ((ji54) : Int).toNat), .string (⟨#[]⟩ : ByteArray), .int .i64 0, .bool false]) ?_ 3 _ rfl; (with_reducible repeat (first | refine blk_drewN ?_ _ | refine blk_drew ?_ | refine blk_alloc ?_ _)); refine blk_put (cs := #[.int .i64 t258, .int .i64 t260, .string (⟨#[]⟩ : ByteArray), .string (⟨#[]⟩ : ByteArray), .int .i64 0, .bool false]) ?_ 2 _ rfl; (with_reducible repeat (first | refine blk_drewN ?_ _ | refine blk_drew ?_ | refine blk_alloc ?_ _)); refine blk_put (cs := #[.int .i64 t258, .int .i64 0, .string (⟨#[]⟩ : ByteArray), .string (⟨#[]⟩ : ByteArray), .int .i64 0, .bool false]) ?_ 1 _ rfl; (with_reducible repeat (first | refine blk_drewN ?_ _ | refine blk_drew ?_ | refine blk_alloc ?_ _)); refine blk_put (cs := #[.int .i64 0, .int .i64 0, .string (⟨#[]⟩ : ByteArray), .string (⟨#[]⟩ : ByteArray), .int .i64 0, .bool false]) ?_ 0 _ rfl; (with_reducible repeat (first | refine blk_drewN ?_ _ | refine blk_drew ?_ | refine blk_alloc ?_ _)); exact BK250.out) Try.underlying25 rfl (by kernel_rfl)) rfl ?_
                   exact ⟨by first | rfl | (simp [errW_none, errW_some] <;> rfl) | (simp only [← hji54]; first | rfl | (simp [errW_none, errW_some] <;> rfl)) | (simp [*, errW_none, errW_some] <;> rfl), bo⟩
                  ·replace c58 := Bool.eq_false_iff.mpr c58
                   subst c58
                   have H1 : (some (0, 0, (⟨#[]⟩ : ByteArray), (⟨#[]⟩ : ByteArray), 0, false, 0, 8)) = some (r1, r2, r3, r4, r5, r6, r7, r8) := by rw [if_neg (show ¬ (false = true) by decide)] at H; exact H
                   clear H
                   have H := H1
                   clear H1
                   simp only [Option.some.injEq, Prod.mk.injEq] at H
                   obtain ⟨rfl, rfl, rfl, rfl, rfl, rfl, rfl, rfl⟩ := H
                   have hnb71 := NB257_250.out
                   have hnc71 := NB250_257.out
                   have hnb72 := NB257_251.out
                   have hnc72 := NB251_257.out
                   have hcz73_0 : wc.cell? ⟨gb257, 0, none⟩ = some (.int .i64 t258) := (blk_cell BK257.out 0).trans rfl
                   have hcz73_1 : wc.cell? ⟨gb257, 1, none⟩ = some (.int .i64 t260) := (blk_cell BK257.out 1).trans rfl
                   have hcz73_2 : wc.cell? ⟨gb257, 2, none⟩ = some (.string (⟨#[]⟩ : ByteArray)) := (blk_cell BK257.out 2).trans rfl
                   have hcz73_3 : wc.cell? ⟨gb257, 3, none⟩ = some (.string (⟨#[]⟩ : ByteArray)) := (blk_cell BK257.out 3).trans rfl
                   have hcz73_4 : wc.cell? ⟨gb257, 4, none⟩ = some (.int .i64 0) := (blk_cell BK257.out 4).trans rfl
                   have hcz73_5 : wc.cell? ⟨gb257, 5, none⟩ = some (.bool false) := (blk_cell BK257.out 5).trans rfl
                   have hfz73_0 := blk_frozen BK257.out 0
                   have hfz73_1 := blk_frozen BK257.out 1
                   have hfz73_2 := blk_frozen BK257.out 2
                   have hfz73_3 := blk_frozen BK257.out 3
                   have hfz73_4 := blk_frozen BK257.out 4
                   have hfz73_5 := blk_frozen BK257.out 5
                   try go_wp2
                   (try (rw [drewN_self wc]; generalize hq_ : World.drewN wc _ = wc; have n0_ := Aside0.mk (blk_at hq_ BK250.out); have n1_ := Aside0.mk (blk_at hq_ BK251.out); have n2_ := Aside0.mk (blk_at hq_ BK257.out); have n3_ := Aside0.mk (below_at hq_ HB.out); clear hq_ BK250 BK251 BK257 HB; have BK250 := n0_; have BK251 := n1_; have BK257 := n2_; have HB := n3_; clear n0_ n1_ n2_ n3_))
                   have n0_ : Aside0 (((wc.setCell ⟨gb257, 4, none⟩ (.int .i64 (Int.tmod (wrap64 (bt (xt a0 6 ((wrap64 (6 + t252)) : Int).toNat) 16)) 4))).setCell ⟨gb257, 5, none⟩ (.bool (decide ((wrap64 (bt (xt a0 6 ((wrap64 (6 + t252)) : Int).toNat) 16)) ≥ 4)))).heap[gb250]? = some (.cells #[.int .i64 0, .int .i64 0, .string (⟨#[]⟩ : ByteArray), .string (⟨#[]⟩ : ByteArray), .int .i64 0, .bool false] 25 (0, 0))) := ⟨by (with_reducible repeat (first | refine blk_drewN ?_ _ | refine blk_drew ?_ | refine blk_alloc ?_ _)); refine blk_far ?_ NB250_257.out _; (with_reducible repeat (first | refine blk_drewN ?_ _ | refine blk_drew ?_ | refine blk_alloc ?_ _)); refine blk_far ?_ NB250_257.out _; (with_reducible repeat (first | refine blk_drewN ?_ _ | refine blk_drew ?_ | refine blk_alloc ?_ _)); exact BK250.out⟩
                   have n1_ : Aside0 (((wc.setCell ⟨gb257, 4, none⟩ (.int .i64 (Int.tmod (wrap64 (bt (xt a0 6 ((wrap64 (6 + t252)) : Int).toNat) 16)) 4))).setCell ⟨gb257, 5, none⟩ (.bool (decide ((wrap64 (bt (xt a0 6 ((wrap64 (6 + t252)) : Int).toNat) 16)) ≥ 4)))).heap[gb251]? = some (.cells #[.int .i64 0, .int .i64 0, .string (⟨#[]⟩ : ByteArray), .string (⟨#[]⟩ : ByteArray), .int .i64 0, .bool false] 25 (0, 0))) := ⟨by (with_reducible repeat (first | refine blk_drewN ?_ _ | refine blk_drew ?_ | refine blk_alloc ?_ _)); refine blk_far ?_ NB251_257.out _; (with_reducible repeat (first | refine blk_drewN ?_ _ | refine blk_drew ?_ | refine blk_alloc ?_ _)); refine blk_far ?_ NB251_257.out _; (with_reducible repeat (first | refine blk_drewN ?_ _ | refine blk_drew ?_ | refine blk_alloc ?_ _)); exact BK251.out⟩
                   have n2_ : Aside0 (((wc.setCell ⟨gb257, 4, none⟩ (.int .i64 (Int.tmod (wrap64 (bt (xt a0 6 ((wrap64 (6 + t252)) : Int).toNat) 16)) 4))).setCell ⟨gb257, 5, none⟩ (.bool (decide ((wrap64 (bt (xt a0 6 ((wrap64 (6 + t252)) : Int).toNat) 16)) ≥ 4)))).heap[gb257]? = some (.cells #[.int .i64 t258, .int .i64 t260, .string (⟨#[]⟩ : ByteArray), .string (⟨#[]⟩ : ByteArray), .int .i64 (Int.tmod (wrap64 (bt (xt a0 6 ((wrap64 (6 + t252)) : Int).toNat) 16)) 4), .bool (decide ((wrap64 (bt (xt a0 6 ((wrap64 (6 + t252)) : Int).toNat) 16)) ≥ 4))] 25 (0, 0))) := ⟨by (with_reducible repeat (first | refine blk_drewN ?_ _ | refine blk_drew ?_ | refine blk_alloc ?_ _)); refine blk_put (cs := #[.int .i64 t258, .int .i64 t260, .string (⟨#[]⟩ : ByteArray), .string (⟨#[]⟩ : ByteArray), .int .i64 (Int.tmod (wrap64 (bt (xt a0 6 ((wrap64 (6 + t252)) : Int).toNat) 16)) 4), .bool false]) ?_ 5 _ rfl; (with_reducible repeat (first | refine blk_drewN ?_ _ | refine blk_drew ?_ | refine blk_alloc ?_ _)); refine blk_put (cs := #[.int .i64 t258, .int .i64 t260, .string (⟨#[]⟩ : ByteArray), .string (⟨#[]⟩ : ByteArray), .int .i64 0, .bool false]) ?_ 4 _ rfl; (with_reducible repeat (first | refine blk_drewN ?_ _ | refine blk_drew ?_ | refine blk_alloc ?_ _)); exact BK257.out⟩
                   have n3_ : Aside0 (Below w.heap.size w ((wc.setCell ⟨gb257, 4, none⟩ (.int .i64 (Int.tmod (wrap64 (bt (xt a0 6 ((wrap64 (6 + t252)) : Int).toNat) 16)) 4))).setCell ⟨gb257, 5, none⟩ (.bool (decide ((wrap64 (bt (xt a0 6 ((wrap64 (6 + t252)) : Int).toNat) 16)) ≥ 4))))) := ⟨bo⟩
                   (try clear BK250)
                   (try clear BK251)
                   (try clear BK257)
                   (try clear HB)
                   generalize ((wc.setCell ⟨gb257, 4, none⟩ (.int .i64 (Int.tmod (wrap64 (bt (xt a0 6 ((wrap64 (6 + t252)) : Int).toNat) 16)) 4))).setCell ⟨gb257, 5, none⟩ (.bool (decide ((wrap64 (bt (xt a0 6 ((wrap64 (6 + t252)) : Int).toNat) 16)) ≥ 4)))) = w74 at n0_ n1_ n2_ n3_ ⊢
                   have BK250 := n0_
                   have BK251 := n1_
                   have BK257 := n2_
                   have HB := n3_
                   clear n0_ n1_ n2_ n3_
                   replace BK250 := Aside0.mk (blk_drew BK250.out)
                   replace BK251 := Aside0.mk (blk_drew BK251.out)
                   replace BK257 := Aside0.mk (blk_drew BK257.out)
                   replace HB := Aside0.mk (below_drew1 HB.out)
                   refine start_ (n := 12) (S := fun w' => True) (ds := []) #[O,O,O,O,O,O,O,O,O,O,O,O] (by kernel_rfl) rfl rfl trivial (fun hHeld => ?_); refine with_tabW fairwayref10_Take.tab19 fairwayref10_Take.bits19 (fun HT_ HW_ => ?_)
                   generalize w74.drew = w75 at BK250 BK251 BK257 HB hHeld ⊢
                   refine pz (i := 0) (N := some 92) #[I,O,O,O,O,O,O,O,O,O,O,O] ?_
                   refine pz (i := 1) (N := some 93) #[I,I,O,O,O,O,O,O,O,O,O,O] ?_
                   refine pz (i := 2) (N := some 94) #[I,I,I,O,O,O,O,O,O,O,O,O] ?_
                   refine pz (i := 3) (N := some 95) #[I,I,I,I,O,O,O,O,O,O,O,O] ?_
                   refine pz (i := 4) (N := some 96) #[I,I,I,I,I,O,O,O,O,O,O,O] ?_
                   refine pz (i := 5) (N := some 97) #[I,I,I,I,I,I,O,O,O,O,O,O] ?_
                   refine pz (i := 6) (N := some 98) #[I,I,I,I,I,I,I,O,O,O,O,O] ?_
                   refine pz (i := 7) (N := some 99) #[I,I,I,I,I,I,I,I,O,O,O,O] ?_
                   refine pz (i := 8) (N := some 100) #[I,I,I,I,I,I,I,I,I,O,O,O] ?_
                   refine one_ (i := 9) (N := none) #[I,I,I,I,I,I,I,I,I,I,O,O] rfl rfl (one_of HT_.out (by kernel_rfl)) (by decide) (fun K hK => ?_)
                   have hs76 : w75.cell? ⟨gb257, 2, none⟩ = some (.string (⟨#[]⟩ : ByteArray)) := (blk_cell BK257.out 2).trans rfl
                   have hfs76 := blk_frozen BK257.out 2
                   have hns76_0 := NB250_257.out
                   have hns76_1 := NB251_257.out
                   have hms76_0 := NB257_250.out
                   have hms76_1 := NB257_251.out
                   refine skip_ (w1 := ?_) (by rfl) rfl ?_ ?_
                   rotate_left
                   ·go_simp
                    rfl
                   refine hK.out _ _ trivial (fun hHeld => ?_)
                   clear hK K
                   refine pz (i := 10) (N := some 101) #[I,I,I,I,I,I,I,I,I,I,I,O] ?_
                   refine one_ (i := 11) (N := none) #[I,I,I,I,I,I,I,I,I,I,I,I] rfl rfl (one_of HT_.out (by kernel_rfl)) (by decide) (fun K hK => ?_)
                   have hs77 : w75.cell? ⟨gb257, 3, none⟩ = some (.string (⟨#[]⟩ : ByteArray)) := (blk_cell BK257.out 3).trans rfl
                   have hfs77 := blk_frozen BK257.out 3
                   have hns77_0 := NB250_257.out
                   have hns77_1 := NB251_257.out
                   have hms77_0 := NB257_250.out
                   have hms77_1 := NB257_251.out
                   refine skip_ (w1 := ?_) (by rfl) rfl ?_ ?_
                   rotate_left
                   ·go_simp
                    rfl
                   refine hK.out _ _ trivial (fun hHeld => ?_)
                   clear hK K
                   refine done_ (done_of HT_.out (by kernel_rfl)) ?_
                   have hcz78_0 : w75.cell? ⟨gb257, 0, none⟩ = some (.int .i64 t258) := (blk_cell BK257.out 0).trans rfl
                   have hcz78_1 : w75.cell? ⟨gb257, 1, none⟩ = some (.int .i64 t260) := (blk_cell BK257.out 1).trans rfl
                   have hcz78_2 : w75.cell? ⟨gb257, 2, none⟩ = some (.string (⟨#[]⟩ : ByteArray)) := (blk_cell BK257.out 2).trans rfl
                   have hcz78_3 : w75.cell? ⟨gb257, 3, none⟩ = some (.string (⟨#[]⟩ : ByteArray)) := (blk_cell BK257.out 3).trans rfl
                   have hcz78_4 : w75.cell? ⟨gb257, 4, none⟩ = some (.int .i64 (Int.tmod (wrap64 (bt (xt a0 6 ((wrap64 (6 + t252)) : Int).toNat) 16)) 4)) := (blk_cell BK257.out 4).trans rfl
                   have hcz78_5 : w75.cell? ⟨gb257, 5, none⟩ = some (.bool (decide ((wrap64 (bt (xt a0 6 ((wrap64 (6 + t252)) : Int).toNat) 16)) ≥ 4))) := (blk_cell BK257.out 5).trans rfl
                   have hfz78_0 := blk_frozen BK257.out 0
                   have hfz78_1 := blk_frozen BK257.out 1
                   have hfz78_2 := blk_frozen BK257.out 2
                   have hfz78_3 := blk_frozen BK257.out 3
                   have hfz78_4 := blk_frozen BK257.out 4
                   have hfz78_5 := blk_frozen BK257.out 5
                   try go_wp2_with (first | ((with_reducible refine gate_callee (f := 17) rfl ?_); refine goesL_ (some 103) rfl rfl Try.func17 (by kernel_rfl) rfl #[.agg #[.int .i64 t258, .int .i64 t260, .string (xt (xt a0 6 ((wrap64 (6 + t252)) : Int).toNat) 19 ((ji54) : Int).toNat), .string (xt (xt a0 6 ((wrap64 (6 + t252)) : Int).toNat) ((ji54) : Int).toNat (xt a0 6 ((wrap64 (6 + t252)) : Int).toNat).size), .int .i64 (Int.tmod (wrap64 (bt (xt a0 6 ((wrap64 (6 + t252)) : Int).toNat) 16)) 4), .bool (decide ((wrap64 (bt (xt a0 6 ((wrap64 (6 + t252)) : Int).toNat) 16)) ≥ 4))]] rfl (by (try simp only [List.map_toArray, List.map_cons, List.map_nil]); first | done | (simp only [hji54]; rfl) | rfl | (simp only [List.length_drop, List.length_take]; rfl) | (simp only [ByteArray.size_append]; rfl) | (simp; done)) ?_; (with_reducible refine (fairwayref10_Rec.calls t258 t260 (xt (xt a0 6 ((wrap64 (6 + t252)) : Int).toNat) 19 ((ji54) : Int).toNat) (xt (xt a0 6 ((wrap64 (6 + t252)) : Int).toNat) ((ji54) : Int).toNat (xt a0 6 ((wrap64 (6 + t252)) : Int).toNat).size) (Int.tmod (wrap64 (bt (xt a0 6 ((wrap64 (6 + t252)) : Int).toNat) 16)) 4) (decide ((wrap64 (bt (xt a0 6 ((wrap64 (6 + t252)) : Int).toNat) 16)) ≥ 4)) false _ A57.out).mono ?_); rintro e w79 ⟨rfl, hb⟩; refine ⟨_, rfl, ?_⟩; replace BK250 := Aside0.mk (bB BK250.out hb); replace BK251 := Aside0.mk (bB BK251.out hb); replace BK257 := Aside0.mk (blk_below (g := gb257) (o := .cells #[.int .i64 t258, .int .i64 t260, .string (xt (xt a0 6 ((wrap64 (6 + t252)) : Int).toNat) 19 ((ji54) : Int).toNat), .string (xt (xt a0 6 ((wrap64 (6 + t252)) : Int).toNat) ((ji54) : Int).toNat (xt a0 6 ((wrap64 (6 + t252)) : Int).toNat).size), .int .i64 (Int.tmod (wrap64 (bt (xt a0 6 ((wrap64 (6 + t252)) : Int).toNat) 16)) 4), .bool (decide ((wrap64 (bt (xt a0 6 ((wrap64 (6 + t252)) : Int).toNat) 16)) ≥ 4))] 25 (0, 0)) (by (with_reducible repeat (first | refine blk_drewN ?_ _ | refine blk_drew ?_ | refine blk_alloc ?_ _)); refine blk_put (cs := #[.int .i64 t258, .int .i64 t260, .string (xt (xt a0 6 ((wrap64 (6 + t252)) : Int).toNat) 19 ((ji54) : Int).toNat), .string (⟨#[]⟩ : ByteArray), .int .i64 (Int.tmod (wrap64 (bt (xt a0 6 ((wrap64 (6 + t252)) : Int).toNat) 16)) 4), .bool (decide ((wrap64 (bt (xt a0 6 ((wrap64 (6 + t252)) : Int).toNat) 16)) ≥ 4))]) ?_ 3 _ rfl; (with_reducible repeat (first | refine blk_drewN ?_ _ | refine blk_drew ?_ | refine blk_alloc ?_ _)); refine blk_put (cs := #[.int .i64 t258, .int .i64 t260, .string (⟨#[]⟩ : ByteArray), .string (⟨#[]⟩ : ByteArray), .int .i64 (Int.tmod (wrap64 (bt (xt a0 6 ((wrap64 (6 + t252)) : Int).toNat) 16)) 4), .bool (decide ((wrap64 (bt (xt a0 6 ((wrap64 (6 + t252)) : Int).toNat) 16)) ≥ 4))]) ?_ 2 _ rfl; (with_reducible repeat (first | refine blk_drewN ?_ _ | refine blk_drew ?_ | refine blk_alloc ?_ _)); exact BK257.out) hb); replace HB := Aside0.mk (below_step bo hb); (try clear hb); (try clear hb2); (try clear hk); (try clear hi); have hnb80 := NB251_250.out; have hnc80 := NB250_251.out; obtain ⟨hcz81_0, hcz81_1, hcz81_2, hcz81_3, hcz81_4, hcz81_5⟩ := cl6 BK251.out; obtain ⟨hfz81_0, hfz81_1, hfz81_2, hfz81_3, hfz81_4, hfz81_5⟩ := fz6 BK251.out; obtain ⟨hcz82_0, hcz82_1, hcz82_2, hcz82_3, hcz82_4, hcz82_5⟩ := cl6 BK250.out; obtain ⟨hfz82_0, hfz82_1, hfz82_2, hfz82_3, hfz82_4, hfz82_5⟩ := fz6 BK250.out))
                   refine bodyPost_ret (results_ctt rfl _ _ gb250 25 #[.int .i64 0, .int .i64 0, .string (⟨#[]⟩ : ByteArray), .string (⟨#[]⟩ : ByteArray), .int .i64 0, .bool false] (0, 0) _ rfl (by (with_reducible repeat (first | refine blk_drewN ?_ _ | refine blk_drew ?_ | refine blk_alloc ?_ _)); refine blk_put (cs := #[.int .i64 0, .int .i64 0, .string (⟨#[]⟩ : ByteArray), .string (⟨#[]⟩ : ByteArray), .int .i64 0, .bool false]) ?_ 5 _ rfl; (with_reducible repeat (first | refine blk_drewN ?_ _ | refine blk_drew ?_ | refine blk_alloc ?_ _)); refine blk_put (cs := #[.int .i64 0, .int .i64 0, .string (⟨#[]⟩ : ByteArray), .string (⟨#[]⟩ : ByteArray), .int .i64 0, .bool false]) ?_ 4 _ rfl; (with_reducible repeat (first | refine blk_drewN ?_ _ | refine blk_drew ?_ | refine blk_alloc ?_ _)); refine blk_put (cs := #[.int .i64 0, .int .i64 0, .string (⟨#[]⟩ : ByteArray), .string (⟨#[]⟩ : ByteArray), .int .i64 0, .bool false]) ?_ 3 _ rfl; (with_reducible repeat (first | refine blk_drewN ?_ _ | refine blk_drew ?_ | refine blk_alloc ?_ _)); refine blk_put (cs := #[.int .i64 0, .int .i64 0, .string (⟨#[]⟩ : ByteArray), .string (⟨#[]⟩ : ByteArray), .int .i64 0, .bool false]) ?_ 2 _ rfl; (with_reducible repeat (first | refine blk_drewN ?_ _ | refine blk_drew ?_ | refine blk_alloc ?_ _)); refine blk_put (cs := #[.int .i64 0, .int .i64 0, .string (⟨#[]⟩ : ByteArray), .string (⟨#[]⟩ : ByteArray), .int .i64 0, .bool false]) ?_ 1 _ rfl; (with_reducible repeat (first | refine blk_drewN ?_ _ | refine blk_drew ?_ | refine blk_alloc ?_ _)); refine blk_put (cs := #[.int .i64 0, .int .i64 0, .string (⟨#[]⟩ : ByteArray), .string (⟨#[]⟩ : ByteArray), .int .i64 0, .bool false]) ?_ 0 _ rfl; (with_reducible repeat (first | refine blk_drewN ?_ _ | refine blk_drew ?_ | refine blk_alloc ?_ _)); exact BK250.out) Try.underlying25 rfl (by kernel_rfl)) rfl ?_
                   exact ⟨by first | rfl | (simp [errW_none, errW_some] <;> rfl) | (simp only [← hji54]; first | rfl | (simp [errW_none, errW_some] <;> rfl)) | (simp [*, errW_none, errW_some] <;> rfl), bo⟩
                 ·rw [if_neg c55] at H
                  exact absurd H (by simp)
                ·rw [if_neg c53] at H
                 exact absurd H (by simp)
               ·rw [if_neg c52] at H
                exact absurd H (by simp)
           ·rw [if_neg c38] at H
            exact absurd H (by simp)
          ·rw [if_neg c36] at H
           exact absurd H (by simp)
         ·rw [if_neg c34] at H
          exact absurd H (by simp)
     ·rw [if_neg c18] at H
      exact absurd H (by simp)
    ·rw [if_neg c17] at H
     exact absurd H (by simp)
   ·rw [if_neg c15] at H
    exact absurd H (by simp)

end Go.Proofs.Ytmabdfdmccbfnaa.P

-- written by a program of the proving session, out of the translation; Lean checks it
namespace Go.Proofs.Ytmabdfdmccbfnaa.P
open Go.RowKit Go.Proofs.Ytmabdfdmccbfnaa.Sq Go.Proofs.YtmabdfdmccbfnaaW.PrintWords Go.Proofs.YtmabdfdmccbfnaaW.PrintLast Go.Proofs.YtmabdfdmccbfnaaW.PrintMore
attribute [local go_sem] max2_int min2_int max_two min_two max_three min_three max_four min_four   -- for this text's walks alone
set_option linter.unusedVariables false
set_option linter.unusedSimpArgs false

/-! ### fairwayref1_Fixed: function 69 -/
def fairwayref1_Fixed.l0 : Nat → Int → List Int → Int → Option (ByteArray)
 | 0, _, _, _ => none
 | k + 1, x0, x5, x6 => if x6 ≥ 0 then (if 0 ≤ (wrap64 (8 * x6)) then (if x5.length < 140737488355328 then (fairwayref1_Fixed.l0 k x0 (x5 ++ [(shr .i64 x0 (wrap64 (8 * x6))) % 256]) (wrap64 (x6 - 1))) else (none)) else (none)) else (some (strOfNums x5))
def fairwayref1_Fixed.f (k : Nat) (a0 : Int) (a1 : Int) : Option (ByteArray) := fairwayref1_Fixed.l0 k a0 ([] : List Int) (wrap64 (a1 - 1))
theorem fairwayref1_Fixed.mono_l : ∀ k, (∀ y0 y1 y2, LeO (fairwayref1_Fixed.l0 k y0 y1 y2) (fairwayref1_Fixed.l0 (k + 1) y0 y1 y2))
 | 0 => fun _ _ _ r h => by simp [fairwayref1_Fixed.l0] at h
 | k + 1 => by
  have ih0 := fairwayref1_Fixed.mono_l k
  ·intro y0 y1 y2
   unfold fairwayref1_Fixed.l0
   repeat' first
   | (with_reducible exact ih0 _ _ _)
   | (with_reducible exact LeO.refl _)
   | (with_reducible exact LeO.none _)
   | (with_reducible refine LeO.ite ?_ ?_)
   | (with_reducible refine LeO.bind ?_ (fun _ => ?_))
   | exact ih0 _ _ _
   | exact LeO.none _
   | refine LeO.ite ?_ ?_
   | refine LeO.bind ?_ (fun _ => ?_)
theorem fairwayref1_Fixed.mono : ∀ a0 a1 k, LeO (fairwayref1_Fixed.f k a0 a1) (fairwayref1_Fixed.f (k + 1) a0 a1) := by
 intro a0 a1 k
 have ih0 := fairwayref1_Fixed.mono_l k
 unfold fairwayref1_Fixed.f
 repeat' first
  | (with_reducible exact ih0 _ _ _)
  | (with_reducible exact LeO.refl _)
  | (with_reducible exact LeO.none _)
  | (with_reducible refine LeO.ite ?_ ?_)
  | (with_reducible refine LeO.bind ?_ (fun _ => ?_))
  | exact ih0 _ _ _
  | exact LeO.none _
  | refine LeO.ite ?_ ?_
  | refine LeO.bind ?_ (fun _ => ?_)
set_option maxHeartbeats 8000000 in
set_option maxRecDepth 100000 in
theorem fairwayref1_Fixed.calls (k : Nat) (a0 : Int) (a1 : Int) (r : ByteArray) (w : World) (h : fairwayref1_Fixed.f k a0 a1 = some r) :
 Calls Try.prog 69 #[.int .i64 a0, .int .i64 a1] w fun e w' => e = .returned (.string r) ∧ Below w.heap.size w w' := by
 have HB := Aside0.mk (Below.refl w.heap.size w)
 have H : (fairwayref1_Fixed.l0 k a0 ([] : List Int) (wrap64 (a1 - 1))) = some r := h
 clear h
 have H' := Aside0.mk H
 clear H
 go_enter Try.func69, Try.ntmps69
 go_wp2
 go_loopg [5, 6] k (fun kq v5 v6 w' => ∃ (x5_1 : List Int) (x6_1 : Int), v6 = .int .i64 x6_1 ∧ Aside0 (fairwayref1_Fixed.l0 kq a0 x5_1 x6_1 = some r) ∧ Aside0 (kq ≤ k) ∧ Aside0 (Kd.R (Kd.int .u8) 5 w' w.heap.size (fun _ => True) v5 x5_1) ∧ Aside0 (Below w.heap.size w w'))
 case atStart => exact ⟨(([] : List Int)), (wrap64 (a1 - 1)), ap, H', ⟨Nat.le_refl _⟩, ⟨by first | exact Kd.R_nil _ _ _ _ _ | exact Kd.N_nil _ _ _ _ _ | exact Kd.V_nil _ _ _ _ _ | exact Kd.Q_nil _ _ _ _ _ | exact Kd.S_nil _ _ _ _ _⟩, ⟨bo⟩⟩
 case round =>
  clear H'
  try clear p2
  obtain ⟨x5_1, x6_1, rfl, HA, HK1, HO_5, HB⟩ := hrel
  cases gk with
  | zero => exact absurd HA.out (by simp [fairwayref1_Fixed.l0])
  | succ k1 =>
   have H := HA.out
   clear HA
   simp only [fairwayref1_Fixed.l0] at H
   by_cases c3 : x6_1 ≥ 0
   ·rw [if_pos c3] at H
    have c3b0 : decide (0 ≤ x6_1) = true := decide_eq_true c3
    clear c3
    obtain ⟨ji4, hji4⟩ : ∃ j_ : Int, (wrap64 (8 * x6_1)) = j_ := ⟨_, rfl⟩
    replace H : (if 0 ≤ (ji4) then (if x5_1.length < 140737488355328 then (fairwayref1_Fixed.l0 k1 a0 (x5_1 ++ [(shr .i64 a0 (ji4)) % 256]) (wrap64 (x6_1 - 1))) else (none)) else (none)) = some r := by first | (rw [hji4] at H; exact H) | (simp only [hji4] at H ⊢; exact H)
    have hji4w : (IntKind.i64.wrap (8 * x6_1)) = ji4 := (i64_w _).trans hji4
    by_cases c5 : 0 ≤ (ji4)
    ·rw [if_pos c5] at H
     have c5b0 := eq_true c5
     have c5b1 : decide (0 ≤ (ji4)) = true := decide_eq_true c5
     clear c5
     obtain ⟨ji6, hji6⟩ : ∃ j_ : Int, (shr .i64 a0 (ji4)) = j_ := ⟨_, rfl⟩
     replace H : (if x5_1.length < 140737488355328 then (fairwayref1_Fixed.l0 k1 a0 (x5_1 ++ [(ji6) % 256]) (wrap64 (x6_1 - 1))) else (none)) = some r := by first | (rw [hji6] at H; exact H) | (simp only [hji6] at H ⊢; exact H)
     have hji6_ : (a0 / 2 ^ min (ji4).toNat 64) = ji6 := hji6
     have hji6z : (ji4) ≤ 64 → (a0 / 2 ^ (ji4).toNat) = ji6 := shr_small hji6
     by_cases c7 : x5_1.length < 140737488355328
     ·rw [if_pos c7] at H
      have LMc7 := Aside0.mk c7
      clear c7
      obtain ⟨y214, hy214⟩ : ∃ y_ : List Int, y_ = (x5_1 ++ [(ji6) % 256]) := ⟨_, rfl⟩
      replace H : (fairwayref1_Fixed.l0 k1 a0 y214 (wrap64 (x6_1 - 1))) = some r := by first | (rw [hy214]; with_reducible exact H) | (have H2_ := (Option.bind_some _ _).symm.trans H; rw [hy214]; with_reducible exact H2_) | (have H2_ := (Option.bind_some _ _).symm.trans H; with_reducible exact H2_) | with_reducible exact H | (rw [hy214]; exact H) | exact H
      have Ny214 := Aside0.mk hy214
      clear hy214
      have H' := Aside0.mk H
      clear H
      go_wp2_with (first | ((with_reducible refine gate_builtin (b := .append) (xs := #[.tmp 13, .tmp 19]) rfl ?_); at_builtin; refine Kd.R_append (Kd.int .u8) (w0 := w) w.heap.size rfl (.tmp 13) (.tmp 19) 23 5 (.int .u8 0) 1 rfl Try.underlying23 info5 rfl (by decide) (by omega) u5 x5_1 ((ji6) % 256) [.int .u8 ((ji6) % 256)] (fun _ => True) (fun _ => False) rfl rfl ?aP (fun _ hk => hk.elim) ?aF ?aO ?aB ?aS ?aL ?_; (case aP => exact rfl); (case aB => exact bo); (case aF => exact (fun _ _ => trivial)); (case aO => exact (rk HO_5.out)); (case aS => exact (below_size bo)); (case aL => have := LMc7.out; omega); intro v215 w8 ho hb hg hat; rw [← Ny214.out] at ho; have n0_ := Aside0.mk (hb); have n1_ := Aside0.mk (ho); clear HB; clear HO_5; have HB := n0_; have HO216 := n1_; clear n0_ n1_; clear ho hb hg hat))
      go_roundg k1
      case measure => have := HK1.out; omega
      case rel => exact ⟨(y214), (wrap64 (x6_1 - 1)), ap, H', ⟨by have := HK1.out; omega⟩, ⟨by (with_reducible repeat (first | apply Kd.R_alloc | apply Kd.R_drewN | apply Kd.R_drew)); exact HO216.out⟩, ⟨bo⟩⟩
     ·rw [if_neg c7] at H
      exact absurd H (by simp)
    ·rw [if_neg c5] at H
     exact absurd H (by simp)
   ·rw [if_neg c3] at H
    have c3b0 : decide (0 ≤ x6_1) = false := decide_eq_false c3
    clear c3
    obtain rfl := Option.some.inj H
    have hcv9 := own_string (P := Try.prog) Try.underlying23 Try.underlying5 Try.underlying9 (Kd.own_of_R HO_5.out)
    go_wp2
    go_ret
    exact ⟨er, bo⟩

end Go.Proofs.Ytmabdfdmccbfnaa.P

-- written by a program of the proving session, out of the translation; Lean checks it
namespace Go.Proofs.Ytmabdfdmccbfnaa.P
open Go.RowKit Go.Proofs.Ytmabdfdmccbfnaa.Sq Go.Proofs.YtmabdfdmccbfnaaW.PrintWords Go.Proofs.YtmabdfdmccbfnaaW.PrintLast Go.Proofs.YtmabdfdmccbfnaaW.PrintMore
attribute [local go_sem] max2_int min2_int max_two min_two max_three min_three max_four min_four   -- for this text's walks alone
set_option linter.unusedVariables false
set_option linter.unusedSimpArgs false

/-! ### fairwayref10_Bytes: function 20 -/
def fairwayref10_Bytes.j0 : Nat → Int → Int → Int → ByteArray → ByteArray → Int → Bool → Option (ByteArray)
 | 0, _, _, _, _, _, _, _ => none
 | k + 1, x3, x218000, x218001, x218002, x218003, x218004, x218005 => (fairwayref1_Fixed.f k x218000 8).bind fun t218 => ((fairwayref1_Fixed.f k x218001 8).bind fun t219 => (if t218.size + t219.size ≤ 9223372036854775807 then ((some (([(x3) % 256] : List Int) : List Int)).bind fun y220 => (if (t218 ++ t219).size + (strOfNums y220).size ≤ 9223372036854775807 then ((fairwayref1_Fixed.f k (x218002.size : Int) 2).bind fun t223 => (if ((t218 ++ t219) ++ (strOfNums y220)).size + t223.size ≤ 9223372036854775807 then (if (((t218 ++ t219) ++ (strOfNums y220)) ++ t223).size + x218002.size ≤ 9223372036854775807 then (if ((((t218 ++ t219) ++ (strOfNums y220)) ++ t223) ++ x218002).size + x218003.size ≤ 9223372036854775807 then ((fairwayref1_Fixed.f k ((((((t218 ++ t219) ++ (strOfNums y220)) ++ t223) ++ x218002) ++ x218003).size : Int) 2).bind fun t224 => (if t224.size + (((((t218 ++ t219) ++ (strOfNums y220)) ++ t223) ++ x218002) ++ x218003).size ≤ 9223372036854775807 then ((fairwayref1_Sum.f k 0 (t224 ++ (((((t218 ++ t219) ++ (strOfNums y220)) ++ t223) ++ x218002) ++ x218003))).bind fun t225 => ((fairwayref1_Fixed.f k (wrap64 (t225)) 4).bind fun t226 => (if t224.size + t226.size ≤ 9223372036854775807 then (if (t224 ++ t226).size + (((((t218 ++ t219) ++ (strOfNums y220)) ++ t223) ++ x218002) ++ x218003).size ≤ 9223372036854775807 then (some ((t224 ++ t226) ++ (((((t218 ++ t219) ++ (strOfNums y220)) ++ t223) ++ x218002) ++ x218003))) else (none)) else (none)))) else (none))) else (none)) else (none)) else (none))) else (none))) else (none)))
def fairwayref10_Bytes.f (k : Nat) (a0_0 : Int) (a0_1 : Int) (a0_2 : ByteArray) (a0_3 : ByteArray) (a0_4 : Int) (a0_5 : Bool) : Option (ByteArray) := if a0_5 = true then (fairwayref10_Bytes.j0 k (wrap64 (a0_4 + 4)) a0_0 a0_1 a0_2 a0_3 a0_4 a0_5) else (fairwayref10_Bytes.j0 k a0_4 a0_0 a0_1 a0_2 a0_3 a0_4 a0_5)
theorem fairwayref10_Bytes.mono_l : ∀ k, (∀ y0 y1 y2 y3 y4 y5 y6, LeO (fairwayref10_Bytes.j0 k y0 y1 y2 y3 y4 y5 y6) (fairwayref10_Bytes.j0 (k + 1) y0 y1 y2 y3 y4 y5 y6))
 | 0 => fun _ _ _ _ _ _ _ r h => by simp [fairwayref10_Bytes.j0] at h
 | k + 1 => by
  have ih0 := fairwayref10_Bytes.mono_l k
  ·intro y0 y1 y2 y3 y4 y5 y6
   unfold fairwayref10_Bytes.j0
   repeat' first
   | (with_reducible exact ih0 _ _ _ _ _ _ _)
   | (with_reducible exact fairwayref1_Fixed.mono _ _ _)
   | (with_reducible exact fairwayref1_Sum.mono _ _ _)
   | (with_reducible exact LeO.refl _)
   | (with_reducible exact LeO.none _)
   | (with_reducible refine LeO.ite ?_ ?_)
   | (with_reducible refine LeO.bind ?_ (fun _ => ?_))
   | exact ih0 _ _ _ _ _ _ _
   | exact fairwayref1_Fixed.mono _ _ _
   | exact fairwayref1_Sum.mono _ _ _
   | exact LeO.none _
   | refine LeO.ite ?_ ?_
   | refine LeO.bind ?_ (fun _ => ?_)
theorem fairwayref10_Bytes.mono : ∀ a0 a1 a2 a3 a4 a5 k, LeO (fairwayref10_Bytes.f k a0 a1 a2 a3 a4 a5) (fairwayref10_Bytes.f (k + 1) a0 a1 a2 a3 a4 a5) := by
 intro a0 a1 a2 a3 a4 a5 k
 have ih0 := fairwayref10_Bytes.mono_l k
 unfold fairwayref10_Bytes.f
 repeat' first
  | (with_reducible exact ih0 _ _ _ _ _ _ _)
  | (with_reducible exact fairwayref1_Fixed.mono _ _ _)
  | (with_reducible exact fairwayref1_Sum.mono _ _ _)
  | (with_reducible exact LeO.refl _)
  | (with_reducible exact LeO.none _)
  | (with_reducible refine LeO.ite ?_ ?_)
  | (with_reducible refine LeO.bind ?_ (fun _ => ?_))
  | exact ih0 _ _ _ _ _ _ _
  | exact fairwayref1_Fixed.mono _ _ _
  | exact fairwayref1_Sum.mono _ _ _
  | exact LeO.none _
  | refine LeO.ite ?_ ?_
  | refine LeO.bind ?_ (fun _ => ?_)
def fairwayref10_Bytes.T4 : Bool × List (List Nat × List Nat) := (true, [([], []), ([0], [0]), ([1], [1]), ([], []), ([3], [3]), ([4, 2], [4]), ([2, 5], [2, 5]), ([], []), ([7], [7]), ([8], [8]), ([9], [9]), ([6, 10], [6, 10]), ([], []), ([12], [12]), ([13], [13]), ([14, 5], [14]), ([11, 15], [11, 15]), ([], []), ([17], [17]), ([16, 18], [16, 18]), ([], []), ([20], [20]), ([19, 21], [19, 21]), ([22, 15, 0, 1, 2, 3, 4, 5, 6, 7, 8, 9, 10, 11, 12, 13, 14, 15, 16, 17, 18, 19, 20, 21, 22], [22])])
def fairwayref10_Bytes.B4 : List Nat := [0, 1, 3, 0, 8, 31, 63, 0, 128, 384, 896, 2047, 0, 4096, 12288, 28735, 65535, 0, 131072, 524287, 0, 1048576, 4194303, 8388607]
theorem fairwayref10_Bytes.tab4 : rtab .any (opsOf Try.f20 4) = fairwayref10_Bytes.T4 := by kernel_rfl
theorem fairwayref10_Bytes.bits4 : waitsOk fairwayref10_Bytes.T4.2 fairwayref10_Bytes.B4 = true := by kernel_rfl
set_option maxHeartbeats 8000000 in
set_option maxRecDepth 100000 in
theorem fairwayref10_Bytes.calls (k : Nat) (a0_0 : Int) (a0_1 : Int) (a0_2 : ByteArray) (a0_3 : ByteArray) (a0_4 : Int) (a0_5 : Bool) (r : ByteArray) (w : World) (h : fairwayref10_Bytes.f k a0_0 a0_1 a0_2 a0_3 a0_4 a0_5 = some r) :
 Calls Try.prog 20 #[.agg #[.int .i64 a0_0, .int .i64 a0_1, .string a0_2, .string a0_3, .int .i64 a0_4, .bool a0_5]] w fun e w' => e = .returned (.string r) ∧ Below w.heap.size w w' := by
 have hu25 := Try.underlying25
 have HB := Aside0.mk (Below.refl w.heap.size w)
 have H : (if a0_5 = true then (fairwayref10_Bytes.j0 k (wrap64 (a0_4 + 4)) a0_0 a0_1 a0_2 a0_3 a0_4 a0_5) else (fairwayref10_Bytes.j0 k a0_4 a0_0 a0_1 a0_2 a0_3 a0_4 a0_5)) = some r := h
 clear h
 have HC2 := Aside0.mk H
 clear H
 go_enter Try.func20, Try.ntmps20
 go_upto_if 9 with (first | ((with_reducible refine gate_dst (N := 1) rfl ?_); refine box_event ?hg (N := 1) ?hd (cs := #[.int .i64 a0_0, .int .i64 a0_1, .string a0_2, .string a0_3, .int .i64 a0_4, .bool a0_5]) (t := 25) ?hr ?_; (case hd => rfl); (case hg => rfl); (case hr => first | (go_simp; done) | (go_simp; rfl)); intro gb217 hg w3 hbox hb; have BK217 := Aside0.mk (hbox); have GW217 := Aside0.mk ((by rw [hg]; exact (below_size bo) : w.heap.size ≤ gb217)); have GE217 := Aside0.mk ((by rw [hg]; exact (below_size bo) : w.heap.size ≤ gb217)); replace HB := Aside0.mk (below_step bo hb); clear hb hbox hg; obtain ⟨hcz4_0, hcz4_1, hcz4_2, hcz4_3, hcz4_4, hcz4_5⟩ := cl6 BK217.out; obtain ⟨hfz4_0, hfz4_1, hfz4_2, hfz4_3, hfz4_4, hfz4_5⟩ := fz6 BK217.out))
 (try simp only [Act.put, List.setIfInBounds_toArray, List.set_cons_zero, List.set_cons_succ])
 go_cut [3] (fun v3 wc => ∃ (kq : Nat) (x3_1 : Int), v3 = .int .i64 x3_1 ∧ Aside0 (fairwayref10_Bytes.j0 kq x3_1 a0_0 a0_1 a0_2 a0_3 a0_4 a0_5 = some r) ∧ Aside0 (kq ≤ k) ∧ Aside0 (wc.heap[gb217]? = some (.cells #[.int .i64 a0_0, .int .i64 a0_1, .string a0_2, .string a0_3, .int .i64 a0_4, .bool a0_5] 25 (0, 0))) ∧ Aside0 (Below w.heap.size w wc))
 case first =>
  have H := HC2.out
  clear HC2
  by_cases c5 : a0_5 = true
  ·subst c5
   have H1 : (fairwayref10_Bytes.j0 k (wrap64 (a0_4 + 4)) a0_0 a0_1 a0_2 a0_3 a0_4 true) = some r := by rw [if_pos rfl] at H; exact H
   clear H
   have H := H1
   clear H1
   have H' := Aside0.mk H
   clear H
   go_wp2
   go_meet
   case rel => exact ⟨_, (wrap64 (a0_4 + 4)), ap, H', ⟨by first | omega | exact Nat.le_refl _⟩, ⟨by (with_reducible repeat (first | refine blk_drewN ?_ _ | refine blk_drew ?_ | refine blk_alloc ?_ _)); exact BK217.out⟩, ⟨bo⟩⟩
  ·replace c5 := Bool.eq_false_iff.mpr c5
   subst c5
   have H1 : (fairwayref10_Bytes.j0 k a0_4 a0_0 a0_1 a0_2 a0_3 a0_4 false) = some r := by rw [if_neg (show ¬ (false = true) by decide)] at H; exact H
   clear H
   have H := H1
   clear H1
   have H' := Aside0.mk H
   clear H
   go_wp2
   go_meet
   case rel => exact ⟨_, (a0_4), ap, H', ⟨by first | omega | exact Nat.le_refl _⟩, ⟨by (with_reducible repeat (first | refine blk_drewN ?_ _ | refine blk_drew ?_ | refine blk_alloc ?_ _)); exact BK217.out⟩, ⟨bo⟩⟩
 case rest =>
  clear HC2
  (try clear c2); (try clear p2); (try clear c5); (try clear hcz4_0); (try clear hcz4_1); (try clear hcz4_2); (try clear hcz4_3); (try clear hcz4_4); (try clear hcz4_5); (try clear hfz4_0); (try clear hfz4_1); (try clear hfz4_2); (try clear hfz4_3); (try clear hfz4_4); (try clear hfz4_5)
  obtain ⟨kq, x3_1, rfl, HA, HJ1, BK217, HB⟩ := hcut
  cases kq with
  | zero => exact absurd HA.out (by simp [fairwayref10_Bytes.j0])
  | succ kj1 =>
   have H := HA.out
   clear HA
   simp only [fairwayref10_Bytes.j0] at H
   replace H := Option.bind_eq_some_iff.mp H
   obtain ⟨t218, A60, H⟩ := H
   try dsimp only at H
   have A6 := Aside0.mk A60
   clear A60
   replace H := Option.bind_eq_some_iff.mp H
   obtain ⟨t219, A70, H⟩ := H
   try dsimp only at H
   have A7 := Aside0.mk A70
   clear A70
   by_cases c8 : t218.size + t219.size ≤ 9223372036854775807
   ·rw [if_pos c8] at H
    have c8b0 := eq_true c8
    have c8b1 : decide (t218.size + t219.size ≤ 9223372036854775807) = true := decide_eq_true c8
    try have c8b2 : (9223372036854775807 < t218.size + t219.size) = False := eq_false (Nat.not_lt.2 c8)
    obtain ⟨y220, hy220⟩ : ∃ y_ : List Int, y_ = (([(x3_1) % 256] : List Int)) := ⟨_, rfl⟩
    replace H : (if (t218 ++ t219).size + (strOfNums y220).size ≤ 9223372036854775807 then ((fairwayref1_Fixed.f kj1 (a0_2.size : Int) 2).bind fun t223 => (if ((t218 ++ t219) ++ (strOfNums y220)).size + t223.size ≤ 9223372036854775807 then (if (((t218 ++ t219) ++ (strOfNums y220)) ++ t223).size + a0_2.size ≤ 9223372036854775807 then (if ((((t218 ++ t219) ++ (strOfNums y220)) ++ t223) ++ a0_2).size + a0_3.size ≤ 9223372036854775807 then ((fairwayref1_Fixed.f kj1 ((((((t218 ++ t219) ++ (strOfNums y220)) ++ t223) ++ a0_2) ++ a0_3).size : Int) 2).bind fun t224 => (if t224.size + (((((t218 ++ t219) ++ (strOfNums y220)) ++ t223) ++ a0_2) ++ a0_3).size ≤ 9223372036854775807 then ((fairwayref1_Sum.f kj1 0 (t224 ++ (((((t218 ++ t219) ++ (strOfNums y220)) ++ t223) ++ a0_2) ++ a0_3))).bind fun t225 => ((fairwayref1_Fixed.f kj1 (wrap64 (t225)) 4).bind fun t226 => (if t224.size + t226.size ≤ 9223372036854775807 then (if (t224 ++ t226).size + (((((t218 ++ t219) ++ (strOfNums y220)) ++ t223) ++ a0_2) ++ a0_3).size ≤ 9223372036854775807 then (some ((t224 ++ t226) ++ (((((t218 ++ t219) ++ (strOfNums y220)) ++ t223) ++ a0_2) ++ a0_3))) else (none)) else (none)))) else (none))) else (none)) else (none)) else (none))) else (none)) = some r := by first | (rw [hy220]; with_reducible exact H) | (have H2_ := (Option.bind_some _ _).symm.trans H; rw [hy220]; with_reducible exact H2_) | (have H2_ := (Option.bind_some _ _).symm.trans H; with_reducible exact H2_) | with_reducible exact H | (rw [hy220]; exact H) | exact H
    have Ny220 := Aside0.mk hy220
    clear hy220
    by_cases c9 : (t218 ++ t219).size + (strOfNums y220).size ≤ 9223372036854775807
    ·rw [if_pos c9] at H
     have c9b0 := eq_true c9
     have c9b1 : decide ((t218 ++ t219).size + (strOfNums y220).size ≤ 9223372036854775807) = true := decide_eq_true c9
     try have c9b2 : (9223372036854775807 < (t218 ++ t219).size + (strOfNums y220).size) = False := eq_false (Nat.not_lt.2 c9)
     (try (have c9n2 := c9b2; simp only [ByteArray.size_append] at c9n2))
     (try (have c9n1 := c9b1; simp only [ByteArray.size_append] at c9n1))
     replace H := Option.bind_eq_some_iff.mp H
     obtain ⟨t223, A100, H⟩ := H
     try dsimp only at H
     have A10 := Aside0.mk A100
     clear A100
     by_cases c11 : ((t218 ++ t219) ++ (strOfNums y220)).size + t223.size ≤ 9223372036854775807
     ·rw [if_pos c11] at H
      have c11b0 := eq_true c11
      have c11b1 : decide (((t218 ++ t219) ++ (strOfNums y220)).size + t223.size ≤ 9223372036854775807) = true := decide_eq_true c11
      try have c11b2 : (9223372036854775807 < ((t218 ++ t219) ++ (strOfNums y220)).size + t223.size) = False := eq_false (Nat.not_lt.2 c11)
      (try (have c11n2 := c11b2; simp only [ByteArray.size_append] at c11n2))
      (try (have c11n1 := c11b1; simp only [ByteArray.size_append] at c11n1))
      by_cases c12 : (((t218 ++ t219) ++ (strOfNums y220)) ++ t223).size + a0_2.size ≤ 9223372036854775807
      ·rw [if_pos c12] at H
       have c12b0 := eq_true c12
       have c12b1 : decide ((((t218 ++ t219) ++ (strOfNums y220)) ++ t223).size + a0_2.size ≤ 9223372036854775807) = true := decide_eq_true c12
       try have c12b2 : (9223372036854775807 < (((t218 ++ t219) ++ (strOfNums y220)) ++ t223).size + a0_2.size) = False := eq_false (Nat.not_lt.2 c12)
       (try (have c12n2 := c12b2; simp only [ByteArray.size_append] at c12n2))
       (try (have c12n1 := c12b1; simp only [ByteArray.size_append] at c12n1))
       by_cases c13 : ((((t218 ++ t219) ++ (strOfNums y220)) ++ t223) ++ a0_2).size + a0_3.size ≤ 9223372036854775807
       ·rw [if_pos c13] at H
        have c13b0 := eq_true c13
        have c13b1 : decide (((((t218 ++ t219) ++ (strOfNums y220)) ++ t223) ++ a0_2).size + a0_3.size ≤ 9223372036854775807) = true := decide_eq_true c13
        try have c13b2 : (9223372036854775807 < ((((t218 ++ t219) ++ (strOfNums y220)) ++ t223) ++ a0_2).size + a0_3.size) = False := eq_false (Nat.not_lt.2 c13)
        (try (have c13n2 := c13b2; simp only [ByteArray.size_append] at c13n2))
        (try (have c13n1 := c13b1; simp only [ByteArray.size_append] at c13n1))
        replace H := Option.bind_eq_some_iff.mp H
        obtain ⟨t224, A140, H⟩ := H
        try dsimp only at H
        have A14 := Aside0.mk A140
        clear A140
        by_cases c15 : t224.size + (((((t218 ++ t219) ++ (strOfNums y220)) ++ t223) ++ a0_2) ++ a0_3).size ≤ 9223372036854775807
        ·rw [if_pos c15] at H
         have c15b0 := eq_true c15
         have c15b1 : decide (t224.size + (((((t218 ++ t219) ++ (strOfNums y220)) ++ t223) ++ a0_2) ++ a0_3).size ≤ 9223372036854775807) = true := decide_eq_true c15
         try have c15b2 : (9223372036854775807 < t224.size + (((((t218 ++ t219) ++ (strOfNums y220)) ++ t223) ++ a0_2) ++ a0_3).size) = False := eq_false (Nat.not_lt.2 c15)
         (try (have c15n2 := c15b2; simp only [ByteArray.size_append] at c15n2))
         (try (have c15n1 := c15b1; simp only [ByteArray.size_append] at c15n1))
         replace H := Option.bind_eq_some_iff.mp H
         obtain ⟨t225, A160, H⟩ := H
         try dsimp only at H
         have A16 := Aside0.mk A160
         clear A160
         replace H := Option.bind_eq_some_iff.mp H
         obtain ⟨t226, A170, H⟩ := H
         try dsimp only at H
         have A17 := Aside0.mk A170
         clear A170
         by_cases c18 : t224.size + t226.size ≤ 9223372036854775807
         ·rw [if_pos c18] at H
          have c18b0 := eq_true c18
          have c18b1 : decide (t224.size + t226.size ≤ 9223372036854775807) = true := decide_eq_true c18
          try have c18b2 : (9223372036854775807 < t224.size + t226.size) = False := eq_false (Nat.not_lt.2 c18)
          by_cases c19 : (t224 ++ t226).size + (((((t218 ++ t219) ++ (strOfNums y220)) ++ t223) ++ a0_2) ++ a0_3).size ≤ 9223372036854775807
          ·rw [if_pos c19] at H
           have c19b0 := eq_true c19
           have c19b1 : decide ((t224 ++ t226).size + (((((t218 ++ t219) ++ (strOfNums y220)) ++ t223) ++ a0_2) ++ a0_3).size ≤ 9223372036854775807) = true := decide_eq_true c19
           try have c19b2 : (9223372036854775807 < (t224 ++ t226).size + (((((t218 ++ t219) ++ (strOfNums y220)) ++ t223) ++ a0_2) ++ a0_3).size) = False := eq_false (Nat.not_lt.2 c19)
           (try (have c19n2 := c19b2; simp only [ByteArray.size_append] at c19n2))
           (try (have c19n1 := c19b1; simp only [ByteArray.size_append] at c19n1))
           obtain rfl := Option.some.inj H
           try go_wp2
           replace BK217 := Aside0.mk (blk_drew BK217.out)
           replace HB := Aside0.mk (below_drew1 HB.out)
           refine start_ (n := 24) (S := fun w' => w'.cell? ⟨gb217, 0, none⟩ = some (.int .i64 a0_0) ∧ w'.cell? ⟨gb217, 1, none⟩ = some (.int .i64 a0_1) ∧ w'.cell? ⟨gb217, 2, none⟩ = some (.string a0_2) ∧ w'.cell? ⟨gb217, 3, none⟩ = some (.string a0_3) ∧ w'.cell? ⟨gb217, 4, none⟩ = some (.int .i64 a0_4) ∧ w'.cell? ⟨gb217, 5, none⟩ = some (.bool a0_5)) (ds := []) #[O,O,O,O,O,O,O,O,O,O,O,O,O,O,O,O,O,O,O,O,O,O,O,O] (by kernel_rfl) rfl rfl ⟨(blk_cell BK217.out 0).trans rfl, (blk_cell BK217.out 1).trans rfl, (blk_cell BK217.out 2).trans rfl, (blk_cell BK217.out 3).trans rfl, (blk_cell BK217.out 4).trans rfl, (blk_cell BK217.out 5).trans rfl⟩ (fun hHeld => ?_); refine with_tabW fairwayref10_Bytes.tab4 fairwayref10_Bytes.bits4 (fun HT_ HW_ => ?_)
           generalize wc.drew = w20 at BK217 HB hHeld ⊢
           refine pz (i := 0) (N := some 12) #[I,O,O,O,O,O,O,O,O,O,O,O,O,O,O,O,O,O,O,O,O,O,O,O] ?_
           refine pz (i := 3) (N := some 15) #[I,O,O,I,O,O,O,O,O,O,O,O,O,O,O,O,O,O,O,O,O,O,O,O] ?_
           refine pz (i := 7) (N := some 19) #[I,O,O,I,O,O,O,I,O,O,O,O,O,O,O,O,O,O,O,O,O,O,O,O] ?_
           refine pz (i := 8) (N := some 20) #[I,O,O,I,O,O,O,I,I,O,O,O,O,O,O,O,O,O,O,O,O,O,O,O] ?_
           refine pz (i := 12) (N := some 24) #[I,O,O,I,O,O,O,I,I,O,O,O,I,O,O,O,O,O,O,O,O,O,O,O] ?_
           refine pz (i := 17) (N := some 29) #[I,O,O,I,O,O,O,I,I,O,O,O,I,O,O,O,O,I,O,O,O,O,O,O] ?_
           refine pz (i := 20) (N := some 32) #[I,O,O,I,O,O,O,I,I,O,O,O,I,O,O,O,O,I,O,O,I,O,O,O] ?_
           refine tz (i := 1) (N := some 13) #[I,I,O,I,O,O,O,I,I,O,O,O,I,O,O,O,O,I,O,O,I,O,O,O] ?_
           refine tz (i := 4) (N := some 16) #[I,I,O,I,I,O,O,I,I,O,O,O,I,O,O,O,O,I,O,O,I,O,O,O] ?_
           refine tz (i := 13) (N := some 25) #[I,I,O,I,I,O,O,I,I,O,O,O,I,I,O,O,O,I,O,O,I,O,O,O] ?_
           refine pz (i := 14) (N := some 26) #[I,I,O,I,I,O,O,I,I,O,O,O,I,I,I,O,O,I,O,O,I,O,O,O] ?_
           refine tz (i := 18) (N := some 30) #[I,I,O,I,I,O,O,I,I,O,O,O,I,I,I,O,O,I,I,O,I,O,O,O] ?_
           refine tz (i := 21) (N := some 33) #[I,I,O,I,I,O,O,I,I,O,O,O,I,I,I,O,O,I,I,O,I,I,O,O] ?_
           refine join_ (σ := Value) 4 #[I,I,I,I,I,I,I,I,I,I,I,I,I,I,I,I,O,I,I,O,I,I,O,O] (fun s_ => [(14, .string t218), (17, .string t219), (21, s_), (22, .string (strOfNums y220)), (27, .string t223), (18, .string (t218 ++ t219)), (23, .string ((t218 ++ t219) ++ (strOfNums y220)))]) (fun s_ w' => (w'.cell? ⟨gb217, 0, none⟩ = some (.int .i64 a0_0) ∧ w'.cell? ⟨gb217, 1, none⟩ = some (.int .i64 a0_1) ∧ w'.cell? ⟨gb217, 2, none⟩ = some (.string a0_2) ∧ w'.cell? ⟨gb217, 3, none⟩ = some (.string a0_3) ∧ w'.cell? ⟨gb217, 4, none⟩ = some (.int .i64 a0_4) ∧ w'.cell? ⟨gb217, 5, none⟩ = some (.bool a0_5)) ∧ (Kd.R (Kd.int .u8) 5 w' w.heap.size (fun _ => True) s_ y220) ∧ (w'.heap[gb217]? = some (.cells #[.int .i64 a0_0, .int .i64 a0_1, .string a0_2, .string a0_3, .int .i64 a0_4, .bool a0_5] 25 (0, 0))) ∧ (Below w.heap.size w w')) ?_ ?_
           rotate_left
           ·intro hJ2_5_9_10_15
            refine join_ (σ := Value) 5 #[I,I,I,I,I,I,I,I,I,I,I,I,I,I,I,O,O,I,I,O,I,I,O,O] (fun s_ => [(14, .string t218), (17, .string t219), (21, s_), (22, .string (strOfNums y220)), (18, .string (t218 ++ t219)), (23, .string ((t218 ++ t219) ++ (strOfNums y220)))]) (fun s_ w' => (w'.cell? ⟨gb217, 0, none⟩ = some (.int .i64 a0_0) ∧ w'.cell? ⟨gb217, 1, none⟩ = some (.int .i64 a0_1) ∧ w'.cell? ⟨gb217, 2, none⟩ = some (.string a0_2) ∧ w'.cell? ⟨gb217, 3, none⟩ = some (.string a0_3) ∧ w'.cell? ⟨gb217, 4, none⟩ = some (.int .i64 a0_4) ∧ w'.cell? ⟨gb217, 5, none⟩ = some (.bool a0_5)) ∧ (Kd.R (Kd.int .u8) 5 w' w.heap.size (fun _ => True) s_ y220) ∧ (w'.heap[gb217]? = some (.cells #[.int .i64 a0_0, .int .i64 a0_1, .string a0_2, .string a0_3, .int .i64 a0_4, .bool a0_5] 25 (0, 0))) ∧ (Below w.heap.size w w')) ?_ ?_
            rotate_left
            ·intro hJ2_5_9_10
             refine join_ (σ := Value) 6 #[I,I,I,I,I,I,I,I,I,I,O,O,I,I,I,I,O,I,I,O,I,I,O,O] (fun s_ => [(14, .string t218), (17, .string t219), (21, s_), (27, .string t223), (18, .string (t218 ++ t219))]) (fun s_ w' => (w'.cell? ⟨gb217, 0, none⟩ = some (.int .i64 a0_0) ∧ w'.cell? ⟨gb217, 1, none⟩ = some (.int .i64 a0_1) ∧ w'.cell? ⟨gb217, 2, none⟩ = some (.string a0_2) ∧ w'.cell? ⟨gb217, 3, none⟩ = some (.string a0_3) ∧ w'.cell? ⟨gb217, 4, none⟩ = some (.int .i64 a0_4) ∧ w'.cell? ⟨gb217, 5, none⟩ = some (.bool a0_5)) ∧ (Kd.R (Kd.int .u8) 5 w' w.heap.size (fun _ => True) s_ y220) ∧ (w'.heap[gb217]? = some (.cells #[.int .i64 a0_0, .int .i64 a0_1, .string a0_2, .string a0_3, .int .i64 a0_4, .bool a0_5] 25 (0, 0))) ∧ (Below w.heap.size w w')) ?_ ?_
             rotate_left
             ·intro hJ2_5_9_15
              refine join_ (σ := Value) 7 #[I,I,I,I,I,I,I,I,I,I,O,O,I,I,I,O,O,I,I,O,I,I,O,O] (fun s_ => [(14, .string t218), (17, .string t219), (21, s_), (18, .string (t218 ++ t219))]) (fun s_ w' => (w'.cell? ⟨gb217, 0, none⟩ = some (.int .i64 a0_0) ∧ w'.cell? ⟨gb217, 1, none⟩ = some (.int .i64 a0_1) ∧ w'.cell? ⟨gb217, 2, none⟩ = some (.string a0_2) ∧ w'.cell? ⟨gb217, 3, none⟩ = some (.string a0_3) ∧ w'.cell? ⟨gb217, 4, none⟩ = some (.int .i64 a0_4) ∧ w'.cell? ⟨gb217, 5, none⟩ = some (.bool a0_5)) ∧ (Kd.R (Kd.int .u8) 5 w' w.heap.size (fun _ => True) s_ y220) ∧ (w'.heap[gb217]? = some (.cells #[.int .i64 a0_0, .int .i64 a0_1, .string a0_2, .string a0_3, .int .i64 a0_4, .bool a0_5] 25 (0, 0))) ∧ (Below w.heap.size w w')) ?_ ?_
              rotate_left
              ·intro hJ2_5_9
               refine join_ (σ := Unit) 7 #[I,I,I,I,I,I,I,I,I,O,O,O,I,I,I,I,O,I,I,O,I,I,O,O] (fun s_ => [(14, .string t218), (17, .string t219), (27, .string t223), (18, .string (t218 ++ t219))]) (fun s_ w' => (w'.cell? ⟨gb217, 0, none⟩ = some (.int .i64 a0_0) ∧ w'.cell? ⟨gb217, 1, none⟩ = some (.int .i64 a0_1) ∧ w'.cell? ⟨gb217, 2, none⟩ = some (.string a0_2) ∧ w'.cell? ⟨gb217, 3, none⟩ = some (.string a0_3) ∧ w'.cell? ⟨gb217, 4, none⟩ = some (.int .i64 a0_4) ∧ w'.cell? ⟨gb217, 5, none⟩ = some (.bool a0_5)) ∧ (w'.heap[gb217]? = some (.cells #[.int .i64 a0_0, .int .i64 a0_1, .string a0_2, .string a0_3, .int .i64 a0_4, .bool a0_5] 25 (0, 0))) ∧ (Below w.heap.size w w')) ?_ ?_
               rotate_left
               ·intro hJ2_5_15
                refine join_ (σ := Value) 8 #[I,I,I,I,I,O,O,I,I,I,I,O,I,I,I,O,O,I,I,O,I,I,O,O] (fun s_ => [(14, .string t218), (21, s_), (22, .string (strOfNums y220))]) (fun s_ w' => (w'.cell? ⟨gb217, 0, none⟩ = some (.int .i64 a0_0) ∧ w'.cell? ⟨gb217, 1, none⟩ = some (.int .i64 a0_1) ∧ w'.cell? ⟨gb217, 2, none⟩ = some (.string a0_2) ∧ w'.cell? ⟨gb217, 3, none⟩ = some (.string a0_3) ∧ w'.cell? ⟨gb217, 4, none⟩ = some (.int .i64 a0_4) ∧ w'.cell? ⟨gb217, 5, none⟩ = some (.bool a0_5)) ∧ (Kd.R (Kd.int .u8) 5 w' w.heap.size (fun _ => True) s_ y220) ∧ (w'.heap[gb217]? = some (.cells #[.int .i64 a0_0, .int .i64 a0_1, .string a0_2, .string a0_3, .int .i64 a0_4, .bool a0_5] 25 (0, 0))) ∧ (Below w.heap.size w w')) ?_ ?_
                rotate_left
                ·intro hJ2_9_10
                 refine join_ (σ := Unit) 8 #[I,I,I,I,I,I,I,I,I,O,O,O,I,I,I,O,O,I,I,O,I,I,O,O] (fun s_ => [(14, .string t218), (17, .string t219), (18, .string (t218 ++ t219))]) (fun s_ w' => (w'.cell? ⟨gb217, 0, none⟩ = some (.int .i64 a0_0) ∧ w'.cell? ⟨gb217, 1, none⟩ = some (.int .i64 a0_1) ∧ w'.cell? ⟨gb217, 2, none⟩ = some (.string a0_2) ∧ w'.cell? ⟨gb217, 3, none⟩ = some (.string a0_3) ∧ w'.cell? ⟨gb217, 4, none⟩ = some (.int .i64 a0_4) ∧ w'.cell? ⟨gb217, 5, none⟩ = some (.bool a0_5)) ∧ (w'.heap[gb217]? = some (.cells #[.int .i64 a0_0, .int .i64 a0_1, .string a0_2, .string a0_3, .int .i64 a0_4, .bool a0_5] 25 (0, 0))) ∧ (Below w.heap.size w w')) ?_ ?_
                 rotate_left
                 ·intro hJ2_5
                  refine join_ (σ := Value) 9 #[I,I,I,I,I,O,O,I,I,I,O,O,I,I,I,O,O,I,I,O,I,I,O,O] (fun s_ => [(14, .string t218), (21, s_)]) (fun s_ w' => (w'.cell? ⟨gb217, 0, none⟩ = some (.int .i64 a0_0) ∧ w'.cell? ⟨gb217, 1, none⟩ = some (.int .i64 a0_1) ∧ w'.cell? ⟨gb217, 2, none⟩ = some (.string a0_2) ∧ w'.cell? ⟨gb217, 3, none⟩ = some (.string a0_3) ∧ w'.cell? ⟨gb217, 4, none⟩ = some (.int .i64 a0_4) ∧ w'.cell? ⟨gb217, 5, none⟩ = some (.bool a0_5)) ∧ (Kd.R (Kd.int .u8) 5 w' w.heap.size (fun _ => True) s_ y220) ∧ (w'.heap[gb217]? = some (.cells #[.int .i64 a0_0, .int .i64 a0_1, .string a0_2, .string a0_3, .int .i64 a0_4, .bool a0_5] 25 (0, 0))) ∧ (Below w.heap.size w w')) ?_ ?_
                  rotate_left
                  ·intro hJ2_9
                   refine join_ (σ := Value) 9 #[I,I,O,I,I,O,O,I,I,I,I,O,I,I,I,O,O,I,I,O,I,I,O,O] (fun s_ => [(21, s_), (22, .string (strOfNums y220))]) (fun s_ w' => (w'.cell? ⟨gb217, 0, none⟩ = some (.int .i64 a0_0) ∧ w'.cell? ⟨gb217, 1, none⟩ = some (.int .i64 a0_1) ∧ w'.cell? ⟨gb217, 2, none⟩ = some (.string a0_2) ∧ w'.cell? ⟨gb217, 3, none⟩ = some (.string a0_3) ∧ w'.cell? ⟨gb217, 4, none⟩ = some (.int .i64 a0_4) ∧ w'.cell? ⟨gb217, 5, none⟩ = some (.bool a0_5)) ∧ (Kd.R (Kd.int .u8) 5 w' w.heap.size (fun _ => True) s_ y220) ∧ (w'.heap[gb217]? = some (.cells #[.int .i64 a0_0, .int .i64 a0_1, .string a0_2, .string a0_3, .int .i64 a0_4, .bool a0_5] 25 (0, 0))) ∧ (Below w.heap.size w w')) ?_ ?_
                   rotate_left
                   ·intro hJ9_10
                    refine join_ (σ := Unit) 10 #[I,I,I,I,I,O,O,I,I,O,O,O,I,I,I,O,O,I,I,O,I,I,O,O] (fun s_ => [(14, .string t218)]) (fun s_ w' => (w'.cell? ⟨gb217, 0, none⟩ = some (.int .i64 a0_0) ∧ w'.cell? ⟨gb217, 1, none⟩ = some (.int .i64 a0_1) ∧ w'.cell? ⟨gb217, 2, none⟩ = some (.string a0_2) ∧ w'.cell? ⟨gb217, 3, none⟩ = some (.string a0_3) ∧ w'.cell? ⟨gb217, 4, none⟩ = some (.int .i64 a0_4) ∧ w'.cell? ⟨gb217, 5, none⟩ = some (.bool a0_5)) ∧ (w'.heap[gb217]? = some (.cells #[.int .i64 a0_0, .int .i64 a0_1, .string a0_2, .string a0_3, .int .i64 a0_4, .bool a0_5] 25 (0, 0))) ∧ (Below w.heap.size w w')) ?_ ?_
                    rotate_left
                    ·intro hJ2
                     refine join_ (σ := Value) 10 #[I,I,O,I,I,O,O,I,I,I,O,O,I,I,I,O,O,I,I,O,I,I,O,O] (fun s_ => [(21, s_)]) (fun s_ w' => (w'.cell? ⟨gb217, 0, none⟩ = some (.int .i64 a0_0) ∧ w'.cell? ⟨gb217, 1, none⟩ = some (.int .i64 a0_1) ∧ w'.cell? ⟨gb217, 2, none⟩ = some (.string a0_2) ∧ w'.cell? ⟨gb217, 3, none⟩ = some (.string a0_3) ∧ w'.cell? ⟨gb217, 4, none⟩ = some (.int .i64 a0_4) ∧ w'.cell? ⟨gb217, 5, none⟩ = some (.bool a0_5)) ∧ (Kd.R (Kd.int .u8) 5 w' w.heap.size (fun _ => True) s_ y220) ∧ (w'.heap[gb217]? = some (.cells #[.int .i64 a0_0, .int .i64 a0_1, .string a0_2, .string a0_3, .int .i64 a0_4, .bool a0_5] 25 (0, 0))) ∧ (Below w.heap.size w w')) ?_ ?_
                     rotate_left
                     ·intro hJ9
                      refine two_ (i := 2) (j := 9) (Ni := some 14) (Nj := some 21) #[I,I,I,I,I,O,O,I,I,O,O,O,I,I,I,O,O,I,I,O,I,I,O,O] #[I,I,O,I,I,O,O,I,I,I,O,O,I,I,I,O,O,I,I,O,I,I,O,O] rfl rfl rfl rfl (two_of HT_.out (by kernel_rfl)) (by decide) (by decide) (fun K hK => ?_) (fun K hK => ?_)
                      ·skip
                       refine goes_ Try.func69 (by kernel_rfl) rfl #[.int .i64 a0_0, .int .i64 8] (by rfl) rfl rfl aa ?_
                       with_reducible refine (fairwayref1_Fixed.calls kj1 a0_0 8 t218 _ A6.out).mono ?_
                       rintro e w21 ⟨rfl, hb⟩
                       refine ⟨_, rfl, ?_⟩
                       replace BK217 := Aside0.mk (bb BK217.out hb)
                       replace HB := Aside0.mk (below_step bo hb)
                       (try clear hb)
                       (try clear hb2)
                       (try clear hk)
                       (try clear hi)
                       refine hK.out _ _ ⟨(blk_cell BK217.out 0).trans rfl, (blk_cell BK217.out 1).trans rfl, (blk_cell BK217.out 2).trans rfl, (blk_cell BK217.out 3).trans rfl, (blk_cell BK217.out 4).trans rfl, (blk_cell BK217.out 5).trans rfl⟩ (fun hHeld => ?_)
                       clear hK K
                       refine norm_ (a' := ?_) ?_ ?_
                       rotate_left
                       ·show Act.put _ (some 14) _ = _
                        simp only [Act.put, List.setIfInBounds_toArray, List.set_cons_zero, List.set_cons_succ, i64_w, i32_w]
                        rfl
                       exact norm_ (by first | (simp only [putAll, Act.put, List.setIfInBounds_toArray, List.set_cons_zero, List.set_cons_succ]; done) | (simp only [putAll, Act.put, List.setIfInBounds_toArray, List.set_cons_zero, List.set_cons_succ]; rfl)) (hJ2 () _ ⟨hHeld, (bk BK217.out), bo⟩)
                      ·skip
                       refine Kd.R_lit_step (Kd.int .u8) _ 5 ?hg (N := 21) ?hd (xs := ([(x3_1) % 256] : List Int)) (inner := [.int .u8 ((x3_1) % 256)]) (ok := fun _ => True) (okp := fun _ => True) ?hr ?hp (fun _ hk => hk) trivial (Below.refl _ _) (Nat.le_refl _) (by simp) ?_; (case hd => rfl); (case hg => rfl); (case hr => first | (go_simp; done) | (go_simp; rfl)); (case hp => exact (Reps.one (show Kd.M (Kd.int .u8) _ _ _ ((x3_1) % 256) [.int .u8 ((x3_1) % 256)] from rfl) (Reps.none _ _)))
                       intro v221 w21 ho22 hb hg_ hnew_
                       clear hg_ hnew_
                       (first | rw [← Ny220.out] at ho22 | (simp only [Int.reduceToNat] at ho22; rw [← Ny220.out] at ho22))
                       have HO222 := Aside0.mk (Kd.R_lower ho22 (below_size bo))
                       replace BK217 := Aside0.mk (bb BK217.out hb)
                       replace HB := Aside0.mk (below_step bo hb)
                       clear hb ho22
                       refine hK.out _ _ ⟨(blk_cell BK217.out 0).trans rfl, (blk_cell BK217.out 1).trans rfl, (blk_cell BK217.out 2).trans rfl, (blk_cell BK217.out 3).trans rfl, (blk_cell BK217.out 4).trans rfl, (blk_cell BK217.out 5).trans rfl⟩ (fun hHeld => ?_)
                       clear hK K
                       refine norm_ (a' := ?_) ?_ ?_
                       rotate_left
                       ·show Act.put _ (some 21) _ = _
                        simp only [Act.put, List.setIfInBounds_toArray, List.set_cons_zero, List.set_cons_succ, i64_w, i32_w]
                        rfl
                       exact norm_ (by first | (simp only [putAll, Act.put, List.setIfInBounds_toArray, List.set_cons_zero, List.set_cons_succ]; done) | (simp only [putAll, Act.put, List.setIfInBounds_toArray, List.set_cons_zero, List.set_cons_succ]; rfl)) (hJ9 (v221) _ ⟨hHeld, (rk HO222.out), (bk BK217.out), bo⟩)
                     ·skip
                      rintro v221 w23 ⟨hS_, h0_, h1_, h2_⟩
                      have n0_ : Aside0 (Kd.R (Kd.int .u8) 5 w23 w.heap.size (fun _ => True) v221 y220) := ⟨h0_⟩
                      have n1_ : Aside0 (w23.heap[gb217]? = some (.cells #[.int .i64 a0_0, .int .i64 a0_1, .string a0_2, .string a0_3, .int .i64 a0_4, .bool a0_5] 25 (0, 0))) := ⟨h1_⟩
                      have n2_ : Aside0 (Below w.heap.size w w23) := ⟨h2_⟩
                      clear BK217
                      clear HB
                      clear h0_ h1_ h2_
                      have HO222 := n0_
                      have BK217 := n1_
                      have HB := n2_
                      clear n0_ n1_ n2_
                      have hHeld : w23.cell? ⟨gb217, 0, none⟩ = some (.int .i64 a0_0) ∧ w23.cell? ⟨gb217, 1, none⟩ = some (.int .i64 a0_1) ∧ w23.cell? ⟨gb217, 2, none⟩ = some (.string a0_2) ∧ w23.cell? ⟨gb217, 3, none⟩ = some (.string a0_3) ∧ w23.cell? ⟨gb217, 4, none⟩ = some (.int .i64 a0_4) ∧ w23.cell? ⟨gb217, 5, none⟩ = some (.bool a0_5) := hS_
                      refine norm_ (a' := ?_) ?_ ?_
                      rotate_left
                      ·simp only [putAll, Act.put, List.setIfInBounds_toArray, List.set_cons_zero, List.set_cons_succ]
                       rfl
                      refine two_ (i := 2) (j := 10) (Ni := some 14) (Nj := some 22) #[I,I,I,I,I,O,O,I,I,I,O,O,I,I,I,O,O,I,I,O,I,I,O,O] #[I,I,O,I,I,O,O,I,I,I,I,O,I,I,I,O,O,I,I,O,I,I,O,O] rfl rfl rfl rfl (two_of HT_.out (by kernel_rfl)) (by decide) (by decide) (fun K hK => ?_) (fun K hK => ?_)
                      ·skip
                       refine goes_ Try.func69 (by kernel_rfl) rfl #[.int .i64 a0_0, .int .i64 8] (by rfl) rfl rfl aa ?_
                       with_reducible refine (fairwayref1_Fixed.calls kj1 a0_0 8 t218 _ A6.out).mono ?_
                       rintro e w24 ⟨rfl, hb⟩
                       refine ⟨_, rfl, ?_⟩
                       replace HO222 := Aside0.mk (Kd.R_below (rk HO222.out) hb)
                       replace BK217 := Aside0.mk (bb BK217.out hb)
                       replace HB := Aside0.mk (below_step bo hb)
                       (try clear hb)
                       (try clear hb2)
                       (try clear hk)
                       (try clear hi)
                       refine hK.out _ _ ⟨(blk_cell BK217.out 0).trans rfl, (blk_cell BK217.out 1).trans rfl, (blk_cell BK217.out 2).trans rfl, (blk_cell BK217.out 3).trans rfl, (blk_cell BK217.out 4).trans rfl, (blk_cell BK217.out 5).trans rfl⟩ (fun hHeld => ?_)
                       clear hK K
                       refine norm_ (a' := ?_) ?_ ?_
                       rotate_left
                       ·show Act.put _ (some 14) _ = _
                        simp only [Act.put, List.setIfInBounds_toArray, List.set_cons_zero, List.set_cons_succ, i64_w, i32_w]
                        rfl
                       exact norm_ (by first | (simp only [putAll, Act.put, List.setIfInBounds_toArray, List.set_cons_zero, List.set_cons_succ]; done) | (simp only [putAll, Act.put, List.setIfInBounds_toArray, List.set_cons_zero, List.set_cons_succ]; rfl)) (hJ2_9 (v221) _ ⟨hHeld, (rk HO222.out), (bk BK217.out), bo⟩)
                      ·skip
                       have hcv24 := own_string (P := Try.prog) Try.underlying23 Try.underlying5 Try.underlying9 (Kd.own_of_R HO222.out)
                       refine value_ (w1 := ?_) (v := ?_) (by rfl) rfl ?_ ?_
                       rotate_left 2
                       ·go_simp
                        constructor
                        ·rfl
                        ·rfl
                       clear hcv24
                       refine hK.out _ _ ⟨(blk_cell BK217.out 0).trans rfl, (blk_cell BK217.out 1).trans rfl, (blk_cell BK217.out 2).trans rfl, (blk_cell BK217.out 3).trans rfl, (blk_cell BK217.out 4).trans rfl, (blk_cell BK217.out 5).trans rfl⟩ (fun hHeld => ?_)
                       clear hK K
                       refine norm_ (a' := ?_) ?_ ?_
                       rotate_left
                       ·show Act.put _ (some 22) _ = _
                        simp only [Act.put, List.setIfInBounds_toArray, List.set_cons_zero, List.set_cons_succ, i64_w, i32_w]
                        rfl
                       exact norm_ (by first | (simp only [putAll, Act.put, List.setIfInBounds_toArray, List.set_cons_zero, List.set_cons_succ]; done) | (simp only [putAll, Act.put, List.setIfInBounds_toArray, List.set_cons_zero, List.set_cons_succ]; rfl)) (hJ9_10 (v221) _ ⟨hHeld, (rk HO222.out), (bk BK217.out), bo⟩)
                    ·skip
                     rintro _ w22 ⟨hS_, h0_, h1_⟩
                     have n0_ : Aside0 (w22.heap[gb217]? = some (.cells #[.int .i64 a0_0, .int .i64 a0_1, .string a0_2, .string a0_3, .int .i64 a0_4, .bool a0_5] 25 (0, 0))) := ⟨h0_⟩
                     have n1_ : Aside0 (Below w.heap.size w w22) := ⟨h1_⟩
                     clear BK217
                     clear HB
                     clear h0_ h1_
                     have BK217 := n0_
                     have HB := n1_
                     clear n0_ n1_
                     have hHeld : w22.cell? ⟨gb217, 0, none⟩ = some (.int .i64 a0_0) ∧ w22.cell? ⟨gb217, 1, none⟩ = some (.int .i64 a0_1) ∧ w22.cell? ⟨gb217, 2, none⟩ = some (.string a0_2) ∧ w22.cell? ⟨gb217, 3, none⟩ = some (.string a0_3) ∧ w22.cell? ⟨gb217, 4, none⟩ = some (.int .i64 a0_4) ∧ w22.cell? ⟨gb217, 5, none⟩ = some (.bool a0_5) := hS_
                     refine norm_ (a' := ?_) ?_ ?_
                     rotate_left
                     ·simp only [putAll, Act.put, List.setIfInBounds_toArray, List.set_cons_zero, List.set_cons_succ]
                      rfl
                     refine two_ (i := 5) (j := 9) (Ni := some 17) (Nj := some 21) #[I,I,I,I,I,I,O,I,I,O,O,O,I,I,I,O,O,I,I,O,I,I,O,O] #[I,I,I,I,I,O,O,I,I,I,O,O,I,I,I,O,O,I,I,O,I,I,O,O] rfl rfl rfl rfl (two_of HT_.out (by kernel_rfl)) (by decide) (by decide) (fun K hK => ?_) (fun K hK => ?_)
                     ·skip
                      refine goes_ Try.func69 (by kernel_rfl) rfl #[.int .i64 a0_1, .int .i64 8] (by rfl) rfl rfl aa ?_
                      with_reducible refine (fairwayref1_Fixed.calls kj1 a0_1 8 t219 _ A7.out).mono ?_
                      rintro e w23 ⟨rfl, hb⟩
                      refine ⟨_, rfl, ?_⟩
                      replace BK217 := Aside0.mk (bb BK217.out hb)
                      replace HB := Aside0.mk (below_step bo hb)
                      (try clear hb)
                      (try clear hb2)
                      (try clear hk)
                      (try clear hi)
                      refine hK.out _ _ ⟨(blk_cell BK217.out 0).trans rfl, (blk_cell BK217.out 1).trans rfl, (blk_cell BK217.out 2).trans rfl, (blk_cell BK217.out 3).trans rfl, (blk_cell BK217.out 4).trans rfl, (blk_cell BK217.out 5).trans rfl⟩ (fun hHeld => ?_)
                      clear hK K
                      refine norm_ (a' := ?_) ?_ ?_
                      rotate_left
                      ·show Act.put _ (some 17) _ = _
                       simp only [Act.put, List.setIfInBounds_toArray, List.set_cons_zero, List.set_cons_succ, i64_w, i32_w]
                       rfl
                      refine pz (i := 6) (N := some 18) #[I,I,I,I,I,I,I,I,I,O,O,O,I,I,I,O,O,I,I,O,I,I,O,O] ?_
                      exact norm_ (by first | (simp only [putAll, Act.put, List.setIfInBounds_toArray, List.set_cons_zero, List.set_cons_succ]; done) | (simp only [putAll, Act.put, List.setIfInBounds_toArray, List.set_cons_zero, List.set_cons_succ]; rfl)) (hJ2_5 () _ ⟨hHeld, (bk BK217.out), bo⟩)
                     ·skip
                      refine Kd.R_lit_step (Kd.int .u8) _ 5 ?hg (N := 21) ?hd (xs := ([(x3_1) % 256] : List Int)) (inner := [.int .u8 ((x3_1) % 256)]) (ok := fun _ => True) (okp := fun _ => True) ?hr ?hp (fun _ hk => hk) trivial (Below.refl _ _) (Nat.le_refl _) (by simp) ?_; (case hd => rfl); (case hg => rfl); (case hr => first | (go_simp; done) | (go_simp; rfl)); (case hp => exact (Reps.one (show Kd.M (Kd.int .u8) _ _ _ ((x3_1) % 256) [.int .u8 ((x3_1) % 256)] from rfl) (Reps.none _ _)))
                      intro v221 w23 ho24 hb hg_ hnew_
                      clear hg_ hnew_
                      (first | rw [← Ny220.out] at ho24 | (simp only [Int.reduceToNat] at ho24; rw [← Ny220.out] at ho24))
                      have HO222 := Aside0.mk (Kd.R_lower ho24 (below_size bo))
                      replace BK217 := Aside0.mk (bb BK217.out hb)
                      replace HB := Aside0.mk (below_step bo hb)
                      clear hb ho24
                      refine hK.out _ _ ⟨(blk_cell BK217.out 0).trans rfl, (blk_cell BK217.out 1).trans rfl, (blk_cell BK217.out 2).trans rfl, (blk_cell BK217.out 3).trans rfl, (blk_cell BK217.out 4).trans rfl, (blk_cell BK217.out 5).trans rfl⟩ (fun hHeld => ?_)
                      clear hK K
                      refine norm_ (a' := ?_) ?_ ?_
                      rotate_left
                      ·show Act.put _ (some 21) _ = _
                       simp only [Act.put, List.setIfInBounds_toArray, List.set_cons_zero, List.set_cons_succ, i64_w, i32_w]
                       rfl
                      exact norm_ (by first | (simp only [putAll, Act.put, List.setIfInBounds_toArray, List.set_cons_zero, List.set_cons_succ]; done) | (simp only [putAll, Act.put, List.setIfInBounds_toArray, List.set_cons_zero, List.set_cons_succ]; rfl)) (hJ2_9 (v221) _ ⟨hHeld, (rk HO222.out), (bk BK217.out), bo⟩)
                   ·skip
                    rintro v221 w24 ⟨hS_, h0_, h1_, h2_⟩
                    have n0_ : Aside0 (Kd.R (Kd.int .u8) 5 w24 w.heap.size (fun _ => True) v221 y220) := ⟨h0_⟩
                    have n1_ : Aside0 (w24.heap[gb217]? = some (.cells #[.int .i64 a0_0, .int .i64 a0_1, .string a0_2, .string a0_3, .int .i64 a0_4, .bool a0_5] 25 (0, 0))) := ⟨h1_⟩
                    have n2_ : Aside0 (Below w.heap.size w w24) := ⟨h2_⟩
                    clear BK217
                    clear HB
                    clear h0_ h1_ h2_
                    have HO222 := n0_
                    have BK217 := n1_
                    have HB := n2_
                    clear n0_ n1_ n2_
                    have hHeld : w24.cell? ⟨gb217, 0, none⟩ = some (.int .i64 a0_0) ∧ w24.cell? ⟨gb217, 1, none⟩ = some (.int .i64 a0_1) ∧ w24.cell? ⟨gb217, 2, none⟩ = some (.string a0_2) ∧ w24.cell? ⟨gb217, 3, none⟩ = some (.string a0_3) ∧ w24.cell? ⟨gb217, 4, none⟩ = some (.int .i64 a0_4) ∧ w24.cell? ⟨gb217, 5, none⟩ = some (.bool a0_5) := hS_
                    refine norm_ (a' := ?_) ?_ ?_
                    rotate_left
                    ·simp only [putAll, Act.put, List.setIfInBounds_toArray, List.set_cons_zero, List.set_cons_succ]
                     rfl
                    refine one_ (i := 2) (N := some 14) #[I,I,I,I,I,O,O,I,I,I,I,O,I,I,I,O,O,I,I,O,I,I,O,O] rfl rfl (one_of HT_.out (by kernel_rfl)) (by decide) (fun K hK => ?_)
                    refine goes_ Try.func69 (by kernel_rfl) rfl #[.int .i64 a0_0, .int .i64 8] (by rfl) rfl rfl aa ?_
                    with_reducible refine (fairwayref1_Fixed.calls kj1 a0_0 8 t218 _ A6.out).mono ?_
                    rintro e w25 ⟨rfl, hb⟩
                    refine ⟨_, rfl, ?_⟩
                    replace HO222 := Aside0.mk (Kd.R_below (rk HO222.out) hb)
                    replace BK217 := Aside0.mk (bb BK217.out hb)
                    replace HB := Aside0.mk (below_step bo hb)
                    (try clear hb)
                    (try clear hb2)
                    (try clear hk)
                    (try clear hi)
                    refine hK.out _ _ ⟨(blk_cell BK217.out 0).trans rfl, (blk_cell BK217.out 1).trans rfl, (blk_cell BK217.out 2).trans rfl, (blk_cell BK217.out 3).trans rfl, (blk_cell BK217.out 4).trans rfl, (blk_cell BK217.out 5).trans rfl⟩ (fun hHeld => ?_)
                    clear hK K
                    refine norm_ (a' := ?_) ?_ ?_
                    rotate_left
                    ·show Act.put _ (some 14) _ = _
                     simp only [Act.put, List.setIfInBounds_toArray, List.set_cons_zero, List.set_cons_succ, i64_w, i32_w]
                     rfl
                    exact norm_ (by first | (simp only [putAll, Act.put, List.setIfInBounds_toArray, List.set_cons_zero, List.set_cons_succ]; done) | (simp only [putAll, Act.put, List.setIfInBounds_toArray, List.set_cons_zero, List.set_cons_succ]; rfl)) (hJ2_9_10 (v221) _ ⟨hHeld, (rk HO222.out), (bk BK217.out), bo⟩)
                  ·skip
                   rintro v221 w24 ⟨hS_, h0_, h1_, h2_⟩
                   have n0_ : Aside0 (Kd.R (Kd.int .u8) 5 w24 w.heap.size (fun _ => True) v221 y220) := ⟨h0_⟩
                   have n1_ : Aside0 (w24.heap[gb217]? = some (.cells #[.int .i64 a0_0, .int .i64 a0_1, .string a0_2, .string a0_3, .int .i64 a0_4, .bool a0_5] 25 (0, 0))) := ⟨h1_⟩
                   have n2_ : Aside0 (Below w.heap.size w w24) := ⟨h2_⟩
                   clear BK217
                   clear HB
                   clear h0_ h1_ h2_
                   have HO222 := n0_
                   have BK217 := n1_
                   have HB := n2_
                   clear n0_ n1_ n2_
                   have hHeld : w24.cell? ⟨gb217, 0, none⟩ = some (.int .i64 a0_0) ∧ w24.cell? ⟨gb217, 1, none⟩ = some (.int .i64 a0_1) ∧ w24.cell? ⟨gb217, 2, none⟩ = some (.string a0_2) ∧ w24.cell? ⟨gb217, 3, none⟩ = some (.string a0_3) ∧ w24.cell? ⟨gb217, 4, none⟩ = some (.int .i64 a0_4) ∧ w24.cell? ⟨gb217, 5, none⟩ = some (.bool a0_5) := hS_
                   refine norm_ (a' := ?_) ?_ ?_
                   rotate_left
                   ·simp only [putAll, Act.put, List.setIfInBounds_toArray, List.set_cons_zero, List.set_cons_succ]
                    rfl
                   refine two_ (i := 5) (j := 10) (Ni := some 17) (Nj := some 22) #[I,I,I,I,I,I,O,I,I,I,O,O,I,I,I,O,O,I,I,O,I,I,O,O] #[I,I,I,I,I,O,O,I,I,I,I,O,I,I,I,O,O,I,I,O,I,I,O,O] rfl rfl rfl rfl (two_of HT_.out (by kernel_rfl)) (by decide) (by decide) (fun K hK => ?_) (fun K hK => ?_)
                   ·skip
                    refine goes_ Try.func69 (by kernel_rfl) rfl #[.int .i64 a0_1, .int .i64 8] (by rfl) rfl rfl aa ?_
                    with_reducible refine (fairwayref1_Fixed.calls kj1 a0_1 8 t219 _ A7.out).mono ?_
                    rintro e w25 ⟨rfl, hb⟩
                    refine ⟨_, rfl, ?_⟩
                    replace HO222 := Aside0.mk (Kd.R_below (rk HO222.out) hb)
                    replace BK217 := Aside0.mk (bb BK217.out hb)
                    replace HB := Aside0.mk (below_step bo hb)
                    (try clear hb)
                    (try clear hb2)
                    (try clear hk)
                    (try clear hi)
                    refine hK.out _ _ ⟨(blk_cell BK217.out 0).trans rfl, (blk_cell BK217.out 1).trans rfl, (blk_cell BK217.out 2).trans rfl, (blk_cell BK217.out 3).trans rfl, (blk_cell BK217.out 4).trans rfl, (blk_cell BK217.out 5).trans rfl⟩ (fun hHeld => ?_)
                    clear hK K
                    refine norm_ (a' := ?_) ?_ ?_
                    rotate_left
                    ·show Act.put _ (some 17) _ = _
                     simp only [Act.put, List.setIfInBounds_toArray, List.set_cons_zero, List.set_cons_succ, i64_w, i32_w]
                     rfl
                    refine pz (i := 6) (N := some 18) #[I,I,I,I,I,I,I,I,I,I,O,O,I,I,I,O,O,I,I,O,I,I,O,O] ?_
                    exact norm_ (by first | (simp only [putAll, Act.put, List.setIfInBounds_toArray, List.set_cons_zero, List.set_cons_succ]; done) | (simp only [putAll, Act.put, List.setIfInBounds_toArray, List.set_cons_zero, List.set_cons_succ]; rfl)) (hJ2_5_9 (v221) _ ⟨hHeld, (rk HO222.out), (bk BK217.out), bo⟩)
                   ·skip
                    have hcv25 := own_string (P := Try.prog) Try.underlying23 Try.underlying5 Try.underlying9 (Kd.own_of_R HO222.out)
                    refine value_ (w1 := ?_) (v := ?_) (by rfl) rfl ?_ ?_
                    rotate_left 2
                    ·go_simp
                     constructor
                     ·rfl
                     ·rfl
                    clear hcv25
                    refine hK.out _ _ ⟨(blk_cell BK217.out 0).trans rfl, (blk_cell BK217.out 1).trans rfl, (blk_cell BK217.out 2).trans rfl, (blk_cell BK217.out 3).trans rfl, (blk_cell BK217.out 4).trans rfl, (blk_cell BK217.out 5).trans rfl⟩ (fun hHeld => ?_)
                    clear hK K
                    refine norm_ (a' := ?_) ?_ ?_
                    rotate_left
                    ·show Act.put _ (some 22) _ = _
                     simp only [Act.put, List.setIfInBounds_toArray, List.set_cons_zero, List.set_cons_succ, i64_w, i32_w]
                     rfl
                    exact norm_ (by first | (simp only [putAll, Act.put, List.setIfInBounds_toArray, List.set_cons_zero, List.set_cons_succ]; done) | (simp only [putAll, Act.put, List.setIfInBounds_toArray, List.set_cons_zero, List.set_cons_succ]; rfl)) (hJ2_9_10 (v221) _ ⟨hHeld, (rk HO222.out), (bk BK217.out), bo⟩)
                 ·skip
                  rintro _ w23 ⟨hS_, h0_, h1_⟩
                  have n0_ : Aside0 (w23.heap[gb217]? = some (.cells #[.int .i64 a0_0, .int .i64 a0_1, .string a0_2, .string a0_3, .int .i64 a0_4, .bool a0_5] 25 (0, 0))) := ⟨h0_⟩
                  have n1_ : Aside0 (Below w.heap.size w w23) := ⟨h1_⟩
                  clear BK217
                  clear HB
                  clear h0_ h1_
                  have BK217 := n0_
                  have HB := n1_
                  clear n0_ n1_
                  have hHeld : w23.cell? ⟨gb217, 0, none⟩ = some (.int .i64 a0_0) ∧ w23.cell? ⟨gb217, 1, none⟩ = some (.int .i64 a0_1) ∧ w23.cell? ⟨gb217, 2, none⟩ = some (.string a0_2) ∧ w23.cell? ⟨gb217, 3, none⟩ = some (.string a0_3) ∧ w23.cell? ⟨gb217, 4, none⟩ = some (.int .i64 a0_4) ∧ w23.cell? ⟨gb217, 5, none⟩ = some (.bool a0_5) := hS_
                  refine norm_ (a' := ?_) ?_ ?_
                  rotate_left
                  ·simp only [putAll, Act.put, List.setIfInBounds_toArray, List.set_cons_zero, List.set_cons_succ]
                   rfl
                  refine two_ (i := 9) (j := 15) (Ni := some 21) (Nj := some 27) #[I,I,I,I,I,I,I,I,I,I,O,O,I,I,I,O,O,I,I,O,I,I,O,O] #[I,I,I,I,I,I,I,I,I,O,O,O,I,I,I,I,O,I,I,O,I,I,O,O] rfl rfl rfl rfl (two_of HT_.out (by kernel_rfl)) (by decide) (by decide) (fun K hK => ?_) (fun K hK => ?_)
                  ·skip
                   refine Kd.R_lit_step (Kd.int .u8) _ 5 ?hg (N := 21) ?hd (xs := ([(x3_1) % 256] : List Int)) (inner := [.int .u8 ((x3_1) % 256)]) (ok := fun _ => True) (okp := fun _ => True) ?hr ?hp (fun _ hk => hk) trivial (Below.refl _ _) (Nat.le_refl _) (by simp) ?_; (case hd => rfl); (case hg => rfl); (case hr => first | (go_simp; done) | (go_simp; rfl)); (case hp => exact (Reps.one (show Kd.M (Kd.int .u8) _ _ _ ((x3_1) % 256) [.int .u8 ((x3_1) % 256)] from rfl) (Reps.none _ _)))
                   intro v221 w24 ho25 hb hg_ hnew_
                   clear hg_ hnew_
                   (first | rw [← Ny220.out] at ho25 | (simp only [Int.reduceToNat] at ho25; rw [← Ny220.out] at ho25))
                   have HO222 := Aside0.mk (Kd.R_lower ho25 (below_size bo))
                   replace BK217 := Aside0.mk (bb BK217.out hb)
                   replace HB := Aside0.mk (below_step bo hb)
                   clear hb ho25
                   refine hK.out _ _ ⟨(blk_cell BK217.out 0).trans rfl, (blk_cell BK217.out 1).trans rfl, (blk_cell BK217.out 2).trans rfl, (blk_cell BK217.out 3).trans rfl, (blk_cell BK217.out 4).trans rfl, (blk_cell BK217.out 5).trans rfl⟩ (fun hHeld => ?_)
                   clear hK K
                   refine norm_ (a' := ?_) ?_ ?_
                   rotate_left
                   ·show Act.put _ (some 21) _ = _
                    simp only [Act.put, List.setIfInBounds_toArray, List.set_cons_zero, List.set_cons_succ, i64_w, i32_w]
                    rfl
                   exact norm_ (by first | (simp only [putAll, Act.put, List.setIfInBounds_toArray, List.set_cons_zero, List.set_cons_succ]; done) | (simp only [putAll, Act.put, List.setIfInBounds_toArray, List.set_cons_zero, List.set_cons_succ]; rfl)) (hJ2_5_9 (v221) _ ⟨hHeld, (rk HO222.out), (bk BK217.out), bo⟩)
                  ·skip
                   refine goes_ Try.func69 (by kernel_rfl) rfl #[.int .i64 (a0_2.size : Int), .int .i64 2] (by rfl) rfl rfl aa ?_
                   with_reducible refine (fairwayref1_Fixed.calls kj1 (a0_2.size : Int) 2 t223 _ A10.out).mono ?_
                   rintro e w24 ⟨rfl, hb⟩
                   refine ⟨_, rfl, ?_⟩
                   replace BK217 := Aside0.mk (bb BK217.out hb)
                   replace HB := Aside0.mk (below_step bo hb)
                   (try clear hb)
                   (try clear hb2)
                   (try clear hk)
                   (try clear hi)
                   refine hK.out _ _ ⟨(blk_cell BK217.out 0).trans rfl, (blk_cell BK217.out 1).trans rfl, (blk_cell BK217.out 2).trans rfl, (blk_cell BK217.out 3).trans rfl, (blk_cell BK217.out 4).trans rfl, (blk_cell BK217.out 5).trans rfl⟩ (fun hHeld => ?_)
                   clear hK K
                   refine norm_ (a' := ?_) ?_ ?_
                   rotate_left
                   ·show Act.put _ (some 27) _ = _
                    simp only [Act.put, List.setIfInBounds_toArray, List.set_cons_zero, List.set_cons_succ, i64_w, i32_w]
                    rfl
                   exact norm_ (by first | (simp only [putAll, Act.put, List.setIfInBounds_toArray, List.set_cons_zero, List.set_cons_succ]; done) | (simp only [putAll, Act.put, List.setIfInBounds_toArray, List.set_cons_zero, List.set_cons_succ]; rfl)) (hJ2_5_15 () _ ⟨hHeld, (bk BK217.out), bo⟩)
                ·skip
                 rintro v221 w25 ⟨hS_, h0_, h1_, h2_⟩
                 have n0_ : Aside0 (Kd.R (Kd.int .u8) 5 w25 w.heap.size (fun _ => True) v221 y220) := ⟨h0_⟩
                 have n1_ : Aside0 (w25.heap[gb217]? = some (.cells #[.int .i64 a0_0, .int .i64 a0_1, .string a0_2, .string a0_3, .int .i64 a0_4, .bool a0_5] 25 (0, 0))) := ⟨h1_⟩
                 have n2_ : Aside0 (Below w.heap.size w w25) := ⟨h2_⟩
                 clear BK217
                 clear HB
                 clear h0_ h1_ h2_
                 have HO222 := n0_
                 have BK217 := n1_
                 have HB := n2_
                 clear n0_ n1_ n2_
                 have hHeld : w25.cell? ⟨gb217, 0, none⟩ = some (.int .i64 a0_0) ∧ w25.cell? ⟨gb217, 1, none⟩ = some (.int .i64 a0_1) ∧ w25.cell? ⟨gb217, 2, none⟩ = some (.string a0_2) ∧ w25.cell? ⟨gb217, 3, none⟩ = some (.string a0_3) ∧ w25.cell? ⟨gb217, 4, none⟩ = some (.int .i64 a0_4) ∧ w25.cell? ⟨gb217, 5, none⟩ = some (.bool a0_5) := hS_
                 refine norm_ (a' := ?_) ?_ ?_
                 rotate_left
                 ·simp only [putAll, Act.put, List.setIfInBounds_toArray, List.set_cons_zero, List.set_cons_succ]
                  rfl
                 refine one_ (i := 5) (N := some 17) #[I,I,I,I,I,I,O,I,I,I,I,O,I,I,I,O,O,I,I,O,I,I,O,O] rfl rfl (one_of HT_.out (by kernel_rfl)) (by decide) (fun K hK => ?_)
                 refine goes_ Try.func69 (by kernel_rfl) rfl #[.int .i64 a0_1, .int .i64 8] (by rfl) rfl rfl aa ?_
                 with_reducible refine (fairwayref1_Fixed.calls kj1 a0_1 8 t219 _ A7.out).mono ?_
                 rintro e w26 ⟨rfl, hb⟩
                 refine ⟨_, rfl, ?_⟩
                 replace HO222 := Aside0.mk (Kd.R_below (rk HO222.out) hb)
                 replace BK217 := Aside0.mk (bb BK217.out hb)
                 replace HB := Aside0.mk (below_step bo hb)
                 (try clear hb)
                 (try clear hb2)
                 (try clear hk)
                 (try clear hi)
                 refine hK.out _ _ ⟨(blk_cell BK217.out 0).trans rfl, (blk_cell BK217.out 1).trans rfl, (blk_cell BK217.out 2).trans rfl, (blk_cell BK217.out 3).trans rfl, (blk_cell BK217.out 4).trans rfl, (blk_cell BK217.out 5).trans rfl⟩ (fun hHeld => ?_)
                 clear hK K
                 refine norm_ (a' := ?_) ?_ ?_
                 rotate_left
                 ·show Act.put _ (some 17) _ = _
                  simp only [Act.put, List.setIfInBounds_toArray, List.set_cons_zero, List.set_cons_succ, i64_w, i32_w]
                  rfl
                 refine pz (i := 6) (N := some 18) #[I,I,I,I,I,I,I,I,I,I,I,O,I,I,I,O,O,I,I,O,I,I,O,O] ?_
                 refine pz (i := 11) (N := some 23) #[I,I,I,I,I,I,I,I,I,I,I,I,I,I,I,O,O,I,I,O,I,I,O,O] ?_
                 exact norm_ (by first | (simp only [putAll, Act.put, List.setIfInBounds_toArray, List.set_cons_zero, List.set_cons_succ]; done) | (simp only [putAll, Act.put, List.setIfInBounds_toArray, List.set_cons_zero, List.set_cons_succ]; rfl)) (hJ2_5_9_10 (v221) _ ⟨hHeld, (rk HO222.out), (bk BK217.out), bo⟩)
               ·skip
                rintro _ w24 ⟨hS_, h0_, h1_⟩
                have n0_ : Aside0 (w24.heap[gb217]? = some (.cells #[.int .i64 a0_0, .int .i64 a0_1, .string a0_2, .string a0_3, .int .i64 a0_4, .bool a0_5] 25 (0, 0))) := ⟨h0_⟩
                have n1_ : Aside0 (Below w.heap.size w w24) := ⟨h1_⟩
                clear BK217
                clear HB
                clear h0_ h1_
                have BK217 := n0_
                have HB := n1_
                clear n0_ n1_
                have hHeld : w24.cell? ⟨gb217, 0, none⟩ = some (.int .i64 a0_0) ∧ w24.cell? ⟨gb217, 1, none⟩ = some (.int .i64 a0_1) ∧ w24.cell? ⟨gb217, 2, none⟩ = some (.string a0_2) ∧ w24.cell? ⟨gb217, 3, none⟩ = some (.string a0_3) ∧ w24.cell? ⟨gb217, 4, none⟩ = some (.int .i64 a0_4) ∧ w24.cell? ⟨gb217, 5, none⟩ = some (.bool a0_5) := hS_
                refine norm_ (a' := ?_) ?_ ?_
                rotate_left
                ·simp only [putAll, Act.put, List.setIfInBounds_toArray, List.set_cons_zero, List.set_cons_succ]
                 rfl
                refine one_ (i := 9) (N := some 21) #[I,I,I,I,I,I,I,I,I,I,O,O,I,I,I,I,O,I,I,O,I,I,O,O] rfl rfl (one_of HT_.out (by kernel_rfl)) (by decide) (fun K hK => ?_)
                refine Kd.R_lit_step (Kd.int .u8) _ 5 ?hg (N := 21) ?hd (xs := ([(x3_1) % 256] : List Int)) (inner := [.int .u8 ((x3_1) % 256)]) (ok := fun _ => True) (okp := fun _ => True) ?hr ?hp (fun _ hk => hk) trivial (Below.refl _ _) (Nat.le_refl _) (by simp) ?_; (case hd => rfl); (case hg => rfl); (case hr => first | (go_simp; done) | (go_simp; rfl)); (case hp => exact (Reps.one (show Kd.M (Kd.int .u8) _ _ _ ((x3_1) % 256) [.int .u8 ((x3_1) % 256)] from rfl) (Reps.none _ _)))
                intro v221 w25 ho26 hb hg_ hnew_
                clear hg_ hnew_
                (first | rw [← Ny220.out] at ho26 | (simp only [Int.reduceToNat] at ho26; rw [← Ny220.out] at ho26))
                have HO222 := Aside0.mk (Kd.R_lower ho26 (below_size bo))
                replace BK217 := Aside0.mk (bb BK217.out hb)
                replace HB := Aside0.mk (below_step bo hb)
                clear hb ho26
                refine hK.out _ _ ⟨(blk_cell BK217.out 0).trans rfl, (blk_cell BK217.out 1).trans rfl, (blk_cell BK217.out 2).trans rfl, (blk_cell BK217.out 3).trans rfl, (blk_cell BK217.out 4).trans rfl, (blk_cell BK217.out 5).trans rfl⟩ (fun hHeld => ?_)
                clear hK K
                refine norm_ (a' := ?_) ?_ ?_
                rotate_left
                ·show Act.put _ (some 21) _ = _
                 simp only [Act.put, List.setIfInBounds_toArray, List.set_cons_zero, List.set_cons_succ, i64_w, i32_w]
                 rfl
                exact norm_ (by first | (simp only [putAll, Act.put, List.setIfInBounds_toArray, List.set_cons_zero, List.set_cons_succ]; done) | (simp only [putAll, Act.put, List.setIfInBounds_toArray, List.set_cons_zero, List.set_cons_succ]; rfl)) (hJ2_5_9_15 (v221) _ ⟨hHeld, (rk HO222.out), (bk BK217.out), bo⟩)
              ·skip
               rintro v221 w25 ⟨hS_, h0_, h1_, h2_⟩
               have n0_ : Aside0 (Kd.R (Kd.int .u8) 5 w25 w.heap.size (fun _ => True) v221 y220) := ⟨h0_⟩
               have n1_ : Aside0 (w25.heap[gb217]? = some (.cells #[.int .i64 a0_0, .int .i64 a0_1, .string a0_2, .string a0_3, .int .i64 a0_4, .bool a0_5] 25 (0, 0))) := ⟨h1_⟩
               have n2_ : Aside0 (Below w.heap.size w w25) := ⟨h2_⟩
               clear BK217
               clear HB
               clear h0_ h1_ h2_
               have HO222 := n0_
               have BK217 := n1_
               have HB := n2_
               clear n0_ n1_ n2_
               have hHeld : w25.cell? ⟨gb217, 0, none⟩ = some (.int .i64 a0_0) ∧ w25.cell? ⟨gb217, 1, none⟩ = some (.int .i64 a0_1) ∧ w25.cell? ⟨gb217, 2, none⟩ = some (.string a0_2) ∧ w25.cell? ⟨gb217, 3, none⟩ = some (.string a0_3) ∧ w25.cell? ⟨gb217, 4, none⟩ = some (.int .i64 a0_4) ∧ w25.cell? ⟨gb217, 5, none⟩ = some (.bool a0_5) := hS_
               refine norm_ (a' := ?_) ?_ ?_
               rotate_left
               ·simp only [putAll, Act.put, List.setIfInBounds_toArray, List.set_cons_zero, List.set_cons_succ]
                rfl
               refine two_ (i := 10) (j := 15) (Ni := some 22) (Nj := some 27) #[I,I,I,I,I,I,I,I,I,I,I,O,I,I,I,O,O,I,I,O,I,I,O,O] #[I,I,I,I,I,I,I,I,I,I,O,O,I,I,I,I,O,I,I,O,I,I,O,O] rfl rfl rfl rfl (two_of HT_.out (by kernel_rfl)) (by decide) (by decide) (fun K hK => ?_) (fun K hK => ?_)
               ·skip
                have hcv26 := own_string (P := Try.prog) Try.underlying23 Try.underlying5 Try.underlying9 (Kd.own_of_R HO222.out)
                refine value_ (w1 := ?_) (v := ?_) (by rfl) rfl ?_ ?_
                rotate_left 2
                ·go_simp
                 constructor
                 ·rfl
                 ·rfl
                clear hcv26
                refine hK.out _ _ ⟨(blk_cell BK217.out 0).trans rfl, (blk_cell BK217.out 1).trans rfl, (blk_cell BK217.out 2).trans rfl, (blk_cell BK217.out 3).trans rfl, (blk_cell BK217.out 4).trans rfl, (blk_cell BK217.out 5).trans rfl⟩ (fun hHeld => ?_)
                clear hK K
                refine norm_ (a' := ?_) ?_ ?_
                rotate_left
                ·show Act.put _ (some 22) _ = _
                 simp only [Act.put, List.setIfInBounds_toArray, List.set_cons_zero, List.set_cons_succ, i64_w, i32_w]
                 rfl
                refine pz (i := 11) (N := some 23) #[I,I,I,I,I,I,I,I,I,I,I,I,I,I,I,O,O,I,I,O,I,I,O,O] ?_
                exact norm_ (by first | (simp only [putAll, Act.put, List.setIfInBounds_toArray, List.set_cons_zero, List.set_cons_succ]; done) | (simp only [putAll, Act.put, List.setIfInBounds_toArray, List.set_cons_zero, List.set_cons_succ]; rfl)) (hJ2_5_9_10 (v221) _ ⟨hHeld, (rk HO222.out), (bk BK217.out), bo⟩)
               ·skip
                refine goes_ Try.func69 (by kernel_rfl) rfl #[.int .i64 (a0_2.size : Int), .int .i64 2] (by rfl) rfl rfl aa ?_
                with_reducible refine (fairwayref1_Fixed.calls kj1 (a0_2.size : Int) 2 t223 _ A10.out).mono ?_
                rintro e w26 ⟨rfl, hb⟩
                refine ⟨_, rfl, ?_⟩
                replace HO222 := Aside0.mk (Kd.R_below (rk HO222.out) hb)
                replace BK217 := Aside0.mk (bb BK217.out hb)
                replace HB := Aside0.mk (below_step bo hb)
                (try clear hb)
                (try clear hb2)
                (try clear hk)
                (try clear hi)
                refine hK.out _ _ ⟨(blk_cell BK217.out 0).trans rfl, (blk_cell BK217.out 1).trans rfl, (blk_cell BK217.out 2).trans rfl, (blk_cell BK217.out 3).trans rfl, (blk_cell BK217.out 4).trans rfl, (blk_cell BK217.out 5).trans rfl⟩ (fun hHeld => ?_)
                clear hK K
                refine norm_ (a' := ?_) ?_ ?_
                rotate_left
                ·show Act.put _ (some 27) _ = _
                 simp only [Act.put, List.setIfInBounds_toArray, List.set_cons_zero, List.set_cons_succ, i64_w, i32_w]
                 rfl
                exact norm_ (by first | (simp only [putAll, Act.put, List.setIfInBounds_toArray, List.set_cons_zero, List.set_cons_succ]; done) | (simp only [putAll, Act.put, List.setIfInBounds_toArray, List.set_cons_zero, List.set_cons_succ]; rfl)) (hJ2_5_9_15 (v221) _ ⟨hHeld, (rk HO222.out), (bk BK217.out), bo⟩)
             ·skip
              rintro v221 w26 ⟨hS_, h0_, h1_, h2_⟩
              have n0_ : Aside0 (Kd.R (Kd.int .u8) 5 w26 w.heap.size (fun _ => True) v221 y220) := ⟨h0_⟩
              have n1_ : Aside0 (w26.heap[gb217]? = some (.cells #[.int .i64 a0_0, .int .i64 a0_1, .string a0_2, .string a0_3, .int .i64 a0_4, .bool a0_5] 25 (0, 0))) := ⟨h1_⟩
              have n2_ : Aside0 (Below w.heap.size w w26) := ⟨h2_⟩
              clear BK217
              clear HB
              clear h0_ h1_ h2_
              have HO222 := n0_
              have BK217 := n1_
              have HB := n2_
              clear n0_ n1_ n2_
              have hHeld : w26.cell? ⟨gb217, 0, none⟩ = some (.int .i64 a0_0) ∧ w26.cell? ⟨gb217, 1, none⟩ = some (.int .i64 a0_1) ∧ w26.cell? ⟨gb217, 2, none⟩ = some (.string a0_2) ∧ w26.cell? ⟨gb217, 3, none⟩ = some (.string a0_3) ∧ w26.cell? ⟨gb217, 4, none⟩ = some (.int .i64 a0_4) ∧ w26.cell? ⟨gb217, 5, none⟩ = some (.bool a0_5) := hS_
              refine norm_ (a' := ?_) ?_ ?_
              rotate_left
              ·simp only [putAll, Act.put, List.setIfInBounds_toArray, List.set_cons_zero, List.set_cons_succ]
               rfl
              refine one_ (i := 10) (N := some 22) #[I,I,I,I,I,I,I,I,I,I,I,O,I,I,I,I,O,I,I,O,I,I,O,O] rfl rfl (one_of HT_.out (by kernel_rfl)) (by decide) (fun K hK => ?_)
              have hcv27 := own_string (P := Try.prog) Try.underlying23 Try.underlying5 Try.underlying9 (Kd.own_of_R HO222.out)
              refine value_ (w1 := ?_) (v := ?_) (by rfl) rfl ?_ ?_
              rotate_left 2
              ·go_simp
               constructor
               ·rfl
               ·rfl
              clear hcv27
              refine hK.out _ _ ⟨(blk_cell BK217.out 0).trans rfl, (blk_cell BK217.out 1).trans rfl, (blk_cell BK217.out 2).trans rfl, (blk_cell BK217.out 3).trans rfl, (blk_cell BK217.out 4).trans rfl, (blk_cell BK217.out 5).trans rfl⟩ (fun hHeld => ?_)
              clear hK K
              refine norm_ (a' := ?_) ?_ ?_
              rotate_left
              ·show Act.put _ (some 22) _ = _
               simp only [Act.put, List.setIfInBounds_toArray, List.set_cons_zero, List.set_cons_succ, i64_w, i32_w]
               rfl
              refine pz (i := 11) (N := some 23) #[I,I,I,I,I,I,I,I,I,I,I,I,I,I,I,I,O,I,I,O,I,I,O,O] ?_
              exact norm_ (by first | (simp only [putAll, Act.put, List.setIfInBounds_toArray, List.set_cons_zero, List.set_cons_succ]; done) | (simp only [putAll, Act.put, List.setIfInBounds_toArray, List.set_cons_zero, List.set_cons_succ]; rfl)) (hJ2_5_9_10_15 (v221) _ ⟨hHeld, (rk HO222.out), (bk BK217.out), bo⟩)
            ·skip
             rintro v221 w26 ⟨hS_, h0_, h1_, h2_⟩
             have n0_ : Aside0 (Kd.R (Kd.int .u8) 5 w26 w.heap.size (fun _ => True) v221 y220) := ⟨h0_⟩
             have n1_ : Aside0 (w26.heap[gb217]? = some (.cells #[.int .i64 a0_0, .int .i64 a0_1, .string a0_2, .string a0_3, .int .i64 a0_4, .bool a0_5] 25 (0, 0))) := ⟨h1_⟩
             have n2_ : Aside0 (Below w.heap.size w w26) := ⟨h2_⟩
             clear BK217
             clear HB
             clear h0_ h1_ h2_
             have HO222 := n0_
             have BK217 := n1_
             have HB := n2_
             clear n0_ n1_ n2_
             have hHeld : w26.cell? ⟨gb217, 0, none⟩ = some (.int .i64 a0_0) ∧ w26.cell? ⟨gb217, 1, none⟩ = some (.int .i64 a0_1) ∧ w26.cell? ⟨gb217, 2, none⟩ = some (.string a0_2) ∧ w26.cell? ⟨gb217, 3, none⟩ = some (.string a0_3) ∧ w26.cell? ⟨gb217, 4, none⟩ = some (.int .i64 a0_4) ∧ w26.cell? ⟨gb217, 5, none⟩ = some (.bool a0_5) := hS_
             refine norm_ (a' := ?_) ?_ ?_
             rotate_left
             ·simp only [putAll, Act.put, List.setIfInBounds_toArray, List.set_cons_zero, List.set_cons_succ]
              rfl
             refine one_ (i := 15) (N := some 27) #[I,I,I,I,I,I,I,I,I,I,I,I,I,I,I,I,O,I,I,O,I,I,O,O] rfl rfl (one_of HT_.out (by kernel_rfl)) (by decide) (fun K hK => ?_)
             refine goes_ Try.func69 (by kernel_rfl) rfl #[.int .i64 (a0_2.size : Int), .int .i64 2] (by rfl) rfl rfl aa ?_
             with_reducible refine (fairwayref1_Fixed.calls kj1 (a0_2.size : Int) 2 t223 _ A10.out).mono ?_
             rintro e w27 ⟨rfl, hb⟩
             refine ⟨_, rfl, ?_⟩
             replace HO222 := Aside0.mk (Kd.R_below (rk HO222.out) hb)
             replace BK217 := Aside0.mk (bb BK217.out hb)
             replace HB := Aside0.mk (below_step bo hb)
             (try clear hb)
             (try clear hb2)
             (try clear hk)
             (try clear hi)
             refine hK.out _ _ ⟨(blk_cell BK217.out 0).trans rfl, (blk_cell BK217.out 1).trans rfl, (blk_cell BK217.out 2).trans rfl, (blk_cell BK217.out 3).trans rfl, (blk_cell BK217.out 4).trans rfl, (blk_cell BK217.out 5).trans rfl⟩ (fun hHeld => ?_)
             clear hK K
             refine norm_ (a' := ?_) ?_ ?_
             rotate_left
             ·show Act.put _ (some 27) _ = _
              simp only [Act.put, List.setIfInBounds_toArray, List.set_cons_zero, List.set_cons_succ, i64_w, i32_w]
              rfl
             exact norm_ (by first | (simp only [putAll, Act.put, List.setIfInBounds_toArray, List.set_cons_zero, List.set_cons_succ]; done) | (simp only [putAll, Act.put, List.setIfInBounds_toArray, List.set_cons_zero, List.set_cons_succ]; rfl)) (hJ2_5_9_10_15 (v221) _ ⟨hHeld, (rk HO222.out), (bk BK217.out), bo⟩)
           rintro v221 w27 ⟨hS_, h0_, h1_, h2_⟩
           have n0_ : Aside0 (Kd.R (Kd.int .u8) 5 w27 w.heap.size (fun _ => True) v221 y220) := ⟨h0_⟩
           have n1_ : Aside0 (w27.heap[gb217]? = some (.cells #[.int .i64 a0_0, .int .i64 a0_1, .string a0_2, .string a0_3, .int .i64 a0_4, .bool a0_5] 25 (0, 0))) := ⟨h1_⟩
           have n2_ : Aside0 (Below w.heap.size w w27) := ⟨h2_⟩
           clear BK217
           clear HB
           clear h0_ h1_ h2_
           have HO222 := n0_
           have BK217 := n1_
           have HB := n2_
           clear n0_ n1_ n2_
           have hHeld : w27.cell? ⟨gb217, 0, none⟩ = some (.int .i64 a0_0) ∧ w27.cell? ⟨gb217, 1, none⟩ = some (.int .i64 a0_1) ∧ w27.cell? ⟨gb217, 2, none⟩ = some (.string a0_2) ∧ w27.cell? ⟨gb217, 3, none⟩ = some (.string a0_3) ∧ w27.cell? ⟨gb217, 4, none⟩ = some (.int .i64 a0_4) ∧ w27.cell? ⟨gb217, 5, none⟩ = some (.bool a0_5) := hS_
           refine norm_ (a' := ?_) ?_ ?_
           rotate_left
           ·simp only [putAll, Act.put, List.setIfInBounds_toArray, List.set_cons_zero, List.set_cons_succ]
            rfl
           refine pz (i := 16) (N := some 28) #[I,I,I,I,I,I,I,I,I,I,I,I,I,I,I,I,I,I,I,O,I,I,O,O] ?_
           refine pz (i := 19) (N := some 31) #[I,I,I,I,I,I,I,I,I,I,I,I,I,I,I,I,I,I,I,I,I,I,O,O] ?_
           refine pz (i := 22) (N := some 34) #[I,I,I,I,I,I,I,I,I,I,I,I,I,I,I,I,I,I,I,I,I,I,I,O] ?_
           refine pz (i := 23) (N := some 4) #[I,I,I,I,I,I,I,I,I,I,I,I,I,I,I,I,I,I,I,I,I,I,I,I] ?_
           refine done_ (done_of HT_.out (by kernel_rfl)) ?_
           try go_wp2_with (first | ((with_reducible refine gate_callee (f := 69) rfl ?_); refine goesL_ (some 37) rfl rfl Try.func69 (by kernel_rfl) rfl #[.int .i64 ((((((t218 ++ t219) ++ (strOfNums y220)) ++ t223) ++ a0_2) ++ a0_3).size : Int), .int .i64 2] rfl aa ?_; (with_reducible refine (fairwayref1_Fixed.calls kj1 ((((((t218 ++ t219) ++ (strOfNums y220)) ++ t223) ++ a0_2) ++ a0_3).size : Int) 2 t224 _ A14.out).mono ?_); rintro e w28 ⟨rfl, hb⟩; refine ⟨_, rfl, ?_⟩; replace HO222 := Aside0.mk (Kd.R_below (rk HO222.out) hb); replace BK217 := Aside0.mk (bb BK217.out hb); replace HB := Aside0.mk (below_step bo hb); (try clear hb); (try clear hb2); (try clear hk); (try clear hi)) | ((with_reducible refine gate_callee (f := 70) rfl ?_); refine goesL_ (some 42) rfl rfl Try.func70 (by kernel_rfl) rfl #[.int .u32 0, .string (t224 ++ (((((t218 ++ t219) ++ (strOfNums y220)) ++ t223) ++ a0_2) ++ a0_3))] rfl aa ?_; (with_reducible refine (fairwayref1_Sum.calls kj1 0 (t224 ++ (((((t218 ++ t219) ++ (strOfNums y220)) ++ t223) ++ a0_2) ++ a0_3)) t225 _ A16.out).mono ?_); rintro e w' ⟨rfl, ⟨nd, rfl⟩⟩; refine ⟨_, rfl, ?_⟩) | ((with_reducible refine gate_callee (f := 69) rfl ?_); refine goesL_ (some 44) rfl rfl Try.func69 (by kernel_rfl) rfl #[.int .i64 (wrap64 (t225)), .int .i64 4] rfl aa ?_; (with_reducible refine (fairwayref1_Fixed.calls kj1 (wrap64 (t225)) 4 t226 _ A17.out).mono ?_); rintro e w29 ⟨rfl, hb⟩; refine ⟨_, rfl, ?_⟩; replace HO222 := Aside0.mk (Kd.R_below (rk HO222.out) hb); replace BK217 := Aside0.mk (bb BK217.out hb); replace HB := Aside0.mk (below_step bo hb); (try clear hb); (try clear hb2); (try clear hk); (try clear hi)))
           go_ret
           exact ⟨er, bo⟩
          ·rw [if_neg c19] at H
           exact absurd H (by simp)
         ·rw [if_neg c18] at H
          exact absurd H (by simp)
        ·rw [if_neg c15] at H
         exact absurd H (by simp)
       ·rw [if_neg c13] at H
        exact absurd H (by simp)
      ·rw [if_neg c12] at H
       exact absurd H (by simp)
     ·rw [if_neg c11] at H
      exact absurd H (by simp)
    ·rw [if_neg c9] at H
     exact absurd H (by simp)
   ·rw [if_neg c8] at H
    exact absurd H (by simp)

end Go.Proofs.Ytmabdfdmccbfnaa.P

/- The check sum of bytes as a run over 32 bits: what sum.Sum and the page's Sum compute, and what the run is worth. -/
namespace Go.Proofs.Ytmabdfdmccbfnaa.USum
open Go Go.RowKit Go.Proofs.YtmabdfdmccbfnaaW.PrintWords Go.Proofs.YtmabdfdmccbfnaaW.PrintLast
set_option linter.unusedVariables false
theorem ofI (a : BitVec 32) : BitVec.ofInt (IntKind.bits .u32) (a.toNat : Int) = a := by
  show BitVec.ofInt 32 _ = a
  rw [BitVec.ofInt_natCast, BitVec.ofNat_toNat, BitVec.setWidth_eq]
theorem wrapI (a : BitVec 32) : IntKind.wrap .u32 (a.toNat : Int) = a.toNat := by
  have := a.isLt
  simp [IntKind.wrap, IntKind.bits, IntKind.signed]
  omega
theorem bits_xor (a b : BitVec 32) : Go.bits .xor .u32 (a.toNat : Int) (b.toNat : Int) = ((a ^^^ b).toNat : Int) := by
  unfold Go.bits
  simp only [ofI]
  exact wrapI _
theorem bits_and (a b : BitVec 32) : Go.bits .and .u32 (a.toNat : Int) (b.toNat : Int) = ((a &&& b).toNat : Int) := by
  unfold Go.bits
  simp only [ofI]
  exact wrapI _
theorem half (a : BitVec 32) : (a.toNat : Int) / (2 : Int) = ((a >>> 1).toNat : Int) := by
  rw [BitVec.toNat_ushiftRight, Nat.shiftRight_eq_div_pow]; rfl
theorem low (a : BitVec 32) : a &&& 1#32 = 0#32 ∨ a &&& 1#32 = 1#32 := by
  have : (a &&& 1#32).toNat = a.toNat % 2 := by simp [BitVec.toNat_and, Nat.and_one_is_mod]
  rcases Nat.mod_two_eq_zero_or_one a.toNat with h | h
  · left; apply BitVec.eq_of_toNat_eq; rw [this, h]; rfl
  · right; apply BitVec.eq_of_toNat_eq; rw [this, h]; rfl
def cstep (s : BitVec 32) : BitVec 32 := if s &&& 1#32 = 1#32 then (s >>> 1) ^^^ 2197175160#32 else s >>> 1
theorem pstep (s : BitVec 32) : Go.bits .xor .u32 ((s.toNat : Int) / 2) (Go.bits .and .u32 2197175160 ((-(Go.bits .and .u32 (s.toNat : Int) 1)) % 4294967296)) = ((cstep s).toNat : Int) := by
  have e1 : (1 : Int) = ((1#32 : BitVec 32).toNat : Int) := rfl
  have e2 : (2197175160 : Int) = ((2197175160#32 : BitVec 32).toNat : Int) := rfl
  have hb : Go.bits .and .u32 (s.toNat : Int) 1 = ((s &&& 1#32).toNat : Int) := bits_and s 1#32
  rw [hb, half]
  unfold cstep
  rcases low s with h | h
  · rw [h, if_neg (by decide)]
    have : Go.bits .and .u32 2197175160 ((-(((0#32 : BitVec 32).toNat : Nat) : Int)) % 4294967296) = ((0#32 : BitVec 32).toNat : Int) := bits_and 2197175160#32 0#32
    rw [this, bits_xor]
    simp
  · rw [h, if_pos rfl]
    have : Go.bits .and .u32 2197175160 ((-(((1#32 : BitVec 32).toNat : Nat) : Int)) % 4294967296) = ((2197175160#32 : BitVec 32).toNat : Int) := bits_and 2197175160#32 4294967295#32
    rw [this, bits_xor]
theorem rstep1 (s : BitVec 32) (h : Go.bits .and .u32 (s.toNat : Int) 1 = 1) : Go.bits .xor .u32 ((s.toNat : Int) / 2) 2197175160 = ((cstep s).toNat : Int) := by
  have hb : Go.bits .and .u32 (s.toNat : Int) 1 = ((s &&& 1#32).toNat : Int) := bits_and s 1#32
  rw [hb] at h
  rw [half, show (2197175160 : Int) = ((2197175160#32 : BitVec 32).toNat : Int) from rfl, bits_xor]
  unfold cstep
  rcases low s with h' | h'
  · rw [h'] at h; exact absurd h (by decide)
  · rw [if_pos h']
theorem rstep0 (s : BitVec 32) (h : ¬ Go.bits .and .u32 (s.toNat : Int) 1 = 1) : (s.toNat : Int) / 2 = ((cstep s).toNat : Int) := by
  have hb : Go.bits .and .u32 (s.toNat : Int) 1 = ((s &&& 1#32).toNat : Int) := bits_and s 1#32
  rw [hb] at h
  rw [half]
  unfold cstep
  rcases low s with h' | h'
  · rw [if_neg (by rw [h']; decide)]
  · rw [h'] at h; exact absurd rfl h

theorem wrap_one {x : Int} (h0 : 0 ≤ x) (h1 : x < 9223372036854775807) : wrap64 (x + 1) = x + 1 := by
  unfold wrap64; omega
def bstep (s : BitVec 32) (b : UInt8) : BitVec 32 := cstep (cstep (cstep (cstep (cstep (cstep (cstep (cstep (s ^^^ BitVec.ofNat 32 b.toNat))))))))
def run (s : BitVec 32) (l : List UInt8) : BitVec 32 := l.foldl bstep s
theorem bt_get (s : ByteArray) (i : Nat) (h : i < s.size) : bt s i = ((s.data.toList[i]'(by simpa using h)).toNat : Int) := by
  have := bt_at s i (by simpa using h)
  rw [← this]; simp; rfl
theorem bt_u32 (b : UInt8) : (b.toNat : Int) % 4294967296 = ((BitVec.ofNat 32 b.toNat).toNat : Int) := by
  have := b.toNat_lt
  rw [BitVec.toNat_ofNat]; omega
theorem not_eq (s : BitVec 32) : Go.bits .xor .u32 4294967295 (s.toNat : Int) = ((~~~s).toNat : Int) := by
  rw [show (4294967295 : Int) = ((4294967295#32 : BitVec 32).toNat : Int) from rfl, bits_xor]
  have : (4294967295#32 : BitVec 32) = BitVec.allOnes 32 := by decide
  rw [this, BitVec.allOnes_xor]
section
open Go.Proofs.Ytmabdfdmccbfnaa.P
/-- The eight rounds over a byte. -/
theorem l1_ev (x1 : ByteArray) (n i : Int) (r : Int) (s : BitVec 32)
    (h : Ev (fun k => sum_Sum.l0 k ((cstep (cstep (cstep (cstep (cstep (cstep (cstep (cstep s)))))))).toNat) x1 n (wrap64 (i + 1))) r) :
    Ev (fun k => sum_Sum.l1 k (s.toNat) x1 n i 0) r := by
  have one : ∀ (j : Int) (s : BitVec 32), 0 ≤ j → j < 8 → Ev (fun k => sum_Sum.l1 k ((cstep s).toNat) x1 n i (j + 1)) r → Ev (fun k => sum_Sum.l1 k (s.toNat) x1 n i j) r := by
    intro j s h0 h1 hh
    refine Ev.step (f := fun k => sum_Sum.l1 k ((cstep s).toNat) x1 n i (j + 1)) (fun k => ?_) hh
    simp only [sum_Sum.l1]
    rw [if_pos (by omega), pstep, wrap_one h0 (by omega)]
  refine one 0 _ (by omega) (by omega) (one 1 _ (by omega) (by omega) (one 2 _ (by omega) (by omega) (one 3 _ (by omega) (by omega) (one 4 _ (by omega) (by omega) (one 5 _ (by omega) (by omega) (one 6 _ (by omega) (by omega) (one 7 _ (by omega) (by omega) ?_)))))))
  refine Ev.step (fun k => ?_) h
  simp only [sum_Sum.l1]
  rw [if_neg (by omega)]
theorem l0_ev (x1 : ByteArray) (hx : x1.size ≤ 140737488351232) : ∀ (d i : Nat) (s : BitVec 32), x1.size = i + d →
    Ev (fun k => sum_Sum.l0 k (s.toNat) x1 (x1.size : Int) i) ((~~~ (run s (x1.data.toList.drop i))).toNat : Int)
  | 0, i, s, h => by
    refine Ev.step (f := fun _ => some _) (fun k => ?_) (Ev.now _)
    simp only [sum_Sum.l0]
    rw [if_neg (by omega), not_eq, List.drop_eq_nil_of_le (by simp; omega)]
    rfl
  | d + 1, i, s, h => by
    have hi : i < x1.size := by omega
    have ih := l0_ev x1 hx d (i + 1) (bstep s (x1.data.toList[i]'(by simpa using hi))) (by omega)
    refine Ev.step (f := fun k => sum_Sum.l1 k ((s ^^^ BitVec.ofNat 32 (x1.data.toList[i]'(by simpa using hi)).toNat).toNat) x1 (x1.size : Int) i 0) (fun k => ?_) (l1_ev x1 _ _ _ _ ?_)
    · simp only [sum_Sum.l0]
      rw [if_pos (by omega), if_pos (by omega), if_pos (by omega), bt_get x1 i hi, bt_u32, bits_xor]
    · rw [wrap_one (by omega) (by omega), List.drop_eq_getElem_cons (by simpa using hi)]
      exact ih
theorem sum_ev (s : BitVec 32) (x1 : ByteArray) (hx : x1.size ≤ 140737488351232) : Ev (fun k => sum_Sum.f k (s.toNat) x1) ((~~~ (run (~~~ s) x1.data.toList)).toNat : Int) := by
  unfold sum_Sum.f
  rw [not_eq]
  exact l0_ev x1 hx x1.size 0 (~~~s) (by omega)
/-- The eight rounds over a byte. -/
theorem rl1_ev (x1 : ByteArray) (i : Int) (r : Int) (s : BitVec 32)
    (h : Ev (fun k => fairwayref1_Sum.l0 k ((cstep (cstep (cstep (cstep (cstep (cstep (cstep (cstep s)))))))).toNat) x1 (wrap64 (i + 1))) r) :
    Ev (fun k => fairwayref1_Sum.l1 k (s.toNat) x1 i 0) r := by
  have one : ∀ (j : Int) (s : BitVec 32), 0 ≤ j → j < 8 → Ev (fun k => fairwayref1_Sum.l1 k ((cstep s).toNat) x1 i (j + 1)) r → Ev (fun k => fairwayref1_Sum.l1 k (s.toNat) x1 i j) r := by
    intro j s h0 h1 hh
    refine Ev.step (f := fun k => fairwayref1_Sum.l1 k ((cstep s).toNat) x1 i (j + 1)) (fun k => ?_) hh
    simp only [fairwayref1_Sum.l1]
    by_cases hb : Go.bits .and .u32 (s.toNat : Int) 1 = 1
    · rw [if_pos (by omega), if_pos hb, rstep1 s hb, wrap_one h0 (by omega)]
    · rw [if_pos (by omega), if_neg hb, rstep0 s hb, wrap_one h0 (by omega)]
  refine one 0 _ (by omega) (by omega) (one 1 _ (by omega) (by omega) (one 2 _ (by omega) (by omega) (one 3 _ (by omega) (by omega) (one 4 _ (by omega) (by omega) (one 5 _ (by omega) (by omega) (one 6 _ (by omega) (by omega) (one 7 _ (by omega) (by omega) ?_)))))))
  refine Ev.step (fun k => ?_) h
  simp only [fairwayref1_Sum.l1]
  rw [if_neg (by omega)]
theorem rl0_ev (x1 : ByteArray) (hx : x1.size ≤ 140737488351232) : ∀ (d i : Nat) (s : BitVec 32), x1.size = i + d →
    Ev (fun k => fairwayref1_Sum.l0 k (s.toNat) x1 i) ((~~~ (run s (x1.data.toList.drop i))).toNat : Int)
  | 0, i, s, h => by
    refine Ev.step (f := fun _ => some _) (fun k => ?_) (Ev.now _)
    simp only [fairwayref1_Sum.l0]
    rw [if_neg (by omega), not_eq, List.drop_eq_nil_of_le (by simp; omega)]
    rfl
  | d + 1, i, s, h => by
    have hi : i < x1.size := by omega
    have ih := rl0_ev x1 hx d (i + 1) (bstep s (x1.data.toList[i]'(by simpa using hi))) (by omega)
    refine Ev.step (f := fun k => fairwayref1_Sum.l1 k ((s ^^^ BitVec.ofNat 32 (x1.data.toList[i]'(by simpa using hi)).toNat).toNat) x1 i 0) (fun k => ?_) (rl1_ev x1 _ _ _ ?_)
    · simp only [fairwayref1_Sum.l0]
      rw [if_pos (by omega), if_pos (by omega), bt_get x1 i hi, bt_u32, bits_xor]
    · rw [wrap_one (by omega) (by omega), List.drop_eq_getElem_cons (by simpa using hi)]
      exact ih
theorem sumref_ev (s : BitVec 32) (x1 : ByteArray) (hx : x1.size ≤ 140737488351232) : Ev (fun k => fairwayref1_Sum.f k (s.toNat) x1) ((~~~ (run (~~~ s) x1.data.toList)).toNat : Int) := by
  unfold fairwayref1_Sum.f
  rw [not_eq]
  exact rl0_ev x1 hx x1.size 0 (~~~s) (by omega)
/-- A number of the kind u32 is a word's. -/
theorem of_wf {n : Int} (h : (Lit.int .u32 n).wf = true) : ∃ s : BitVec 32, n = (s.toNat : Int) := by
  simp [Lit.wf, IntKind.min, IntKind.max, IntKind.signed, IntKind.bits] at h
  refine ⟨BitVec.ofNat 32 n.toNat, ?_⟩
  rw [BitVec.toNat_ofNat]
  omega
end
end Go.Proofs.Ytmabdfdmccbfnaa.USum

/- Records as bytes: what the program puts together is what the page says. -/
namespace Go.Proofs.Ytmabdfdmccbfnaa.UBytes
open Go Go.RowKit Go.Proofs.Ytmabdfdmccbfnaa.P Go.Proofs.Ytmabdfdmccbfnaa.URec Go.Proofs.Ytmabdfdmccbfnaa.USum Go.Proofs.YtmabdfdmccbfnaaW.PrintWords Go.Proofs.YtmabdfdmccbfnaaW.PrintLast Go.Proofs.YtmabdfdmccbfnaaW.PrintMore
set_option linter.unusedVariables false
set_option linter.unusedSimpArgs false

/-- A number's bytes, the highest first. -/
def digits (x : Int) : Nat → List Int
  | 0 => []
  | n + 1 => (x / 2 ^ (8 * n)) % 256 :: digits x n
theorem digits_length (x : Int) : ∀ n, (digits x n).length = n
  | 0 => rfl
  | n + 1 => by simp [digits, digits_length x n]
def fixed (x : Int) (n : Nat) : ByteArray := strOfNums (digits x n)
theorem fixed_size (x : Int) (n : Nat) : (fixed x n).size = n := by rw [fixed, strOfNums_size, digits_length]
theorem shr_in (x : Int) (n : Nat) (h : n ≤ 64) : shr .i64 x (n : Int) = x / 2 ^ n := by
  unfold shr
  have : min (n : Int).toNat (IntKind.bits .i64) = n := by
    have : IntKind.bits .i64 = 64 := rfl
    omega
  rw [this]
theorem wrap8 (n : Nat) (h : n ≤ 8) : wrap64 (8 * (n : Int)) = ((8 * n : Nat) : Int) := by rw [wrap_in (by omega) (by omega)]; omega

theorem fixed_loop (x : Int) : ∀ (n : Nat) (acc : List Int), n ≤ 8 → acc.length + n ≤ 100 → Ev (fun k => fairwayref1_Fixed.l0 k x acc ((n : Int) - 1)) (strOfNums (acc ++ digits x n))
  | 0, acc, _, _ => by
    refine Ev.step (f := fun _ => some _) (fun k => ?_) (Ev.now _)
    simp only [fairwayref1_Fixed.l0]
    rw [if_neg (by omega)]
    simp [digits]
  | n + 1, acc, hn, hl => by
    have ih := fixed_loop x n (acc ++ [(x / 2 ^ (8 * n)) % 256]) (by omega) (by simp; omega)
    refine Ev.step (f := fun k => fairwayref1_Fixed.l0 k x (acc ++ [(x / 2 ^ (8 * n)) % 256]) ((n : Int) - 1)) (fun k => ?_) ?_
    · simp only [fairwayref1_Fixed.l0]
      have e : ((n + 1 : Nat) : Int) - 1 = (n : Int) := by omega
      rw [e, if_pos (by omega), wrap8 n (by omega), if_pos (by omega), if_pos (by omega), shr_in x (8 * n) (by omega), wrap_in (by omega) (by omega)]
    · simpa [digits] using ih
theorem fixed_ev (x : Int) (n : Nat) (h : n ≤ 8) : Ev (fun k => fairwayref1_Fixed.f k x n) (fixed x n) := by
  unfold fairwayref1_Fixed.f
  rw [wrap_in (by omega) (by omega)]
  simpa [fixed] using fixed_loop x n [] h (by simp; omega)

theorem set_row (m : Nat) (D : List Int) (v : Int) : ((List.replicate (m + 1) (0 : Int)) ++ D).set m v = List.replicate m 0 ++ (v :: D) := by
  rw [List.replicate_succ', List.append_assoc, List.set_append_right _ _ (by simp)]
  simp
theorem high_loop (x : Int) (wd : Nat) (hw : wd ≤ 8) : ∀ (d i : Nat), wd = i + d → Ev (fun k => vbi_high.l0 k x wd (List.replicate d 0 ++ digits x i) wd i) (fixed x wd, 0)
  | 0, i, h => by
    obtain rfl : wd = i := by omega
    refine Ev.step (f := fun _ => some _) (fun k => ?_) (Ev.now _)
    simp only [vbi_high.l0]
    rw [if_neg (by omega)]
    simp [fixed]
  | d + 1, i, h => by
    have ih := high_loop x wd hw d (i + 1) (by omega)
    refine Ev.step (f := fun k => vbi_high.l0 k x wd (List.replicate d 0 ++ digits x (i + 1)) wd ((i + 1 : Nat) : Int)) (fun k => ?_) ih
    simp only [vbi_high.l0]
    have e : wrap64 (wrap64 ((wd : Int) - 1) - (i : Int)) = ((d : Nat) : Int) := by rw [wrap_in (x := (wd : Int) - 1) (by omega) (by omega), wrap_in (by omega) (by omega)]; omega
    rw [if_pos (by omega), wrap8 i (by omega), if_pos (by omega), e, if_pos (by omega), if_pos (by simp [digits_length]; omega), shr_in x (8 * i) (by omega), wrap_in (by omega) (by omega), Int.toNat_natCast, set_row]
    rfl
theorem high_ev (x : Int) (wd : Nat) (hw : wd ≤ 8) (h0 : 0 ≤ x) (h1 : x / 2 ^ (8 * wd) = 0) : Ev (fun k => vbi_high.f k x wd) (fixed x wd, 0) := by
  have hl := high_loop x wd hw wd 0 (by omega)
  refine Ev.step (f := fun k => vbi_high.l0 k x wd (List.replicate wd 0) (wd : Int) 0) (fun k => ?_) (by simpa [digits] using hl)
  simp only [vbi_high.f, vbi_high.j0]
  rw [if_neg (by omega), wrap8 wd hw, if_pos (by omega), shr_in x (8 * wd) (by omega), h1, if_neg (by decide), if_pos (by omega), if_pos (by omega)]
  simp
theorem two_ev (x : Int) (h0 : 0 ≤ x) (h1 : x < 65536) : Ev (fun k => vbi_Two.f k x) (fixed x 2, 0) :=
  Ev.bind (g := fun k => vbi_high.f k x 2) (f := fun _ b => some (b.1, b.2)) (high_ev x 2 (by omega) h0 (by show x / 65536 = 0; omega)) (Ev.now _)
theorem four_ev (x : Int) (h0 : 0 ≤ x) (h1 : x < 4294967296) : Ev (fun k => vbi_Four.f k x) (fixed x 4, 0) :=
  Ev.bind (g := fun k => vbi_high.f k x 4) (f := fun _ b => some (b.1, b.2)) (high_ev x 4 (by omega) h0 (by show x / 4294967296 = 0; omega)) (Ev.now _)

theorem strOfNums_append (a b : List Int) : strOfNums (a ++ b) = strOfNums a ++ strOfNums b := by
  apply ByteArray.ext
  simp [strOfNums, ByteArray.data_append]
theorem low32 (x : Int) (h0 : 0 ≤ x) (h1 : x < 9223372036854775808) : Go.bits .and .i64 x 4294967295 = x % 4294967296 :=
  bits_mask .i64 63 (by decide) (fun n h0 h1 => by rw [IntKind.wrap_i64]; omega) 32 (by decide) x h0 h1
theorem digits8 (x : Int) (h0 : 0 ≤ x) : digits x 8 = digits (x / 4294967296) 4 ++ digits (x % 4294967296) 4 := by
  simp only [digits, List.cons_append, List.nil_append, List.cons.injEq, and_true]
  refine ⟨?_, ?_, ?_, ?_, ?_, ?_, ?_, ?_⟩ <;> omega
theorem eight_ev (x : Int) (h0 : 0 ≤ x) (h1 : x < 9223372036854775808) : Ev (fun k => rec_eight.f k x) (fixed x 8) := by
  refine Ev.bind (f := fun k b => (vbi_Four.f k (Go.bits .and .i64 x 4294967295)).bind fun c => (if b.1.size + c.1.size ≤ 9223372036854775807 then (some (b.1 ++ c.1)) else none)) (four_ev (x / 4294967296) (by omega) (by omega)) ?_
  rw [low32 x h0 h1]
  refine Ev.bind (f := fun k c => (if (fixed (x / 4294967296) 4).size + c.1.size ≤ 9223372036854775807 then (some ((fixed (x / 4294967296) 4) ++ c.1)) else none)) (four_ev (x % 4294967296) (by omega) (by omega)) ?_
  refine Ev.congr (f := fun _ => some _) (fun k => ?_) (Ev.now _)
  rw [if_pos (by simp [fixed_size])]
  rw [fixed, fixed, fixed, ← strOfNums_append, ← digits8 x h0]

/-- A record's first byte behind its numbers. -/
def flagOf (r : R) : Int := if r.f5 = true then r.f4 + 4 else r.f4
def bodyOf (r : R) : ByteArray := ((((fixed r.f0 8 ++ fixed r.f1 8) ++ strOfNums [flagOf r]) ++ fixed (r.f2.size : Int) 2) ++ r.f2) ++ r.f3
def headOf (r : R) : ByteArray := fixed ((bodyOf r).size : Int) 2
def sumOf (h b : ByteArray) : Int := ((~~~ (run (~~~ (0#32)) (h ++ b).data.toList)).toNat : Int)
/-- A record's bytes, by the page. -/
def recBytes (r : R) : ByteArray := (headOf r ++ fixed (sumOf (headOf r) (bodyOf r)) 4) ++ bodyOf r
theorem bodyOf_size (r : R) : (bodyOf r).size = 19 + r.f2.size + r.f3.size := by
  simp only [bodyOf, ByteArray.size_append, fixed_size, strOfNums_size, List.length_singleton]
theorem recBytes_size (r : R) : (recBytes r).size = recLen r := by
  simp only [recBytes, headOf, ByteArray.size_append, fixed_size, bodyOf_size, recLen]; omega
theorem sumOf_in (h b : ByteArray) : 0 ≤ sumOf h b ∧ sumOf h b < 4294967296 := by
  unfold sumOf
  have := (~~~ (run (~~~ (0#32)) (h ++ b).data.toList)).isLt
  omega

theorem ref_tail (r : R) (hr : recOk r) : Ev (fun k => fairwayref10_Bytes.j0 k (flagOf r) r.f0 r.f1 r.f2 r.f3 r.f4 r.f5) (recBytes r) := by
  obtain ⟨h0, h1, h2, h3, h4, h5, h6, h7, h8⟩ := hr
  have hb := bodyOf_size r
  have hf : 0 ≤ flagOf r ∧ flagOf r ≤ 6 := by unfold flagOf; split <;> omega
  have hs := sumOf_in (headOf r) (bodyOf r)
  have hh : (headOf r).size = 2 := fixed_size _ _
  refine Ev.step (fun k => by rw [fairwayref10_Bytes.j0]) ?_
  refine Ev.bind (fixed_ev r.f0 8 (by omega)) ?_
  refine Ev.bind (fixed_ev r.f1 8 (by omega)) ?_
  refine Ev.congr (fun k => if_pos (by simp [fixed_size])) ?_
  refine Ev.bind (Ev.now _) ?_
  rw [show flagOf r % 256 = flagOf r by omega]
  refine Ev.congr (fun k => if_pos (by simp [fixed_size, strOfNums_size])) ?_
  refine Ev.bind (fixed_ev (r.f2.size : Int) 2 (by omega)) ?_
  refine Ev.congr (fun k => if_pos (by simp [fixed_size, strOfNums_size])) ?_
  refine Ev.congr (fun k => if_pos (by simp [fixed_size, strOfNums_size]; omega)) ?_
  refine Ev.congr (fun k => if_pos (by simp [fixed_size, strOfNums_size]; omega)) ?_
  show Ev (fun k => (fairwayref1_Fixed.f k ((bodyOf r).size : Int) (2 : Nat)).bind fun t224 => (if t224.size + (bodyOf r).size ≤ 9223372036854775807 then ((fairwayref1_Sum.f k 0 (t224 ++ bodyOf r)).bind fun t225 => ((fairwayref1_Fixed.f k (wrap64 (t225)) (4 : Nat)).bind fun t226 => (if t224.size + t226.size ≤ 9223372036854775807 then (if (t224 ++ t226).size + (bodyOf r).size ≤ 9223372036854775807 then (some ((t224 ++ t226) ++ bodyOf r)) else (none)) else (none)))) else (none))) (recBytes r)
  refine Ev.bind (fixed_ev ((bodyOf r).size : Int) 2 (by omega)) ?_
  refine Ev.congr (fun k => if_pos (by rw [fixed_size]; omega)) ?_
  refine Ev.bind (sumref_ev 0#32 (headOf r ++ bodyOf r) (by rw [ByteArray.size_append]; omega)) ?_
  have hw : wrap64 ((~~~ (run (~~~ (0#32)) (headOf r ++ bodyOf r).data.toList)).toNat : Int) = sumOf (headOf r) (bodyOf r) := by
    rw [wrap_in (by have := hs; unfold sumOf at this; omega) (by have := hs; unfold sumOf at this; omega)]; rfl
  rw [hw]
  refine Ev.bind (fixed_ev (sumOf (headOf r) (bodyOf r)) 4 (by omega)) ?_
  refine Ev.congr (fun k => if_pos (by rw [fixed_size, fixed_size]; omega)) ?_
  refine Ev.congr (fun k => if_pos (by rw [ByteArray.size_append, fixed_size, fixed_size]; omega)) ?_
  exact Ev.now _
theorem refbytes_ev (r : R) (hr : recOk r) : Ev (fun k => fairwayref10_Bytes.f k r.f0 r.f1 r.f2 r.f3 r.f4 r.f5) (recBytes r) := by
  have ht := ref_tail r hr
  obtain ⟨h0, h1, h2, h3, h4, h5, h6, h7, h8⟩ := hr
  refine Ev.congr (fun k => ?_) ht
  unfold fairwayref10_Bytes.f flagOf
  split
  · rw [wrap_in (by omega) (by omega)]
  · rfl

theorem run_append (s : BitVec 32) (a b : List UInt8) : run s (a ++ b) = run (run s a) b := by simp [run]
theorem flag_u8 (r : R) (hr : recOk r) : (if r.f5 = true then Go.bits .or .u8 (r.f4 % 256) 4 else r.f4 % 256) = flagOf r := by
  obtain ⟨h0, h1, h2, h3, h4, h5, h6, h7, h8⟩ := hr
  have : r.f4 = 0 ∨ r.f4 = 1 ∨ r.f4 = 2 := by omega
  unfold flagOf
  rcases this with h | h | h <;> rw [h] <;> split <;> first | rfl | decide
theorem prog_tail (r : R) (hr : recOk r) : Ev (fun k => rec_Bytes.j0 k (flagOf r) r.f0 r.f1 r.f2 r.f3 r.f4 r.f5) (recBytes r, 0) := by
  obtain ⟨h0, h1, h2, h3, h4, h5, h6, h7, h8⟩ := hr
  have hb := bodyOf_size r
  have hs := sumOf_in (headOf r) (bodyOf r)
  have hh : (headOf r).size = 2 := fixed_size _ _
  refine Ev.step (fun k => by rw [rec_Bytes.j0]) ?_
  refine Ev.bind (two_ev (r.f2.size : Int) (by omega) (by omega)) ?_
  refine Ev.bind (eight_ev r.f0 (by omega) (by omega)) ?_
  refine Ev.bind (eight_ev r.f1 (by omega) (by omega)) ?_
  refine Ev.congr (fun k => if_pos (by simp [fixed_size])) ?_
  refine Ev.bind (Ev.now _) ?_
  refine Ev.congr (fun k => if_pos (by simp [fixed_size, strOfNums_size])) ?_
  refine Ev.congr (fun k => if_pos (by simp [fixed_size, strOfNums_size])) ?_
  refine Ev.congr (fun k => if_pos (by simp [fixed_size, strOfNums_size]; omega)) ?_
  refine Ev.congr (fun k => if_pos (by simp [fixed_size, strOfNums_size]; omega)) ?_
  show Ev (fun k => (vbi_Two.f k ((bodyOf r).size : Int)).bind fun b => ((sum_Sum.f k 0 b.1).bind fun t => ((sum_Sum.f k t (bodyOf r)).bind fun t2 => ((vbi_Four.f k (wrap64 t2)).bind fun c => (if b.1.size + c.1.size ≤ 9223372036854775807 then (if (b.1 ++ c.1).size + (bodyOf r).size ≤ 9223372036854775807 then (some ((b.1 ++ c.1) ++ bodyOf r, (0 : Int))) else none) else none))))) (recBytes r, 0)
  refine Ev.bind (two_ev ((bodyOf r).size : Int) (by omega) (by omega)) ?_
  refine Ev.bind (sum_ev 0#32 (headOf r) (by omega)) ?_
  refine Ev.bind (sum_ev (~~~ (run (~~~ (0#32)) (headOf r).data.toList)) (bodyOf r) (by omega)) ?_
  have hw : wrap64 ((~~~ (run (~~~ ~~~ (run (~~~ (0#32)) (headOf r).data.toList)) (bodyOf r).data.toList)).toNat : Int) = sumOf (headOf r) (bodyOf r) := by
    rw [BitVec.not_not, ← run_append]
    have e : (headOf r).data.toList ++ (bodyOf r).data.toList = (headOf r ++ bodyOf r).data.toList := by simp [ByteArray.data_append]
    rw [e]
    rw [wrap_in (by have := hs; unfold sumOf at this; omega) (by have := hs; unfold sumOf at this; omega)]; rfl
  rw [hw]
  refine Ev.bind (four_ev (sumOf (headOf r) (bodyOf r)) hs.1 hs.2) ?_
  refine Ev.congr (fun k => if_pos (by rw [fixed_size, fixed_size]; omega)) ?_
  refine Ev.congr (fun k => if_pos (by rw [ByteArray.size_append, fixed_size, fixed_size]; omega)) ?_
  exact Ev.now _
theorem bytes_yes (r : R) (hr : recOk r) : Ev (fun k => rec_Bytes.f k r.f0 r.f1 r.f2 r.f3 r.f4 r.f5) (recBytes r, 0) := by
  refine Ev.bind (check_yes r hr) (Ev.congr (fun k => if_pos rfl) ?_)
  have ht := prog_tail r hr
  rw [← flag_u8 r hr] at ht
  refine Ev.congr (fun k => ?_) ht
  split <;> rfl
theorem bytes_no (r : R) (hr : ¬ recOk r) : Ev (fun k => rec_Bytes.f k r.f0 r.f1 r.f2 r.f3 r.f4 r.f5) (⟨#[]⟩, 1) :=
  Ev.bind (check_no r hr) (Ev.congr (fun k => if_neg (by decide)) (Ev.now _))
end Go.Proofs.Ytmabdfdmccbfnaa.UBytes

/- Numbers read back out of bytes. -/
namespace Go.Proofs.Ytmabdfdmccbfnaa.UTake
open Go Go.RowKit Go.Proofs.Ytmabdfdmccbfnaa.P Go.Proofs.Ytmabdfdmccbfnaa.URec Go.Proofs.Ytmabdfdmccbfnaa.UBytes Go.Proofs.YtmabdfdmccbfnaaW.PrintWords Go.Proofs.YtmabdfdmccbfnaaW.PrintLast
set_option linter.unusedVariables false
set_option linter.unusedSimpArgs false

/-- The number of the first so many bytes. -/
def V (s : ByteArray) : Nat → Nat
  | 0 => 0
  | n + 1 => V s n * 256 + (bt s n).toNat
theorem bt_lt (s : ByteArray) (i : Int) : (bt s i).toNat < 256 ∧ ((bt s i).toNat : Int) = bt s i := by
  have := bt_range s i; omega
theorem V_lt (s : ByteArray) : ∀ n, V s n < 256 ^ n
  | 0 => by simp [V]
  | n + 1 => by
    have h := V_lt s n
    have hb := (bt_lt s n).1
    simp only [V, Nat.pow_succ]
    have : V s n + 1 ≤ 256 ^ n := h
    have h2 := Nat.mul_le_mul_right 256 this
    omega
theorem wrap_of_nat (n : Nat) (h : n < 18446744073709551616) : IntKind.i64.wrap (n : Int) = wrap64 (n : Int) := by rw [IntKind.wrap_i64]; unfold wrap64; rfl
theorem or_byte (x b : Nat) (hx : x < 2 ^ 56) (hb : b < 256) : Go.bits .or .i64 (wrap64 ((x : Int) * 256)) (wrap64 (b : Int)) = wrap64 ((x * 256 + b : Nat) : Int) := by
  have e1 : BitVec.ofInt (IntKind.bits .i64) (wrap64 ((x : Int) * 256)) = BitVec.ofNat 64 (x * 256) := by
    show BitVec.ofInt 64 _ = _
    apply BitVec.eq_of_toNat_eq
    rw [BitVec.toNat_ofInt, BitVec.toNat_ofNat]
    unfold wrap64
    omega
  have e2 : BitVec.ofInt (IntKind.bits .i64) (wrap64 (b : Int)) = BitVec.ofNat 64 b := by
    show BitVec.ofInt 64 _ = _
    apply BitVec.eq_of_toNat_eq
    rw [BitVec.toNat_ofInt, BitVec.toNat_ofNat]
    unfold wrap64
    omega
  unfold Go.bits
  simp only [e1, e2]
  have e3 : (BitVec.ofNat 64 (x * 256) ||| BitVec.ofNat 64 b).toNat = x * 256 + b := by
    rw [BitVec.toNat_or, BitVec.toNat_ofNat, BitVec.toNat_ofNat, Nat.mod_eq_of_lt (by omega), Nat.mod_eq_of_lt (by omega)]
    have := Nat.shiftLeft_add_eq_or_of_lt (i := 8) (b := b) (by omega) x
    rw [Nat.shiftLeft_eq] at this
    exact this.symm
  show IntKind.i64.wrap ((BitVec.ofNat 64 (x * 256) ||| BitVec.ofNat 64 b).toNat : Int) = _
  rw [e3]
  exact wrap_of_nat _ (by omega)
theorem pow_small : ∀ n, n ≤ 7 → (256 : Nat) ^ n ≤ 2 ^ 56 := by
  intro n h
  calc (256 : Nat) ^ n ≤ 256 ^ 7 := Nat.pow_le_pow_right (by omega) h
    _ = 2 ^ 56 := by decide

theorem taken_loop (s : ByteArray) (n : Nat) (hn : n ≤ 8) (hs : n ≤ s.size) : ∀ (d i : Nat), n = i + d →
    Ev (fun k => vbi_taken.l0 k s (wrap64 (V s i : Nat)) n i) (wrap64 (V s n : Nat), 0) ∧ Ev (fun k => fairwayref1_TakeFixed.l0 k s n (wrap64 (V s i : Nat)) i) (wrap64 (V s n : Nat), true)
  | 0, i, h => by
    obtain rfl : n = i := by omega
    refine ⟨Ev.step (f := fun _ => some _) (fun k => ?_) (Ev.now _), Ev.step (f := fun _ => some _) (fun k => ?_) (Ev.now _)⟩
    · simp only [vbi_taken.l0]; rw [if_neg (by omega)]
    · simp only [fairwayref1_TakeFixed.l0]; rw [if_neg (by omega)]
  | d + 1, i, h => by
    obtain ⟨h1, h2⟩ := taken_loop s n hn hs d (i + 1) (by omega)
    have hv := V_lt s i
    have hp := pow_small i (by omega)
    have e : Go.bits .or .i64 (wrap64 (wrap64 ((V s i : Nat) : Int) * 256)) (wrap64 (bt s i)) = wrap64 ((V s (i + 1) : Nat) : Int) := by
      rw [wrap_in (x := ((V s i : Nat) : Int)) (by omega) (by omega), ← (bt_lt s i).2]
      exact or_byte _ _ (by omega) (bt_lt s i).1
    refine ⟨Ev.step (fun k => ?_) h1, Ev.step (fun k => ?_) h2⟩
    · simp only [vbi_taken.l0]; rw [if_pos (by omega), if_pos (by omega), if_pos (by omega), e, wrap_in (x := (i : Int) + 1) (by omega) (by omega)]; rfl
    · simp only [fairwayref1_TakeFixed.l0]; rw [if_pos (by omega), if_pos (by omega), if_pos (by omega), e, wrap_in (x := (i : Int) + 1) (by omega) (by omega)]; rfl
theorem wrap_zero : wrap64 ((0 : Nat) : Int) = 0 := wrap_in (by decide) (by decide)
theorem taken_ev (s : ByteArray) (n : Nat) (hn : n ≤ 8) (hs : n ≤ s.size) : Ev (fun k => vbi_taken.f k s n) (wrap64 (V s n : Nat), 0) := by
  have h := (taken_loop s n hn hs n 0 (by omega)).1
  unfold vbi_taken.f
  refine Ev.congr (fun k => if_neg (by omega)) ?_
  rw [show V s 0 = 0 from rfl, wrap_zero] at h
  exact h
theorem taken_cut (s : ByteArray) (n : Nat) (hs : s.size < n) : Ev (fun k => vbi_taken.f k s n) (0, 7) := by
  unfold vbi_taken.f
  exact Ev.congr (fun k => if_pos (by omega)) (Ev.now _)
theorem takefixed_ev (s : ByteArray) (n : Nat) (hn : n ≤ 8) (hs : n ≤ s.size) : Ev (fun k => fairwayref1_TakeFixed.f k s n) (wrap64 (V s n : Nat), true) := by
  have h := (taken_loop s n hn hs n 0 (by omega)).2
  unfold fairwayref1_TakeFixed.f
  refine Ev.congr (fun k => if_neg (by omega)) ?_
  rw [show V s 0 = 0 from rfl, wrap_zero] at h
  exact h
theorem takefixed_cut (s : ByteArray) (n : Nat) (hs : s.size < n) : Ev (fun k => fairwayref1_TakeFixed.f k s n) (0, false) := by
  unfold fairwayref1_TakeFixed.f
  exact Ev.congr (fun k => if_pos (by omega)) (Ev.now _)
theorem two_in (s : ByteArray) : wrap64 (V s 2 : Nat) = (V s 2 : Nat) ∧ V s 2 < 65536 := by
  have := V_lt s 2
  exact ⟨wrap_in (by omega) (by omega), by omega⟩
theorem four_in (s : ByteArray) : wrap64 (V s 4 : Nat) = (V s 4 : Nat) ∧ V s 4 < 4294967296 := by
  have := V_lt s 4
  exact ⟨wrap_in (by omega) (by omega), by omega⟩
theorem taketwo_ev (s : ByteArray) (hs : 2 ≤ s.size) : Ev (fun k => vbi_TakeTwo.f k s) ((V s 2 : Nat), 0) := by
  have h := taken_ev s 2 (by omega) hs
  rw [(two_in s).1] at h
  exact Ev.bind (g := fun k => vbi_taken.f k s 2) (f := fun _ b => some (b.1, b.2)) h (Ev.now _)
theorem taketwo_cut (s : ByteArray) (hs : s.size < 2) : Ev (fun k => vbi_TakeTwo.f k s) (0, 7) :=
  Ev.bind (g := fun k => vbi_taken.f k s 2) (f := fun _ b => some (b.1, b.2)) (taken_cut s 2 hs) (Ev.now _)
theorem takefour_ev (s : ByteArray) (hs : 4 ≤ s.size) : Ev (fun k => vbi_TakeFour.f k s) ((V s 4 : Nat), 0) := by
  have h := taken_ev s 4 (by omega) hs
  rw [(four_in s).1] at h
  exact Ev.bind (g := fun k => vbi_taken.f k s 4) (f := fun _ b => some (b.1, b.2)) h (Ev.now _)
end Go.Proofs.Ytmabdfdmccbfnaa.UTake

/- What any bytes begin with: the program's reading of a record and the page's are the same. -/
namespace Go.Proofs.Ytmabdfdmccbfnaa.UTk
open Go Go.RowKit Go.Proofs.Ytmabdfdmccbfnaa.P Go.Proofs.Ytmabdfdmccbfnaa.Sq Go.Proofs.Ytmabdfdmccbfnaa.URec Go.Proofs.Ytmabdfdmccbfnaa.UBytes Go.Proofs.Ytmabdfdmccbfnaa.USum Go.Proofs.Ytmabdfdmccbfnaa.UTake Go.Proofs.YtmabdfdmccbfnaaW.PrintWords Go.Proofs.YtmabdfdmccbfnaaW.PrintLast
set_option linter.unusedVariables false
set_option linter.unusedSimpArgs false

theorem bt_ext (s : ByteArray) (a b i : Nat) (hb : b ≤ s.size) (h : a + i < b) : bt (s.extract a b) i = bt s ((a + i : Nat) : Int) := by
  have hx : i < (s.extract a b).size := by rw [ByteArray.size_extract]; omega
  rw [bt_get _ i hx, bt_get s (a + i) (by omega)]
  congr 2
  simp only [ByteArray.data_extract, Array.toList_extract, List.extract_eq_take_drop]
  rw [List.getElem_take, List.getElem_drop]
theorem V_add (s : ByteArray) (a : Nat) : ∀ n, a + n ≤ s.size → V s (a + n) = V s a * 256 ^ n + V (s.extract a s.size) n
  | 0, _ => by simp [V]
  | n + 1, h => by
    have ih := V_add s a n (by omega)
    have hb := bt_ext s a s.size n (Nat.le_refl _) (by omega)
    show V s (a + n) * 256 + (bt s ((a + n : Nat) : Int)).toNat = V s a * 256 ^ (n + 1) + (V (s.extract a s.size) n * 256 + (bt (s.extract a s.size) (n : Nat)).toNat)
    rw [ih, hb, Nat.pow_succ, Nat.add_mul, Nat.mul_assoc, Nat.add_assoc]
theorem V_one (s : ByteArray) : V s 1 = (bt s 0).toNat := by
  show 0 * 256 + (bt s ((0 : Nat) : Int)).toNat = (bt s 0).toNat
  rw [Nat.zero_mul, Nat.zero_add]; rfl
attribute [local irreducible] bt V ByteArray.extract Go.bits
theorem V_high (s : ByteArray) (h : 8 ≤ s.size) : (bt s 0 ≤ 127 → V s 8 < 9223372036854775808) ∧ (127 < bt s 0 → 9223372036854775808 ≤ V s 8) ∧ V s 8 < 18446744073709551616 := by
  have e := V_add s 1 7 (by omega)
  have e1 : V s 1 = (bt s 0).toNat := by
    rw [V_one]
  have l := V_lt (s.extract 1 s.size) 7
  have l2 := V_lt s 8
  have b0 := bt_lt s 0
  rw [e1] at e
  have hp : (256 : Nat) ^ 7 = 72057594037927936 := by rfl
  have hp8 : (256 : Nat) ^ 8 = 18446744073709551616 := by rfl
  rw [hp] at e l
  rw [hp8] at l2
  simp only [show 1 + 7 = 8 from rfl] at e
  refine ⟨fun g => ?_, fun g => ?_, l2⟩ <;> omega
theorem number_ev (s : ByteArray) (h : 8 ≤ s.size) (h0 : bt s 0 ≤ 127) : Ev (fun k => rec_number.f k s) (wrap64 (V s 8 : Nat)) := by
  have hV := (V_high s h).1 h0
  have e := V_add s 4 4 (by omega)
  have hp : (256 : Nat) ^ 4 = 4294967296 := by rfl
  simp only [show 4 + 4 = 8 from rfl, hp] at e
  have l1 := V_lt s 4
  have l2 := V_lt (s.extract 4 s.size) 4
  rw [hp] at l1 l2
  have hsz : (s.extract 4 s.size).size = s.size - 4 := by rw [ByteArray.size_extract]; omega
  refine Ev.bind (takefour_ev s (by omega)) (Ev.congr (fun k => if_pos (by omega)) (Ev.bind (takefour_ev _ (by omega)) (Ev.congr (f := fun _ => some (wrap64 (V s 8 : Nat))) (fun k => ?_) (Ev.now _))))
  rw [wrap_in (x := ((V s 4 : Nat) : Int) * 4294967296) (by omega) (by omega), wrap_in (x := ((V s 8 : Nat) : Int)) (by omega) (by omega)]
  congr 1
  rw [bits_join .i64 63 (by decide) (fun n h0 h1 => by rw [IntKind.wrap_i64]; omega) 32 (((V s 4 : Nat) : Int) * 4294967296) ((V (s.extract 4 s.size) 4 : Nat) : Int) (by omega) (by omega) (by omega) (by omega) (by omega) (by omega)]
  omega

/-! ### a body -/
def keyLen (b : ByteArray) : Nat := V (b.extract 17 b.size) 2
def rcOf (b : ByteArray) : R := ⟨wrap64 (V b 8 : Nat), wrap64 (V (b.extract 8 b.size) 8 : Nat), b.extract 19 (19 + keyLen b), b.extract (19 + keyLen b) b.size, bt b 16 % 4, decide (bt b 16 ≥ 4)⟩
theorem rd0 (b : ByteArray) : (rcOf b).f0 = wrap64 (V b 8 : Nat) := by simp only [rcOf]
theorem rd1 (b : ByteArray) : (rcOf b).f1 = wrap64 (V (b.extract 8 b.size) 8 : Nat) := by simp only [rcOf]
theorem rd2 (b : ByteArray) : (rcOf b).f2 = b.extract 19 (19 + keyLen b) := by simp only [rcOf]
theorem rd3 (b : ByteArray) : (rcOf b).f3 = b.extract (19 + keyLen b) b.size := by simp only [rcOf]
theorem rd4 (b : ByteArray) : (rcOf b).f4 = bt b 16 % 4 := by simp only [rcOf]
theorem rd5 (b : ByteArray) : (rcOf b).f5 = decide (bt b 16 ≥ 4) := by simp only [rcOf]
theorem keyLen_lt (b : ByteArray) : keyLen b < 65536 := (two_in _).2
theorem keyLen_ev (b : ByteArray) (h : 2 ≤ (b.extract 17 b.size).size) : Ev (fun k => vbi_TakeTwo.f k (b.extract 17 b.size)) (((keyLen b : Nat) : Int), 0) := taketwo_ev _ h
attribute [local irreducible] keyLen rcOf
def good (b : ByteArray) : Prop := 19 ≤ b.size ∧ bt b 16 ≤ 7 ∧ keyLen b ≤ b.size - 19 ∧ recOk (rcOf b)
theorem and34 : ∀ n : Nat, n < 8 → Go.bits .and .u8 (n : Int) 3 = (n : Int) % 4 ∧ decide (Go.bits .and .u8 (n : Int) 4 > 0) = decide ((n : Int) ≥ 4) := by decide +kernel
theorem bits16 (b : ByteArray) (h : bt b 16 ≤ 7) : wrap64 (Go.bits .and .u8 (bt b 16) 3) = bt b 16 % 4 ∧ decide (Go.bits .and .u8 (bt b 16) 4 > 0) = decide (bt b 16 ≥ 4) := by
  have hb := bt_lt b 16
  obtain ⟨h1, h2⟩ := and34 (bt b 16).toNat (by omega)
  rw [hb.2] at h1 h2
  rw [h1, wrap_in (by omega) (by omega)]
  exact ⟨rfl, h2⟩
theorem ext8 (b : ByteArray) (h : 19 ≤ b.size) : (b.extract 8 b.size).size = b.size - 8 ∧ bt (b.extract 8 b.size) 0 = bt b 8 :=
  ⟨by rw [ByteArray.size_extract]; omega, bt_ext b 8 b.size 0 (Nat.le_refl _) (by omega)⟩
theorem zeros_ev (b : ByteArray) (n : Int) : Ev (fun k => rec_read.j0 k b n true 0 0 ⟨#[]⟩ ⟨#[]⟩ 0 false) (0, 0, ⟨#[]⟩, ⟨#[]⟩, 0, false, false) := by
  refine Ev.step (f := fun _ => some _) (fun k => ?_) (Ev.now _)
  simp only [rec_read.j0]; rw [if_pos trivial]
/-- What is done behind the key's length. -/
def rest (k : Nat) (b : ByteArray) (n : Int) : Option (Int × Int × ByteArray × ByteArray × Int × Bool × Bool) :=
  if (bt b 16) > 7 then (rec_read.j0 k b n true 0 0 (⟨#[]⟩ : ByteArray) (⟨#[]⟩ : ByteArray) 0 false) else (if n > (wrap64 ((b.size : Int) - 19)) then (rec_read.j0 k b n true 0 0 (⟨#[]⟩ : ByteArray) (⟨#[]⟩ : ByteArray) 0 false) else (if 0 < (b.size : Int) then (if (bt b 0) > 127 then (rec_read.j0 k b n true 0 0 (⟨#[]⟩ : ByteArray) (⟨#[]⟩ : ByteArray) 0 false) else (if 8 < (b.size : Int) then (rec_read.j0 k b n (decide ((bt b 8) > 127)) 0 0 (⟨#[]⟩ : ByteArray) (⟨#[]⟩ : ByteArray) 0 false) else (none))) else (none)))
theorem open_ev (b : ByteArray) (h : 19 ≤ b.size) {r} (hr : Ev (fun k => rest k b ((keyLen b : Nat) : Int)) r) : Ev (fun k => rec_read.f k b) r := by
  have hx17 : (b.extract 17 b.size).size = b.size - 17 := by rw [ByteArray.size_extract]; omega
  have t1 : Ev (fun k => vbi_TakeTwo.f k (b.extract 17 b.size)) (((keyLen b : Nat) : Int), 0) := keyLen_ev b (by omega)
  have e1 : ¬ (b.size : Int) < 19 := by omega
  have e2 : 17 ≤ (b.size : Int) := by omega
  have e3 : 16 < (b.size : Int) := by omega
  unfold rec_read.f
  refine Ev.congr (fun k => by rw [if_neg e1, if_pos e2]) (Ev.bind t1 (Ev.congr (fun k => if_pos e3) ?_))
  unfold rest at hr
  exact hr
theorem arith (n kl : Nat) (h : 19 ≤ n) (hs : n ≤ 140737488351232) (d2 : kl ≤ n - 19) (hk : kl < 65536) : wrap64 ((n : Int) - 19) = ((n - 19 : Nat) : Int) ∧ wrap64 (19 + (kl : Int)) = ((19 + kl : Nat) : Int) ∧ ¬ (kl : Int) > ((n - 19 : Nat) : Int) ∧ 0 < (n : Int) ∧ 8 < (n : Int) ∧ 8 ≤ (n : Int) ∧
    19 ≤ ((19 + kl : Nat) : Int) ∧ ((19 + kl : Nat) : Int) ≤ (n : Int) ∧ 0 ≤ ((19 + kl : Nat) : Int) ∧ 16 < (n : Int) ∧ 8 ≤ n ∧ 8 ≤ n - 8 := by
  refine ⟨?_, ?_, by omega, by omega, by omega, by omega, by omega, by omega, by omega, by omega, by omega, by omega⟩
  · rw [wrap_in (by omega) (by omega)]; omega
  · rw [wrap_in (by omega) (by omega)]; omega
theorem rest_main (b : ByteArray) (h : 19 ≤ b.size) (hs : b.size ≤ 140737488351232) (d1 : bt b 16 ≤ 7) (d2 : keyLen b ≤ b.size - 19) (d3 : bt b 0 ≤ 127) (d4 : bt b 8 ≤ 127) {t : Int}
    (ht : Ev (fun k => rec_Check.f k (rcOf b).f0 (rcOf b).f1 (rcOf b).f2 (rcOf b).f3 (rcOf b).f4 (rcOf b).f5) t) :
    Ev (fun k => rest k b ((keyLen b : Nat) : Int)) ((rcOf b).f0, (rcOf b).f1, (rcOf b).f2, (rcOf b).f3, (rcOf b).f4, (rcOf b).f5, (t == 0)) := by
  obtain ⟨hx8, hx80⟩ := ext8 b h
  obtain ⟨w1, w2, e2, e3, e5, e7, e8, e9, e10, e11, q1, q2⟩ := arith b.size (keyLen b) h hs d2 (keyLen_lt b)
  have n1 := number_ev b q1 d3
  have n2 := number_ev (b.extract 8 b.size) (by rw [hx8]; exact q2) (by rw [hx80]; exact d4)
  obtain ⟨b1, b2⟩ := bits16 b d1
  rw [rd0, rd1, rd2, rd3, rd4, rd5] at ht
  rw [rd0, rd1, rd2, rd3, rd4, rd5]
  have e1 : ¬ bt b 16 > 7 := Int.not_lt.2 d1
  have e4 : ¬ bt b 0 > 127 := Int.not_lt.2 d3
  have e6 : decide (bt b 8 > 127) = false := decide_eq_false (Int.not_lt.2 d4)
  refine Ev.congr (f := fun k => rec_read.j0 k b ((keyLen b : Nat) : Int) false 0 0 (⟨#[]⟩ : ByteArray) (⟨#[]⟩ : ByteArray) 0 false) (fun k => ?_) ?_
  · unfold rest
    rw [w1, if_neg e1, if_neg e2, if_pos e3, if_neg e4, if_pos e5, e6]
  refine Ev.step (fun k => by rw [rec_read.j0, if_neg (by decide)]) ?_
  refine Ev.bind n1 (Ev.congr (fun k => if_pos e7) (Ev.bind n2 ?_))
  refine Ev.congr (fun k => by rw [w2, if_pos e8, if_pos e9, if_pos e10, if_pos e11, Int.toNat_natCast, b1, b2]) ?_
  exact Ev.bind ht (Ev.now _)
theorem high_neg (s : ByteArray) (h : 8 ≤ s.size) (hb : 127 < bt s 0) : wrap64 (V s 8 : Nat) < 0 := by
  obtain ⟨a1, a2, a3⟩ := V_high s h
  have a4 := a2 hb
  generalize V s 8 = v at *
  unfold wrap64; omega
theorem read_yes (b : ByteArray) (hs : b.size ≤ 140737488351232) (h : good b) : Ev (fun k => rec_read.f k b) ((rcOf b).f0, (rcOf b).f1, (rcOf b).f2, (rcOf b).f3, (rcOf b).f4, (rcOf b).f5, true) := by
  obtain ⟨h1, h2, h3, h4⟩ := h
  obtain ⟨hx8, hx80⟩ := ext8 b h1
  refine open_ev b h1 (rest_main b h1 hs h2 h3 ?_ ?_ (check_yes _ h4))
  · by_cases d : bt b 0 ≤ 127
    · exact d
    · have := high_neg b (by omega) (by omega)
      have h0 := h4.1
      rw [rd0] at h0
      omega
  · by_cases d : bt b 8 ≤ 127
    · exact d
    · have := high_neg (b.extract 8 b.size) (by omega) (by rw [hx80]; omega)
      have h0 := h4.2.2.1
      rw [rd1] at h0
      omega
theorem read_no (b : ByteArray) (hs : b.size ≤ 140737488351232) (h : ¬ good b) : ∃ x : R, Ev (fun k => rec_read.f k b) (x.f0, x.f1, x.f2, x.f3, x.f4, x.f5, false) := by
  by_cases c1 : b.size < 19
  · refine ⟨⟨0, 0, ⟨#[]⟩, ⟨#[]⟩, 0, false⟩, ?_⟩
    unfold rec_read.f
    exact Ev.congr (fun k => if_pos (by omega)) (Ev.now _)
  have h1 : 19 ≤ b.size := by omega
  have e3 : 0 < (b.size : Int) := by omega
  have e5 : 8 < (b.size : Int) := by omega
  by_cases d1 : bt b 16 > 7
  · exact ⟨⟨0, 0, ⟨#[]⟩, ⟨#[]⟩, 0, false⟩, open_ev b h1 (Ev.congr (fun k => if_pos d1) (zeros_ev _ _))⟩
  by_cases d2 : ((keyLen b : Nat) : Int) > wrap64 ((b.size : Int) - 19)
  · exact ⟨⟨0, 0, ⟨#[]⟩, ⟨#[]⟩, 0, false⟩, open_ev b h1 (Ev.congr (fun k => by unfold rest; rw [if_neg d1, if_pos d2]) (zeros_ev _ _))⟩
  by_cases d3 : bt b 0 > 127
  · exact ⟨⟨0, 0, ⟨#[]⟩, ⟨#[]⟩, 0, false⟩, open_ev b h1 (Ev.congr (fun k => by unfold rest; rw [if_neg d1, if_neg d2, if_pos e3, if_pos d3]) (zeros_ev _ _))⟩
  by_cases d4 : bt b 8 > 127
  · exact ⟨⟨0, 0, ⟨#[]⟩, ⟨#[]⟩, 0, false⟩, open_ev b h1 (Ev.congr (fun k => by unfold rest; rw [if_neg d1, if_neg d2, if_pos e3, if_neg d3, if_pos e5, decide_eq_true d4]) (zeros_ev _ _))⟩
  have hkl : keyLen b ≤ b.size - 19 := by rw [wrap_in (by omega) (by omega)] at d2; omega
  have hr : ¬ recOk (rcOf b) := fun g => h ⟨h1, by omega, hkl, g⟩
  exact ⟨rcOf b, open_ev b h1 (rest_main b h1 hs (by omega) hkl (by omega) (by omega) (check_no _ hr))⟩

/-! ### the record at the front -/
def bodyAt (s : ByteArray) : ByteArray := s.extract 6 (6 + V s 2)
def sumAt (s : ByteArray) : Nat := V (s.extract 2 s.size) 4
theorem sumAt_lt (s : ByteArray) : sumAt s < 4294967296 := (four_in _).2
theorem sumAt_ev (s : ByteArray) (h : 4 ≤ (s.extract 2 s.size).size) : Ev (fun k => vbi_TakeFour.f k (s.extract 2 s.size)) (((sumAt s : Nat) : Int), 0) := takefour_ev _ h
theorem sumAt_ev2 (s : ByteArray) (h : 4 ≤ (s.extract 2 s.size).size) : Ev (fun k => fairwayref1_TakeFixed.f k (s.extract 2 s.size) 4) (((sumAt s : Nat) : Int), true) := by
  have := takefixed_ev (s.extract 2 s.size) 4 (by decide) h
  rw [(four_in _).1] at this
  exact this
theorem len_ev2 (s : ByteArray) (h : 2 ≤ s.size) : Ev (fun k => fairwayref1_TakeFixed.f k s 2) (((V s 2 : Nat) : Int), true) := by
  have := takefixed_ev s 2 (by decide) h
  rw [(two_in _).1] at this
  exact this
theorem bodyAt_eq (s : ByteArray) : s.extract 6 (((6 + V s 2 : Nat) : Int)).toNat = bodyAt s := by rw [Int.toNat_natCast]; rfl
theorem bodyAt_size (s : ByteArray) (h : 6 ≤ s.size) (hv : V s 2 ≤ s.size - 6) : (bodyAt s).size = V s 2 := by
  unfold bodyAt
  rw [ByteArray.size_extract]
  generalize V s 2 = v at *
  generalize s.size = n at *
  omega
theorem V2_lt (s : ByteArray) : V s 2 < 65536 := (two_in s).2
theorem ext_size (s : ByteArray) (a : Nat) (h : a ≤ s.size) : (s.extract a s.size).size = s.size - a := by rw [ByteArray.size_extract]; generalize s.size = n at *; omega
theorem ext_size0 (s : ByteArray) (h : 2 ≤ s.size) : (s.extract 0 2).size = 2 := by rw [ByteArray.size_extract]; generalize s.size = n at *; omega
attribute [local irreducible] bodyAt sumAt sumOf
def takeOk (s : ByteArray) : Prop := good (bodyAt s) ∧ sumOf (s.extract 0 2) (bodyAt s) = (sumAt s : Int)
theorem arith6 (n v : Nat) (h : 6 ≤ n) (hs : n ≤ 140737488351232) (hv : v ≤ n - 6) (hk : v < 65536) : wrap64 ((n : Int) - 6) = ((n - 6 : Nat) : Int) ∧ ¬ (n : Int) < 6 ∧ ¬ ((n - 6 : Nat) : Int) < (v : Int) ∧ 2 ≤ (n : Int) ∧ wrap64 (6 + (v : Int)) = ((6 + v : Nat) : Int) ∧
    6 ≤ ((6 + v : Nat) : Int) ∧ ((6 + v : Nat) : Int) ≤ (n : Int) ∧ 2 ≤ n ∧ 4 ≤ n - 2 ∧ v ≤ 140737488351232 ∧ 2 + v ≤ 9223372036854775807 ∧ 2 + v ≤ 140737488351232 := by
  refine ⟨?_, by omega, by omega, by omega, ?_, by omega, by omega, by omega, by omega, by omega, by omega, by omega⟩
  · rw [wrap_in (by omega) (by omega)]; omega
  · rw [wrap_in (by omega) (by omega)]; omega
theorem arith6' (n v : Nat) (h : 6 ≤ n) (hs : n ≤ 140737488351232) (hv : n - 6 < v) : ¬ (n : Int) < 6 ∧ wrap64 ((n : Int) - 6) < (v : Int) ∧ 2 ≤ n := by
  refine ⟨by omega, ?_, by omega⟩
  rw [wrap_in (by omega) (by omega)]; omega
theorem tj0_true (s : ByteArray) (n : Int) : Ev (fun k => rec_Take.j0 k s n true 0 0 ⟨#[]⟩ ⟨#[]⟩ 0 false) (0, 0, ⟨#[]⟩, ⟨#[]⟩, 0, false, 0, 7) := by
  refine Ev.step (f := fun _ => some _) (fun k => ?_) (Ev.now _)
  rw [rec_Take.j0, if_pos rfl]
theorem take_cut (s : ByteArray) (hs : s.size ≤ 140737488351232) (h : s.size < 6 ∨ s.size - 6 < V s 2) :
    Ev (fun k => rec_Take.f k s) (0, 0, ⟨#[]⟩, ⟨#[]⟩, 0, false, 0, 7) ∧ Ev (fun k => fairwayref10_Take.f k s) (0, 0, ⟨#[]⟩, ⟨#[]⟩, 0, false, 0, 7) := by
  by_cases h6 : s.size < 6
  · have e1 : (s.size : Int) < 6 := by generalize s.size = n at *; omega
    refine ⟨?_, ?_⟩
    · by_cases h2 : s.size < 2
      · exact Ev.bind (taketwo_cut s h2) (Ev.congr (fun k => if_pos e1) (tj0_true _ _))
      · exact Ev.bind (taketwo_ev s (Nat.le_of_not_lt h2)) (Ev.congr (fun k => if_pos e1) (tj0_true _ _))
    · unfold fairwayref10_Take.f
      exact Ev.congr (fun k => if_pos e1) (Ev.now _)
  · have hv := h.resolve_left h6
    obtain ⟨e1, e2, e3⟩ := arith6' s.size (V s 2) (Nat.le_of_not_lt h6) hs hv
    refine ⟨?_, ?_⟩
    · exact Ev.bind (taketwo_ev s e3) (Ev.congr (fun k => by rw [if_neg e1, decide_eq_true e2]) (tj0_true _ _))
    · unfold fairwayref10_Take.f
      exact Ev.congr (fun k => if_neg e1) (Ev.bind (len_ev2 s e3) (Ev.congr (fun k => if_pos e2) (Ev.now _)))

theorem sum_both (h b : ByteArray) (hh : h.size ≤ 140737488351232) (hb : b.size ≤ 140737488351232) : ∃ t : Int, Ev (fun k => sum_Sum.f k 0 h) t ∧ Ev (fun k => sum_Sum.f k t b) (sumOf h b) := by
  refine ⟨_, sum_ev 0#32 h hh, ?_⟩
  have := sum_ev (~~~ (run (~~~ (0#32)) h.data.toList)) b hb
  rw [BitVec.not_not, ← run_append] at this
  have e : h.data.toList ++ b.data.toList = (h ++ b).data.toList := by simp [ByteArray.data_append]
  rw [e] at this
  unfold sumOf
  exact this
theorem sum_ref (h b : ByteArray) (hh : h.size + b.size ≤ 140737488351232) : Ev (fun k => fairwayref1_Sum.f k 0 (h ++ b)) (sumOf h b) := by
  have := sumref_ev 0#32 (h ++ b) (by rw [ByteArray.size_append]; exact hh)
  unfold sumOf
  exact this
theorem take_prog (s : ByteArray) (hs : s.size ≤ 140737488351232) (h6 : 6 ≤ s.size) (hv : V s 2 ≤ s.size - 6) :
    (takeOk s → Ev (fun k => rec_Take.f k s) ((rcOf (bodyAt s)).f0, (rcOf (bodyAt s)).f1, (rcOf (bodyAt s)).f2, (rcOf (bodyAt s)).f3, (rcOf (bodyAt s)).f4, (rcOf (bodyAt s)).f5, ((6 + V s 2 : Nat) : Int), 0)) ∧
    (¬ takeOk s → Ev (fun k => rec_Take.f k s) (0, 0, ⟨#[]⟩, ⟨#[]⟩, 0, false, 0, 8)) := by
  obtain ⟨w1, e1, e2, e3, w2, e4, e5, e6, e7, e8, e9, e10⟩ := arith6 s.size (V s 2) h6 hs hv (V2_lt s)
  have hbs := bodyAt_size s h6 hv
  have hb : (bodyAt s).size ≤ 140737488351232 := by rw [hbs]; exact e8
  have hx2 := ext_size s 2 e6
  have hh := ext_size0 s e6
  obtain ⟨t, t1, t2⟩ := sum_both (s.extract 0 2) (bodyAt s) (by rw [hh]; decide) hb
  have hin := sumOf_in (s.extract 0 2) (bodyAt s)
  have ws : wrap64 (sumOf (s.extract 0 2) (bodyAt s)) = sumOf (s.extract 0 2) (bodyAt s) := by
    generalize sumOf (s.extract 0 2) (bodyAt s) = z at hin
    exact wrap_in (by omega) (by omega)
  have start : ∀ {r}, Ev (fun k => (rec_read.f k (bodyAt s)).bind fun bt148 => (if bt148.2.2.2.2.2.2 = true then (if 0 ≤ 2 then ((sum_Sum.f k 0 (s.extract 0 2)).bind fun t155 => ((sum_Sum.f k t155 (bodyAt s)).bind fun t156 => (if (wrap64 (t156)) = (sumAt s : Int) then (some (bt148.1, bt148.2.1, bt148.2.2.1, bt148.2.2.2.1, bt148.2.2.2.2.1, bt148.2.2.2.2.2.1, ((6 + V s 2 : Nat) : Int), 0)) else (some (0, 0, (⟨#[]⟩ : ByteArray), (⟨#[]⟩ : ByteArray), 0, false, 0, 8))))) else (none)) else (some (0, 0, (⟨#[]⟩ : ByteArray), (⟨#[]⟩ : ByteArray), 0, false, 0, 8)))) r → Ev (fun k => rec_Take.f k s) r := by
    intro r hr
    refine Ev.bind (taketwo_ev s e6) (Ev.congr (fun k => by rw [if_neg e1, w1, decide_eq_false e2]) ?_)
    refine Ev.step (fun k => by rw [rec_Take.j0, if_neg (by decide), if_pos e3]) ?_
    refine Ev.bind (sumAt_ev s (by rw [hx2]; exact e7)) ?_
    refine Ev.congr (fun k => by rw [w2, if_pos e4, if_pos e5, bodyAt_eq]) ?_
    exact hr
  have c0 : (0 : Int) ≤ 2 := by decide
  refine ⟨fun hk => start ?_, fun hk => ?_⟩
  · refine Ev.bind (read_yes _ hb hk.1) (Ev.congr (fun k => by rw [if_pos rfl, if_pos (by decide)]) (Ev.bind t1 (Ev.bind t2 (Ev.congr (fun k => if_pos ?_) (Ev.now _)))))
    rw [ws]; exact hk.2
  · by_cases hg : good (bodyAt s)
    · refine start (Ev.bind (read_yes _ hb hg) (Ev.congr (fun k => by rw [if_pos rfl, if_pos (by decide)]) (Ev.bind t1 (Ev.bind t2 (Ev.congr (fun k => if_neg ?_) (Ev.now _))))))
      rw [ws]; exact fun g => hk ⟨hg, g⟩
    · obtain ⟨x, hx⟩ := read_no _ hb hg
      exact start (Ev.bind hx (Ev.congr (fun k => if_neg Bool.false_ne_true) (Ev.now _)))

theorem rj0_true (n : Int) (b : ByteArray) : Ev (fun k => fairwayref10_Take.j0 k n b true 0 0 ⟨#[]⟩ ⟨#[]⟩ 0 false) (0, 0, ⟨#[]⟩, ⟨#[]⟩, 0, false, 0, 8) := by
  refine Ev.step (f := fun _ => some _) (fun k => ?_) (Ev.now _)
  rw [fairwayref10_Take.j0, if_pos rfl]
theorem rj1_true (n : Int) (b : ByteArray) (f y : Int) (p q : Int) : Ev (fun k => fairwayref10_Take.j1 k n b f y true 0 0 ⟨#[]⟩ ⟨#[]⟩ 0 false p q ⟨#[]⟩ ⟨#[]⟩ 0 false) (0, 0, ⟨#[]⟩, ⟨#[]⟩, 0, false, 0, 8) := by
  refine Ev.step (f := fun _ => some _) (fun k => ?_) (Ev.now _)
  rw [fairwayref10_Take.j1, if_pos rfl]
theorem fix8_ev (b : ByteArray) (h : 8 ≤ b.size) : Ev (fun k => fairwayref1_TakeFixed.f k b 8) (wrap64 (V b 8 : Nat), true) := takefixed_ev b 8 (by decide) h
theorem key_ev2 (b : ByteArray) (h : 2 ≤ (b.extract 17 b.size).size) : Ev (fun k => fairwayref1_TakeFixed.f k (b.extract 17 b.size) 2) (((keyLen b : Nat) : Int), true) := by
  unfold keyLen
  exact len_ev2 _ h
theorem bt16 (b : ByteArray) : wrap64 (bt b 16) = bt b 16 ∧ Int.tmod (bt b 16) 4 = bt b 16 % 4 := by
  obtain ⟨h1, h2⟩ := bt_range b 16
  generalize bt b 16 = z at *
  exact ⟨wrap_in (by omega) (by omega), Int.tmod_eq_emod_of_nonneg (by omega)⟩
theorem take_tail (b : ByteArray) (hs : b.size ≤ 140737488351232) (h : 19 ≤ b.size) :
    (good b → Ev (fun k => fairwayref10_Take.j0 k (b.size : Int) b false 0 0 ⟨#[]⟩ ⟨#[]⟩ 0 false) ((rcOf b).f0, (rcOf b).f1, (rcOf b).f2, (rcOf b).f3, (rcOf b).f4, (rcOf b).f5, wrap64 (6 + (b.size : Int)), 0)) ∧
    (¬ good b → Ev (fun k => fairwayref10_Take.j0 k (b.size : Int) b false 0 0 ⟨#[]⟩ ⟨#[]⟩ 0 false) (0, 0, ⟨#[]⟩, ⟨#[]⟩, 0, false, 0, 8)) := by
  obtain ⟨hx8, hx80⟩ := ext8 b h
  have hx17 := ext_size b 17 (Nat.le_trans (by decide) h)
  obtain ⟨g1, g2, g3, g4, g5, g6⟩ : 8 ≤ b.size ∧ 8 ≤ (b.size : Int) ∧ 16 < (b.size : Int) ∧ 17 ≤ (b.size : Int) ∧ 8 ≤ b.size - 8 ∧ 2 ≤ b.size - 17 := by
    generalize b.size = n at *; exact ⟨by omega, by omega, by omega, by omega, by omega, by omega⟩
  obtain ⟨bw, bm⟩ := bt16 b
  have start : ∀ {r}, Ev (fun k => (if bt b 16 > 7 then (fairwayref10_Take.j1 k (b.size : Int) b (bt b 16) (keyLen b : Int) true 0 0 ⟨#[]⟩ ⟨#[]⟩ 0 false (wrap64 (V b 8 : Nat)) (wrap64 (V (b.extract 8 b.size) 8 : Nat)) (⟨#[]⟩ : ByteArray) (⟨#[]⟩ : ByteArray) 0 false) else (fairwayref10_Take.j1 k (b.size : Int) b (bt b 16) (keyLen b : Int) (decide ((keyLen b : Int) > (wrap64 ((b.size : Int) - 19)))) 0 0 ⟨#[]⟩ ⟨#[]⟩ 0 false (wrap64 (V b 8 : Nat)) (wrap64 (V (b.extract 8 b.size) 8 : Nat)) (⟨#[]⟩ : ByteArray) (⟨#[]⟩ : ByteArray) 0 false))) r →
      Ev (fun k => fairwayref10_Take.j0 k (b.size : Int) b false 0 0 ⟨#[]⟩ ⟨#[]⟩ 0 false) r := by
    intro r hr
    refine Ev.step (fun k => by rw [fairwayref10_Take.j0, if_neg (by decide)]) ?_
    unfold xt
    refine Ev.bind (fix8_ev b g1) (Ev.congr (fun k => if_pos g2) (Ev.bind (fix8_ev _ (by rw [hx8]; exact g5)) (Ev.congr (fun k => by rw [if_pos g3, if_pos g4]) (Ev.bind (key_ev2 b (by rw [hx17]; exact g6)) ?_))))
    refine Ev.congr (fun k => by rw [bw]) ?_
    exact hr
  by_cases d1 : bt b 16 > 7
  · exact ⟨fun g => absurd g.2.1 (Int.not_le.2 d1), fun _ => start (Ev.congr (fun k => if_pos d1) (rj1_true _ _ _ _ _ _))⟩
  by_cases d2 : keyLen b ≤ b.size - 19
  · obtain ⟨w1, w2, e2, e3, e5, e7, e8, e9, e10, e11, q1, q2⟩ := arith b.size (keyLen b) h hs d2 (keyLen_lt b)
    have mid : ∀ {r}, Ev (fun k => (fairwayref10_Rec.f (rcOf b).f0 (rcOf b).f1 (rcOf b).f2 (rcOf b).f3 (rcOf b).f4 (rcOf b).f5).bind fun t264 => (if t264 = true then (some ((rcOf b).f0, (rcOf b).f1, (rcOf b).f2, (rcOf b).f3, (rcOf b).f4, (rcOf b).f5, wrap64 (6 + (b.size : Int)), 0)) else (some (0, 0, (⟨#[]⟩ : ByteArray), (⟨#[]⟩ : ByteArray), 0, false, 0, 8)))) r → Ev (fun k => fairwayref10_Take.j0 k (b.size : Int) b false 0 0 ⟨#[]⟩ ⟨#[]⟩ 0 false) r := by
      intro r hr
      refine start (Ev.congr (fun k => by rw [if_neg d1, w1, decide_eq_false e2]) ?_)
      refine Ev.step (fun k => by rw [fairwayref10_Take.j1, if_neg (by decide)]) ?_
      unfold xt
      rw [rd0, rd1, rd2, rd3, rd4, rd5] at hr
      refine Ev.congr (fun k => by rw [w2, if_pos e8, if_pos e9, if_pos e10, Int.toNat_natCast, bm]) ?_
      exact hr
    refine ⟨fun g => mid ?_, fun g => mid ?_⟩
    · rw [rec_yes _ g.2.2.2]; exact Ev.now _
    · rw [rec_no _ (fun hr => g ⟨h, Int.not_lt.1 d1, d2, hr⟩)]; exact Ev.now _
  · have e2 : (keyLen b : Int) > wrap64 ((b.size : Int) - 19) := by
      generalize keyLen b = kl at *
      generalize b.size = n at *
      rw [wrap_in (by omega) (by omega)]; omega
    exact ⟨fun g => absurd g.2.2.1 d2, fun _ => start (Ev.congr (fun k => by rw [if_neg d1, decide_eq_true e2]) (rj1_true _ _ _ _ _ _))⟩
theorem lt19 (v : Nat) : (v < 19 → (v : Int) < 19) ∧ (¬ v < 19 → ¬ (v : Int) < 19) := ⟨by omega, by omega⟩
theorem gt19 (n kl : Nat) (h : 19 ≤ n) (hs : n ≤ 140737488351232) (d2 : ¬ kl ≤ n - 19) : (kl : Int) > wrap64 ((n : Int) - 19) := by
  rw [wrap_in (by omega) (by omega)]; omega
theorem take_ref (s : ByteArray) (hs : s.size ≤ 140737488351232) (h6 : 6 ≤ s.size) (hv : V s 2 ≤ s.size - 6) :
    (takeOk s → Ev (fun k => fairwayref10_Take.f k s) ((rcOf (bodyAt s)).f0, (rcOf (bodyAt s)).f1, (rcOf (bodyAt s)).f2, (rcOf (bodyAt s)).f3, (rcOf (bodyAt s)).f4, (rcOf (bodyAt s)).f5, ((6 + V s 2 : Nat) : Int), 0)) ∧
    (¬ takeOk s → Ev (fun k => fairwayref10_Take.f k s) (0, 0, ⟨#[]⟩, ⟨#[]⟩, 0, false, 0, 8)) := by
  obtain ⟨w1, e1, e2, e3, w2, e4, e5, e6, e7, e8, e9, e10⟩ := arith6 s.size (V s 2) h6 hs hv (V2_lt s)
  have hbs := bodyAt_size s h6 hv
  have hb : (bodyAt s).size ≤ 140737488351232 := by rw [hbs]; exact e8
  have hx2 := ext_size s 2 e6
  have hh := ext_size0 s e6
  have t1 := sum_ref (s.extract 0 2) (bodyAt s) (by rw [hh, hbs]; exact e10)
  have hm : ((sumAt s : Nat) : Int) % 4294967296 = (sumAt s : Int) := by
    have := sumAt_lt s
    generalize sumAt s = z at *
    omega
  have start : ∀ {r}, Ev (fun k => (if (sumAt s : Int) = sumOf (s.extract 0 2) (bodyAt s) then (fairwayref10_Take.j0 k (V s 2 : Int) (bodyAt s) (decide ((V s 2 : Int) < 19)) 0 0 (⟨#[]⟩ : ByteArray) (⟨#[]⟩ : ByteArray) 0 false) else (fairwayref10_Take.j0 k (V s 2 : Int) (bodyAt s) true 0 0 (⟨#[]⟩ : ByteArray) (⟨#[]⟩ : ByteArray) 0 false))) r → Ev (fun k => fairwayref10_Take.f k s) r := by
    intro r hr
    unfold fairwayref10_Take.f
    unfold xt
    refine Ev.congr (fun k => if_neg e1) (Ev.bind (len_ev2 s e6) (Ev.congr (fun k => by rw [w1, if_neg e2, if_pos e3]) ?_))
    refine Ev.bind (sumAt_ev2 s (by rw [hx2]; exact e7)) ?_
    refine Ev.congr (fun k => by rw [w2, if_pos e4, if_pos e5, if_pos (by decide), bodyAt_eq, if_pos (by rw [hh, hbs]; exact e9)]) (Ev.bind t1 ?_)
    refine Ev.congr (fun k => by rw [hm]) ?_
    exact hr
  by_cases hc : (sumAt s : Int) = sumOf (s.extract 0 2) (bodyAt s)
  · by_cases h19 : V s 2 < 19
    · have h19' := (lt19 (V s 2)).1 h19
      refine ⟨fun hk => ?_, fun _ => start (Ev.congr (fun k => by rw [if_pos hc, decide_eq_true h19']) (rj0_true _ _))⟩
      have := hk.1.1
      rw [hbs] at this
      exact absurd h19 (Nat.not_lt.2 this)
    · have h19' := (lt19 (V s 2)).2 h19
      obtain ⟨y1, y2⟩ := take_tail (bodyAt s) hb (by rw [hbs]; exact Nat.le_of_not_lt h19)
      rw [hbs, w2] at y1
      rw [hbs] at y2
      exact ⟨fun hk => start (Ev.congr (fun k => by rw [if_pos hc, decide_eq_false h19']) (y1 hk.1)), fun hk => start (Ev.congr (fun k => by rw [if_pos hc, decide_eq_false h19']) (y2 fun g => hk ⟨g, hc.symm⟩))⟩
  · exact ⟨fun hk => absurd hk.2.symm hc, fun _ => start (Ev.congr (fun k => if_neg hc) (rj0_true _ _))⟩
end Go.Proofs.Ytmabdfdmccbfnaa.UTk

/- A record's bytes are read back as the record. -/
namespace Go.Proofs.Ytmabdfdmccbfnaa.UBack
open Go Go.RowKit Go.Proofs.Ytmabdfdmccbfnaa.P Go.Proofs.Ytmabdfdmccbfnaa.URec Go.Proofs.Ytmabdfdmccbfnaa.UBytes Go.Proofs.Ytmabdfdmccbfnaa.USum Go.Proofs.Ytmabdfdmccbfnaa.UTake Go.Proofs.YtmabdfdmccbfnaaW.PrintWords Go.Proofs.YtmabdfdmccbfnaaW.PrintLast
set_option linter.unusedVariables false
set_option linter.unusedSimpArgs false

theorem bt_left (a b : ByteArray) (i : Nat) (h : i < a.size) : bt (a ++ b) i = bt a i := by
  rw [bt_get (a ++ b) i (by rw [ByteArray.size_append]; omega), bt_get a i h]
  congr 2
  have : (a ++ b).data.toList = a.data.toList ++ b.data.toList := by simp [ByteArray.data_append]
  simp only [this]
  exact List.getElem_append_left _
theorem V_left (a b : ByteArray) : ∀ n, n ≤ a.size → V (a ++ b) n = V a n
  | 0, _ => rfl
  | n + 1, h => by
    simp only [V]
    rw [V_left a b n (by omega), bt_left a b n (by omega)]
theorem digits_get (x : Int) : ∀ (n i : Nat) (h : i < n), (digits x n)[i]'(by rw [digits_length]; exact h) = (x / 2 ^ (8 * (n - 1 - i))) % 256
  | n + 1, 0, _ => by simp [digits]
  | n + 1, i + 1, h => by
    have := digits_get x n i (by omega)
    simp only [digits, List.getElem_cons_succ]
    rw [this]
    congr 4
    omega
theorem bt_fixed (x n i : Nat) (h : i < n) : bt (fixed (x : Int) n) i = ((x / 256 ^ (n - 1 - i) % 256 : Nat) : Int) := by
  rw [bt_get _ i (by rw [fixed_size]; exact h)]
  have e : (fixed (x : Int) n).data.toList = (digits (x : Int) n).map fun d => UInt8.ofNat d.toNat := rfl
  simp only [e, List.getElem_map]
  rw [digits_get (x : Int) n i h]
  have e2 : ((x : Int) / 2 ^ (8 * (n - 1 - i))) % 256 = ((x / 256 ^ (n - 1 - i) % 256 : Nat) : Int) := by
    rw [show (2 : Int) ^ (8 * (n - 1 - i)) = ((256 ^ (n - 1 - i) : Nat) : Int) by rw [Int.pow_mul, Int.natCast_pow]; rfl]
    rw [Int.natCast_emod, Int.natCast_ediv]; rfl
  rw [e2, Int.toNat_natCast, UInt8.toNat_ofNat']
  congr 1
  exact Nat.mod_eq_of_lt (Nat.mod_lt _ (by omega))
theorem V_fixed_at (x n : Nat) (hx : x < 256 ^ n) : ∀ i, i ≤ n → V (fixed (x : Int) n) i = x / 256 ^ (n - i)
  | 0, _ => by simp [V, Nat.div_eq_of_lt hx]
  | i + 1, h => by
    simp only [V]
    rw [V_fixed_at x n hx i (by omega), bt_fixed x n i (by omega), Int.toNat_natCast]
    have e : n - i = (n - 1 - i) + 1 := by omega
    have e2 : n - (i + 1) = n - 1 - i := by omega
    rw [e, e2, Nat.pow_succ, ← Nat.div_div_eq_div_mul]
    omega
theorem V_fixed (x n : Nat) (hx : x < 256 ^ n) : V (fixed (x : Int) n) n = x := by
  rw [V_fixed_at x n hx n (Nat.le_refl _)]; simp

/-! ### the body -/
theorem fixed_nat (x : Int) (h : 0 ≤ x) : fixed x = fixed ((x.toNat : Nat) : Int) := by rw [Int.toNat_of_nonneg h]
theorem num8 (x : Int) (h0 : 0 ≤ x) (h1 : x < 9223372036854775808) (s : ByteArray) : Ev (fun k => rec_number.f k (fixed x 8 ++ s)) x := by
  have hs : (fixed x 8 ++ s).size = 8 + s.size := by rw [ByteArray.size_append, fixed_size]
  have e8 : fixed x 8 = fixed (x / 4294967296) 4 ++ fixed (x % 4294967296) 4 := by rw [fixed, fixed, fixed, ← strOfNums_append, ← digits8 x h0]
  have hv1 : V (fixed x 8 ++ s) 4 = (x / 4294967296).toNat := by
    rw [e8, ByteArray.append_assoc, V_left _ _ 4 (by rw [fixed_size]; omega), fixed_nat _ (by omega)]
    exact V_fixed _ 4 (by omega)
  have hx2 : (fixed x 8 ++ s).extract 4 (fixed x 8 ++ s).size = fixed (x % 4294967296) 4 ++ s := by
    rw [e8, ByteArray.append_assoc]
    refine ByteArray.extract_append_eq_right (by rw [fixed_size]) (by rw [ByteArray.size_append])
  have hv2 : V (fixed (x % 4294967296) 4 ++ s) 4 = (x % 4294967296).toNat := by
    rw [V_left _ _ 4 (by rw [fixed_size]; omega), fixed_nat _ (by omega)]
    exact V_fixed _ 4 (by omega)
  have t1 := takefour_ev (fixed x 8 ++ s) (by omega)
  have t2 := takefour_ev (fixed (x % 4294967296) 4 ++ s) (by rw [ByteArray.size_append, fixed_size]; omega)
  rw [hv1] at t1
  rw [hv2] at t2
  refine Ev.bind t1 (Ev.congr (fun k => by rw [if_pos (by omega), hx2]) (Ev.bind t2 (Ev.congr (f := fun _ => some x) (fun k => ?_) (Ev.now _))))
  have e3 : (((x / 4294967296).toNat : Nat) : Int) = x / 4294967296 := Int.toNat_of_nonneg (by omega)
  have e4 : (((x % 4294967296).toNat : Nat) : Int) = x % 4294967296 := Int.toNat_of_nonneg (by omega)
  simp only [e3, e4]
  rw [wrap_in (by omega) (by omega)]
  congr 1
  rw [bits_join .i64 63 (by decide) (fun n h0 h1 => by rw [IntKind.wrap_i64]; omega) 32 (x / 4294967296 * 4294967296) (x % 4294967296) (by omega) (by omega) (by omega) (by omega) (by omega) (by omega)]
  omega

theorem flag_byte (r : R) (hr : recOk r) (a b : ByteArray) (ha : a.size = 16) : bt (a ++ (strOfNums [flagOf r] ++ b)) 16 = flagOf r := by
  obtain ⟨h0, h1, h2, h3, h4, h5, h6, h7, h8⟩ := hr
  have hf : 0 ≤ flagOf r ∧ flagOf r ≤ 6 := by unfold flagOf; split <;> omega
  have hsz : (a ++ (strOfNums [flagOf r] ++ b)).size = 17 + b.size := by simp only [ByteArray.size_append, strOfNums_size, List.length_singleton]; omega
  have := bt_get (a ++ (strOfNums [flagOf r] ++ b)) 16 (by omega)
  rw [show ((16 : Nat) : Int) = 16 from rfl] at this
  rw [this]
  have e : (a ++ (strOfNums [flagOf r] ++ b)).data.toList = a.data.toList ++ (UInt8.ofNat (flagOf r).toNat :: b.data.toList) := by simp [ByteArray.data_append, strOfNums]
  simp only [e]
  have hl : a.data.toList.length = 16 := by rw [Array.length_toList]; exact ha
  rw [List.getElem_append_right (by rw [hl]; exact Nat.le_refl _)]
  simp only [hl, Nat.sub_self, List.getElem_cons_zero, UInt8.toNat_ofNat']
  omega
theorem and3 (r : R) (hr : recOk r) : Go.bits .and .u8 (flagOf r) 3 = r.f4 ∧ decide (Go.bits .and .u8 (flagOf r) 4 > 0) = r.f5 := by
  obtain ⟨h0, h1, h2, h3, h4, h5, h6, h7, h8⟩ := hr
  have : r.f4 = 0 ∨ r.f4 = 1 ∨ r.f4 = 2 := by omega
  unfold flagOf
  rcases this with h | h | h <;> rw [h] <;> cases r.f5 <;> decide
theorem read_back (r : R) (hr : recOk r) : Ev (fun k => rec_read.f k (bodyOf r)) (r.f0, r.f1, r.f2, r.f3, r.f4, r.f5, true) := by
  have hr' := hr
  obtain ⟨h0, h1, h2, h3, h4, h5, h6, h7, h8⟩ := hr
  have hb := bodyOf_size r
  have hw19 : wrap64 (19 + (r.f2.size : Int)) = ((19 + r.f2.size : Nat) : Int) := by rw [wrap_in (by omega) (by omega)]; omega
  have c1 : ¬ ((bodyOf r).size : Int) < 19 := by omega
  have c2 : 17 ≤ ((bodyOf r).size : Int) := by omega
  have c3 : 16 < ((bodyOf r).size : Int) := by omega
  have c4 : 0 < ((bodyOf r).size : Int) := by omega
  have c5 : 8 < ((bodyOf r).size : Int) := by omega
  have c6 : 8 ≤ ((bodyOf r).size : Int) := by omega
  have c7 : ¬ (r.f2.size : Int) > wrap64 (((bodyOf r).size : Int) - 19) := by rw [wrap_in (by omega) (by omega)]; omega
  have c8 : 19 ≤ ((19 + r.f2.size : Nat) : Int) := by omega
  have c9 : ((19 + r.f2.size : Nat) : Int) ≤ ((bodyOf r).size : Int) := by omega
  have c10 : 0 ≤ ((19 + r.f2.size : Nat) : Int) := by omega
  have c11 : wrap64 r.f4 = r.f4 := wrap_in (by omega) (by omega)
  have hf : 0 ≤ flagOf r ∧ flagOf r ≤ 6 := by unfold flagOf; split <;> omega
  have c12 : ¬ flagOf r > 7 := by omega
  have hkey : bodyOf r = (fixed r.f0 8 ++ fixed r.f1 8) ++ (strOfNums [flagOf r] ++ (fixed (r.f2.size : Int) 2 ++ (r.f2 ++ r.f3))) := by simp only [bodyOf, ByteArray.append_assoc]
  have h16 : bt (bodyOf r) 16 = flagOf r := by rw [hkey]; exact flag_byte r hr' _ _ (by rw [ByteArray.size_append, fixed_size, fixed_size])
  have h17 : (bodyOf r).extract 17 (bodyOf r).size = fixed (r.f2.size : Int) 2 ++ (r.f2 ++ r.f3) := by
    have e : bodyOf r = ((fixed r.f0 8 ++ fixed r.f1 8) ++ strOfNums [flagOf r]) ++ (fixed (r.f2.size : Int) 2 ++ (r.f2 ++ r.f3)) := by simp only [bodyOf, ByteArray.append_assoc]
    rw [e]
    refine ByteArray.extract_append_eq_right (by simp only [ByteArray.size_append, fixed_size, strOfNums_size, List.length_singleton]) (by rw [ByteArray.size_append])
  have hv : V (fixed (r.f2.size : Int) 2 ++ (r.f2 ++ r.f3)) 2 = r.f2.size := by
    rw [V_left _ _ 2 (by rw [fixed_size]; omega)]
    exact V_fixed _ 2 (by omega)
  have t1 := taketwo_ev (fixed (r.f2.size : Int) 2 ++ (r.f2 ++ r.f3)) (by rw [ByteArray.size_append, fixed_size]; omega)
  rw [hv] at t1
  have hd0 : bt (bodyOf r) 0 ≤ 127 := by
    have e : bodyOf r = fixed r.f0 8 ++ (fixed r.f1 8 ++ (strOfNums [flagOf r] ++ (fixed (r.f2.size : Int) 2 ++ (r.f2 ++ r.f3)))) := by simp only [bodyOf, ByteArray.append_assoc]
    have e2 := bt_left (fixed r.f0 8) (fixed r.f1 8 ++ (strOfNums [flagOf r] ++ (fixed (r.f2.size : Int) 2 ++ (r.f2 ++ r.f3)))) 0 (by rw [fixed_size]; omega)
    have e3 := bt_fixed r.f0.toNat 8 0 (by omega)
    rw [← fixed_nat _ h0] at e3
    rw [e]
    have e4 : bt (fixed r.f0 8 ++ (fixed r.f1 8 ++ (strOfNums [flagOf r] ++ (fixed (r.f2.size : Int) 2 ++ (r.f2 ++ r.f3))))) 0 = bt (fixed r.f0 8) 0 := e2
    have e5 : bt (fixed r.f0 8) 0 = ((r.f0.toNat / 256 ^ (8 - 1 - 0) % 256 : Nat) : Int) := e3
    rw [e4, e5]
    omega
  have hd8 : bt (bodyOf r) 8 ≤ 127 := by
    have e : bodyOf r = (fixed r.f0 8 ++ fixed r.f1 8) ++ (strOfNums [flagOf r] ++ (fixed (r.f2.size : Int) 2 ++ (r.f2 ++ r.f3))) := hkey
    have hsz : (fixed r.f0 8 ++ fixed r.f1 8).size = 16 := by rw [ByteArray.size_append, fixed_size, fixed_size]
    have e2 := bt_left (fixed r.f0 8 ++ fixed r.f1 8) (strOfNums [flagOf r] ++ (fixed (r.f2.size : Int) 2 ++ (r.f2 ++ r.f3))) 8 (by omega)
    have e3 := bt_get (fixed r.f0 8 ++ fixed r.f1 8) 8 (by omega)
    have e4 := bt_get (fixed r.f1 8) 0 (by rw [fixed_size]; omega)
    have e5 := bt_fixed r.f1.toNat 8 0 (by omega)
    rw [← fixed_nat _ h2] at e5
    have e6 : (fixed r.f0 8 ++ fixed r.f1 8).data.toList = (fixed r.f0 8).data.toList ++ (fixed r.f1 8).data.toList := by simp [ByteArray.data_append]
    have hl : (fixed r.f0 8).data.toList.length = 8 := by rw [Array.length_toList]; exact fixed_size _ _
    simp only [e6] at e3
    rw [List.getElem_append_right (by omega)] at e3
    simp only [hl, Nat.sub_self] at e3
    rw [← e4, e5] at e3
    rw [e]
    have e7 : bt ((fixed r.f0 8 ++ fixed r.f1 8) ++ (strOfNums [flagOf r] ++ (fixed (r.f2.size : Int) 2 ++ (r.f2 ++ r.f3)))) 8 = bt (fixed r.f0 8 ++ fixed r.f1 8) 8 := e2
    have e8 : bt (fixed r.f0 8 ++ fixed r.f1 8) 8 = ((r.f1.toNat / 256 ^ (8 - 1 - 0) % 256 : Nat) : Int) := e3
    rw [e7, e8]
    omega
  have x8 : (bodyOf r).extract 8 (bodyOf r).size = fixed r.f1 8 ++ (strOfNums [flagOf r] ++ (fixed (r.f2.size : Int) 2 ++ (r.f2 ++ r.f3))) := by
    have e : bodyOf r = fixed r.f0 8 ++ (fixed r.f1 8 ++ (strOfNums [flagOf r] ++ (fixed (r.f2.size : Int) 2 ++ (r.f2 ++ r.f3)))) := by simp only [bodyOf, ByteArray.append_assoc]
    rw [e]
    exact ByteArray.extract_append_eq_right (by rw [fixed_size]) (by rw [ByteArray.size_append])
  have xk : (bodyOf r).extract 19 (19 + r.f2.size) = r.f2 := by
    have e : bodyOf r = (((fixed r.f0 8 ++ fixed r.f1 8) ++ strOfNums [flagOf r]) ++ fixed (r.f2.size : Int) 2) ++ (r.f2 ++ r.f3) := by simp only [bodyOf, ByteArray.append_assoc]
    have hs : ((((fixed r.f0 8 ++ fixed r.f1 8) ++ strOfNums [flagOf r]) ++ fixed (r.f2.size : Int) 2)).size = 19 := by simp only [ByteArray.size_append, fixed_size, strOfNums_size, List.length_singleton]
    have e2 := @ByteArray.extract_append_size_add ((((fixed r.f0 8 ++ fixed r.f1 8) ++ strOfNums [flagOf r]) ++ fixed (r.f2.size : Int) 2)) (r.f2 ++ r.f3) 0 r.f2.size
    rw [hs] at e2
    rw [e]
    exact e2.trans (ByteArray.extract_append_eq_left rfl)
  have xb : (bodyOf r).extract (19 + r.f2.size) (bodyOf r).size = r.f3 := by
    have e : bodyOf r = ((((fixed r.f0 8 ++ fixed r.f1 8) ++ strOfNums [flagOf r]) ++ fixed (r.f2.size : Int) 2) ++ r.f2) ++ r.f3 := rfl
    refine ByteArray.extract_append_eq_right ?_ ?_
    · simp only [ByteArray.size_append, fixed_size, strOfNums_size, List.length_singleton]
    · rw [e, ByteArray.size_append]
  obtain ⟨a3, a4⟩ := and3 r hr'
  have hq : wrap64 (Go.bits .and .u8 (flagOf r) 3) = r.f4 := by rw [a3, c11]
  have n1 : Ev (fun k => rec_number.f k (bodyOf r)) r.f0 := by
    have e : bodyOf r = fixed r.f0 8 ++ (fixed r.f1 8 ++ (strOfNums [flagOf r] ++ (fixed (r.f2.size : Int) 2 ++ (r.f2 ++ r.f3)))) := by simp only [bodyOf, ByteArray.append_assoc]
    rw [e]; exact num8 r.f0 h0 (by omega) _
  have n2 := num8 r.f1 h2 (by omega) (strOfNums [flagOf r] ++ (fixed (r.f2.size : Int) 2 ++ (r.f2 ++ r.f3)))
  have c13 : decide (bt (bodyOf r) 8 > 127) = false := decide_eq_false (Int.not_lt.2 hd8)
  unfold rec_read.f
  refine Ev.congr (fun k => by rw [if_neg c1, if_pos c2, h17]) ?_
  refine Ev.bind t1 ?_
  refine Ev.congr (fun k => by rw [if_pos c3, h16, if_neg c12, if_neg c7, if_pos c4, if_neg (Int.not_lt.2 hd0), if_pos c5, c13]) ?_
  refine Ev.step (fun k => by rw [rec_read.j0, if_neg (by decide)]) ?_
  refine Ev.bind n1 (Ev.congr (fun k => by rw [if_pos c6, x8]) (Ev.bind n2 ?_))
  refine Ev.congr (fun k => by rw [hw19, if_pos c8, if_pos c9, if_pos c10, if_pos c3, Int.toNat_natCast, xk, xb, h16, hq, a4]) ?_
  exact Ev.bind (check_yes r hr') (Ev.now _)
theorem take_back (r : R) (hr : recOk r) (s : ByteArray) (hs : s.size ≤ 1000000) : Ev (fun k => rec_Take.f k (recBytes r ++ s)) (r.f0, r.f1, r.f2, r.f3, r.f4, r.f5, (recLen r : Int), 0) := by
  have hr' := hr
  obtain ⟨h0, h1, h2, h3, h4, h5, h6, h7, h8⟩ := hr
  have hb := bodyOf_size r
  have hh : (headOf r).size = 2 := fixed_size _ _
  have hsum := sumOf_in (headOf r) (bodyOf r)
  have hl : recLen r = 6 + (bodyOf r).size := by rw [hb]; unfold recLen; omega
  have hsz : (recBytes r ++ s).size = 6 + (bodyOf r).size + s.size := by rw [ByteArray.size_append, recBytes_size, hl]
  have c1 : ¬ ((recBytes r ++ s).size : Int) < 6 := by omega
  have c2 : decide (wrap64 (((recBytes r ++ s).size : Int) - 6) < ((bodyOf r).size : Int)) = false := decide_eq_false (by rw [wrap_in (by omega) (by omega)]; omega)
  have c3 : 2 ≤ ((recBytes r ++ s).size : Int) := by omega
  have c4 : 6 ≤ ((6 + (bodyOf r).size : Nat) : Int) := by omega
  have c5 : ((6 + (bodyOf r).size : Nat) : Int) ≤ ((recBytes r ++ s).size : Int) := by omega
  have c6 : (headOf r).size ≤ 140737488351232 := by omega
  have c7 : (bodyOf r).size ≤ 140737488351232 := by omega
  have e1 : recBytes r ++ s = headOf r ++ (fixed (sumOf (headOf r) (bodyOf r)) 4 ++ (bodyOf r ++ s)) := by simp only [recBytes, ByteArray.append_assoc]
  have v1 : V (recBytes r ++ s) 2 = (bodyOf r).size := by
    rw [e1, V_left _ _ 2 (by omega)]
    exact V_fixed _ 2 (by omega)
  have t1 := taketwo_ev (recBytes r ++ s) (by omega)
  rw [v1] at t1
  have x2 : (recBytes r ++ s).extract 2 (recBytes r ++ s).size = fixed (sumOf (headOf r) (bodyOf r)) 4 ++ (bodyOf r ++ s) := by
    rw [e1]
    exact ByteArray.extract_append_eq_right (by omega) (by rw [ByteArray.size_append])
  have v2 : V (fixed (sumOf (headOf r) (bodyOf r)) 4 ++ (bodyOf r ++ s)) 4 = (sumOf (headOf r) (bodyOf r)).toNat := by
    rw [V_left _ _ 4 (by rw [fixed_size]; omega), fixed_nat _ hsum.1]
    exact V_fixed _ 4 (by omega)
  have t2 := takefour_ev (fixed (sumOf (headOf r) (bodyOf r)) 4 ++ (bodyOf r ++ s)) (by rw [ByteArray.size_append, fixed_size]; omega)
  rw [v2] at t2
  have hw6 : wrap64 (6 + ((bodyOf r).size : Int)) = ((6 + (bodyOf r).size : Nat) : Int) := by rw [wrap_in (by omega) (by omega)]; omega
  have x6 : (recBytes r ++ s).extract 6 (6 + (bodyOf r).size) = bodyOf r := by
    have e : recBytes r ++ s = (headOf r ++ fixed (sumOf (headOf r) (bodyOf r)) 4) ++ (bodyOf r ++ s) := by simp only [recBytes, ByteArray.append_assoc]
    have hs6 : (headOf r ++ fixed (sumOf (headOf r) (bodyOf r)) 4).size = 6 := by rw [ByteArray.size_append, fixed_size, hh]
    have e2 := @ByteArray.extract_append_size_add (headOf r ++ fixed (sumOf (headOf r) (bodyOf r)) 4) (bodyOf r ++ s) 0 (bodyOf r).size
    rw [hs6] at e2
    rw [e]
    exact e2.trans (ByteArray.extract_append_eq_left rfl)
  have x0 : (recBytes r ++ s).extract 0 2 = headOf r := by rw [e1]; exact ByteArray.extract_append_eq_left hh.symm
  have hw : wrap64 ((~~~ (run (~~~ ~~~ (run (~~~ (0#32)) (headOf r).data.toList)) (bodyOf r).data.toList)).toNat : Int) = sumOf (headOf r) (bodyOf r) := by
    rw [BitVec.not_not, ← run_append]
    have e : (headOf r).data.toList ++ (bodyOf r).data.toList = (headOf r ++ bodyOf r).data.toList := by simp [ByteArray.data_append]
    rw [e]
    rw [wrap_in (by have := hsum; unfold sumOf at this; omega) (by have := hsum; unfold sumOf at this; omega)]; rfl
  unfold rec_Take.f
  refine Ev.bind t1 ?_
  refine Ev.congr (fun k => by rw [if_neg c1, c2]) ?_
  refine Ev.step (fun k => by rw [rec_Take.j0, if_neg (by decide), if_pos c3, x2]) ?_
  refine Ev.bind t2 (Ev.congr (fun k => by rw [hw6, if_pos c4, if_pos c5, Int.toNat_natCast, x6, x0]) ?_)
  refine Ev.bind (read_back r hr') (Ev.congr (fun k => by rw [if_pos rfl, if_pos (by decide)]) ?_)
  refine Ev.bind (sum_ev 0#32 (headOf r) c6) ?_
  refine Ev.bind (sum_ev (~~~ (run (~~~ (0#32)) (headOf r).data.toList)) (bodyOf r) c7) ?_
  rw [hw]
  refine Ev.congr (f := fun _ => some _) (fun k => ?_) (Ev.now _)
  rw [if_pos (by rw [Int.toNat_of_nonneg hsum.1]), hl]
end Go.Proofs.Ytmabdfdmccbfnaa.UBack

-- written by a program of the proving session, out of the translation; Lean checks it
namespace Go.Proofs.Ytmabdfdmccbfnaa.P
open Go.RowKit Go.Proofs.Ytmabdfdmccbfnaa.Sq Go.Proofs.YtmabdfdmccbfnaaW.PrintWords Go.Proofs.YtmabdfdmccbfnaaW.PrintLast Go.Proofs.YtmabdfdmccbfnaaW.PrintMore
attribute [local go_sem] max2_int min2_int max_two min_two max_three min_three max_four min_four   -- for this text's walks alone
set_option linter.unusedVariables false
set_option linter.unusedSimpArgs false

/-! ### seg_Size: function 44 -/
def seg_Size.l0 : Nat → Int → List (S25) → Int → Int → Option (Int × Int)
 | 0, _, _, _, _ => none
 | k + 1, x5, x16, x17, x18 => if x18 < x17 then (if 0 ≤ x18 then (if x18 < (x16.length : Int) then ((rec_Size.f k ((rd_T25 x16 x18).f0) ((rd_T25 x16 x18).f1) ((rd_T25 x16 x18).f2) ((rd_T25 x16 x18).f3) ((rd_T25 x16 x18).f4) ((rd_T25 x16 x18).f5)).bind fun bt535 => (seg_Size.l0 k (wrap64 (x5 + bt535.1)) x16 x17 (wrap64 (x18 + 1)))) else (none)) else (none)) else (some (x5, 0))
def seg_Size.f (k : Nat) (a0_0 : Int) (l0_1 : List (S25)) : Option (Int × Int) := (seg_Check.f k a0_0 l0_1).bind fun t532 => (if t532 = 0 then (seg_Size.l0 k 0 l0_1 (l0_1.length : Int) 0) else (some (0, t532)))
theorem seg_Size.mono_l : ∀ k, (∀ y0 y1 y2 y3, LeO (seg_Size.l0 k y0 y1 y2 y3) (seg_Size.l0 (k + 1) y0 y1 y2 y3))
 | 0 => fun _ _ _ _ r h => by simp [seg_Size.l0] at h
 | k + 1 => by
  have ih0 := seg_Size.mono_l k
  ·intro y0 y1 y2 y3
   unfold seg_Size.l0
   repeat' first
   | (with_reducible exact ih0 _ _ _ _)
   | (with_reducible exact rec_Size.mono _ _ _ _ _ _ _)
   | (with_reducible exact seg_Check.mono _ _ _)
   | (with_reducible exact LeO.refl _)
   | (with_reducible exact LeO.none _)
   | (with_reducible refine LeO.ite ?_ ?_)
   | (with_reducible refine LeO.bind ?_ (fun _ => ?_))
   | exact ih0 _ _ _ _
   | exact rec_Size.mono _ _ _ _ _ _ _
   | exact seg_Check.mono _ _ _
   | exact LeO.none _
   | refine LeO.ite ?_ ?_
   | refine LeO.bind ?_ (fun _ => ?_)
theorem seg_Size.mono : ∀ a0 a1 k, LeO (seg_Size.f k a0 a1) (seg_Size.f (k + 1) a0 a1) := by
 intro a0 a1 k
 have ih0 := seg_Size.mono_l k
 unfold seg_Size.f
 repeat' first
  | (with_reducible exact ih0 _ _ _ _)
  | (with_reducible exact rec_Size.mono _ _ _ _ _ _ _)
  | (with_reducible exact seg_Check.mono _ _ _)
  | (with_reducible exact LeO.refl _)
  | (with_reducible exact LeO.none _)
  | (with_reducible refine LeO.ite ?_ ?_)
  | (with_reducible refine LeO.bind ?_ (fun _ => ?_))
  | exact ih0 _ _ _ _
  | exact rec_Size.mono _ _ _ _ _ _ _
  | exact seg_Check.mono _ _ _
  | exact LeO.none _
  | refine LeO.ite ?_ ?_
  | refine LeO.bind ?_ (fun _ => ?_)
set_option maxHeartbeats 8000000 in
set_option maxRecDepth 100000 in
theorem seg_Size.calls (k : Nat) (a0_0 : Int) (A0_1 : Option Addr) (c0_1 : Nat) (l0_1 : List (S25)) (r1 : Int) (r2 : Int) (w : World) (hr0_1 : Kd.C k25 w A0_1 l0_1.length l0_1) (hc0_1 : l0_1.length ≤ c0_1) (h : seg_Size.f k a0_0 l0_1 = some (r1, r2)) :
 Calls Try.prog 44 #[.agg #[.int .i64 a0_0, .slice A0_1 l0_1.length c0_1]] w fun e w' => e = .returned (.tuple #[.int .i64 r1, .int .i64 r2]) ∧ Below w.heap.size w w' := by
 have hu53 := Try.underlying53
 have hu25 := Try.underlying25
 have HR0_1 := Aside0.mk hr0_1
 have HC0_1 := Aside0.mk hc0_1
 clear hr0_1 hc0_1
 have HB := Aside0.mk (Below.refl w.heap.size w)
 have H : ((seg_Check.f k a0_0 l0_1).bind fun t532 => (if t532 = 0 then (seg_Size.l0 k 0 l0_1 (l0_1.length : Int) 0) else (some (0, t532)))) = some (r1, r2) := h
 clear h
 replace H := Option.bind_eq_some_iff.mp H
 obtain ⟨t532, A20, H⟩ := H
 try dsimp only at H
 have A2 := Aside0.mk A20
 clear A20
 by_cases c3 : t532 = 0
 ·rw [if_pos c3] at H
  have c3b0 : (t532 == 0) = true := beq_iff_eq.mpr c3
  have c3b1 : (t532 != 0) = false := bne_eq_false_iff_eq.mpr c3
  clear c3
  have H' := Aside0.mk H
  clear H
  go_enter Try.func44, Try.ntmps44
  go_wp2_with (first | ((with_reducible refine gate_dst (N := 1) rfl ?_); refine box_event ?hg (N := 1) ?hd (cs := #[.int .i64 a0_0, .slice A0_1 l0_1.length c0_1]) (t := 53) ?hr ?_; (case hd => rfl); (case hg => rfl); (case hr => first | (go_simp; done) | (go_simp; rfl)); intro gb531 hg w4 hbox hb; have BK531 := Aside0.mk (hbox); have GW531 := Aside0.mk ((by rw [hg]; exact (below_size bo) : w.heap.size ≤ gb531)); have GE531 := Aside0.mk ((by rw [hg]; exact (below_size bo) : w.heap.size ≤ gb531)); replace HB := Aside0.mk (below_step bo hb); clear hb hbox hg; obtain ⟨hcz5_0, hcz5_1⟩ := cl2 BK531.out; obtain ⟨hfz5_0, hfz5_1⟩ := fz2 BK531.out) | ((with_reducible refine gate_callee (f := 46) rfl ?_); refine goesL_ (some 11) rfl rfl Try.func46 (by kernel_rfl) rfl #[.agg #[.int .i64 a0_0, .slice A0_1 l0_1.length c0_1]] rfl aa ?_; (with_reducible refine (seg_Check.calls k a0_0 _ _ l0_1 t532 _ ?side1 ?side2 A2.out).mono ?_); (case side1 => repeat (first | exact (Kd.C_below HR0_1.out HB.out) | (with_reducible refine Kd.C_alloc ?_ _) | (with_reducible refine Kd.C_drewN ?_ _) | (with_reducible refine Kd.C_drew ?_))); (case side2 => exact HC0_1.out); rintro e w6 ⟨rfl, hb⟩; refine ⟨_, rfl, ?_⟩; replace BK531 := Aside0.mk (bb BK531.out hb); replace HB := Aside0.mk (below_step bo hb); (try clear hb); (try clear hb2); (try clear hk); (try clear hi); obtain ⟨hcz7_0, hcz7_1⟩ := cl2 BK531.out; obtain ⟨hfz7_0, hfz7_1⟩ := fz2 BK531.out))
  go_loopg [5, 18] k (fun kq v5 v18 w' => ∃ (x5_1 : Int) (x18_1 : Int), v5 = .int .i64 x5_1 ∧ v18 = .int .i64 x18_1 ∧ Aside0 (seg_Size.l0 kq x5_1 l0_1 (l0_1.length : Int) x18_1 = some (r1, r2)) ∧ Aside0 (kq ≤ k) ∧ Aside0 (w'.heap[gb531]? = some (.cells #[.int .i64 a0_0, (.slice A0_1 l0_1.length c0_1)] 53 (0, 0))) ∧ Aside0 (Below w.heap.size w w'))
  case atStart => exact ⟨(0), (0), ap, ap, H', ⟨Nat.le_refl _⟩, ⟨by (with_reducible repeat (first | refine blk_drewN ?_ _ | refine blk_drew ?_ | refine blk_alloc ?_ _)); exact BK531.out⟩, ⟨bo⟩⟩
  case round =>
   clear H'
   (try clear p2); (try clear c3); (try clear c3b0); (try clear c3b1); (try clear c4); (try clear hcz5_0); (try clear hcz5_1); (try clear hcz7_0); (try clear hcz7_1); (try clear hfz5_0); (try clear hfz5_1); (try clear hfz7_0); (try clear hfz7_1)
   obtain ⟨x5_1, x18_1, rfl, rfl, HA, HK1, BK531, HB⟩ := hrel
   cases gk with
   | zero => exact absurd HA.out (by simp [seg_Size.l0])
   | succ k1 =>
    have H := HA.out
    clear HA
    simp only [seg_Size.l0] at H
    by_cases c8 : x18_1 < (l0_1.length : Int)
    ·rw [if_pos c8] at H
     have c8b0 : decide (x18_1 < (l0_1.length : Int)) = true := decide_eq_true c8
     clear c8
     by_cases c9 : 0 ≤ x18_1
     ·rw [if_pos c9] at H
      have c9b0 : decide (0 ≤ x18_1) = true := decide_eq_true c9
      clear c9
      by_cases c10 : x18_1 < (l0_1.length : Int)
      ·rw [if_pos c10] at H
       have c10b0 : decide (x18_1 < (l0_1.length : Int)) = true := decide_eq_true c10
       clear c10
       replace H := Option.bind_eq_some_iff.mp H
       obtain ⟨⟨t535, t536⟩, A110, H⟩ := H
       replace H : (seg_Size.l0 k1 (wrap64 (x5_1 + t535)) l0_1 (l0_1.length : Int) (wrap64 (x18_1 + 1))) = some (r1, r2) := H
       have A11 := Aside0.mk A110
       clear A110
       have H' := Aside0.mk H
       clear H
       have p533 : 0 ≤ (x18_1 : Int) := od
       have q533 : x18_1 < (l0_1.length : Int) := od
       obtain ⟨ad533, e533, hx533_0, hx533_1, hx533_2, hx533_3, hx533_4, hx533_5⟩ := at_T25 HR0_1.out x18_1 p533 q533
       cases e533
       replace hx533_0 := cx HB.out hx533_0
       replace hx533_1 := cx HB.out hx533_1
       replace hx533_2 := cx HB.out hx533_2
       replace hx533_3 := cx HB.out hx533_3
       replace hx533_4 := cx HB.out hx533_4
       replace hx533_5 := cx HB.out hx533_5
       replace p533 := eq_true p533
       replace q533 := eq_true q533
       go_wp2_with (first | ((with_reducible refine gate_dst (N := 7) rfl ?_); refine box_event ?hg (N := 7) ?hd (cs := #[.int .i64 0, .int .i64 0, .string (⟨#[]⟩ : ByteArray), .string (⟨#[]⟩ : ByteArray), .int .i64 0, .bool false]) (t := 25) ?hr ?_; (case hd => rfl); (case hg => rfl); (case hr => first | (go_simp; done) | (go_simp; rfl)); intro gb534 hg w12 hbox hb; have BK534 := Aside0.mk (hbox); have GW534 := Aside0.mk ((by rw [hg]; exact (below_size bo) : w.heap.size ≤ gb534)); have GE534 := Aside0.mk ((by rw [hg]; exact (below_size bo) : w.heap.size ≤ gb534)); replace HB := Aside0.mk (below_step bo hb); have NB531_534 := Aside0.mk (nl BK531.out hg); have NB534_531 := Aside0.mk (ng BK531.out hg); replace BK531 := Aside0.mk (bb BK531.out hb); clear hb hbox hg; have hnb13 := NB534_531.out; have hnc13 := NB531_534.out; obtain ⟨hcz14_0, hcz14_1, hcz14_2, hcz14_3, hcz14_4, hcz14_5⟩ := cl6 BK534.out; obtain ⟨hfz14_0, hfz14_1, hfz14_2, hfz14_3, hfz14_4, hfz14_5⟩ := fz6 BK534.out) | ((with_reducible refine gate_callee (f := 21) rfl ?_); refine goesL_ (some 24) rfl rfl Try.func21 (by kernel_rfl) rfl #[.agg #[.int .i64 ((rd_T25 l0_1 x18_1).f0), .int .i64 ((rd_T25 l0_1 x18_1).f1), .string ((rd_T25 l0_1 x18_1).f2), .string ((rd_T25 l0_1 x18_1).f3), .int .i64 ((rd_T25 l0_1 x18_1).f4), .bool ((rd_T25 l0_1 x18_1).f5)]] rfl aa ?_; (with_reducible refine (rec_Size.calls k1 ((rd_T25 l0_1 x18_1).f0) ((rd_T25 l0_1 x18_1).f1) ((rd_T25 l0_1 x18_1).f2) ((rd_T25 l0_1 x18_1).f3) ((rd_T25 l0_1 x18_1).f4) ((rd_T25 l0_1 x18_1).f5) t535 t536 _ A11.out).mono ?_); rintro e w15 ⟨rfl, hb⟩; refine ⟨_, rfl, ?_⟩; replace BK531 := Aside0.mk (bB BK531.out hb); replace BK534 := Aside0.mk (blk_below (g := gb534) (o := .cells #[.int .i64 ((rd_T25 l0_1 x18_1).f0), .int .i64 ((rd_T25 l0_1 x18_1).f1), .string ((rd_T25 l0_1 x18_1).f2), .string ((rd_T25 l0_1 x18_1).f3), .int .i64 ((rd_T25 l0_1 x18_1).f4), .bool ((rd_T25 l0_1 x18_1).f5)] 25 (0, 0)) (by (with_reducible repeat (first | refine blk_drewN ?_ _ | refine blk_drew ?_ | refine blk_alloc ?_ _)); refine blk_put (cs := #[.int .i64 ((rd_T25 l0_1 x18_1).f0), .int .i64 ((rd_T25 l0_1 x18_1).f1), .string ((rd_T25 l0_1 x18_1).f2), .string ((rd_T25 l0_1 x18_1).f3), .int .i64 ((rd_T25 l0_1 x18_1).f4), .bool false]) ?_ 5 _ rfl; (with_reducible repeat (first | refine blk_drewN ?_ _ | refine blk_drew ?_ | refine blk_alloc ?_ _)); refine blk_put (cs := #[.int .i64 ((rd_T25 l0_1 x18_1).f0), .int .i64 ((rd_T25 l0_1 x18_1).f1), .string ((rd_T25 l0_1 x18_1).f2), .string ((rd_T25 l0_1 x18_1).f3), .int .i64 0, .bool false]) ?_ 4 _ rfl; (with_reducible repeat (first | refine blk_drewN ?_ _ | refine blk_drew ?_ | refine blk_alloc ?_ _)); refine blk_put (cs := #[.int .i64 ((rd_T25 l0_1 x18_1).f0), .int .i64 ((rd_T25 l0_1 x18_1).f1), .string ((rd_T25 l0_1 x18_1).f2), .string (⟨#[]⟩ : ByteArray), .int .i64 0, .bool false]) ?_ 3 _ rfl; (with_reducible repeat (first | refine blk_drewN ?_ _ | refine blk_drew ?_ | refine blk_alloc ?_ _)); refine blk_put (cs := #[.int .i64 ((rd_T25 l0_1 x18_1).f0), .int .i64 ((rd_T25 l0_1 x18_1).f1), .string (⟨#[]⟩ : ByteArray), .string (⟨#[]⟩ : ByteArray), .int .i64 0, .bool false]) ?_ 2 _ rfl; (with_reducible repeat (first | refine blk_drewN ?_ _ | refine blk_drew ?_ | refine blk_alloc ?_ _)); refine blk_put (cs := #[.int .i64 ((rd_T25 l0_1 x18_1).f0), .int .i64 0, .string (⟨#[]⟩ : ByteArray), .string (⟨#[]⟩ : ByteArray), .int .i64 0, .bool false]) ?_ 1 _ rfl; (with_reducible repeat (first | refine blk_drewN ?_ _ | refine blk_drew ?_ | refine blk_alloc ?_ _)); refine blk_put (cs := #[.int .i64 0, .int .i64 0, .string (⟨#[]⟩ : ByteArray), .string (⟨#[]⟩ : ByteArray), .int .i64 0, .bool false]) ?_ 0 _ rfl; (with_reducible repeat (first | refine blk_drewN ?_ _ | refine blk_drew ?_ | refine blk_alloc ?_ _)); exact BK534.out) hb); replace HB := Aside0.mk (below_step bo hb); (try clear hb); (try clear hb2); (try clear hk); (try clear hi)))
       go_roundg k1
       case measure => have := HK1.out; omega
       case rel => exact ⟨(wrap64 (x5_1 + t535)), (wrap64 (x18_1 + 1)), ap, ap, H', ⟨by have := HK1.out; omega⟩, ⟨by (with_reducible repeat (first | refine blk_drewN ?_ _ | refine blk_drew ?_ | refine blk_alloc ?_ _)); exact BK531.out⟩, ⟨bo⟩⟩
      ·rw [if_neg c10] at H
       exact absurd H (by simp)
     ·rw [if_neg c9] at H
      exact absurd H (by simp)
    ·rw [if_neg c8] at H
     have c8b0 : decide (x18_1 < (l0_1.length : Int)) = false := decide_eq_false c8
     clear c8
     simp only [Option.some.injEq, Prod.mk.injEq] at H
     obtain ⟨rfl, rfl⟩ := H
     go_wp2
     go_ret2
     exact ⟨er, bo⟩
 ·rw [if_neg c3] at H
  have c3b0 : (t532 == 0) = false := beq_eq_false_iff_ne.mpr c3
  have c3b1 : (t532 != 0) = true := bne_iff_ne.mpr c3
  simp only [Option.some.injEq, Prod.mk.injEq] at H
  obtain ⟨rfl, rfl⟩ := H
  go_enter Try.func44, Try.ntmps44
  go_wp2_with (first | ((with_reducible refine gate_dst (N := 1) rfl ?_); refine box_event ?hg (N := 1) ?hd (cs := #[.int .i64 a0_0, .slice A0_1 l0_1.length c0_1]) (t := 53) ?hr ?_; (case hd => rfl); (case hg => rfl); (case hr => first | (go_simp; done) | (go_simp; rfl)); intro gb531 hg w16 hbox hb; have BK531 := Aside0.mk (hbox); have GW531 := Aside0.mk ((by rw [hg]; exact (below_size bo) : w.heap.size ≤ gb531)); have GE531 := Aside0.mk ((by rw [hg]; exact (below_size bo) : w.heap.size ≤ gb531)); replace HB := Aside0.mk (below_step bo hb); clear hb hbox hg; obtain ⟨hcz17_0, hcz17_1⟩ := cl2 BK531.out; obtain ⟨hfz17_0, hfz17_1⟩ := fz2 BK531.out) | ((with_reducible refine gate_callee (f := 46) rfl ?_); refine goesL_ (some 11) rfl rfl Try.func46 (by kernel_rfl) rfl #[.agg #[.int .i64 a0_0, .slice A0_1 l0_1.length c0_1]] rfl aa ?_; (with_reducible refine (seg_Check.calls k a0_0 _ _ l0_1 t532 _ ?side1 ?side2 A2.out).mono ?_); (case side1 => repeat (first | exact (Kd.C_below HR0_1.out HB.out) | (with_reducible refine Kd.C_alloc ?_ _) | (with_reducible refine Kd.C_drewN ?_ _) | (with_reducible refine Kd.C_drew ?_))); (case side2 => exact HC0_1.out); rintro e w18 ⟨rfl, hb⟩; refine ⟨_, rfl, ?_⟩; replace BK531 := Aside0.mk (bb BK531.out hb); replace HB := Aside0.mk (below_step bo hb); (try clear hb); (try clear hb2); (try clear hk); (try clear hi)))
  go_ret2
  exact ⟨er, bo⟩

end Go.Proofs.Ytmabdfdmccbfnaa.P

