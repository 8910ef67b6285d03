/- The law SegParses: printed functions, their contracts, the plain laws and the row, part 7. -/
import Derived.Test.YtmabdfdmccbfnaaKSegParses4
import Derived.Test.YtmabdfdmccbfnaaKSegParses6
import Derived.Test.YtmabdfdmccbfnaaKSegParses5
import Derived.Test.YtmabdfdmccbfnaaKSegParses0
import Derived.Test.YtmabdfdmccbfnaaKSegParses1
import Derived.ProofKit
import Derived.OpenShut
import Derived.SizedLaws
import Derived.Deep.Slices
-- written by a program of the proving session, out of the translation; Lean checks it
namespace Go.Proofs.Ytmabdfdmccbfnaa.P
open Go.RowKit Go.Proofs.Ytmabdfdmccbfnaa.Sq Go.Proofs.YtmabdfdmccbfnaaW.PrintWords Go.Proofs.YtmabdfdmccbfnaaW.PrintLast Go.Proofs.YtmabdfdmccbfnaaW.PrintMore
attribute [local go_sem] max2_int min2_int max_two min_two max_three min_three max_four min_four   -- for this text's walks alone
set_option linter.unusedVariables false
set_option linter.unusedSimpArgs false

/-! ### fairwayref10_Parse: function 40 -/
def fairwayref10_Parse.l0 : Nat → List (S25) → Int → Int → Int → List (S25) → Option (Int × (List (S25)) × Int)
 | 0, _, _, _, _, _ => none
 | k + 1, x6, x10, x11, x483000, x483001 => if x11 < (x6.length : Int) then (if 0 ≤ x11 then ((fairwayref10_With.f k x483000 x483001 ((rd_T25 x6 x11).f0) ((rd_T25 x6 x11).f1) ((rd_T25 x6 x11).f2) ((rd_T25 x6 x11).f3) ((rd_T25 x6 x11).f4) ((rd_T25 x6 x11).f5)).bind fun bt484 => ((fairwayref10_Seg.f k bt484.1 bt484.2).bind fun t489 => (if t489 = true then ((fairwayref10_Bytes.f k ((rd_T25 x6 x11).f0) ((rd_T25 x6 x11).f1) ((rd_T25 x6 x11).f2) ((rd_T25 x6 x11).f3) ((rd_T25 x6 x11).f4) ((rd_T25 x6 x11).f5)).bind fun t491 => (fairwayref10_Parse.l0 k x6 (wrap64 (x10 + (t491.size : Int))) (wrap64 (x11 + 1)) bt484.1 bt484.2)) else (some (x483000, x483001, x10))))) else (none)) else (some (x483000, x483001, x10))
def fairwayref10_Parse.f (k : Nat) (a0 : Int) (a1 : ByteArray) : Option (Int × (List (S25)) × Int) := (fairwayref10_Scan.f k a1).bind fun bt477 => (fairwayref10_Parse.l0 k bt477.1 0 0 a0 ([] : List (S25)))
theorem fairwayref10_Parse.mono_l : ∀ k, (∀ y0 y1 y2 y3 y4, LeO (fairwayref10_Parse.l0 k y0 y1 y2 y3 y4) (fairwayref10_Parse.l0 (k + 1) y0 y1 y2 y3 y4))
 | 0 => fun _ _ _ _ _ r h => by simp [fairwayref10_Parse.l0] at h
 | k + 1 => by
  have ih0 := fairwayref10_Parse.mono_l k
  ·intro y0 y1 y2 y3 y4
   unfold fairwayref10_Parse.l0
   repeat' first
   | (with_reducible exact ih0 _ _ _ _ _)
   | (with_reducible exact fairwayref10_Bytes.mono _ _ _ _ _ _ _)
   | (with_reducible exact fairwayref10_Scan.mono _ _)
   | (with_reducible exact fairwayref10_Seg.mono _ _ _)
   | (with_reducible exact fairwayref10_With.mono _ _ _ _ _ _ _ _ _)
   | (with_reducible exact LeO.refl _)
   | (with_reducible exact LeO.none _)
   | (with_reducible refine LeO.ite ?_ ?_)
   | (with_reducible refine LeO.bind ?_ (fun _ => ?_))
   | exact ih0 _ _ _ _ _
   | exact fairwayref10_Bytes.mono _ _ _ _ _ _ _
   | exact fairwayref10_Scan.mono _ _
   | exact fairwayref10_Seg.mono _ _ _
   | exact fairwayref10_With.mono _ _ _ _ _ _ _ _ _
   | exact LeO.none _
   | refine LeO.ite ?_ ?_
   | refine LeO.bind ?_ (fun _ => ?_)
theorem fairwayref10_Parse.mono : ∀ a0 a1 k, LeO (fairwayref10_Parse.f k a0 a1) (fairwayref10_Parse.f (k + 1) a0 a1) := by
 intro a0 a1 k
 have ih0 := fairwayref10_Parse.mono_l k
 unfold fairwayref10_Parse.f
 repeat' first
  | (with_reducible exact ih0 _ _ _ _ _)
  | (with_reducible exact fairwayref10_Bytes.mono _ _ _ _ _ _ _)
  | (with_reducible exact fairwayref10_Scan.mono _ _)
  | (with_reducible exact fairwayref10_Seg.mono _ _ _)
  | (with_reducible exact fairwayref10_With.mono _ _ _ _ _ _ _ _ _)
  | (with_reducible exact LeO.refl _)
  | (with_reducible exact LeO.none _)
  | (with_reducible refine LeO.ite ?_ ?_)
  | (with_reducible refine LeO.bind ?_ (fun _ => ?_))
  | exact ih0 _ _ _ _ _
  | exact fairwayref10_Bytes.mono _ _ _ _ _ _ _
  | exact fairwayref10_Scan.mono _ _
  | exact fairwayref10_Seg.mono _ _ _
  | exact fairwayref10_With.mono _ _ _ _ _ _ _ _ _
  | exact LeO.none _
  | refine LeO.ite ?_ ?_
  | refine LeO.bind ?_ (fun _ => ?_)
def fairwayref10_Parse.T7 : Bool × List (List Nat × List Nat) := (true, [([], []), ([], []), ([], []), ([1, 2], [1, 2]), ([3], [3]), ([0, 4], [0, 4]), ([], []), ([6, 5, 5, 0, 1, 2, 3, 4, 5, 6], [5, 6])])
def fairwayref10_Parse.B7 : List Nat := [0, 0, 0, 6, 14, 31, 0, 127]
theorem fairwayref10_Parse.tab7 : rtab .any (opsOf Try.f40 7) = fairwayref10_Parse.T7 := by kernel_rfl
theorem fairwayref10_Parse.bits7 : waitsOk fairwayref10_Parse.T7.2 fairwayref10_Parse.B7 = true := by kernel_rfl
set_option maxHeartbeats 8000000 in
set_option maxRecDepth 100000 in
theorem fairwayref10_Parse.calls (k : Nat) (a0 : Int) (a1 : ByteArray) (r1 : Int) (r2 : List (S25)) (r3 : Int) (w : World) (h : fairwayref10_Parse.f k a0 a1 = some (r1, r2, r3)) :
 Calls Try.prog 40 #[.int .i64 a0, .string a1] w fun e w' => ∃ v1_ : Value, e = .returned (.tuple #[.agg #[.int .i64 r1, v1_], .int .i64 r3]) ∧ Kd.R k25 25 w' w.heap.size (fun _ => True) v1_ r2 ∧ Below w.heap.size w w' := by
 have hu53 := Try.underlying53
 have hu25 := Try.underlying25
 have HB := Aside0.mk (Below.refl w.heap.size w)
 have H : ((fairwayref10_Scan.f k a1).bind fun bt477 => (fairwayref10_Parse.l0 k bt477.1 0 0 a0 ([] : List (S25)))) = some (r1, r2, r3) := h
 clear h
 replace H := Option.bind_eq_some_iff.mp H
 obtain ⟨⟨t477, t478, t479⟩, A30, H⟩ := H
 replace H : (fairwayref10_Parse.l0 k t477 0 0 a0 ([] : List (S25))) = some (r1, r2, r3) := H
 have A3 := Aside0.mk A30
 clear A30
 have H' := Aside0.mk H
 clear H
 go_enter Try.func40, Try.ntmps40
 go_wp2_with (first | ((with_reducible refine gate_dst (N := 4) rfl ?_); refine box_event ?hg (N := 4) ?hd (cs := #[.int .i64 0, .slice none 0 0]) (t := 53) ?hr ?_; (case hd => rfl); (case hg => rfl); (case hr => first | (go_simp; done) | (go_simp; rfl)); intro gb476 hg w4 hbox hb; have BK476 := Aside0.mk (hbox); have GW476 := Aside0.mk ((by rw [hg]; exact (below_size bo) : w.heap.size ≤ gb476)); have GE476 := Aside0.mk ((by rw [hg]; exact (below_size bo) : w.heap.size ≤ gb476)); replace HB := Aside0.mk (below_step bo hb); clear hb hbox hg) | ((with_reducible refine gate_callee (f := 26) rfl ?_); refine goesL_ (some 15) rfl rfl Try.func26 (by kernel_rfl) rfl #[.string a1] rfl aa ?_; (with_reducible refine (fairwayref10_Scan.calls k a1 t477 t478 t479 _ A3.out).mono ?_); rintro e w5 ⟨v480, rfl, ho0, hb⟩; refine ⟨_, rfl, ?_⟩; have HO481 := Aside0.mk (Kd.R_lower ho0 (below_size bo)); replace BK476 := Aside0.mk (blk_below (g := gb476) (o := .cells #[.int .i64 0, .slice none 0 0] 53 (0, 0)) (bk BK476.out) hb); replace HB := Aside0.mk (below_step bo hb); (try clear hb); (try clear hb2); (try clear hk); (try clear hi); (try clear ho0)) | ((with_reducible refine gate_dst (N := 9) rfl ?_); refine box_event ?hg (N := 9) ?hd (cs := #[.int .i64 0, .slice none 0 0]) (t := 53) ?hr ?_; (case hd => rfl); (case hg => rfl); (case hr => first | (go_simp; done) | (go_simp; rfl)); intro gb482 hg w6 hbox hb; replace HO481 := Aside0.mk (Kd.R_below (rk HO481.out) hb); have BK482 := Aside0.mk (hbox); have GW482 := Aside0.mk ((by rw [hg]; exact (below_size bo) : w.heap.size ≤ gb482)); have GE482 := Aside0.mk ((by rw [hg]; exact (below_size bo) : w.heap.size ≤ gb482)); replace HB := Aside0.mk (below_step bo hb); have NB476_482 := Aside0.mk ((by rw [hg]; exact Nat.ne_of_lt (blk_lt (g := gb476) (o := .cells #[.int .i64 0, .slice none 0 0] 53 (0, 0)) (bk BK476.out)) : gb476 ≠ gb482)); have NB482_476 := Aside0.mk ((by rw [hg]; exact Nat.ne_of_gt (blk_lt (g := gb476) (o := .cells #[.int .i64 0, .slice none 0 0] 53 (0, 0)) (bk BK476.out)) : gb482 ≠ gb476)); replace BK476 := Aside0.mk (blk_below (g := gb476) (o := .cells #[.int .i64 0, .slice none 0 0] 53 (0, 0)) (bk BK476.out) hb); clear hb hbox hg; have hnb7 := NB482_476.out; have hnc7 := NB476_482.out; obtain ⟨hcz8_0, hcz8_1⟩ := cl2 BK482.out; obtain ⟨hfz8_0, hfz8_1⟩ := fz2 BK482.out))
 go_loopg [10, 11] k (fun kq v10 v11 w' => ∃ (x10_1 : Int) (x11_1 : Int) (x477000_1 : Int) (x483000_1 : Int) (x483001_1 : List (S25)) (u483001 : Value), v10 = .int .i64 x10_1 ∧ v11 = .int .i64 x11_1 ∧ Aside0 (fairwayref10_Parse.l0 kq t477 x10_1 x11_1 x483000_1 x483001_1 = some (r1, r2, r3)) ∧ Aside0 (kq ≤ k) ∧ Aside0 (Kd.R k25 25 w' w.heap.size (fun k_ => some k_ ≠ (u483001 : Value).ownBlock) v480 t477) ∧ Aside0 (Kd.R k25 25 w' w.heap.size (fun k_ => some k_ ≠ (v480 : Value).ownBlock) u483001 x483001_1) ∧ Aside0 (w'.heap[gb476]? = some (.cells #[.int .i64 x477000_1, (.slice none 0 0)] 53 (0, 0))) ∧ Aside0 (w'.heap[gb482]? = some (.cells #[.int .i64 x483000_1, u483001] 53 (0, 0))) ∧ Aside0 (Below w.heap.size w w'))
 case atStart => exact ⟨(0), (0), (0), (a0), (([] : List (S25))), (.slice none 0 0), ap, ap, H', ⟨Nat.le_refl _⟩, ⟨by (with_reducible repeat (first | apply Kd.R_alloc | apply Kd.R_drewN | apply Kd.R_drew)); exact Kd.R_mono (Kd.R_far (p := ⟨gb482, 1, none⟩) (Kd.R_far (p := ⟨gb482, 0, none⟩) (Kd.R_types HO481.out BK482.out (by decide)) (fun _ hk => hk.2) (.int .i64 a0)) (fun _ hk => hk.2) (.slice none 0 0)) (fun _ hk => (by simp [Value.ownBlock]))⟩, ⟨by first | exact Kd.R_nil _ _ _ _ _ | exact Kd.N_nil _ _ _ _ _ | exact Kd.V_nil _ _ _ _ _ | exact Kd.Q_nil _ _ _ _ _ | exact Kd.S_nil _ _ _ _ _⟩, ⟨by (with_reducible repeat (first | refine blk_drewN ?_ _ | refine blk_drew ?_ | refine blk_alloc ?_ _)); refine blk_far ?_ NB476_482.out _; (with_reducible repeat (first | refine blk_drewN ?_ _ | refine blk_drew ?_ | refine blk_alloc ?_ _)); refine blk_far ?_ NB476_482.out _; (with_reducible repeat (first | refine blk_drewN ?_ _ | refine blk_drew ?_ | refine blk_alloc ?_ _)); exact BK476.out⟩, ⟨by (with_reducible repeat (first | refine blk_drewN ?_ _ | refine blk_drew ?_ | refine blk_alloc ?_ _)); refine blk_put (cs := #[.int .i64 a0, .slice none 0 0]) ?_ 1 _ rfl; (with_reducible repeat (first | refine blk_drewN ?_ _ | refine blk_drew ?_ | refine blk_alloc ?_ _)); refine blk_put (cs := #[.int .i64 0, .slice none 0 0]) ?_ 0 _ rfl; (with_reducible repeat (first | refine blk_drewN ?_ _ | refine blk_drew ?_ | refine blk_alloc ?_ _)); exact BK482.out⟩, ⟨bo⟩⟩
 case round =>
  clear H'
  try clear c2
  try clear p2
  try clear c4
  try clear c7
  try clear hcz8_0
  try clear hcz8_1
  try clear hfz8_0
  try clear hfz8_1
  obtain ⟨x10_1, x11_1, x477000_1, x483000_1, x483001_1, u483001, rfl, rfl, HA, HK1, HO_6, HO_483001, BK476, BK482, HB⟩ := hrel
  cases gk with
  | zero => exact absurd HA.out (by simp [fairwayref10_Parse.l0])
  | succ k1 =>
   have H := HA.out
   clear HA
   simp only [fairwayref10_Parse.l0] at H
   by_cases c9 : x11_1 < (t477.length : Int)
   ·rw [if_pos c9] at H
    have c9b0 : decide (x11_1 < (t477.length : Int)) = true := decide_eq_true c9
    clear c9
    by_cases c10 : 0 ≤ x11_1
    ·rw [if_pos c10] at H
     have c10b0 : decide (0 ≤ x11_1) = true := decide_eq_true c10
     clear c10
     replace H := Option.bind_eq_some_iff.mp H
     obtain ⟨⟨t484, t485⟩, A110, H⟩ := H
     replace H : ((fairwayref10_Seg.f k1 t484 t485).bind fun t489 => (if t489 = true then ((fairwayref10_Bytes.f k1 ((rd_T25 t477 x11_1).f0) ((rd_T25 t477 x11_1).f1) ((rd_T25 t477 x11_1).f2) ((rd_T25 t477 x11_1).f3) ((rd_T25 t477 x11_1).f4) ((rd_T25 t477 x11_1).f5)).bind fun t491 => (fairwayref10_Parse.l0 k1 t477 (wrap64 (x10_1 + (t491.size : Int))) (wrap64 (x11_1 + 1)) t484 t485)) else (some (x483000_1, x483001_1, x10_1)))) = some (r1, r2, r3) := H
     have A11 := Aside0.mk A110
     clear A110
     replace H := Option.bind_eq_some_iff.mp H
     obtain ⟨t489, A120, H⟩ := H
     replace H : (if t489 = true then ((fairwayref10_Bytes.f k1 ((rd_T25 t477 x11_1).f0) ((rd_T25 t477 x11_1).f1) ((rd_T25 t477 x11_1).f2) ((rd_T25 t477 x11_1).f3) ((rd_T25 t477 x11_1).f4) ((rd_T25 t477 x11_1).f5)).bind fun t491 => (fairwayref10_Parse.l0 k1 t477 (wrap64 (x10_1 + (t491.size : Int))) (wrap64 (x11_1 + 1)) t484 t485)) else (some (x483000_1, x483001_1, x10_1))) = some (r1, r2, r3) := H
     have A12 := Aside0.mk A120
     clear A120
     by_cases c13 : t489 = true
     ·subst c13
      have H1 : ((fairwayref10_Bytes.f k1 ((rd_T25 t477 x11_1).f0) ((rd_T25 t477 x11_1).f1) ((rd_T25 t477 x11_1).f2) ((rd_T25 t477 x11_1).f3) ((rd_T25 t477 x11_1).f4) ((rd_T25 t477 x11_1).f5)).bind fun t491 => (fairwayref10_Parse.l0 k1 t477 (wrap64 (x10_1 + (t491.size : Int))) (wrap64 (x11_1 + 1)) t484 t485)) = some (r1, r2, r3) := by rw [if_pos rfl] at H; exact H
      clear H
      have H := H1
      clear H1
      replace H := Option.bind_eq_some_iff.mp H
      obtain ⟨t491, A140, H⟩ := H
      replace H : (fairwayref10_Parse.l0 k1 t477 (wrap64 (x10_1 + (t491.size : Int))) (wrap64 (x11_1 + 1)) t484 t485) = some (r1, r2, r3) := H
      have A14 := Aside0.mk A140
      clear A140
      have H' := Aside0.mk H
      clear H
      obtain ⟨Ao15, co15, eo15⟩ := Kd.R_slice HO_6.out
      subst eo15
      obtain ⟨Ao16, co16, eo16⟩ := Kd.R_slice HO_483001.out
      subst eo16
      try go_wp2
      replace HO_6 := Aside0.mk (Kd.R_drew HO_6.out)
      replace HO_483001 := Aside0.mk (Kd.R_drew HO_483001.out)
      replace BK476 := Aside0.mk (blk_drew BK476.out)
      replace BK482 := Aside0.mk (blk_drew BK482.out)
      replace HB := Aside0.mk (below_drew1 HB.out)
      have p483 : 0 ≤ (x11_1 : Int) := od
      have q483 : x11_1 < (t477.length : Int) := od
      obtain ⟨ad483, e483, hx483_0, hx483_1, hx483_2, hx483_3, hx483_4, hx483_5⟩ := at_T25 (Kd.R_reads' HO_6.out).2.2 x11_1 p483 q483
      cases e483
      replace p483 := eq_true p483
      replace q483 := eq_true q483
      refine start_ (n := 8) (S := fun w' => w'.cell? ⟨gb482, 0, none⟩ = some (.int .i64 x483000_1) ∧ w'.cell? ⟨gb482, 1, none⟩ = some (.slice Ao16 x483001_1.length co16) ∧ w'.cell? (ad483.add ((x11_1).toNat * 6)) = some (.int .i64 ((rd_T25 t477 x11_1).f0)) ∧ w'.cell? ⟨(ad483.add ((x11_1).toNat * 6)).block, (ad483.add ((x11_1).toNat * 6)).off + 1, none⟩ = some (.int .i64 ((rd_T25 t477 x11_1).f1)) ∧ w'.cell? ⟨(ad483.add ((x11_1).toNat * 6)).block, (ad483.add ((x11_1).toNat * 6)).off + 2, none⟩ = some (.string ((rd_T25 t477 x11_1).f2)) ∧ w'.cell? ⟨(ad483.add ((x11_1).toNat * 6)).block, (ad483.add ((x11_1).toNat * 6)).off + 3, none⟩ = some (.string ((rd_T25 t477 x11_1).f3)) ∧ w'.cell? ⟨(ad483.add ((x11_1).toNat * 6)).block, (ad483.add ((x11_1).toNat * 6)).off + 4, none⟩ = some (.int .i64 ((rd_T25 t477 x11_1).f4)) ∧ w'.cell? ⟨(ad483.add ((x11_1).toNat * 6)).block, (ad483.add ((x11_1).toNat * 6)).off + 5, none⟩ = some (.bool ((rd_T25 t477 x11_1).f5))) (ds := []) #[O,O,O,O,O,O,O,O] (by kernel_rfl) rfl rfl ⟨(blk_cell BK482.out 0).trans rfl, (blk_cell BK482.out 1).trans rfl, hx483_0, hx483_1, hx483_2, hx483_3, hx483_4, hx483_5⟩ (fun hHeld => ?_); refine with_tabW fairwayref10_Parse.tab7 fairwayref10_Parse.bits7 (fun HT_ HW_ => ?_)
      generalize wr.drew = w17 at HO_6 HO_483001 BK476 BK482 HB hx483_0 hx483_1 hx483_2 hx483_3 hx483_4 hx483_5 hHeld ⊢
      refine pz (i := 1) (N := some 28) #[O,I,O,O,O,O,O,O] ?_
      refine pz (i := 2) (N := some 29) #[O,I,I,O,O,O,O,O] ?_
      refine pz (i := 3) (N := some 30) #[O,I,I,I,O,O,O,O] ?_
      refine tz (i := 0) (N := some 27) #[I,I,I,I,O,O,O,O] ?_
      refine tz (i := 4) (N := some 31) #[I,I,I,I,I,O,O,O] ?_
      refine join_ (σ := Value × Nat) 1 #[I,I,I,I,I,I,I,O] (fun s_ => [(32, .agg #[.int .i64 t484, s_.1]), (12, .pointer (some ⟨s_.2, 0, none⟩))]) (fun s_ w' => (w'.cell? ⟨gb482, 0, none⟩ = some (.int .i64 x483000_1) ∧ w'.cell? ⟨gb482, 1, none⟩ = some (.slice Ao16 x483001_1.length co16) ∧ w'.cell? (ad483.add ((x11_1).toNat * 6)) = some (.int .i64 ((rd_T25 t477 x11_1).f0)) ∧ w'.cell? ⟨(ad483.add ((x11_1).toNat * 6)).block, (ad483.add ((x11_1).toNat * 6)).off + 1, none⟩ = some (.int .i64 ((rd_T25 t477 x11_1).f1)) ∧ w'.cell? ⟨(ad483.add ((x11_1).toNat * 6)).block, (ad483.add ((x11_1).toNat * 6)).off + 2, none⟩ = some (.string ((rd_T25 t477 x11_1).f2)) ∧ w'.cell? ⟨(ad483.add ((x11_1).toNat * 6)).block, (ad483.add ((x11_1).toNat * 6)).off + 3, none⟩ = some (.string ((rd_T25 t477 x11_1).f3)) ∧ w'.cell? ⟨(ad483.add ((x11_1).toNat * 6)).block, (ad483.add ((x11_1).toNat * 6)).off + 4, none⟩ = some (.int .i64 ((rd_T25 t477 x11_1).f4)) ∧ w'.cell? ⟨(ad483.add ((x11_1).toNat * 6)).block, (ad483.add ((x11_1).toNat * 6)).off + 5, none⟩ = some (.bool ((rd_T25 t477 x11_1).f5))) ∧ (Kd.R k25 25 w' w.heap.size (fun k_ => some k_ ≠ (.slice Ao16 x483001_1.length co16 : Value).ownBlock ∧ some k_ ≠ (.slice (some ad483) t477.length co15 : Value).ownBlock) s_.1 t485) ∧ (Kd.R k25 25 w' w.heap.size (fun k_ => some k_ ≠ (s_.1 : Value).ownBlock ∧ some k_ ≠ (.slice (some ad483) t477.length co15 : Value).ownBlock) (.slice Ao16 x483001_1.length co16) x483001_1) ∧ (Kd.R k25 25 w' w.heap.size (fun k_ => some k_ ≠ (s_.1 : Value).ownBlock ∧ some k_ ≠ (.slice Ao16 x483001_1.length co16 : Value).ownBlock) (.slice (some ad483) t477.length co15) t477) ∧ (w'.heap[gb476]? = some (.cells #[.int .i64 x477000_1, .slice none 0 0] 53 (0, 0))) ∧ (w'.heap[gb482]? = some (.cells #[.int .i64 x483000_1, .slice Ao16 x483001_1.length co16] 53 (0, 0))) ∧ (w'.heap[s_.2]? = some (.cells #[.int .i64 0, .slice none 0 0] 53 (0, 0))) ∧ (w.heap.size ≤ s_.2) ∧ (w.heap.size ≤ s_.2) ∧ (gb476 ≠ s_.2) ∧ (s_.2 ≠ gb476) ∧ (gb482 ≠ s_.2) ∧ (s_.2 ≠ gb482) ∧ (Below w.heap.size w w')) ?_ ?_
      rotate_left
      ·intro hCont
       refine two_ (i := 5) (j := 6) (Ni := some 32) (Nj := some 12) #[I,I,I,I,I,I,O,O] #[I,I,I,I,I,O,I,O] rfl rfl rfl rfl (two_of HT_.out (by kernel_rfl)) (by decide) (by decide) (fun K hK => ?_) (fun K hK => ?_)
       ·skip
        refine goes_ Try.func48 (by kernel_rfl) rfl #[.agg #[.int .i64 x483000_1, .slice Ao16 x483001_1.length co16], .agg #[.int .i64 ((rd_T25 t477 x11_1).f0), .int .i64 ((rd_T25 t477 x11_1).f1), .string ((rd_T25 t477 x11_1).f2), .string ((rd_T25 t477 x11_1).f3), .int .i64 ((rd_T25 t477 x11_1).f4), .bool ((rd_T25 t477 x11_1).f5)]] (by rfl) rfl rfl aa ?_
        with_reducible refine (fairwayref10_With.calls k1 x483000_1 _ _ x483001_1 ((rd_T25 t477 x11_1).f0) ((rd_T25 t477 x11_1).f1) ((rd_T25 t477 x11_1).f2) ((rd_T25 t477 x11_1).f3) ((rd_T25 t477 x11_1).f4) ((rd_T25 t477 x11_1).f5) t484 t485 _ ?side1 ?side2 A11.out).mono ?_
        (case side1 => repeat (first | exact (Kd.R_reads' HO_483001.out).2.2 | (with_reducible refine Kd.C_alloc ?_ _) | (with_reducible refine Kd.C_drewN ?_ _) | (with_reducible refine Kd.C_drew ?_)))
        (case side2 => exact (Kd.R_reads' HO_483001.out).2.1)
        rintro e w18 ⟨v486, rfl, ho0, hb⟩
        have HS2_ := (hb.cell (World.block_lt_of_cell? _ _ (hHeld.2.2.1))).trans (hHeld.2.2.1)
        have HS3_ := (hb.cell (World.block_lt_of_cell? _ _ (hHeld.2.2.2.1))).trans (hHeld.2.2.2.1)
        have HS4_ := (hb.cell (World.block_lt_of_cell? _ _ (hHeld.2.2.2.2.1))).trans (hHeld.2.2.2.2.1)
        have HS5_ := (hb.cell (World.block_lt_of_cell? _ _ (hHeld.2.2.2.2.2.1))).trans (hHeld.2.2.2.2.2.1)
        have HS6_ := (hb.cell (World.block_lt_of_cell? _ _ (hHeld.2.2.2.2.2.2.1))).trans (hHeld.2.2.2.2.2.2.1)
        have HS7_ := (hb.cell (World.block_lt_of_cell? _ _ (hHeld.2.2.2.2.2.2.2))).trans (hHeld.2.2.2.2.2.2.2)
        refine ⟨_, rfl, ?_⟩
        have HO487 := Aside0.mk (Kd.R_lower (Kd.R_new' (Kd.R_new' ho0 (Kd.R_lt (rk HO_6.out))) (Kd.R_lt (rk HO_483001.out))) (below_size bo))
        replace HO_6 := Aside0.mk (Kd.R_elder' (rk HO_6.out) (Kd.R_base ho0) hb)
        replace HO_483001 := Aside0.mk (Kd.R_elder' (rk HO_483001.out) (Kd.R_base ho0) hb)
        replace BK476 := Aside0.mk (blk_below (g := gb476) (o := .cells #[.int .i64 x477000_1, .slice none 0 0] 53 (0, 0)) (bk BK476.out) hb)
        replace BK482 := Aside0.mk (blk_below (g := gb482) (o := .cells #[.int .i64 x483000_1, .slice Ao16 x483001_1.length co16] 53 (0, 0)) (bk BK482.out) hb)
        replace HB := Aside0.mk (below_step bo hb)
        (try clear hb)
        (try clear hb2)
        (try clear hk)
        (try clear hi)
        (try clear ho0)
        refine hK.out _ _ ⟨(blk_cell BK482.out 0).trans rfl, (blk_cell BK482.out 1).trans rfl, HS2_, HS3_, HS4_, HS5_, HS6_, HS7_⟩ (fun hHeld => ?_)
        clear hK K
        refine norm_ (a' := ?_) ?_ ?_
        rotate_left
        ·show Act.put _ (some 32) _ = _
         simp only [Act.put, List.setIfInBounds_toArray, List.set_cons_zero, List.set_cons_succ, i64_w, i32_w]
         rfl
        refine one_ (i := 6) (N := some 12) #[I,I,I,I,I,I,I,O] rfl rfl (one_of HT_.out (by kernel_rfl)) (by decide) (fun K hK => ?_)
        refine box_step ?hg (N := 12) ?hd (cs := #[.int .i64 0, .slice none 0 0]) (t := 53) ?hr ?_; (case hd => rfl); (case hg => rfl); (case hr => first | (go_simp; done) | (go_simp; rfl))
        intro gb488 hg w19 hbox hb
        have HS2_ := (hb.cell (World.block_lt_of_cell? _ _ (hHeld.2.2.1))).trans (hHeld.2.2.1)
        have HS3_ := (hb.cell (World.block_lt_of_cell? _ _ (hHeld.2.2.2.1))).trans (hHeld.2.2.2.1)
        have HS4_ := (hb.cell (World.block_lt_of_cell? _ _ (hHeld.2.2.2.2.1))).trans (hHeld.2.2.2.2.1)
        have HS5_ := (hb.cell (World.block_lt_of_cell? _ _ (hHeld.2.2.2.2.2.1))).trans (hHeld.2.2.2.2.2.1)
        have HS6_ := (hb.cell (World.block_lt_of_cell? _ _ (hHeld.2.2.2.2.2.2.1))).trans (hHeld.2.2.2.2.2.2.1)
        have HS7_ := (hb.cell (World.block_lt_of_cell? _ _ (hHeld.2.2.2.2.2.2.2))).trans (hHeld.2.2.2.2.2.2.2)
        replace HO_6 := Aside0.mk (Kd.R_below (rk HO_6.out) hb)
        replace HO_483001 := Aside0.mk (Kd.R_below (rk HO_483001.out) hb)
        replace HO487 := Aside0.mk (Kd.R_below (rk HO487.out) hb)
        have BK488 := Aside0.mk (hbox)
        have GW488 := Aside0.mk ((by rw [hg]; exact (below_size bo) : w.heap.size ≤ gb488))
        have GE488 := Aside0.mk ((by rw [hg]; exact (below_size bo) : w.heap.size ≤ gb488))
        replace HB := Aside0.mk (below_step bo hb)
        have NB476_488 := Aside0.mk ((by rw [hg]; exact Nat.ne_of_lt (blk_lt (g := gb476) (o := .cells #[.int .i64 x477000_1, .slice none 0 0] 53 (0, 0)) (bk BK476.out)) : gb476 ≠ gb488))
        have NB488_476 := Aside0.mk ((by rw [hg]; exact Nat.ne_of_gt (blk_lt (g := gb476) (o := .cells #[.int .i64 x477000_1, .slice none 0 0] 53 (0, 0)) (bk BK476.out)) : gb488 ≠ gb476))
        replace BK476 := Aside0.mk (blk_below (g := gb476) (o := .cells #[.int .i64 x477000_1, .slice none 0 0] 53 (0, 0)) (bk BK476.out) hb)
        have NB482_488 := Aside0.mk ((by rw [hg]; exact Nat.ne_of_lt (blk_lt (g := gb482) (o := .cells #[.int .i64 x483000_1, .slice Ao16 x483001_1.length co16] 53 (0, 0)) (bk BK482.out)) : gb482 ≠ gb488))
        have NB488_482 := Aside0.mk ((by rw [hg]; exact Nat.ne_of_gt (blk_lt (g := gb482) (o := .cells #[.int .i64 x483000_1, .slice Ao16 x483001_1.length co16] 53 (0, 0)) (bk BK482.out)) : gb488 ≠ gb482))
        replace BK482 := Aside0.mk (blk_below (g := gb482) (o := .cells #[.int .i64 x483000_1, .slice Ao16 x483001_1.length co16] 53 (0, 0)) (bk BK482.out) hb)
        clear hb hbox hg
        refine hK.out _ _ ⟨(blk_cell BK482.out 0).trans rfl, (blk_cell BK482.out 1).trans rfl, HS2_, HS3_, HS4_, HS5_, HS6_, HS7_⟩ (fun hHeld => ?_)
        clear hK K
        refine norm_ (a' := ?_) ?_ ?_
        rotate_left
        ·show Act.put _ (some 12) _ = _
         simp only [Act.put, List.setIfInBounds_toArray, List.set_cons_zero, List.set_cons_succ, i64_w, i32_w]
         rfl
        exact norm_ (by simp only [putAll, Act.put, List.setIfInBounds_toArray, List.set_cons_zero, List.set_cons_succ]) (hCont (v486, gb488) _ ⟨hHeld, (by (with_reducible repeat (first | apply Kd.R_alloc | apply Kd.R_drewN | apply Kd.R_drew)); exact Kd.R_mono HO487.out (fun _ hk => ⟨hk.2, hk.1.2⟩)), (by (with_reducible repeat (first | apply Kd.R_alloc | apply Kd.R_drewN | apply Kd.R_drew)); exact Kd.R_mono HO_483001.out (fun _ hk => ⟨hk.2, hk.1⟩)), (by (with_reducible repeat (first | apply Kd.R_alloc | apply Kd.R_drewN | apply Kd.R_drew)); exact Kd.R_mono HO_6.out (fun _ hk => ⟨hk.2, hk.1⟩)), (bk BK476.out), (bk BK482.out), (bk BK488.out), GW488.out, GE488.out, NB476_488.out, NB488_476.out, NB482_488.out, NB488_482.out, bo⟩)
       ·skip
        refine box_step ?hg (N := 12) ?hd (cs := #[.int .i64 0, .slice none 0 0]) (t := 53) ?hr ?_; (case hd => rfl); (case hg => rfl); (case hr => first | (go_simp; done) | (go_simp; rfl))
        intro gb488 hg w18 hbox hb
        have HS2_ := (hb.cell (World.block_lt_of_cell? _ _ (hHeld.2.2.1))).trans (hHeld.2.2.1)
        have HS3_ := (hb.cell (World.block_lt_of_cell? _ _ (hHeld.2.2.2.1))).trans (hHeld.2.2.2.1)
        have HS4_ := (hb.cell (World.block_lt_of_cell? _ _ (hHeld.2.2.2.2.1))).trans (hHeld.2.2.2.2.1)
        have HS5_ := (hb.cell (World.block_lt_of_cell? _ _ (hHeld.2.2.2.2.2.1))).trans (hHeld.2.2.2.2.2.1)
        have HS6_ := (hb.cell (World.block_lt_of_cell? _ _ (hHeld.2.2.2.2.2.2.1))).trans (hHeld.2.2.2.2.2.2.1)
        have HS7_ := (hb.cell (World.block_lt_of_cell? _ _ (hHeld.2.2.2.2.2.2.2))).trans (hHeld.2.2.2.2.2.2.2)
        replace HO_6 := Aside0.mk (Kd.R_below (rk HO_6.out) hb)
        replace HO_483001 := Aside0.mk (Kd.R_below (rk HO_483001.out) hb)
        have BK488 := Aside0.mk (hbox)
        have GW488 := Aside0.mk ((by rw [hg]; exact (below_size bo) : w.heap.size ≤ gb488))
        have GE488 := Aside0.mk ((by rw [hg]; exact (below_size bo) : w.heap.size ≤ gb488))
        replace HB := Aside0.mk (below_step bo hb)
        have NB476_488 := Aside0.mk ((by rw [hg]; exact Nat.ne_of_lt (blk_lt (g := gb476) (o := .cells #[.int .i64 x477000_1, .slice none 0 0] 53 (0, 0)) (bk BK476.out)) : gb476 ≠ gb488))
        have NB488_476 := Aside0.mk ((by rw [hg]; exact Nat.ne_of_gt (blk_lt (g := gb476) (o := .cells #[.int .i64 x477000_1, .slice none 0 0] 53 (0, 0)) (bk BK476.out)) : gb488 ≠ gb476))
        replace BK476 := Aside0.mk (blk_below (g := gb476) (o := .cells #[.int .i64 x477000_1, .slice none 0 0] 53 (0, 0)) (bk BK476.out) hb)
        have NB482_488 := Aside0.mk ((by rw [hg]; exact Nat.ne_of_lt (blk_lt (g := gb482) (o := .cells #[.int .i64 x483000_1, .slice Ao16 x483001_1.length co16] 53 (0, 0)) (bk BK482.out)) : gb482 ≠ gb488))
        have NB488_482 := Aside0.mk ((by rw [hg]; exact Nat.ne_of_gt (blk_lt (g := gb482) (o := .cells #[.int .i64 x483000_1, .slice Ao16 x483001_1.length co16] 53 (0, 0)) (bk BK482.out)) : gb488 ≠ gb482))
        replace BK482 := Aside0.mk (blk_below (g := gb482) (o := .cells #[.int .i64 x483000_1, .slice Ao16 x483001_1.length co16] 53 (0, 0)) (bk BK482.out) hb)
        clear hb hbox hg
        refine hK.out _ _ ⟨(blk_cell BK482.out 0).trans rfl, (blk_cell BK482.out 1).trans rfl, HS2_, HS3_, HS4_, HS5_, HS6_, HS7_⟩ (fun hHeld => ?_)
        clear hK K
        refine norm_ (a' := ?_) ?_ ?_
        rotate_left
        ·show Act.put _ (some 12) _ = _
         simp only [Act.put, List.setIfInBounds_toArray, List.set_cons_zero, List.set_cons_succ, i64_w, i32_w]
         rfl
        refine one_ (i := 5) (N := some 32) #[I,I,I,I,I,I,I,O] rfl rfl (one_of HT_.out (by kernel_rfl)) (by decide) (fun K hK => ?_)
        refine goes_ Try.func48 (by kernel_rfl) rfl #[.agg #[.int .i64 x483000_1, .slice Ao16 x483001_1.length co16], .agg #[.int .i64 ((rd_T25 t477 x11_1).f0), .int .i64 ((rd_T25 t477 x11_1).f1), .string ((rd_T25 t477 x11_1).f2), .string ((rd_T25 t477 x11_1).f3), .int .i64 ((rd_T25 t477 x11_1).f4), .bool ((rd_T25 t477 x11_1).f5)]] (by rfl) rfl rfl aa ?_
        with_reducible refine (fairwayref10_With.calls k1 x483000_1 _ _ x483001_1 ((rd_T25 t477 x11_1).f0) ((rd_T25 t477 x11_1).f1) ((rd_T25 t477 x11_1).f2) ((rd_T25 t477 x11_1).f3) ((rd_T25 t477 x11_1).f4) ((rd_T25 t477 x11_1).f5) t484 t485 _ ?side1 ?side2 A11.out).mono ?_
        (case side1 => repeat (first | exact (Kd.R_reads' HO_483001.out).2.2 | (with_reducible refine Kd.C_alloc ?_ _) | (with_reducible refine Kd.C_drewN ?_ _) | (with_reducible refine Kd.C_drew ?_)))
        (case side2 => exact (Kd.R_reads' HO_483001.out).2.1)
        rintro e w19 ⟨v486, rfl, ho0, hb⟩
        have HS2_ := (hb.cell (World.block_lt_of_cell? _ _ (hHeld.2.2.1))).trans (hHeld.2.2.1)
        have HS3_ := (hb.cell (World.block_lt_of_cell? _ _ (hHeld.2.2.2.1))).trans (hHeld.2.2.2.1)
        have HS4_ := (hb.cell (World.block_lt_of_cell? _ _ (hHeld.2.2.2.2.1))).trans (hHeld.2.2.2.2.1)
        have HS5_ := (hb.cell (World.block_lt_of_cell? _ _ (hHeld.2.2.2.2.2.1))).trans (hHeld.2.2.2.2.2.1)
        have HS6_ := (hb.cell (World.block_lt_of_cell? _ _ (hHeld.2.2.2.2.2.2.1))).trans (hHeld.2.2.2.2.2.2.1)
        have HS7_ := (hb.cell (World.block_lt_of_cell? _ _ (hHeld.2.2.2.2.2.2.2))).trans (hHeld.2.2.2.2.2.2.2)
        refine ⟨_, rfl, ?_⟩
        have HO487 := Aside0.mk (Kd.R_lower (Kd.R_new' (Kd.R_new' ho0 (Kd.R_lt (rk HO_6.out))) (Kd.R_lt (rk HO_483001.out))) (below_size bo))
        replace HO_6 := Aside0.mk (Kd.R_elder' (rk HO_6.out) (Kd.R_base ho0) hb)
        replace HO_483001 := Aside0.mk (Kd.R_elder' (rk HO_483001.out) (Kd.R_base ho0) hb)
        replace BK476 := Aside0.mk (blk_below (g := gb476) (o := .cells #[.int .i64 x477000_1, .slice none 0 0] 53 (0, 0)) (bk BK476.out) hb)
        replace BK482 := Aside0.mk (blk_below (g := gb482) (o := .cells #[.int .i64 x483000_1, .slice Ao16 x483001_1.length co16] 53 (0, 0)) (bk BK482.out) hb)
        replace BK488 := Aside0.mk (blk_below (g := gb488) (o := .cells #[.int .i64 0, .slice none 0 0] 53 (0, 0)) (bk BK488.out) hb)
        replace HB := Aside0.mk (below_step bo hb)
        (try clear hb)
        (try clear hb2)
        (try clear hk)
        (try clear hi)
        (try clear ho0)
        refine hK.out _ _ ⟨(blk_cell BK482.out 0).trans rfl, (blk_cell BK482.out 1).trans rfl, HS2_, HS3_, HS4_, HS5_, HS6_, HS7_⟩ (fun hHeld => ?_)
        clear hK K
        refine norm_ (a' := ?_) ?_ ?_
        rotate_left
        ·show Act.put _ (some 32) _ = _
         simp only [Act.put, List.setIfInBounds_toArray, List.set_cons_zero, List.set_cons_succ, i64_w, i32_w]
         rfl
        exact norm_ (by simp only [putAll, Act.put, List.setIfInBounds_toArray, List.set_cons_zero, List.set_cons_succ]) (hCont (v486, gb488) _ ⟨hHeld, (by (with_reducible repeat (first | apply Kd.R_alloc | apply Kd.R_drewN | apply Kd.R_drew)); exact Kd.R_mono HO487.out (fun _ hk => ⟨hk.2, hk.1.2⟩)), (by (with_reducible repeat (first | apply Kd.R_alloc | apply Kd.R_drewN | apply Kd.R_drew)); exact Kd.R_mono HO_483001.out (fun _ hk => ⟨hk.2, hk.1⟩)), (by (with_reducible repeat (first | apply Kd.R_alloc | apply Kd.R_drewN | apply Kd.R_drew)); exact Kd.R_mono HO_6.out (fun _ hk => ⟨hk.2, hk.1⟩)), (bk BK476.out), (bk BK482.out), (bk BK488.out), GW488.out, GE488.out, NB476_488.out, NB488_476.out, NB482_488.out, NB488_482.out, bo⟩)
      rintro ⟨v486, gb488⟩ w20 ⟨hS_, h0_, h1_, h2_, h3_, h4_, h5_, h6_, h7_, h8_, h9_, h10_, h11_, h12_⟩
      have n0_ : Aside0 (Kd.R k25 25 w20 w.heap.size (fun k_ => some k_ ≠ (.slice Ao16 x483001_1.length co16 : Value).ownBlock ∧ some k_ ≠ (.slice (some ad483) t477.length co15 : Value).ownBlock) v486 t485) := ⟨h0_⟩
      have n1_ : Aside0 (Kd.R k25 25 w20 w.heap.size (fun k_ => some k_ ≠ (v486 : Value).ownBlock ∧ some k_ ≠ (.slice (some ad483) t477.length co15 : Value).ownBlock) (.slice Ao16 x483001_1.length co16) x483001_1) := ⟨h1_⟩
      have n2_ : Aside0 (Kd.R k25 25 w20 w.heap.size (fun k_ => some k_ ≠ (v486 : Value).ownBlock ∧ some k_ ≠ (.slice Ao16 x483001_1.length co16 : Value).ownBlock) (.slice (some ad483) t477.length co15) t477) := ⟨h2_⟩
      have n3_ : Aside0 (w20.heap[gb476]? = some (.cells #[.int .i64 x477000_1, .slice none 0 0] 53 (0, 0))) := ⟨h3_⟩
      have n4_ : Aside0 (w20.heap[gb482]? = some (.cells #[.int .i64 x483000_1, .slice Ao16 x483001_1.length co16] 53 (0, 0))) := ⟨h4_⟩
      have n5_ : Aside0 (w20.heap[gb488]? = some (.cells #[.int .i64 0, .slice none 0 0] 53 (0, 0))) := ⟨h5_⟩
      have n6_ : Aside0 (w.heap.size ≤ gb488) := ⟨h6_⟩
      have n7_ : Aside0 (w.heap.size ≤ gb488) := ⟨h7_⟩
      have n8_ : Aside0 (gb476 ≠ gb488) := ⟨h8_⟩
      have n9_ : Aside0 (gb488 ≠ gb476) := ⟨h9_⟩
      have n10_ : Aside0 (gb482 ≠ gb488) := ⟨h10_⟩
      have n11_ : Aside0 (gb488 ≠ gb482) := ⟨h11_⟩
      have n12_ : Aside0 (Below w.heap.size w w20) := ⟨h12_⟩
      clear HO_6
      clear HO_483001
      clear BK476
      clear BK482
      clear HB
      clear h0_ h1_ h2_ h3_ h4_ h5_ h6_ h7_ h8_ h9_ h10_ h11_ h12_
      have HO487 := n0_
      have HO_483001 := n1_
      have HO_6 := n2_
      have BK476 := n3_
      have BK482 := n4_
      have BK488 := n5_
      have GW488 := n6_
      have GE488 := n7_
      have NB476_488 := n8_
      have NB488_476 := n9_
      have NB482_488 := n10_
      have NB488_482 := n11_
      have HB := n12_
      clear n0_ n1_ n2_ n3_ n4_ n5_ n6_ n7_ n8_ n9_ n10_ n11_ n12_
      have hHeld : w20.cell? ⟨gb482, 0, none⟩ = some (.int .i64 x483000_1) ∧ w20.cell? ⟨gb482, 1, none⟩ = some (.slice Ao16 x483001_1.length co16) ∧ w20.cell? (ad483.add ((x11_1).toNat * 6)) = some (.int .i64 ((rd_T25 t477 x11_1).f0)) ∧ w20.cell? ⟨(ad483.add ((x11_1).toNat * 6)).block, (ad483.add ((x11_1).toNat * 6)).off + 1, none⟩ = some (.int .i64 ((rd_T25 t477 x11_1).f1)) ∧ w20.cell? ⟨(ad483.add ((x11_1).toNat * 6)).block, (ad483.add ((x11_1).toNat * 6)).off + 2, none⟩ = some (.string ((rd_T25 t477 x11_1).f2)) ∧ w20.cell? ⟨(ad483.add ((x11_1).toNat * 6)).block, (ad483.add ((x11_1).toNat * 6)).off + 3, none⟩ = some (.string ((rd_T25 t477 x11_1).f3)) ∧ w20.cell? ⟨(ad483.add ((x11_1).toNat * 6)).block, (ad483.add ((x11_1).toNat * 6)).off + 4, none⟩ = some (.int .i64 ((rd_T25 t477 x11_1).f4)) ∧ w20.cell? ⟨(ad483.add ((x11_1).toNat * 6)).block, (ad483.add ((x11_1).toNat * 6)).off + 5, none⟩ = some (.bool ((rd_T25 t477 x11_1).f5)) := hS_
      obtain ⟨Ao22, co22, eo22⟩ := Kd.R_slice HO487.out
      (first | subst eo22 | (injection eo22 with f1_ f2_ f3_; have f4_ := f1_.symm; have f5_ := f3_.symm; clear f1_ f2_ f3_; subst f4_; subst f5_))
      refine norm_ (a' := ?_) ?_ ?_
      rotate_left
      ·simp only [putAll, Act.put, List.setIfInBounds_toArray, List.set_cons_zero, List.set_cons_succ]
       rfl
      refine one_ (i := 7) (N := none) #[I,I,I,I,I,I,I,I] rfl rfl (one_of HT_.out (by kernel_rfl)) (by decide) (fun K hK => ?_)
      have hs21 : w20.cell? ⟨gb488, 0, none⟩ = some (.int .i64 0) := (blk_cell BK488.out 0).trans rfl
      have hfs21 := blk_frozen BK488.out 0
      have hns21_0 := NB476_488.out
      have hns21_1 := NB482_488.out
      have hms21_0 := NB488_476.out
      have hms21_1 := NB488_482.out
      have hs23 : w20.cell? ⟨gb488, 1, none⟩ = some (.slice none 0 0) := (blk_cell BK488.out 1).trans rfl
      have hfs23 := blk_frozen BK488.out 1
      have hns23_0 := NB476_488.out
      have hns23_1 := NB482_488.out
      have hms23_0 := NB488_476.out
      have hms23_1 := NB488_482.out
      refine skip_ (w1 := ?_) (by rfl) rfl ?_ ?_
      rotate_left
      ·go_simp
       rfl
      refine hK.out _ _ ⟨((cell_far (p := ⟨gb488, _, none⟩) NB482_488.out _).trans (((cell_far (p := ⟨gb488, _, none⟩) NB482_488.out _).trans (hHeld.1)))), ((cell_far (p := ⟨gb488, _, none⟩) NB482_488.out _).trans (((cell_far (p := ⟨gb488, _, none⟩) NB482_488.out _).trans (hHeld.2.1)))), ((cell_far (p := ⟨gb488, _, none⟩) (by first | exact Kd.own_blk (Kd.R_ne HO_6.out BK488.out (by decide)) | (rw [add_block]; exact Kd.own_blk (Kd.R_ne HO_6.out BK488.out (by decide))) | (show (Addr.add _ _).block ≠ _; rw [add_block]; exact Kd.own_blk (Kd.R_ne HO_6.out BK488.out (by decide))) | (dsimp only; exact Kd.own_blk (Kd.R_ne HO_6.out BK488.out (by decide)))) _).trans (((cell_far (p := ⟨gb488, _, none⟩) (by first | exact Kd.own_blk (Kd.R_ne HO_6.out BK488.out (by decide)) | (rw [add_block]; exact Kd.own_blk (Kd.R_ne HO_6.out BK488.out (by decide))) | (show (Addr.add _ _).block ≠ _; rw [add_block]; exact Kd.own_blk (Kd.R_ne HO_6.out BK488.out (by decide))) | (dsimp only; exact Kd.own_blk (Kd.R_ne HO_6.out BK488.out (by decide)))) _).trans (hHeld.2.2.1)))), ((cell_far (p := ⟨gb488, _, none⟩) (by first | exact Kd.own_blk (Kd.R_ne HO_6.out BK488.out (by decide)) | (rw [add_block]; exact Kd.own_blk (Kd.R_ne HO_6.out BK488.out (by decide))) | (show (Addr.add _ _).block ≠ _; rw [add_block]; exact Kd.own_blk (Kd.R_ne HO_6.out BK488.out (by decide))) | (dsimp only; exact Kd.own_blk (Kd.R_ne HO_6.out BK488.out (by decide)))) _).trans (((cell_far (p := ⟨gb488, _, none⟩) (by first | exact Kd.own_blk (Kd.R_ne HO_6.out BK488.out (by decide)) | (rw [add_block]; exact Kd.own_blk (Kd.R_ne HO_6.out BK488.out (by decide))) | (show (Addr.add _ _).block ≠ _; rw [add_block]; exact Kd.own_blk (Kd.R_ne HO_6.out BK488.out (by decide))) | (dsimp only; exact Kd.own_blk (Kd.R_ne HO_6.out BK488.out (by decide)))) _).trans (hHeld.2.2.2.1)))), ((cell_far (p := ⟨gb488, _, none⟩) (by first | exact Kd.own_blk (Kd.R_ne HO_6.out BK488.out (by decide)) | (rw [add_block]; exact Kd.own_blk (Kd.R_ne HO_6.out BK488.out (by decide))) | (show (Addr.add _ _).block ≠ _; rw [add_block]; exact Kd.own_blk (Kd.R_ne HO_6.out BK488.out (by decide))) | (dsimp only; exact Kd.own_blk (Kd.R_ne HO_6.out BK488.out (by decide)))) _).trans (((cell_far (p := ⟨gb488, _, none⟩) (by first | exact Kd.own_blk (Kd.R_ne HO_6.out BK488.out (by decide)) | (rw [add_block]; exact Kd.own_blk (Kd.R_ne HO_6.out BK488.out (by decide))) | (show (Addr.add _ _).block ≠ _; rw [add_block]; exact Kd.own_blk (Kd.R_ne HO_6.out BK488.out (by decide))) | (dsimp only; exact Kd.own_blk (Kd.R_ne HO_6.out BK488.out (by decide)))) _).trans (hHeld.2.2.2.2.1)))), ((cell_far (p := ⟨gb488, _, none⟩) (by first | exact Kd.own_blk (Kd.R_ne HO_6.out BK488.out (by decide)) | (rw [add_block]; exact Kd.own_blk (Kd.R_ne HO_6.out BK488.out (by decide))) | (show (Addr.add _ _).block ≠ _; rw [add_block]; exact Kd.own_blk (Kd.R_ne HO_6.out BK488.out (by decide))) | (dsimp only; exact Kd.own_blk (Kd.R_ne HO_6.out BK488.out (by decide)))) _).trans (((cell_far (p := ⟨gb488, _, none⟩) (by first | exact Kd.own_blk (Kd.R_ne HO_6.out BK488.out (by decide)) | (rw [add_block]; exact Kd.own_blk (Kd.R_ne HO_6.out BK488.out (by decide))) | (show (Addr.add _ _).block ≠ _; rw [add_block]; exact Kd.own_blk (Kd.R_ne HO_6.out BK488.out (by decide))) | (dsimp only; exact Kd.own_blk (Kd.R_ne HO_6.out BK488.out (by decide)))) _).trans (hHeld.2.2.2.2.2.1)))), ((cell_far (p := ⟨gb488, _, none⟩) (by first | exact Kd.own_blk (Kd.R_ne HO_6.out BK488.out (by decide)) | (rw [add_block]; exact Kd.own_blk (Kd.R_ne HO_6.out BK488.out (by decide))) | (show (Addr.add _ _).block ≠ _; rw [add_block]; exact Kd.own_blk (Kd.R_ne HO_6.out BK488.out (by decide))) | (dsimp only; exact Kd.own_blk (Kd.R_ne HO_6.out BK488.out (by decide)))) _).trans (((cell_far (p := ⟨gb488, _, none⟩) (by first | exact Kd.own_blk (Kd.R_ne HO_6.out BK488.out (by decide)) | (rw [add_block]; exact Kd.own_blk (Kd.R_ne HO_6.out BK488.out (by decide))) | (show (Addr.add _ _).block ≠ _; rw [add_block]; exact Kd.own_blk (Kd.R_ne HO_6.out BK488.out (by decide))) | (dsimp only; exact Kd.own_blk (Kd.R_ne HO_6.out BK488.out (by decide)))) _).trans (hHeld.2.2.2.2.2.2.1)))), ((cell_far (p := ⟨gb488, _, none⟩) (by first | exact Kd.own_blk (Kd.R_ne HO_6.out BK488.out (by decide)) | (rw [add_block]; exact Kd.own_blk (Kd.R_ne HO_6.out BK488.out (by decide))) | (show (Addr.add _ _).block ≠ _; rw [add_block]; exact Kd.own_blk (Kd.R_ne HO_6.out BK488.out (by decide))) | (dsimp only; exact Kd.own_blk (Kd.R_ne HO_6.out BK488.out (by decide)))) _).trans (((cell_far (p := ⟨gb488, _, none⟩) (by first | exact Kd.own_blk (Kd.R_ne HO_6.out BK488.out (by decide)) | (rw [add_block]; exact Kd.own_blk (Kd.R_ne HO_6.out BK488.out (by decide))) | (show (Addr.add _ _).block ≠ _; rw [add_block]; exact Kd.own_blk (Kd.R_ne HO_6.out BK488.out (by decide))) | (dsimp only; exact Kd.own_blk (Kd.R_ne HO_6.out BK488.out (by decide)))) _).trans (hHeld.2.2.2.2.2.2.2))))⟩ (fun hHeld => ?_)
      clear hK K
      refine done_ (done_of HT_.out (by kernel_rfl)) ?_
      have hnb24 := NB488_476.out
      have hnc24 := NB476_488.out
      have hnb25 := NB488_482.out
      have hnc25 := NB482_488.out
      have hcz26_0 : w20.cell? ⟨gb488, 0, none⟩ = some (.int .i64 0) := (blk_cell BK488.out 0).trans rfl
      have hcz26_1 : w20.cell? ⟨gb488, 1, none⟩ = some (.slice none 0 0) := (blk_cell BK488.out 1).trans rfl
      have hfz26_0 := blk_frozen BK488.out 0
      have hfz26_1 := blk_frozen BK488.out 1
      try go_wp2_with (first | ((with_reducible refine gate_callee (f := 31) rfl ?_); refine goesL_ (some 34) rfl rfl Try.func31 (by kernel_rfl) rfl #[.agg #[.int .i64 t484, .slice Ao22 t485.length co22]] rfl aa ?_; (with_reducible refine (fairwayref10_Seg.calls k1 t484 _ _ t485 true _ ?side1 ?side2 A12.out).mono ?_); (case side1 => refine (Kd.R_reads' (e := 25) (base := w.heap.size) (ok := fun k_ => (some k_ ≠ (.slice Ao16 x483001_1.length co16 : Value).ownBlock ∧ some k_ ≠ (.slice (some ad483) t477.length co15 : Value).ownBlock)) (n := t485.length) (c := co22) ?_).2.2; exact (by (with_reducible repeat (first | apply Kd.R_alloc | apply Kd.R_drewN | apply Kd.R_drew)); exact (Kd.R_mono (Kd.R_far (p := ⟨gb488, 1, none⟩) (Kd.R_far (p := ⟨gb488, 0, none⟩) (Kd.R_types HO487.out BK488.out (by decide)) (fun _ hk => hk.2) (.int .i64 t484)) (fun _ hk => hk.2) (.slice Ao22 t485.length co22)) (fun _ h_ => h_.1)))); (case side2 => exact (Kd.R_reads' HO487.out).2.1); rintro e w27 ⟨rfl, hb⟩; refine ⟨_, rfl, ?_⟩; replace HO_6 := Aside0.mk (Kd.R_below (by (with_reducible repeat (first | apply Kd.R_alloc | apply Kd.R_drewN | apply Kd.R_drew)); exact (Kd.R_mono (Kd.R_far (p := ⟨gb488, 1, none⟩) (Kd.R_far (p := ⟨gb488, 0, none⟩) (Kd.R_types HO_6.out BK488.out (by decide)) (fun _ hk => hk.2) (.int .i64 t484)) (fun _ hk => hk.2) (.slice Ao22 t485.length co22)) (fun _ h_ => h_.1))) hb); replace HO_483001 := Aside0.mk (Kd.R_below (by (with_reducible repeat (first | apply Kd.R_alloc | apply Kd.R_drewN | apply Kd.R_drew)); exact (Kd.R_mono (Kd.R_far (p := ⟨gb488, 1, none⟩) (Kd.R_far (p := ⟨gb488, 0, none⟩) (Kd.R_types HO_483001.out BK488.out (by decide)) (fun _ hk => hk.2) (.int .i64 t484)) (fun _ hk => hk.2) (.slice Ao22 t485.length co22)) (fun _ h_ => h_.1))) hb); replace HO487 := Aside0.mk (Kd.R_below (by (with_reducible repeat (first | apply Kd.R_alloc | apply Kd.R_drewN | apply Kd.R_drew)); exact (Kd.R_mono (Kd.R_far (p := ⟨gb488, 1, none⟩) (Kd.R_far (p := ⟨gb488, 0, none⟩) (Kd.R_types HO487.out BK488.out (by decide)) (fun _ hk => hk.2) (.int .i64 t484)) (fun _ hk => hk.2) (.slice Ao22 t485.length co22)) (fun _ h_ => h_.1))) hb); replace BK476 := Aside0.mk (blk_below (g := gb476) (o := .cells #[.int .i64 x477000_1, .slice none 0 0] 53 (0, 0)) (bf BK476.out) hb); replace BK482 := Aside0.mk (blk_below (g := gb482) (o := .cells #[.int .i64 x483000_1, .slice Ao16 x483001_1.length co16] 53 (0, 0)) (bf BK482.out) hb); replace BK488 := Aside0.mk (blk_below (g := gb488) (o := .cells #[.int .i64 t484, .slice Ao22 t485.length co22] 53 (0, 0)) (by (with_reducible repeat (first | refine blk_drewN ?_ _ | refine blk_drew ?_ | refine blk_alloc ?_ _)); refine blk_put (cs := #[.int .i64 t484, .slice none 0 0]) ?_ 1 _ rfl; (with_reducible repeat (first | refine blk_drewN ?_ _ | refine blk_drew ?_ | refine blk_alloc ?_ _)); refine blk_put (cs := #[.int .i64 0, .slice none 0 0]) ?_ 0 _ rfl; (with_reducible repeat (first | refine blk_drewN ?_ _ | refine blk_drew ?_ | refine blk_alloc ?_ _)); exact BK488.out) hb); replace HB := Aside0.mk (below_step bo hb); (try clear hb); (try clear hb2); (try clear hk); (try clear hi); obtain ⟨hcz28_0, hcz28_1⟩ := cl2 BK488.out; obtain ⟨hfz28_0, hfz28_1⟩ := fz2 BK488.out; have hnb29 := NB482_476.out; have hnc29 := NB476_482.out; obtain ⟨hcz30_0, hcz30_1⟩ := cl2 BK482.out; obtain ⟨hfz30_0, hfz30_1⟩ := fz2 BK482.out; have p490 : 0 ≤ (x11_1 : Int) := od; have q490 : x11_1 < (t477.length : Int) := od; obtain ⟨ad490, e490, hx490_0, hx490_1, hx490_2, hx490_3, hx490_4, hx490_5⟩ := at_T25 (Kd.R_reads' HO_6.out).2.2 x11_1 p490 q490; obtain rfl : ad483 = ad490 := (by injection e490); have hn490_0 : ad483.block ≠ gb482 := Kd.own_blk (Kd.R_ne HO_6.out BK482.out (by decide)); have hn490_1 : ad483.block ≠ gb482 := Kd.own_blk (Kd.R_ne HO_6.out BK482.out (by decide)); replace hx490_0 := (cell_far (p := ⟨gb482, 0, none⟩) (by first | (rw [add_block]; exact hn490_0) | (show (Addr.add _ _).block ≠ _; rw [add_block]; exact hn490_0) | exact hn490_0) (.int .i64 t484)).trans hx490_0; replace hx490_1 := (cell_far (p := ⟨gb482, 0, none⟩) (by first | (rw [add_block]; exact hn490_0) | (show (Addr.add _ _).block ≠ _; rw [add_block]; exact hn490_0) | exact hn490_0) (.int .i64 t484)).trans hx490_1; replace hx490_2 := (cell_far (p := ⟨gb482, 0, none⟩) (by first | (rw [add_block]; exact hn490_0) | (show (Addr.add _ _).block ≠ _; rw [add_block]; exact hn490_0) | exact hn490_0) (.int .i64 t484)).trans hx490_2; replace hx490_3 := (cell_far (p := ⟨gb482, 0, none⟩) (by first | (rw [add_block]; exact hn490_0) | (show (Addr.add _ _).block ≠ _; rw [add_block]; exact hn490_0) | exact hn490_0) (.int .i64 t484)).trans hx490_3; replace hx490_4 := (cell_far (p := ⟨gb482, 0, none⟩) (by first | (rw [add_block]; exact hn490_0) | (show (Addr.add _ _).block ≠ _; rw [add_block]; exact hn490_0) | exact hn490_0) (.int .i64 t484)).trans hx490_4; replace hx490_5 := (cell_far (p := ⟨gb482, 0, none⟩) (by first | (rw [add_block]; exact hn490_0) | (show (Addr.add _ _).block ≠ _; rw [add_block]; exact hn490_0) | exact hn490_0) (.int .i64 t484)).trans hx490_5; replace hx490_0 := (cell_far (p := ⟨gb482, 1, none⟩) (by first | (rw [add_block]; exact hn490_1) | (show (Addr.add _ _).block ≠ _; rw [add_block]; exact hn490_1) | exact hn490_1) (.slice Ao22 t485.length co22)).trans hx490_0; replace hx490_1 := (cell_far (p := ⟨gb482, 1, none⟩) (by first | (rw [add_block]; exact hn490_1) | (show (Addr.add _ _).block ≠ _; rw [add_block]; exact hn490_1) | exact hn490_1) (.slice Ao22 t485.length co22)).trans hx490_1; replace hx490_2 := (cell_far (p := ⟨gb482, 1, none⟩) (by first | (rw [add_block]; exact hn490_1) | (show (Addr.add _ _).block ≠ _; rw [add_block]; exact hn490_1) | exact hn490_1) (.slice Ao22 t485.length co22)).trans hx490_2; replace hx490_3 := (cell_far (p := ⟨gb482, 1, none⟩) (by first | (rw [add_block]; exact hn490_1) | (show (Addr.add _ _).block ≠ _; rw [add_block]; exact hn490_1) | exact hn490_1) (.slice Ao22 t485.length co22)).trans hx490_3; replace hx490_4 := (cell_far (p := ⟨gb482, 1, none⟩) (by first | (rw [add_block]; exact hn490_1) | (show (Addr.add _ _).block ≠ _; rw [add_block]; exact hn490_1) | exact hn490_1) (.slice Ao22 t485.length co22)).trans hx490_4; replace hx490_5 := (cell_far (p := ⟨gb482, 1, none⟩) (by first | (rw [add_block]; exact hn490_1) | (show (Addr.add _ _).block ≠ _; rw [add_block]; exact hn490_1) | exact hn490_1) (.slice Ao22 t485.length co22)).trans hx490_5; clear hn490_0; clear hn490_1; replace p490 := eq_true p490; replace q490 := eq_true q490) | ((with_reducible refine gate_callee (f := 20) rfl ?_); refine goesL_ (some 44) rfl rfl Try.func20 (by kernel_rfl) rfl #[.agg #[.int .i64 ((rd_T25 t477 x11_1).f0), .int .i64 ((rd_T25 t477 x11_1).f1), .string ((rd_T25 t477 x11_1).f2), .string ((rd_T25 t477 x11_1).f3), .int .i64 ((rd_T25 t477 x11_1).f4), .bool ((rd_T25 t477 x11_1).f5)]] rfl aa ?_; (with_reducible refine (fairwayref10_Bytes.calls k1 ((rd_T25 t477 x11_1).f0) ((rd_T25 t477 x11_1).f1) ((rd_T25 t477 x11_1).f2) ((rd_T25 t477 x11_1).f3) ((rd_T25 t477 x11_1).f4) ((rd_T25 t477 x11_1).f5) t491 _ A14.out).mono ?_); rintro e w31 ⟨rfl, hb⟩; refine ⟨_, rfl, ?_⟩; replace HO_6 := Aside0.mk (Kd.R_below (by (with_reducible repeat (first | apply Kd.R_alloc | apply Kd.R_drewN | apply Kd.R_drew)); exact (Kd.R_mono (Kd.R_far (p := ⟨gb482, 1, none⟩) (Kd.R_far (p := ⟨gb482, 0, none⟩) (Kd.R_types HO_6.out BK482.out (by decide)) (fun _ hk => hk.2) (.int .i64 t484)) (fun _ hk => hk.2) (.slice Ao22 t485.length co22)) (fun _ h_ => h_.1))) hb); replace HO_483001 := Aside0.mk (Kd.R_below (by (with_reducible repeat (first | apply Kd.R_alloc | apply Kd.R_drewN | apply Kd.R_drew)); exact (Kd.R_mono (Kd.R_far (p := ⟨gb482, 1, none⟩) (Kd.R_far (p := ⟨gb482, 0, none⟩) (Kd.R_types HO_483001.out BK482.out (by decide)) (fun _ hk => hk.2) (.int .i64 t484)) (fun _ hk => hk.2) (.slice Ao22 t485.length co22)) (fun _ h_ => h_.1))) hb); replace HO487 := Aside0.mk (Kd.R_below (by (with_reducible repeat (first | apply Kd.R_alloc | apply Kd.R_drewN | apply Kd.R_drew)); exact (Kd.R_mono (Kd.R_far (p := ⟨gb482, 1, none⟩) (Kd.R_far (p := ⟨gb482, 0, none⟩) (Kd.R_types HO487.out BK482.out (by decide)) (fun _ hk => hk.2) (.int .i64 t484)) (fun _ hk => hk.2) (.slice Ao22 t485.length co22)) (fun _ h_ => h_.1))) hb); replace BK476 := Aside0.mk (blk_below (g := gb476) (o := .cells #[.int .i64 x477000_1, .slice none 0 0] 53 (0, 0)) (bf BK476.out) hb); replace BK482 := Aside0.mk (blk_below (g := gb482) (o := .cells #[.int .i64 t484, .slice Ao22 t485.length co22] 53 (0, 0)) (by (with_reducible repeat (first | refine blk_drewN ?_ _ | refine blk_drew ?_ | refine blk_alloc ?_ _)); refine blk_put (cs := #[.int .i64 t484, .slice Ao16 x483001_1.length co16]) ?_ 1 _ rfl; (with_reducible repeat (first | refine blk_drewN ?_ _ | refine blk_drew ?_ | refine blk_alloc ?_ _)); refine blk_put (cs := #[.int .i64 x483000_1, .slice Ao16 x483001_1.length co16]) ?_ 0 _ rfl; (with_reducible repeat (first | refine blk_drewN ?_ _ | refine blk_drew ?_ | refine blk_alloc ?_ _)); exact BK482.out) hb); replace BK488 := Aside0.mk (blk_below (g := gb488) (o := .cells #[.int .i64 t484, .slice Ao22 t485.length co22] 53 (0, 0)) (bf BK488.out) hb); replace HB := Aside0.mk (below_step bo hb); (try clear hb); (try clear hb2); (try clear hk); (try clear hi)))
      go_roundg k1
      case measure => have := HK1.out; omega
      case rel => exact ⟨(wrap64 (x10_1 + (t491.size : Int))), (wrap64 (x11_1 + 1)), (x477000_1), (t484), (t485), (.slice Ao22 t485.length co22), ap, ap, H', ⟨by have := HK1.out; omega⟩, ⟨by (with_reducible repeat (first | apply Kd.R_alloc | apply Kd.R_drewN | apply Kd.R_drew)); exact Kd.R_mono HO_6.out (fun _ hk => hk.1)⟩, ⟨by (with_reducible repeat (first | apply Kd.R_alloc | apply Kd.R_drewN | apply Kd.R_drew)); exact Kd.R_mono HO487.out (fun _ hk => hk.2)⟩, ⟨by (with_reducible repeat (first | refine blk_drewN ?_ _ | refine blk_drew ?_ | refine blk_alloc ?_ _)); exact BK476.out⟩, ⟨by (with_reducible repeat (first | refine blk_drewN ?_ _ | refine blk_drew ?_ | refine blk_alloc ?_ _)); exact BK482.out⟩, ⟨bo⟩⟩
     ·replace c13 := Bool.eq_false_iff.mpr c13
      subst c13
      have H1 : (some (x483000_1, x483001_1, x10_1)) = some (r1, r2, r3) := by rw [if_neg (show ¬ (false = true) by decide)] at H; exact H
      clear H
      have H := H1
      clear H1
      simp only [Option.some.injEq, Prod.mk.injEq] at H
      obtain ⟨rfl, rfl, rfl⟩ := H
      obtain ⟨Ao32, co32, eo32⟩ := Kd.R_slice HO_6.out
      subst eo32
      obtain ⟨Ao33, co33, eo33⟩ := Kd.R_slice HO_483001.out
      subst eo33
      try go_wp2
      replace HO_6 := Aside0.mk (Kd.R_drew HO_6.out)
      replace HO_483001 := Aside0.mk (Kd.R_drew HO_483001.out)
      replace BK476 := Aside0.mk (blk_drew BK476.out)
      replace BK482 := Aside0.mk (blk_drew BK482.out)
      replace HB := Aside0.mk (below_drew1 HB.out)
      have p483 : 0 ≤ (x11_1 : Int) := od
      have q483 : x11_1 < (t477.length : Int) := od
      obtain ⟨ad483, e483, hx483_0, hx483_1, hx483_2, hx483_3, hx483_4, hx483_5⟩ := at_T25 (Kd.R_reads' HO_6.out).2.2 x11_1 p483 q483
      cases e483
      replace p483 := eq_true p483
      replace q483 := eq_true q483
      refine start_ (n := 8) (S := fun w' => w'.cell? ⟨gb482, 0, none⟩ = some (.int .i64 x483000_1) ∧ w'.cell? ⟨gb482, 1, none⟩ = some (.slice Ao33 x483001_1.length co33) ∧ w'.cell? (ad483.add ((x11_1).toNat * 6)) = some (.int .i64 ((rd_T25 t477 x11_1).f0)) ∧ w'.cell? ⟨(ad483.add ((x11_1).toNat * 6)).block, (ad483.add ((x11_1).toNat * 6)).off + 1, none⟩ = some (.int .i64 ((rd_T25 t477 x11_1).f1)) ∧ w'.cell? ⟨(ad483.add ((x11_1).toNat * 6)).block, (ad483.add ((x11_1).toNat * 6)).off + 2, none⟩ = some (.string ((rd_T25 t477 x11_1).f2)) ∧ w'.cell? ⟨(ad483.add ((x11_1).toNat * 6)).block, (ad483.add ((x11_1).toNat * 6)).off + 3, none⟩ = some (.string ((rd_T25 t477 x11_1).f3)) ∧ w'.cell? ⟨(ad483.add ((x11_1).toNat * 6)).block, (ad483.add ((x11_1).toNat * 6)).off + 4, none⟩ = some (.int .i64 ((rd_T25 t477 x11_1).f4)) ∧ w'.cell? ⟨(ad483.add ((x11_1).toNat * 6)).block, (ad483.add ((x11_1).toNat * 6)).off + 5, none⟩ = some (.bool ((rd_T25 t477 x11_1).f5))) (ds := []) #[O,O,O,O,O,O,O,O] (by kernel_rfl) rfl rfl ⟨(blk_cell BK482.out 0).trans rfl, (blk_cell BK482.out 1).trans rfl, hx483_0, hx483_1, hx483_2, hx483_3, hx483_4, hx483_5⟩ (fun hHeld => ?_); refine with_tabW fairwayref10_Parse.tab7 fairwayref10_Parse.bits7 (fun HT_ HW_ => ?_)
      generalize wr.drew = w34 at HO_6 HO_483001 BK476 BK482 HB hx483_0 hx483_1 hx483_2 hx483_3 hx483_4 hx483_5 hHeld ⊢
      refine pz (i := 1) (N := some 28) #[O,I,O,O,O,O,O,O] ?_
      refine pz (i := 2) (N := some 29) #[O,I,I,O,O,O,O,O] ?_
      refine pz (i := 3) (N := some 30) #[O,I,I,I,O,O,O,O] ?_
      refine tz (i := 0) (N := some 27) #[I,I,I,I,O,O,O,O] ?_
      refine tz (i := 4) (N := some 31) #[I,I,I,I,I,O,O,O] ?_
      refine join_ (σ := Value × Nat) 1 #[I,I,I,I,I,I,I,O] (fun s_ => [(32, .agg #[.int .i64 t484, s_.1]), (12, .pointer (some ⟨s_.2, 0, none⟩))]) (fun s_ w' => (w'.cell? ⟨gb482, 0, none⟩ = some (.int .i64 x483000_1) ∧ w'.cell? ⟨gb482, 1, none⟩ = some (.slice Ao33 x483001_1.length co33) ∧ w'.cell? (ad483.add ((x11_1).toNat * 6)) = some (.int .i64 ((rd_T25 t477 x11_1).f0)) ∧ w'.cell? ⟨(ad483.add ((x11_1).toNat * 6)).block, (ad483.add ((x11_1).toNat * 6)).off + 1, none⟩ = some (.int .i64 ((rd_T25 t477 x11_1).f1)) ∧ w'.cell? ⟨(ad483.add ((x11_1).toNat * 6)).block, (ad483.add ((x11_1).toNat * 6)).off + 2, none⟩ = some (.string ((rd_T25 t477 x11_1).f2)) ∧ w'.cell? ⟨(ad483.add ((x11_1).toNat * 6)).block, (ad483.add ((x11_1).toNat * 6)).off + 3, none⟩ = some (.string ((rd_T25 t477 x11_1).f3)) ∧ w'.cell? ⟨(ad483.add ((x11_1).toNat * 6)).block, (ad483.add ((x11_1).toNat * 6)).off + 4, none⟩ = some (.int .i64 ((rd_T25 t477 x11_1).f4)) ∧ w'.cell? ⟨(ad483.add ((x11_1).toNat * 6)).block, (ad483.add ((x11_1).toNat * 6)).off + 5, none⟩ = some (.bool ((rd_T25 t477 x11_1).f5))) ∧ (Kd.R k25 25 w' w.heap.size (fun k_ => some k_ ≠ (.slice Ao33 x483001_1.length co33 : Value).ownBlock ∧ some k_ ≠ (.slice (some ad483) t477.length co32 : Value).ownBlock) s_.1 t485) ∧ (Kd.R k25 25 w' w.heap.size (fun k_ => some k_ ≠ (s_.1 : Value).ownBlock ∧ some k_ ≠ (.slice (some ad483) t477.length co32 : Value).ownBlock) (.slice Ao33 x483001_1.length co33) x483001_1) ∧ (Kd.R k25 25 w' w.heap.size (fun k_ => some k_ ≠ (s_.1 : Value).ownBlock ∧ some k_ ≠ (.slice Ao33 x483001_1.length co33 : Value).ownBlock) (.slice (some ad483) t477.length co32) t477) ∧ (w'.heap[gb476]? = some (.cells #[.int .i64 x477000_1, .slice none 0 0] 53 (0, 0))) ∧ (w'.heap[gb482]? = some (.cells #[.int .i64 x483000_1, .slice Ao33 x483001_1.length co33] 53 (0, 0))) ∧ (w'.heap[s_.2]? = some (.cells #[.int .i64 0, .slice none 0 0] 53 (0, 0))) ∧ (w.heap.size ≤ s_.2) ∧ (w.heap.size ≤ s_.2) ∧ (gb476 ≠ s_.2) ∧ (s_.2 ≠ gb476) ∧ (gb482 ≠ s_.2) ∧ (s_.2 ≠ gb482) ∧ (Below w.heap.size w w')) ?_ ?_
      rotate_left
      ·intro hCont
       refine two_ (i := 5) (j := 6) (Ni := some 32) (Nj := some 12) #[I,I,I,I,I,I,O,O] #[I,I,I,I,I,O,I,O] rfl rfl rfl rfl (two_of HT_.out (by kernel_rfl)) (by decide) (by decide) (fun K hK => ?_) (fun K hK => ?_)
       ·skip
        refine goes_ Try.func48 (by kernel_rfl) rfl #[.agg #[.int .i64 x483000_1, .slice Ao33 x483001_1.length co33], .agg #[.int .i64 ((rd_T25 t477 x11_1).f0), .int .i64 ((rd_T25 t477 x11_1).f1), .string ((rd_T25 t477 x11_1).f2), .string ((rd_T25 t477 x11_1).f3), .int .i64 ((rd_T25 t477 x11_1).f4), .bool ((rd_T25 t477 x11_1).f5)]] (by rfl) rfl rfl aa ?_
        with_reducible refine (fairwayref10_With.calls k1 x483000_1 _ _ x483001_1 ((rd_T25 t477 x11_1).f0) ((rd_T25 t477 x11_1).f1) ((rd_T25 t477 x11_1).f2) ((rd_T25 t477 x11_1).f3) ((rd_T25 t477 x11_1).f4) ((rd_T25 t477 x11_1).f5) t484 t485 _ ?side1 ?side2 A11.out).mono ?_
        (case side1 => repeat (first | exact (Kd.R_reads' HO_483001.out).2.2 | (with_reducible refine Kd.C_alloc ?_ _) | (with_reducible refine Kd.C_drewN ?_ _) | (with_reducible refine Kd.C_drew ?_)))
        (case side2 => exact (Kd.R_reads' HO_483001.out).2.1)
        rintro e w35 ⟨v486, rfl, ho0, hb⟩
        have HS2_ := (hb.cell (World.block_lt_of_cell? _ _ (hHeld.2.2.1))).trans (hHeld.2.2.1)
        have HS3_ := (hb.cell (World.block_lt_of_cell? _ _ (hHeld.2.2.2.1))).trans (hHeld.2.2.2.1)
        have HS4_ := (hb.cell (World.block_lt_of_cell? _ _ (hHeld.2.2.2.2.1))).trans (hHeld.2.2.2.2.1)
        have HS5_ := (hb.cell (World.block_lt_of_cell? _ _ (hHeld.2.2.2.2.2.1))).trans (hHeld.2.2.2.2.2.1)
        have HS6_ := (hb.cell (World.block_lt_of_cell? _ _ (hHeld.2.2.2.2.2.2.1))).trans (hHeld.2.2.2.2.2.2.1)
        have HS7_ := (hb.cell (World.block_lt_of_cell? _ _ (hHeld.2.2.2.2.2.2.2))).trans (hHeld.2.2.2.2.2.2.2)
        refine ⟨_, rfl, ?_⟩
        have HO487 := Aside0.mk (Kd.R_lower (Kd.R_new' (Kd.R_new' ho0 (Kd.R_lt (rk HO_6.out))) (Kd.R_lt (rk HO_483001.out))) (below_size bo))
        replace HO_6 := Aside0.mk (Kd.R_elder' (rk HO_6.out) (Kd.R_base ho0) hb)
        replace HO_483001 := Aside0.mk (Kd.R_elder' (rk HO_483001.out) (Kd.R_base ho0) hb)
        replace BK476 := Aside0.mk (blk_below (g := gb476) (o := .cells #[.int .i64 x477000_1, .slice none 0 0] 53 (0, 0)) (bk BK476.out) hb)
        replace BK482 := Aside0.mk (blk_below (g := gb482) (o := .cells #[.int .i64 x483000_1, .slice Ao33 x483001_1.length co33] 53 (0, 0)) (bk BK482.out) hb)
        replace HB := Aside0.mk (below_step bo hb)
        (try clear hb)
        (try clear hb2)
        (try clear hk)
        (try clear hi)
        (try clear ho0)
        refine hK.out _ _ ⟨(blk_cell BK482.out 0).trans rfl, (blk_cell BK482.out 1).trans rfl, HS2_, HS3_, HS4_, HS5_, HS6_, HS7_⟩ (fun hHeld => ?_)
        clear hK K
        refine norm_ (a' := ?_) ?_ ?_
        rotate_left
        ·show Act.put _ (some 32) _ = _
         simp only [Act.put, List.setIfInBounds_toArray, List.set_cons_zero, List.set_cons_succ, i64_w, i32_w]
         rfl
        refine one_ (i := 6) (N := some 12) #[I,I,I,I,I,I,I,O] rfl rfl (one_of HT_.out (by kernel_rfl)) (by decide) (fun K hK => ?_)
        refine box_step ?hg (N := 12) ?hd (cs := #[.int .i64 0, .slice none 0 0]) (t := 53) ?hr ?_; (case hd => rfl); (case hg => rfl); (case hr => first | (go_simp; done) | (go_simp; rfl))
        intro gb488 hg w36 hbox hb
        have HS2_ := (hb.cell (World.block_lt_of_cell? _ _ (hHeld.2.2.1))).trans (hHeld.2.2.1)
        have HS3_ := (hb.cell (World.block_lt_of_cell? _ _ (hHeld.2.2.2.1))).trans (hHeld.2.2.2.1)
        have HS4_ := (hb.cell (World.block_lt_of_cell? _ _ (hHeld.2.2.2.2.1))).trans (hHeld.2.2.2.2.1)
        have HS5_ := (hb.cell (World.block_lt_of_cell? _ _ (hHeld.2.2.2.2.2.1))).trans (hHeld.2.2.2.2.2.1)
        have HS6_ := (hb.cell (World.block_lt_of_cell? _ _ (hHeld.2.2.2.2.2.2.1))).trans (hHeld.2.2.2.2.2.2.1)
        have HS7_ := (hb.cell (World.block_lt_of_cell? _ _ (hHeld.2.2.2.2.2.2.2))).trans (hHeld.2.2.2.2.2.2.2)
        replace HO_6 := Aside0.mk (Kd.R_below (rk HO_6.out) hb)
        replace HO_483001 := Aside0.mk (Kd.R_below (rk HO_483001.out) hb)
        replace HO487 := Aside0.mk (Kd.R_below (rk HO487.out) hb)
        have BK488 := Aside0.mk (hbox)
        have GW488 := Aside0.mk ((by rw [hg]; exact (below_size bo) : w.heap.size ≤ gb488))
        have GE488 := Aside0.mk ((by rw [hg]; exact (below_size bo) : w.heap.size ≤ gb488))
        replace HB := Aside0.mk (below_step bo hb)
        have NB476_488 := Aside0.mk ((by rw [hg]; exact Nat.ne_of_lt (blk_lt (g := gb476) (o := .cells #[.int .i64 x477000_1, .slice none 0 0] 53 (0, 0)) (bk BK476.out)) : gb476 ≠ gb488))
        have NB488_476 := Aside0.mk ((by rw [hg]; exact Nat.ne_of_gt (blk_lt (g := gb476) (o := .cells #[.int .i64 x477000_1, .slice none 0 0] 53 (0, 0)) (bk BK476.out)) : gb488 ≠ gb476))
        replace BK476 := Aside0.mk (blk_below (g := gb476) (o := .cells #[.int .i64 x477000_1, .slice none 0 0] 53 (0, 0)) (bk BK476.out) hb)
        have NB482_488 := Aside0.mk ((by rw [hg]; exact Nat.ne_of_lt (blk_lt (g := gb482) (o := .cells #[.int .i64 x483000_1, .slice Ao33 x483001_1.length co33] 53 (0, 0)) (bk BK482.out)) : gb482 ≠ gb488))
        have NB488_482 := Aside0.mk ((by rw [hg]; exact Nat.ne_of_gt (blk_lt (g := gb482) (o := .cells #[.int .i64 x483000_1, .slice Ao33 x483001_1.length co33] 53 (0, 0)) (bk BK482.out)) : gb488 ≠ gb482))
        replace BK482 := Aside0.mk (blk_below (g := gb482) (o := .cells #[.int .i64 x483000_1, .slice Ao33 x483001_1.length co33] 53 (0, 0)) (bk BK482.out) hb)
        clear hb hbox hg
        refine hK.out _ _ ⟨(blk_cell BK482.out 0).trans rfl, (blk_cell BK482.out 1).trans rfl, HS2_, HS3_, HS4_, HS5_, HS6_, HS7_⟩ (fun hHeld => ?_)
        clear hK K
        refine norm_ (a' := ?_) ?_ ?_
        rotate_left
        ·show Act.put _ (some 12) _ = _
         simp only [Act.put, List.setIfInBounds_toArray, List.set_cons_zero, List.set_cons_succ, i64_w, i32_w]
         rfl
        exact norm_ (by simp only [putAll, Act.put, List.setIfInBounds_toArray, List.set_cons_zero, List.set_cons_succ]) (hCont (v486, gb488) _ ⟨hHeld, (by (with_reducible repeat (first | apply Kd.R_alloc | apply Kd.R_drewN | apply Kd.R_drew)); exact Kd.R_mono HO487.out (fun _ hk => ⟨hk.2, hk.1.2⟩)), (by (with_reducible repeat (first | apply Kd.R_alloc | apply Kd.R_drewN | apply Kd.R_drew)); exact Kd.R_mono HO_483001.out (fun _ hk => ⟨hk.2, hk.1⟩)), (by (with_reducible repeat (first | apply Kd.R_alloc | apply Kd.R_drewN | apply Kd.R_drew)); exact Kd.R_mono HO_6.out (fun _ hk => ⟨hk.2, hk.1⟩)), (bk BK476.out), (bk BK482.out), (bk BK488.out), GW488.out, GE488.out, NB476_488.out, NB488_476.out, NB482_488.out, NB488_482.out, bo⟩)
       ·skip
        refine box_step ?hg (N := 12) ?hd (cs := #[.int .i64 0, .slice none 0 0]) (t := 53) ?hr ?_; (case hd => rfl); (case hg => rfl); (case hr => first | (go_simp; done) | (go_simp; rfl))
        intro gb488 hg w35 hbox hb
        have HS2_ := (hb.cell (World.block_lt_of_cell? _ _ (hHeld.2.2.1))).trans (hHeld.2.2.1)
        have HS3_ := (hb.cell (World.block_lt_of_cell? _ _ (hHeld.2.2.2.1))).trans (hHeld.2.2.2.1)
        have HS4_ := (hb.cell (World.block_lt_of_cell? _ _ (hHeld.2.2.2.2.1))).trans (hHeld.2.2.2.2.1)
        have HS5_ := (hb.cell (World.block_lt_of_cell? _ _ (hHeld.2.2.2.2.2.1))).trans (hHeld.2.2.2.2.2.1)
        have HS6_ := (hb.cell (World.block_lt_of_cell? _ _ (hHeld.2.2.2.2.2.2.1))).trans (hHeld.2.2.2.2.2.2.1)
        have HS7_ := (hb.cell (World.block_lt_of_cell? _ _ (hHeld.2.2.2.2.2.2.2))).trans (hHeld.2.2.2.2.2.2.2)
        replace HO_6 := Aside0.mk (Kd.R_below (rk HO_6.out) hb)
        replace HO_483001 := Aside0.mk (Kd.R_below (rk HO_483001.out) hb)
        have BK488 := Aside0.mk (hbox)
        have GW488 := Aside0.mk ((by rw [hg]; exact (below_size bo) : w.heap.size ≤ gb488))
        have GE488 := Aside0.mk ((by rw [hg]; exact (below_size bo) : w.heap.size ≤ gb488))
        replace HB := Aside0.mk (below_step bo hb)
        have NB476_488 := Aside0.mk ((by rw [hg]; exact Nat.ne_of_lt (blk_lt (g := gb476) (o := .cells #[.int .i64 x477000_1, .slice none 0 0] 53 (0, 0)) (bk BK476.out)) : gb476 ≠ gb488))
        have NB488_476 := Aside0.mk ((by rw [hg]; exact Nat.ne_of_gt (blk_lt (g := gb476) (o := .cells #[.int .i64 x477000_1, .slice none 0 0] 53 (0, 0)) (bk BK476.out)) : gb488 ≠ gb476))
        replace BK476 := Aside0.mk (blk_below (g := gb476) (o := .cells #[.int .i64 x477000_1, .slice none 0 0] 53 (0, 0)) (bk BK476.out) hb)
        have NB482_488 := Aside0.mk ((by rw [hg]; exact Nat.ne_of_lt (blk_lt (g := gb482) (o := .cells #[.int .i64 x483000_1, .slice Ao33 x483001_1.length co33] 53 (0, 0)) (bk BK482.out)) : gb482 ≠ gb488))
        have NB488_482 := Aside0.mk ((by rw [hg]; exact Nat.ne_of_gt (blk_lt (g := gb482) (o := .cells #[.int .i64 x483000_1, .slice Ao33 x483001_1.length co33] 53 (0, 0)) (bk BK482.out)) : gb488 ≠ gb482))
        replace BK482 := Aside0.mk (blk_below (g := gb482) (o := .cells #[.int .i64 x483000_1, .slice Ao33 x483001_1.length co33] 53 (0, 0)) (bk BK482.out) hb)
        clear hb hbox hg
        refine hK.out _ _ ⟨(blk_cell BK482.out 0).trans rfl, (blk_cell BK482.out 1).trans rfl, HS2_, HS3_, HS4_, HS5_, HS6_, HS7_⟩ (fun hHeld => ?_)
        clear hK K
        refine norm_ (a' := ?_) ?_ ?_
        rotate_left
        ·show Act.put _ (some 12) _ = _
         simp only [Act.put, List.setIfInBounds_toArray, List.set_cons_zero, List.set_cons_succ, i64_w, i32_w]
         rfl
        refine one_ (i := 5) (N := some 32) #[I,I,I,I,I,I,I,O] rfl rfl (one_of HT_.out (by kernel_rfl)) (by decide) (fun K hK => ?_)
        refine goes_ Try.func48 (by kernel_rfl) rfl #[.agg #[.int .i64 x483000_1, .slice Ao33 x483001_1.length co33], .agg #[.int .i64 ((rd_T25 t477 x11_1).f0), .int .i64 ((rd_T25 t477 x11_1).f1), .string ((rd_T25 t477 x11_1).f2), .string ((rd_T25 t477 x11_1).f3), .int .i64 ((rd_T25 t477 x11_1).f4), .bool ((rd_T25 t477 x11_1).f5)]] (by rfl) rfl rfl aa ?_
        with_reducible refine (fairwayref10_With.calls k1 x483000_1 _ _ x483001_1 ((rd_T25 t477 x11_1).f0) ((rd_T25 t477 x11_1).f1) ((rd_T25 t477 x11_1).f2) ((rd_T25 t477 x11_1).f3) ((rd_T25 t477 x11_1).f4) ((rd_T25 t477 x11_1).f5) t484 t485 _ ?side1 ?side2 A11.out).mono ?_
        (case side1 => repeat (first | exact (Kd.R_reads' HO_483001.out).2.2 | (with_reducible refine Kd.C_alloc ?_ _) | (with_reducible refine Kd.C_drewN ?_ _) | (with_reducible refine Kd.C_drew ?_)))
        (case side2 => exact (Kd.R_reads' HO_483001.out).2.1)
        rintro e w36 ⟨v486, rfl, ho0, hb⟩
        have HS2_ := (hb.cell (World.block_lt_of_cell? _ _ (hHeld.2.2.1))).trans (hHeld.2.2.1)
        have HS3_ := (hb.cell (World.block_lt_of_cell? _ _ (hHeld.2.2.2.1))).trans (hHeld.2.2.2.1)
        have HS4_ := (hb.cell (World.block_lt_of_cell? _ _ (hHeld.2.2.2.2.1))).trans (hHeld.2.2.2.2.1)
        have HS5_ := (hb.cell (World.block_lt_of_cell? _ _ (hHeld.2.2.2.2.2.1))).trans (hHeld.2.2.2.2.2.1)
        have HS6_ := (hb.cell (World.block_lt_of_cell? _ _ (hHeld.2.2.2.2.2.2.1))).trans (hHeld.2.2.2.2.2.2.1)
        have HS7_ := (hb.cell (World.block_lt_of_cell? _ _ (hHeld.2.2.2.2.2.2.2))).trans (hHeld.2.2.2.2.2.2.2)
        refine ⟨_, rfl, ?_⟩
        have HO487 := Aside0.mk (Kd.R_lower (Kd.R_new' (Kd.R_new' ho0 (Kd.R_lt (rk HO_6.out))) (Kd.R_lt (rk HO_483001.out))) (below_size bo))
        replace HO_6 := Aside0.mk (Kd.R_elder' (rk HO_6.out) (Kd.R_base ho0) hb)
        replace HO_483001 := Aside0.mk (Kd.R_elder' (rk HO_483001.out) (Kd.R_base ho0) hb)
        replace BK476 := Aside0.mk (blk_below (g := gb476) (o := .cells #[.int .i64 x477000_1, .slice none 0 0] 53 (0, 0)) (bk BK476.out) hb)
        replace BK482 := Aside0.mk (blk_below (g := gb482) (o := .cells #[.int .i64 x483000_1, .slice Ao33 x483001_1.length co33] 53 (0, 0)) (bk BK482.out) hb)
        replace BK488 := Aside0.mk (blk_below (g := gb488) (o := .cells #[.int .i64 0, .slice none 0 0] 53 (0, 0)) (bk BK488.out) hb)
        replace HB := Aside0.mk (below_step bo hb)
        (try clear hb)
        (try clear hb2)
        (try clear hk)
        (try clear hi)
        (try clear ho0)
        refine hK.out _ _ ⟨(blk_cell BK482.out 0).trans rfl, (blk_cell BK482.out 1).trans rfl, HS2_, HS3_, HS4_, HS5_, HS6_, HS7_⟩ (fun hHeld => ?_)
        clear hK K
        refine norm_ (a' := ?_) ?_ ?_
        rotate_left
        ·show Act.put _ (some 32) _ = _
         simp only [Act.put, List.setIfInBounds_toArray, List.set_cons_zero, List.set_cons_succ, i64_w, i32_w]
         rfl
        exact norm_ (by simp only [putAll, Act.put, List.setIfInBounds_toArray, List.set_cons_zero, List.set_cons_succ]) (hCont (v486, gb488) _ ⟨hHeld, (by (with_reducible repeat (first | apply Kd.R_alloc | apply Kd.R_drewN | apply Kd.R_drew)); exact Kd.R_mono HO487.out (fun _ hk => ⟨hk.2, hk.1.2⟩)), (by (with_reducible repeat (first | apply Kd.R_alloc | apply Kd.R_drewN | apply Kd.R_drew)); exact Kd.R_mono HO_483001.out (fun _ hk => ⟨hk.2, hk.1⟩)), (by (with_reducible repeat (first | apply Kd.R_alloc | apply Kd.R_drewN | apply Kd.R_drew)); exact Kd.R_mono HO_6.out (fun _ hk => ⟨hk.2, hk.1⟩)), (bk BK476.out), (bk BK482.out), (bk BK488.out), GW488.out, GE488.out, NB476_488.out, NB488_476.out, NB482_488.out, NB488_482.out, bo⟩)
      rintro ⟨v486, gb488⟩ w37 ⟨hS_, h0_, h1_, h2_, h3_, h4_, h5_, h6_, h7_, h8_, h9_, h10_, h11_, h12_⟩
      have n0_ : Aside0 (Kd.R k25 25 w37 w.heap.size (fun k_ => some k_ ≠ (.slice Ao33 x483001_1.length co33 : Value).ownBlock ∧ some k_ ≠ (.slice (some ad483) t477.length co32 : Value).ownBlock) v486 t485) := ⟨h0_⟩
      have n1_ : Aside0 (Kd.R k25 25 w37 w.heap.size (fun k_ => some k_ ≠ (v486 : Value).ownBlock ∧ some k_ ≠ (.slice (some ad483) t477.length co32 : Value).ownBlock) (.slice Ao33 x483001_1.length co33) x483001_1) := ⟨h1_⟩
      have n2_ : Aside0 (Kd.R k25 25 w37 w.heap.size (fun k_ => some k_ ≠ (v486 : Value).ownBlock ∧ some k_ ≠ (.slice Ao33 x483001_1.length co33 : Value).ownBlock) (.slice (some ad483) t477.length co32) t477) := ⟨h2_⟩
      have n3_ : Aside0 (w37.heap[gb476]? = some (.cells #[.int .i64 x477000_1, .slice none 0 0] 53 (0, 0))) := ⟨h3_⟩
      have n4_ : Aside0 (w37.heap[gb482]? = some (.cells #[.int .i64 x483000_1, .slice Ao33 x483001_1.length co33] 53 (0, 0))) := ⟨h4_⟩
      have n5_ : Aside0 (w37.heap[gb488]? = some (.cells #[.int .i64 0, .slice none 0 0] 53 (0, 0))) := ⟨h5_⟩
      have n6_ : Aside0 (w.heap.size ≤ gb488) := ⟨h6_⟩
      have n7_ : Aside0 (w.heap.size ≤ gb488) := ⟨h7_⟩
      have n8_ : Aside0 (gb476 ≠ gb488) := ⟨h8_⟩
      have n9_ : Aside0 (gb488 ≠ gb476) := ⟨h9_⟩
      have n10_ : Aside0 (gb482 ≠ gb488) := ⟨h10_⟩
      have n11_ : Aside0 (gb488 ≠ gb482) := ⟨h11_⟩
      have n12_ : Aside0 (Below w.heap.size w w37) := ⟨h12_⟩
      clear HO_6
      clear HO_483001
      clear BK476
      clear BK482
      clear HB
      clear h0_ h1_ h2_ h3_ h4_ h5_ h6_ h7_ h8_ h9_ h10_ h11_ h12_
      have HO487 := n0_
      have HO_483001 := n1_
      have HO_6 := n2_
      have BK476 := n3_
      have BK482 := n4_
      have BK488 := n5_
      have GW488 := n6_
      have GE488 := n7_
      have NB476_488 := n8_
      have NB488_476 := n9_
      have NB482_488 := n10_
      have NB488_482 := n11_
      have HB := n12_
      clear n0_ n1_ n2_ n3_ n4_ n5_ n6_ n7_ n8_ n9_ n10_ n11_ n12_
      have hHeld : w37.cell? ⟨gb482, 0, none⟩ = some (.int .i64 x483000_1) ∧ w37.cell? ⟨gb482, 1, none⟩ = some (.slice Ao33 x483001_1.length co33) ∧ w37.cell? (ad483.add ((x11_1).toNat * 6)) = some (.int .i64 ((rd_T25 t477 x11_1).f0)) ∧ w37.cell? ⟨(ad483.add ((x11_1).toNat * 6)).block, (ad483.add ((x11_1).toNat * 6)).off + 1, none⟩ = some (.int .i64 ((rd_T25 t477 x11_1).f1)) ∧ w37.cell? ⟨(ad483.add ((x11_1).toNat * 6)).block, (ad483.add ((x11_1).toNat * 6)).off + 2, none⟩ = some (.string ((rd_T25 t477 x11_1).f2)) ∧ w37.cell? ⟨(ad483.add ((x11_1).toNat * 6)).block, (ad483.add ((x11_1).toNat * 6)).off + 3, none⟩ = some (.string ((rd_T25 t477 x11_1).f3)) ∧ w37.cell? ⟨(ad483.add ((x11_1).toNat * 6)).block, (ad483.add ((x11_1).toNat * 6)).off + 4, none⟩ = some (.int .i64 ((rd_T25 t477 x11_1).f4)) ∧ w37.cell? ⟨(ad483.add ((x11_1).toNat * 6)).block, (ad483.add ((x11_1).toNat * 6)).off + 5, none⟩ = some (.bool ((rd_T25 t477 x11_1).f5)) := hS_
      obtain ⟨Ao39, co39, eo39⟩ := Kd.R_slice HO487.out
      (first | subst eo39 | (injection eo39 with f1_ f2_ f3_; have f4_ := f1_.symm; have f5_ := f3_.symm; clear f1_ f2_ f3_; subst f4_; subst f5_))
      refine norm_ (a' := ?_) ?_ ?_
      rotate_left
      ·simp only [putAll, Act.put, List.setIfInBounds_toArray, List.set_cons_zero, List.set_cons_succ]
       rfl
      refine one_ (i := 7) (N := none) #[I,I,I,I,I,I,I,I] rfl rfl (one_of HT_.out (by kernel_rfl)) (by decide) (fun K hK => ?_)
      have hs38 : w37.cell? ⟨gb488, 0, none⟩ = some (.int .i64 0) := (blk_cell BK488.out 0).trans rfl
      have hfs38 := blk_frozen BK488.out 0
      have hns38_0 := NB476_488.out
      have hns38_1 := NB482_488.out
      have hms38_0 := NB488_476.out
      have hms38_1 := NB488_482.out
      have hs40 : w37.cell? ⟨gb488, 1, none⟩ = some (.slice none 0 0) := (blk_cell BK488.out 1).trans rfl
      have hfs40 := blk_frozen BK488.out 1
      have hns40_0 := NB476_488.out
      have hns40_1 := NB482_488.out
      have hms40_0 := NB488_476.out
      have hms40_1 := NB488_482.out
      refine skip_ (w1 := ?_) (by rfl) rfl ?_ ?_
      rotate_left
      ·go_simp
       rfl
      refine hK.out _ _ ⟨((cell_far (p := ⟨gb488, _, none⟩) NB482_488.out _).trans (((cell_far (p := ⟨gb488, _, none⟩) NB482_488.out _).trans (hHeld.1)))), ((cell_far (p := ⟨gb488, _, none⟩) NB482_488.out _).trans (((cell_far (p := ⟨gb488, _, none⟩) NB482_488.out _).trans (hHeld.2.1)))), ((cell_far (p := ⟨gb488, _, none⟩) (by first | exact Kd.own_blk (Kd.R_ne HO_6.out BK488.out (by decide)) | (rw [add_block]; exact Kd.own_blk (Kd.R_ne HO_6.out BK488.out (by decide))) | (show (Addr.add _ _).block ≠ _; rw [add_block]; exact Kd.own_blk (Kd.R_ne HO_6.out BK488.out (by decide))) | (dsimp only; exact Kd.own_blk (Kd.R_ne HO_6.out BK488.out (by decide)))) _).trans (((cell_far (p := ⟨gb488, _, none⟩) (by first | exact Kd.own_blk (Kd.R_ne HO_6.out BK488.out (by decide)) | (rw [add_block]; exact Kd.own_blk (Kd.R_ne HO_6.out BK488.out (by decide))) | (show (Addr.add _ _).block ≠ _; rw [add_block]; exact Kd.own_blk (Kd.R_ne HO_6.out BK488.out (by decide))) | (dsimp only; exact Kd.own_blk (Kd.R_ne HO_6.out BK488.out (by decide)))) _).trans (hHeld.2.2.1)))), ((cell_far (p := ⟨gb488, _, none⟩) (by first | exact Kd.own_blk (Kd.R_ne HO_6.out BK488.out (by decide)) | (rw [add_block]; exact Kd.own_blk (Kd.R_ne HO_6.out BK488.out (by decide))) | (show (Addr.add _ _).block ≠ _; rw [add_block]; exact Kd.own_blk (Kd.R_ne HO_6.out BK488.out (by decide))) | (dsimp only; exact Kd.own_blk (Kd.R_ne HO_6.out BK488.out (by decide)))) _).trans (((cell_far (p := ⟨gb488, _, none⟩) (by first | exact Kd.own_blk (Kd.R_ne HO_6.out BK488.out (by decide)) | (rw [add_block]; exact Kd.own_blk (Kd.R_ne HO_6.out BK488.out (by decide))) | (show (Addr.add _ _).block ≠ _; rw [add_block]; exact Kd.own_blk (Kd.R_ne HO_6.out BK488.out (by decide))) | (dsimp only; exact Kd.own_blk (Kd.R_ne HO_6.out BK488.out (by decide)))) _).trans (hHeld.2.2.2.1)))), ((cell_far (p := ⟨gb488, _, none⟩) (by first | exact Kd.own_blk (Kd.R_ne HO_6.out BK488.out (by decide)) | (rw [add_block]; exact Kd.own_blk (Kd.R_ne HO_6.out BK488.out (by decide))) | (show (Addr.add _ _).block ≠ _; rw [add_block]; exact Kd.own_blk (Kd.R_ne HO_6.out BK488.out (by decide))) | (dsimp only; exact Kd.own_blk (Kd.R_ne HO_6.out BK488.out (by decide)))) _).trans (((cell_far (p := ⟨gb488, _, none⟩) (by first | exact Kd.own_blk (Kd.R_ne HO_6.out BK488.out (by decide)) | (rw [add_block]; exact Kd.own_blk (Kd.R_ne HO_6.out BK488.out (by decide))) | (show (Addr.add _ _).block ≠ _; rw [add_block]; exact Kd.own_blk (Kd.R_ne HO_6.out BK488.out (by decide))) | (dsimp only; exact Kd.own_blk (Kd.R_ne HO_6.out BK488.out (by decide)))) _).trans (hHeld.2.2.2.2.1)))), ((cell_far (p := ⟨gb488, _, none⟩) (by first | exact Kd.own_blk (Kd.R_ne HO_6.out BK488.out (by decide)) | (rw [add_block]; exact Kd.own_blk (Kd.R_ne HO_6.out BK488.out (by decide))) | (show (Addr.add _ _).block ≠ _; rw [add_block]; exact Kd.own_blk (Kd.R_ne HO_6.out BK488.out (by decide))) | (dsimp only; exact Kd.own_blk (Kd.R_ne HO_6.out BK488.out (by decide)))) _).trans (((cell_far (p := ⟨gb488, _, none⟩) (by first | exact Kd.own_blk (Kd.R_ne HO_6.out BK488.out (by decide)) | (rw [add_block]; exact Kd.own_blk (Kd.R_ne HO_6.out BK488.out (by decide))) | (show (Addr.add _ _).block ≠ _; rw [add_block]; exact Kd.own_blk (Kd.R_ne HO_6.out BK488.out (by decide))) | (dsimp only; exact Kd.own_blk (Kd.R_ne HO_6.out BK488.out (by decide)))) _).trans (hHeld.2.2.2.2.2.1)))), ((cell_far (p := ⟨gb488, _, none⟩) (by first | exact Kd.own_blk (Kd.R_ne HO_6.out BK488.out (by decide)) | (rw [add_block]; exact Kd.own_blk (Kd.R_ne HO_6.out BK488.out (by decide))) | (show (Addr.add _ _).block ≠ _; rw [add_block]; exact Kd.own_blk (Kd.R_ne HO_6.out BK488.out (by decide))) | (dsimp only; exact Kd.own_blk (Kd.R_ne HO_6.out BK488.out (by decide)))) _).trans (((cell_far (p := ⟨gb488, _, none⟩) (by first | exact Kd.own_blk (Kd.R_ne HO_6.out BK488.out (by decide)) | (rw [add_block]; exact Kd.own_blk (Kd.R_ne HO_6.out BK488.out (by decide))) | (show (Addr.add _ _).block ≠ _; rw [add_block]; exact Kd.own_blk (Kd.R_ne HO_6.out BK488.out (by decide))) | (dsimp only; exact Kd.own_blk (Kd.R_ne HO_6.out BK488.out (by decide)))) _).trans (hHeld.2.2.2.2.2.2.1)))), ((cell_far (p := ⟨gb488, _, none⟩) (by first | exact Kd.own_blk (Kd.R_ne HO_6.out BK488.out (by decide)) | (rw [add_block]; exact Kd.own_blk (Kd.R_ne HO_6.out BK488.out (by decide))) | (show (Addr.add _ _).block ≠ _; rw [add_block]; exact Kd.own_blk (Kd.R_ne HO_6.out BK488.out (by decide))) | (dsimp only; exact Kd.own_blk (Kd.R_ne HO_6.out BK488.out (by decide)))) _).trans (((cell_far (p := ⟨gb488, _, none⟩) (by first | exact Kd.own_blk (Kd.R_ne HO_6.out BK488.out (by decide)) | (rw [add_block]; exact Kd.own_blk (Kd.R_ne HO_6.out BK488.out (by decide))) | (show (Addr.add _ _).block ≠ _; rw [add_block]; exact Kd.own_blk (Kd.R_ne HO_6.out BK488.out (by decide))) | (dsimp only; exact Kd.own_blk (Kd.R_ne HO_6.out BK488.out (by decide)))) _).trans (hHeld.2.2.2.2.2.2.2))))⟩ (fun hHeld => ?_)
      clear hK K
      refine done_ (done_of HT_.out (by kernel_rfl)) ?_
      have hnb41 := NB488_476.out
      have hnc41 := NB476_488.out
      have hnb42 := NB488_482.out
      have hnc42 := NB482_488.out
      have hcz43_0 : w37.cell? ⟨gb488, 0, none⟩ = some (.int .i64 0) := (blk_cell BK488.out 0).trans rfl
      have hcz43_1 : w37.cell? ⟨gb488, 1, none⟩ = some (.slice none 0 0) := (blk_cell BK488.out 1).trans rfl
      have hfz43_0 := blk_frozen BK488.out 0
      have hfz43_1 := blk_frozen BK488.out 1
      try go_wp2_with (first | ((with_reducible refine gate_callee (f := 31) rfl ?_); refine goesL_ (some 34) rfl rfl Try.func31 (by kernel_rfl) rfl #[.agg #[.int .i64 t484, .slice Ao39 t485.length co39]] rfl aa ?_; (with_reducible refine (fairwayref10_Seg.calls k1 t484 _ _ t485 false _ ?side1 ?side2 A12.out).mono ?_); (case side1 => refine (Kd.R_reads' (e := 25) (base := w.heap.size) (ok := fun k_ => (some k_ ≠ (.slice Ao33 x483001_1.length co33 : Value).ownBlock ∧ some k_ ≠ (.slice (some ad483) t477.length co32 : Value).ownBlock)) (n := t485.length) (c := co39) ?_).2.2; exact (by (with_reducible repeat (first | apply Kd.R_alloc | apply Kd.R_drewN | apply Kd.R_drew)); exact (Kd.R_mono (Kd.R_far (p := ⟨gb488, 1, none⟩) (Kd.R_far (p := ⟨gb488, 0, none⟩) (Kd.R_types HO487.out BK488.out (by decide)) (fun _ hk => hk.2) (.int .i64 t484)) (fun _ hk => hk.2) (.slice Ao39 t485.length co39)) (fun _ h_ => h_.1)))); (case side2 => exact (Kd.R_reads' HO487.out).2.1); rintro e w44 ⟨rfl, hb⟩; refine ⟨_, rfl, ?_⟩; replace HO_6 := Aside0.mk (Kd.R_below (by (with_reducible repeat (first | apply Kd.R_alloc | apply Kd.R_drewN | apply Kd.R_drew)); exact (Kd.R_mono (Kd.R_far (p := ⟨gb488, 1, none⟩) (Kd.R_far (p := ⟨gb488, 0, none⟩) (Kd.R_types HO_6.out BK488.out (by decide)) (fun _ hk => hk.2) (.int .i64 t484)) (fun _ hk => hk.2) (.slice Ao39 t485.length co39)) (fun _ h_ => h_.1))) hb); replace HO_483001 := Aside0.mk (Kd.R_below (by (with_reducible repeat (first | apply Kd.R_alloc | apply Kd.R_drewN | apply Kd.R_drew)); exact (Kd.R_mono (Kd.R_far (p := ⟨gb488, 1, none⟩) (Kd.R_far (p := ⟨gb488, 0, none⟩) (Kd.R_types HO_483001.out BK488.out (by decide)) (fun _ hk => hk.2) (.int .i64 t484)) (fun _ hk => hk.2) (.slice Ao39 t485.length co39)) (fun _ h_ => h_.1))) hb); replace HO487 := Aside0.mk (Kd.R_below (by (with_reducible repeat (first | apply Kd.R_alloc | apply Kd.R_drewN | apply Kd.R_drew)); exact (Kd.R_mono (Kd.R_far (p := ⟨gb488, 1, none⟩) (Kd.R_far (p := ⟨gb488, 0, none⟩) (Kd.R_types HO487.out BK488.out (by decide)) (fun _ hk => hk.2) (.int .i64 t484)) (fun _ hk => hk.2) (.slice Ao39 t485.length co39)) (fun _ h_ => h_.1))) hb); replace BK476 := Aside0.mk (blk_below (g := gb476) (o := .cells #[.int .i64 x477000_1, .slice none 0 0] 53 (0, 0)) (bf BK476.out) hb); replace BK482 := Aside0.mk (blk_below (g := gb482) (o := .cells #[.int .i64 x483000_1, .slice Ao33 x483001_1.length co33] 53 (0, 0)) (bf BK482.out) hb); replace BK488 := Aside0.mk (blk_below (g := gb488) (o := .cells #[.int .i64 t484, .slice Ao39 t485.length co39] 53 (0, 0)) (by (with_reducible repeat (first | refine blk_drewN ?_ _ | refine blk_drew ?_ | refine blk_alloc ?_ _)); refine blk_put (cs := #[.int .i64 t484, .slice none 0 0]) ?_ 1 _ rfl; (with_reducible repeat (first | refine blk_drewN ?_ _ | refine blk_drew ?_ | refine blk_alloc ?_ _)); refine blk_put (cs := #[.int .i64 0, .slice none 0 0]) ?_ 0 _ rfl; (with_reducible repeat (first | refine blk_drewN ?_ _ | refine blk_drew ?_ | refine blk_alloc ?_ _)); exact BK488.out) hb); replace HB := Aside0.mk (below_step bo hb); (try clear hb); (try clear hb2); (try clear hk); (try clear hi); have hnb45 := NB482_476.out; have hnc45 := NB476_482.out; obtain ⟨hcz46_0, hcz46_1⟩ := cl2 BK482.out; obtain ⟨hfz46_0, hfz46_1⟩ := fz2 BK482.out; obtain ⟨hcz47_0, hcz47_1⟩ := cl2 BK476.out; obtain ⟨hfz47_0, hfz47_1⟩ := fz2 BK476.out))
      refine bodyPost_ret (results_ct rfl _ _ gb476 53 #[.int .i64 x483000_1, .slice Ao33 x483001_1.length co33] (0, 0) _ rfl (by (with_reducible repeat (first | refine blk_drewN ?_ _ | refine blk_drew ?_ | refine blk_alloc ?_ _)); refine blk_put (cs := #[.int .i64 x483000_1, .slice none 0 0]) ?_ 1 _ rfl; (with_reducible repeat (first | refine blk_drewN ?_ _ | refine blk_drew ?_ | refine blk_alloc ?_ _)); refine blk_put (cs := #[.int .i64 x477000_1, .slice none 0 0]) ?_ 0 _ rfl; (with_reducible repeat (first | refine blk_drewN ?_ _ | refine blk_drew ?_ | refine blk_alloc ?_ _)); exact BK476.out) Try.underlying53 rfl (by kernel_rfl)) rfl ?_
      exact ⟨_, er, by (with_reducible repeat (first | apply Kd.R_alloc | apply Kd.R_drewN | apply Kd.R_drew)); exact Kd.R_mono (Kd.R_far (p := ⟨gb476, 1, none⟩) (Kd.R_far (p := ⟨gb476, 0, none⟩) (Kd.R_types HO_483001.out BK476.out (by decide)) (fun _ hk => hk.2) (.int .i64 x483000_1)) (fun _ hk => hk.2) (.slice Ao33 x483001_1.length co33)) (fun _ hk => trivial), bo⟩
    ·rw [if_neg c10] at H
     exact absurd H (by simp)
   ·rw [if_neg c9] at H
    have c9b0 : decide (x11_1 < (t477.length : Int)) = false := decide_eq_false c9
    clear c9
    simp only [Option.some.injEq, Prod.mk.injEq] at H
    obtain ⟨rfl, rfl, rfl⟩ := H
    obtain ⟨Ao48, co48, eo48⟩ := Kd.R_slice HO_6.out
    subst eo48
    have hnb49 := NB482_476.out
    have hnc49 := NB476_482.out
    have hcz50_0 : wr.cell? ⟨gb482, 0, none⟩ = some (.int .i64 x483000_1) := (blk_cell BK482.out 0).trans rfl
    have hcz50_1 : wr.cell? ⟨gb482, 1, none⟩ = some (u483001) := (blk_cell BK482.out 1).trans rfl
    have hfz50_0 := blk_frozen BK482.out 0
    have hfz50_1 := blk_frozen BK482.out 1
    have hcz51_0 : wr.cell? ⟨gb476, 0, none⟩ = some (.int .i64 x477000_1) := (blk_cell BK476.out 0).trans rfl
    have hcz51_1 : wr.cell? ⟨gb476, 1, none⟩ = some (.slice none 0 0) := (blk_cell BK476.out 1).trans rfl
    have hfz51_0 := blk_frozen BK476.out 0
    have hfz51_1 := blk_frozen BK476.out 1
    obtain ⟨Ao52, co52, eo52⟩ := Kd.R_slice HO_483001.out
    subst eo52
    go_wp2
    refine bodyPost_ret (results_ct rfl _ _ gb476 53 #[.int .i64 x483000_1, .slice Ao52 x483001_1.length co52] (0, 0) _ rfl (by (with_reducible repeat (first | refine blk_drewN ?_ _ | refine blk_drew ?_ | refine blk_alloc ?_ _)); refine blk_put (cs := #[.int .i64 x483000_1, .slice none 0 0]) ?_ 1 _ rfl; (with_reducible repeat (first | refine blk_drewN ?_ _ | refine blk_drew ?_ | refine blk_alloc ?_ _)); refine blk_put (cs := #[.int .i64 x477000_1, .slice none 0 0]) ?_ 0 _ rfl; (with_reducible repeat (first | refine blk_drewN ?_ _ | refine blk_drew ?_ | refine blk_alloc ?_ _)); exact BK476.out) Try.underlying53 rfl (by kernel_rfl)) rfl ?_
    exact ⟨_, er, by (with_reducible repeat (first | apply Kd.R_alloc | apply Kd.R_drewN | apply Kd.R_drew)); exact Kd.R_mono (Kd.R_far (p := ⟨gb476, 1, none⟩) (Kd.R_far (p := ⟨gb476, 0, none⟩) (Kd.R_types HO_483001.out BK476.out (by decide)) (fun _ hk => hk.2) (.int .i64 x483000_1)) (fun _ hk => hk.2) (.slice Ao52 x483001_1.length co52)) (fun _ hk => trivial), bo⟩

end Go.Proofs.Ytmabdfdmccbfnaa.P

-- written by a program of the proving session, out of the translation; Lean checks it
namespace Go.Proofs.Ytmabdfdmccbfnaa.P
open Go.RowKit Go.Proofs.Ytmabdfdmccbfnaa.Sq Go.Proofs.YtmabdfdmccbfnaaW.PrintWords Go.Proofs.YtmabdfdmccbfnaaW.PrintLast Go.Proofs.YtmabdfdmccbfnaaW.PrintMore
attribute [local go_sem] max2_int min2_int max_two min_two max_three min_three max_four min_four   -- for this text's walks alone
set_option linter.unusedVariables false
set_option linter.unusedSimpArgs false

theorem eqA25 (d : Nat) (w : World) (x0 y0 : Int) (x1 y1 : Int) (x2 y2 : ByteArray) (x3 y3 : ByteArray) (x4 y4 : Int) (x5 y5 : Bool) :
 (Op.equalIn (d + 2) 25 (.agg #[.int .i64 x0, .int .i64 x1, .string x2, .string x3, .int .i64 x4, .bool x5]) (.agg #[.int .i64 y0, .int .i64 y1, .string y2, .string y3, .int .i64 y4, .bool y5])).run Try.prog w = .ok (x0 == y0 && (x1 == y1 && (x2.toList == y2.toList && (x3.toList == y3.toList && (x4 == y4 && (x5 == y5)))))) w := by
 refine eqA_of Try.underlying25 (by kernel_rfl) ?_
 refine eqf_cons (by rfl) (by go_simp; rfl) (by go_simp; rfl) (by go_simp) ?_
 refine eqf_cons (by rfl) (by go_simp; rfl) (by go_simp; rfl) (by go_simp) ?_
 refine eqf_cons (by rfl) (by go_simp; rfl) (by go_simp; rfl) (by go_simp) ?_
 refine eqf_cons (by rfl) (by go_simp; rfl) (by go_simp; rfl) (by go_simp) ?_
 refine eqf_cons (by rfl) (by go_simp; rfl) (by go_simp; rfl) (by go_simp) ?_
 exact eqf_last (by rfl) (by go_simp; rfl) (by go_simp; rfl) (by go_simp)
end Go.Proofs.Ytmabdfdmccbfnaa.P

-- written by a program of the proving session, out of the translation; Lean checks it
namespace Go.Proofs.Ytmabdfdmccbfnaa.P
open Go.RowKit Go.Proofs.Ytmabdfdmccbfnaa.Sq Go.Proofs.YtmabdfdmccbfnaaW.PrintWords Go.Proofs.YtmabdfdmccbfnaaW.PrintLast Go.Proofs.YtmabdfdmccbfnaaW.PrintMore
attribute [local go_sem] max2_int min2_int max_two min_two max_three min_three max_four min_four   -- for this text's walks alone
set_option linter.unusedVariables false
set_option linter.unusedSimpArgs false

attribute [local go_sem high] eqA25
/-! ### fairwayref0_EqRecs: function 27 -/
def fairwayref0_EqRecs.l0 : Nat → List (S25) → List (S25) → Int → Option (Bool)
 | 0, _, _, _ => none
 | k + 1, x0, x1, x5 => if x5 < (x0.length : Int) then (if 0 ≤ x5 then (if x5 < (x1.length : Int) then (if (!(((rd_T25 x0 x5).f0) == ((rd_T25 x1 x5).f0)) || (!(((rd_T25 x0 x5).f1) == ((rd_T25 x1 x5).f1)) || (!((((rd_T25 x0 x5).f2).toList) == (((rd_T25 x1 x5).f2).toList)) || (!((((rd_T25 x0 x5).f3).toList) == (((rd_T25 x1 x5).f3).toList)) || (!(((rd_T25 x0 x5).f4) == ((rd_T25 x1 x5).f4)) || (!(((rd_T25 x0 x5).f5) == ((rd_T25 x1 x5).f5)))))))) = true then (some false) else (fairwayref0_EqRecs.l0 k x0 x1 (wrap64 (x5 + 1)))) else (none)) else (none)) else (some true)
def fairwayref0_EqRecs.f (k : Nat) (l0 : List (S25)) (l1 : List (S25)) : Option (Bool) := if (l0.length : Int) = (l1.length : Int) then (fairwayref0_EqRecs.l0 k l0 l1 0) else (some false)
theorem fairwayref0_EqRecs.mono_l : ∀ k, (∀ y0 y1 y2, LeO (fairwayref0_EqRecs.l0 k y0 y1 y2) (fairwayref0_EqRecs.l0 (k + 1) y0 y1 y2))
 | 0 => fun _ _ _ r h => by simp [fairwayref0_EqRecs.l0] at h
 | k + 1 => by
  have ih0 := fairwayref0_EqRecs.mono_l k
  ·intro y0 y1 y2
   unfold fairwayref0_EqRecs.l0
   repeat' first
   | (with_reducible exact ih0 _ _ _)
   | (with_reducible exact LeO.refl _)
   | (with_reducible exact LeO.none _)
   | (with_reducible refine LeO.ite ?_ ?_)
   | (with_reducible refine LeO.bind ?_ (fun _ => ?_))
   | exact ih0 _ _ _
   | exact LeO.none _
   | refine LeO.ite ?_ ?_
   | refine LeO.bind ?_ (fun _ => ?_)
theorem fairwayref0_EqRecs.mono : ∀ a0 a1 k, LeO (fairwayref0_EqRecs.f k a0 a1) (fairwayref0_EqRecs.f (k + 1) a0 a1) := by
 intro a0 a1 k
 have ih0 := fairwayref0_EqRecs.mono_l k
 unfold fairwayref0_EqRecs.f
 repeat' first
  | (with_reducible exact ih0 _ _ _)
  | (with_reducible exact LeO.refl _)
  | (with_reducible exact LeO.none _)
  | (with_reducible refine LeO.ite ?_ ?_)
  | (with_reducible refine LeO.bind ?_ (fun _ => ?_))
  | exact ih0 _ _ _
  | exact LeO.none _
  | refine LeO.ite ?_ ?_
  | refine LeO.bind ?_ (fun _ => ?_)
set_option maxHeartbeats 8000000 in
set_option maxRecDepth 100000 in
theorem fairwayref0_EqRecs.calls (k : Nat) (A0 : Option Addr) (c0 : Nat) (l0 : List (S25)) (A1 : Option Addr) (c1 : Nat) (l1 : List (S25)) (r : Bool) (w : World) (hr0 : Kd.C k25 w A0 l0.length l0) (hc0 : l0.length ≤ c0) (hr1 : Kd.C k25 w A1 l1.length l1) (hc1 : l1.length ≤ c1) (h : fairwayref0_EqRecs.f k l0 l1 = some r) :
 Calls Try.prog 27 #[.slice A0 l0.length c0, .slice A1 l1.length c1] w fun e w' => e = .returned (.bool r) ∧ Drawn0 w w' := by
 have hu25 := Try.underlying25
 have HR0 := Aside0.mk hr0
 have HC0 := Aside0.mk hc0
 clear hr0 hc0
 have HR1 := Aside0.mk hr1
 have HC1 := Aside0.mk hc1
 clear hr1 hc1
 have H : (if (l0.length : Int) = (l1.length : Int) then (fairwayref0_EqRecs.l0 k l0 l1 0) else (some false)) = some r := h
 clear h
 by_cases c3 : (l0.length : Int) = (l1.length : Int)
 ·rw [if_pos c3] at H
  have c3b0 : ((l0.length : Int) == (l1.length : Int)) = true := beq_iff_eq.mpr c3
  have c3b1 : ((l0.length : Int) != (l1.length : Int)) = false := bne_eq_false_iff_eq.mpr c3
  have c3b2 : (l0.length == l1.length) = true := by first | simpa using c3 | (simp at c3 ⊢; omega)
  clear c3
  have H' := Aside0.mk H
  clear H
  go_enter Try.func27, Try.ntmps27
  go_wp2
  repeat (go_quiet (fail); try go_wp2)
  go_loopg [5] k (fun kq v5 w' => ∃ (x5_1 : Int), v5 = .int .i64 x5_1 ∧ Aside0 (fairwayref0_EqRecs.l0 kq l0 l1 x5_1 = some r) ∧ Aside0 (kq ≤ k) ∧ Drawn0 w w')
  case atStart => exact ⟨(0), ap, H', ⟨Nat.le_refl _⟩, dr⟩
  case round =>
   clear H'
   try clear c1
   try clear c2
   try clear p2
   try clear c3
   try clear c3b0
   try clear c3b1
   try clear c3b2
   obtain ⟨x5_1, rfl, HA, HK1, ⟨m1, rfl⟩⟩ := hrel
   cases gk with
   | zero => exact absurd HA.out (by simp [fairwayref0_EqRecs.l0])
   | succ k1 =>
    have H := HA.out
    clear HA
    simp only [fairwayref0_EqRecs.l0] at H
    by_cases c4 : x5_1 < (l0.length : Int)
    ·rw [if_pos c4] at H
     have c4b0 : decide (x5_1 < (l0.length : Int)) = true := decide_eq_true c4
     clear c4
     by_cases c5 : 0 ≤ x5_1
     ·rw [if_pos c5] at H
      have c5b0 : decide (0 ≤ x5_1) = true := decide_eq_true c5
      clear c5
      by_cases c6 : x5_1 < (l1.length : Int)
      ·rw [if_pos c6] at H
       have c6b0 : decide (x5_1 < (l1.length : Int)) = true := decide_eq_true c6
       clear c6
       by_cases c7 : (!(((rd_T25 l0 x5_1).f0) == ((rd_T25 l1 x5_1).f0)) || (!(((rd_T25 l0 x5_1).f1) == ((rd_T25 l1 x5_1).f1)) || (!((((rd_T25 l0 x5_1).f2).toList) == (((rd_T25 l1 x5_1).f2).toList)) || (!((((rd_T25 l0 x5_1).f3).toList) == (((rd_T25 l1 x5_1).f3).toList)) || (!(((rd_T25 l0 x5_1).f4) == ((rd_T25 l1 x5_1).f4)) || (!(((rd_T25 l0 x5_1).f5) == ((rd_T25 l1 x5_1).f5)))))))) = true
       ·rw [if_pos c7] at H
        have c7b0 : (!(((rd_T25 l0 x5_1).f0) == ((rd_T25 l1 x5_1).f0)) || (!(((rd_T25 l0 x5_1).f1) == ((rd_T25 l1 x5_1).f1)) || (!((((rd_T25 l0 x5_1).f2).toList) == (((rd_T25 l1 x5_1).f2).toList)) || (!((((rd_T25 l0 x5_1).f3).toList) == (((rd_T25 l1 x5_1).f3).toList)) || (!(((rd_T25 l0 x5_1).f4) == ((rd_T25 l1 x5_1).f4)) || (!(((rd_T25 l0 x5_1).f5) == ((rd_T25 l1 x5_1).f5)))))))) = true := c7
        clear c7
        obtain rfl := Option.some.inj H
        have p289 : 0 ≤ (x5_1 : Int) := od
        have q289 : x5_1 < (l0.length : Int) := od
        obtain ⟨ad289, e289, hx289_0, hx289_1, hx289_2, hx289_3, hx289_4, hx289_5⟩ := at_T25 HR0.out x5_1 p289 q289
        cases e289
        replace p289 := eq_true p289
        replace q289 := eq_true q289
        have p290 : 0 ≤ (x5_1 : Int) := od
        have q290 : x5_1 < (l1.length : Int) := od
        obtain ⟨ad290, e290, hx290_0, hx290_1, hx290_2, hx290_3, hx290_4, hx290_5⟩ := at_T25 HR1.out x5_1 p290 q290
        cases e290
        replace p290 := eq_true p290
        replace q290 := eq_true q290
        go_wp2
        repeat (go_quiet (fail); try go_wp2)
        go_ret
        exact ⟨ap, dr⟩
       ·rw [if_neg c7] at H
        have c7b0 : (!(((rd_T25 l0 x5_1).f0) == ((rd_T25 l1 x5_1).f0)) || (!(((rd_T25 l0 x5_1).f1) == ((rd_T25 l1 x5_1).f1)) || (!((((rd_T25 l0 x5_1).f2).toList) == (((rd_T25 l1 x5_1).f2).toList)) || (!((((rd_T25 l0 x5_1).f3).toList) == (((rd_T25 l1 x5_1).f3).toList)) || (!(((rd_T25 l0 x5_1).f4) == ((rd_T25 l1 x5_1).f4)) || (!(((rd_T25 l0 x5_1).f5) == ((rd_T25 l1 x5_1).f5)))))))) = false := by simpa using c7
        clear c7
        have H' := Aside0.mk H
        clear H
        have p289 : 0 ≤ (x5_1 : Int) := od
        have q289 : x5_1 < (l0.length : Int) := od
        obtain ⟨ad289, e289, hx289_0, hx289_1, hx289_2, hx289_3, hx289_4, hx289_5⟩ := at_T25 HR0.out x5_1 p289 q289
        cases e289
        replace p289 := eq_true p289
        replace q289 := eq_true q289
        have p290 : 0 ≤ (x5_1 : Int) := od
        have q290 : x5_1 < (l1.length : Int) := od
        obtain ⟨ad290, e290, hx290_0, hx290_1, hx290_2, hx290_3, hx290_4, hx290_5⟩ := at_T25 HR1.out x5_1 p290 q290
        cases e290
        replace p290 := eq_true p290
        replace q290 := eq_true q290
        go_wp2
        repeat (go_quiet (fail); try go_wp2)
        go_roundg k1
        case measure => have := HK1.out; omega
        case rel => exact ⟨(wrap64 (x5_1 + 1)), ap, H', ⟨by have := HK1.out; omega⟩, dr⟩
      ·rw [if_neg c6] at H
       exact absurd H (by simp)
     ·rw [if_neg c5] at H
      exact absurd H (by simp)
    ·rw [if_neg c4] at H
     have c4b0 : decide (x5_1 < (l0.length : Int)) = false := decide_eq_false c4
     clear c4
     obtain rfl := Option.some.inj H
     go_wp2
     repeat (go_quiet (fail); try go_wp2)
     go_ret
     exact ⟨ap, dr⟩
 ·rw [if_neg c3] at H
  have c3b0 : ((l0.length : Int) == (l1.length : Int)) = false := beq_eq_false_iff_ne.mpr c3
  have c3b1 : ((l0.length : Int) != (l1.length : Int)) = true := bne_iff_ne.mpr c3
  have c3b2 : (l0.length == l1.length) = false := by first | simpa using c3 | (simp at c3 ⊢; omega)
  obtain rfl := Option.some.inj H
  go_enter Try.func27, Try.ntmps27
  go_wp2
  repeat (go_quiet (fail); try go_wp2)
  go_ret
  exact ⟨ap, dr⟩

end Go.Proofs.Ytmabdfdmccbfnaa.P

-- written by a program of the proving session, out of the translation; Lean checks it
namespace Go.Proofs.Ytmabdfdmccbfnaa.P
open Go.RowKit Go.Proofs.Ytmabdfdmccbfnaa.Sq Go.Proofs.YtmabdfdmccbfnaaW.PrintWords Go.Proofs.YtmabdfdmccbfnaaW.PrintLast Go.Proofs.YtmabdfdmccbfnaaW.PrintMore
attribute [local go_sem] max2_int min2_int max_two min_two max_three min_three max_four min_four   -- for this text's walks alone
set_option linter.unusedVariables false
set_option linter.unusedSimpArgs false

/-! ### fairwayref0_EqSeg: function 41 -/
def fairwayref0_EqSeg.f (k : Nat) (a0_0 : Int) (l0_1 : List (S25)) (a1_0 : Int) (l1_1 : List (S25)) : Option (Bool) := if a0_0 = a1_0 then ((fairwayref0_EqRecs.f k l0_1 l1_1).bind fun t494 => (some t494)) else (some false)
theorem fairwayref0_EqSeg.mono : ∀ a0 a1 a2 a3 k, LeO (fairwayref0_EqSeg.f k a0 a1 a2 a3) (fairwayref0_EqSeg.f (k + 1) a0 a1 a2 a3) := by
 intro a0 a1 a2 a3 k
 unfold fairwayref0_EqSeg.f
 repeat' first
  | (with_reducible exact fairwayref0_EqRecs.mono _ _ _)
  | (with_reducible exact LeO.refl _)
  | (with_reducible exact LeO.none _)
  | (with_reducible refine LeO.ite ?_ ?_)
  | (with_reducible refine LeO.bind ?_ (fun _ => ?_))
  | exact fairwayref0_EqRecs.mono _ _ _
  | exact LeO.none _
  | refine LeO.ite ?_ ?_
  | refine LeO.bind ?_ (fun _ => ?_)
set_option maxHeartbeats 8000000 in
set_option maxRecDepth 100000 in
theorem fairwayref0_EqSeg.calls (k : Nat) (a0_0 : Int) (A0_1 : Option Addr) (c0_1 : Nat) (l0_1 : List (S25)) (a1_0 : Int) (A1_1 : Option Addr) (c1_1 : Nat) (l1_1 : List (S25)) (r : Bool) (w : World) (hr0_1 : Kd.C k25 w A0_1 l0_1.length l0_1) (hc0_1 : l0_1.length ≤ c0_1) (hr1_1 : Kd.C k25 w A1_1 l1_1.length l1_1) (hc1_1 : l1_1.length ≤ c1_1) (h : fairwayref0_EqSeg.f k a0_0 l0_1 a1_0 l1_1 = some r) :
 Calls Try.prog 41 #[.agg #[.int .i64 a0_0, .slice A0_1 l0_1.length c0_1], .agg #[.int .i64 a1_0, .slice A1_1 l1_1.length c1_1]] w fun e w' => e = .returned (.bool r) ∧ Below w.heap.size w w' := by
 have hu53 := Try.underlying53
 have HR0_1 := Aside0.mk hr0_1
 have HC0_1 := Aside0.mk hc0_1
 clear hr0_1 hc0_1
 have HR1_1 := Aside0.mk hr1_1
 have HC1_1 := Aside0.mk hc1_1
 clear hr1_1 hc1_1
 have HB := Aside0.mk (Below.refl w.heap.size w)
 have H : (if a0_0 = a1_0 then ((fairwayref0_EqRecs.f k l0_1 l1_1).bind fun t494 => (some t494)) else (some false)) = some r := h
 clear h
 by_cases c3 : a0_0 = a1_0
 ·rw [if_pos c3] at H
  have c3b0 : (a0_0 == a1_0) = true := beq_iff_eq.mpr c3
  have c3b1 : (a0_0 != a1_0) = false := bne_eq_false_iff_eq.mpr c3
  clear c3
  replace H := Option.bind_eq_some_iff.mp H
  obtain ⟨t494, A40, H⟩ := H
  replace H : (some t494) = some r := H
  have A4 := Aside0.mk A40
  clear A40
  obtain rfl := Option.some.inj H
  go_enter Try.func41, Try.ntmps41
  go_wp2_with (first | ((with_reducible refine gate_dst (N := 2) rfl ?_); refine box_event ?hg (N := 2) ?hd (cs := #[.int .i64 a0_0, .slice A0_1 l0_1.length c0_1]) (t := 53) ?hr ?_; (case hd => rfl); (case hg => rfl); (case hr => first | (go_simp; done) | (go_simp; rfl)); intro gb492 hg w5 hbox hb; have BK492 := Aside0.mk (hbox); have GW492 := Aside0.mk ((by rw [hg]; exact (below_size bo) : w.heap.size ≤ gb492)); have GE492 := Aside0.mk ((by rw [hg]; exact (below_size bo) : w.heap.size ≤ gb492)); replace HB := Aside0.mk (below_step bo hb); clear hb hbox hg) | ((with_reducible refine gate_dst (N := 3) rfl ?_); refine box_event ?hg (N := 3) ?hd (cs := #[.int .i64 a1_0, .slice A1_1 l1_1.length c1_1]) (t := 53) ?hr ?_; (case hd => rfl); (case hg => rfl); (case hr => first | (go_simp; done) | (go_simp; rfl)); intro gb493 hg w6 hbox hb; have BK493 := Aside0.mk (hbox); have GW493 := Aside0.mk ((by rw [hg]; exact (below_size bo) : w.heap.size ≤ gb493)); have GE493 := Aside0.mk ((by rw [hg]; exact (below_size bo) : w.heap.size ≤ gb493)); replace HB := Aside0.mk (below_step bo hb); have NB492_493 := Aside0.mk ((by rw [hg]; exact Nat.ne_of_lt (blk_lt (g := gb492) (o := .cells #[.int .i64 a0_0, .slice A0_1 l0_1.length c0_1] 53 (0, 0)) (bk BK492.out)) : gb492 ≠ gb493)); have NB493_492 := Aside0.mk ((by rw [hg]; exact Nat.ne_of_gt (blk_lt (g := gb492) (o := .cells #[.int .i64 a0_0, .slice A0_1 l0_1.length c0_1] 53 (0, 0)) (bk BK492.out)) : gb493 ≠ gb492)); replace BK492 := Aside0.mk (blk_below (g := gb492) (o := .cells #[.int .i64 a0_0, .slice A0_1 l0_1.length c0_1] 53 (0, 0)) (bk BK492.out) hb); clear hb hbox hg; have hnb7 := NB492_493.out; have hnc7 := NB493_492.out; obtain ⟨hcz8_0, hcz8_1⟩ := cl2 BK492.out; obtain ⟨hfz8_0, hfz8_1⟩ := fz2 BK492.out; obtain ⟨hcz9_0, hcz9_1⟩ := cl2 BK493.out; obtain ⟨hfz9_0, hfz9_1⟩ := fz2 BK493.out) | (go_at_call 27; (with_reducible refine (fairwayref0_EqRecs.calls k _ _ l0_1 _ _ l1_1 t494 _ ?side1 ?side2 ?side3 ?side4 A4.out).mono ?_); (case side1 => repeat (first | exact (Kd.C_below HR0_1.out HB.out) | (with_reducible refine Kd.C_alloc ?_ _) | (with_reducible refine Kd.C_drewN ?_ _) | (with_reducible refine Kd.C_drew ?_))); (case side2 => exact HC0_1.out); (case side3 => repeat (first | exact (Kd.C_below HR1_1.out HB.out) | (with_reducible refine Kd.C_alloc ?_ _) | (with_reducible refine Kd.C_drewN ?_ _) | (with_reducible refine Kd.C_drew ?_))); (case side4 => exact HC1_1.out); rintro e w' ⟨rfl, ⟨nd, rfl⟩⟩))
  go_ret
  exact ⟨er, bo⟩
 ·rw [if_neg c3] at H
  have c3b0 : (a0_0 == a1_0) = false := beq_eq_false_iff_ne.mpr c3
  have c3b1 : (a0_0 != a1_0) = true := bne_iff_ne.mpr c3
  obtain rfl := Option.some.inj H
  go_enter Try.func41, Try.ntmps41
  go_wp2_with (first | ((with_reducible refine gate_dst (N := 2) rfl ?_); refine box_event ?hg (N := 2) ?hd (cs := #[.int .i64 a0_0, .slice A0_1 l0_1.length c0_1]) (t := 53) ?hr ?_; (case hd => rfl); (case hg => rfl); (case hr => first | (go_simp; done) | (go_simp; rfl)); intro gb492 hg w10 hbox hb; have BK492 := Aside0.mk (hbox); have GW492 := Aside0.mk ((by rw [hg]; exact (below_size bo) : w.heap.size ≤ gb492)); have GE492 := Aside0.mk ((by rw [hg]; exact (below_size bo) : w.heap.size ≤ gb492)); replace HB := Aside0.mk (below_step bo hb); clear hb hbox hg) | ((with_reducible refine gate_dst (N := 3) rfl ?_); refine box_event ?hg (N := 3) ?hd (cs := #[.int .i64 a1_0, .slice A1_1 l1_1.length c1_1]) (t := 53) ?hr ?_; (case hd => rfl); (case hg => rfl); (case hr => first | (go_simp; done) | (go_simp; rfl)); intro gb493 hg w11 hbox hb; have BK493 := Aside0.mk (hbox); have GW493 := Aside0.mk ((by rw [hg]; exact (below_size bo) : w.heap.size ≤ gb493)); have GE493 := Aside0.mk ((by rw [hg]; exact (below_size bo) : w.heap.size ≤ gb493)); replace HB := Aside0.mk (below_step bo hb); have NB492_493 := Aside0.mk ((by rw [hg]; exact Nat.ne_of_lt (blk_lt (g := gb492) (o := .cells #[.int .i64 a0_0, .slice A0_1 l0_1.length c0_1] 53 (0, 0)) (bk BK492.out)) : gb492 ≠ gb493)); have NB493_492 := Aside0.mk ((by rw [hg]; exact Nat.ne_of_gt (blk_lt (g := gb492) (o := .cells #[.int .i64 a0_0, .slice A0_1 l0_1.length c0_1] 53 (0, 0)) (bk BK492.out)) : gb493 ≠ gb492)); replace BK492 := Aside0.mk (blk_below (g := gb492) (o := .cells #[.int .i64 a0_0, .slice A0_1 l0_1.length c0_1] 53 (0, 0)) (bk BK492.out) hb); clear hb hbox hg; have hnb12 := NB492_493.out; have hnc12 := NB493_492.out; obtain ⟨hcz13_0, hcz13_1⟩ := cl2 BK492.out; obtain ⟨hfz13_0, hfz13_1⟩ := fz2 BK492.out; obtain ⟨hcz14_0, hcz14_1⟩ := cl2 BK493.out; obtain ⟨hfz14_0, hfz14_1⟩ := fz2 BK493.out))
  go_ret
  exact ⟨er, bo⟩

end Go.Proofs.Ytmabdfdmccbfnaa.P

-- written by a program of the proving session, out of the translation; Lean checks it
namespace Go.Proofs.Ytmabdfdmccbfnaa.P
open Go.RowKit Go.Proofs.Ytmabdfdmccbfnaa.Sq Go.Proofs.YtmabdfdmccbfnaaW.PrintWords Go.Proofs.YtmabdfdmccbfnaaW.PrintLast Go.Proofs.YtmabdfdmccbfnaaW.PrintMore
attribute [local go_sem] max2_int min2_int max_two min_two max_three min_three max_four min_four   -- for this text's walks alone
set_option linter.unusedVariables false
set_option linter.unusedSimpArgs false

/-! ### fairwaylaw11_SegParses: function 8 -/
mutual
def fairwaylaw11_SegParses.l0 : Nat → ByteArray → Int → Int → List (S25) → List (S25) → List Int → ByteArray → Option (Bool)
 | 0, _, _, _, _, _, _, _ => none
 | k + 1, x3, x4, x496000, x496001, x496002, x496003, x496004 => if x4 < (x496002.length : Int) then (fairwaylaw11_SegParses.j1 k x3 x4 (decide (x4 < 6)) x496000 x496001 x496002 x496003 x496004) else (fairwaylaw11_SegParses.j1 k x3 x4 false x496000 x496001 x496002 x496003 x496004)
def fairwaylaw11_SegParses.j1 : Nat → ByteArray → Int → Bool → Int → List (S25) → List (S25) → List Int → ByteArray → Option (Bool)
 | 0, _, _, _, _, _, _, _, _ => none
 | k + 1, x3, x4, x26, x496000, x496001, x496002, x496003, x496004 => if x26 = true then (if 0 ≤ x4 then (if x4 < (x496002.length : Int) then ((fairwayref10_Rec.f ((rd_T25 x496002 x4).f0) ((rd_T25 x496002 x4).f1) ((rd_T25 x496002 x4).f2) ((rd_T25 x496002 x4).f3) ((rd_T25 x496002 x4).f4) ((rd_T25 x496002 x4).f5)).bind fun t498 => (if t498 = true then ((fairwayref10_Bytes.f k ((rd_T25 x496002 x4).f0) ((rd_T25 x496002 x4).f1) ((rd_T25 x496002 x4).f2) ((rd_T25 x496002 x4).f3) ((rd_T25 x496002 x4).f4) ((rd_T25 x496002 x4).f5)).bind fun t500 => (if t500.size + x3.size ≤ 9223372036854775807 then (fairwaylaw11_SegParses.l0 k (t500 ++ x3) (wrap64 (x4 + 1)) x496000 x496001 x496002 x496003 x496004) else (none))) else (fairwaylaw11_SegParses.l0 k x3 (wrap64 (x4 + 1)) x496000 x496001 x496002 x496003 x496004))) else (none)) else (none)) else (fairwaylaw11_SegParses.l1 k x3 (([0, x496000, (-1), 1099511627777] : List Int)) 0 x496000 x496001 x496002 x496003 x496004)
def fairwaylaw11_SegParses.j3 : Nat → ByteArray → List Int → Option (Bool)
 | 0, _, _ => none
 | k + 1, x3, x5 => fairwaylaw11_SegParses.l2 k x3 x5 0
def fairwaylaw11_SegParses.l2 : Nat → ByteArray → List Int → Int → Option (Bool)
 | 0, _, _, _ => none
 | k + 1, x3, x5, x7 => if x7 < (x5.length : Int) then (if 0 ≤ x7 then ((seg_Parse.f k (rd x5 x7) x3).bind fun bt510 => ((fairwayref0_Num.f (rd x5 x7) 1099511627776).bind fun t519 => (if t519 = true then ((fairwayref10_Parse.f k (rd x5 x7) x3).bind fun bt521 => (fairwaylaw11_SegParses.j5 k x3 x5 x7 bt510.2.2.1 bt510.2.2.2 0 bt521.2.2 bt510.1 bt510.2.1 bt521.1 bt521.2.1)) else (fairwaylaw11_SegParses.j5 k x3 x5 x7 bt510.2.2.1 bt510.2.2.2 1 0 bt510.1 bt510.2.1 0 ([] : List (S25)))))) else (none)) else ((fairwaylaw11_wakes.f k).bind fun t508 => (some t508))
def fairwaylaw11_SegParses.j5 : Nat → ByteArray → List Int → Int → Int → Int → Int → Int → Int → List (S25) → Int → List (S25) → Option (Bool)
 | 0, _, _, _, _, _, _, _, _, _, _, _ => none
 | k + 1, x3, x5, x7, x9, x10, x11, x13, x517000, x517001, x518000, x518001 => (fairwaylaw11_num.f x10).bind fun t526 => (if t526 = x11 then (if x9 = x13 then ((fairwayref0_EqSeg.f k x517000 x517001 x518000 x518001).bind fun t527 => (if t527 = true then (fairwaylaw11_SegParses.l2 k x3 x5 (wrap64 (x7 + 1))) else (some false))) else (some false)) else (some false))
def fairwaylaw11_SegParses.l1 : Nat → ByteArray → List Int → Int → Int → List (S25) → List (S25) → List Int → ByteArray → Option (Bool)
 | 0, _, _, _, _, _, _, _, _ => none
 | k + 1, x3, x5, x6, x496000, x496001, x496002, x496003, x496004 => if x6 < (x496003.length : Int) then (if x6 < 4 then (if 0 ≤ x6 then (if x5.length < 17592186044416 then (fairwaylaw11_SegParses.l1 k x3 (x5 ++ [rd x496003 x6]) (wrap64 (x6 + 1)) x496000 x496001 x496002 x496003 x496004) else (none)) else (none)) else (fairwaylaw11_SegParses.j3 k x3 x5)) else (fairwaylaw11_SegParses.j3 k x3 x5)
end
def fairwaylaw11_SegParses.f (k : Nat) (a0_0 : Int) (l0_1 : List (S25)) (l0_2 : List (S25)) (l0_3 : List Int) (a0_4 : ByteArray) : Option (Bool) := (fairwaylaw11_Heavy.f k a0_0 l0_1 l0_2 l0_3 a0_4).bind fun t496 => (if t496 = true then (some true) else (fairwaylaw11_SegParses.l0 k a0_4 0 a0_0 l0_1 l0_2 l0_3 a0_4))
theorem fairwaylaw11_SegParses.mono_l : ∀ k, (∀ y0 y1 y2 y3 y4 y5 y6, LeO (fairwaylaw11_SegParses.l0 k y0 y1 y2 y3 y4 y5 y6) (fairwaylaw11_SegParses.l0 (k + 1) y0 y1 y2 y3 y4 y5 y6)) ∧ (∀ y0 y1 y2 y3 y4 y5 y6 y7, LeO (fairwaylaw11_SegParses.j1 k y0 y1 y2 y3 y4 y5 y6 y7) (fairwaylaw11_SegParses.j1 (k + 1) y0 y1 y2 y3 y4 y5 y6 y7)) ∧ (∀ y0 y1, LeO (fairwaylaw11_SegParses.j3 k y0 y1) (fairwaylaw11_SegParses.j3 (k + 1) y0 y1)) ∧ (∀ y0 y1 y2, LeO (fairwaylaw11_SegParses.l2 k y0 y1 y2) (fairwaylaw11_SegParses.l2 (k + 1) y0 y1 y2)) ∧ (∀ y0 y1 y2 y3 y4 y5 y6 y7 y8 y9 y10, LeO (fairwaylaw11_SegParses.j5 k y0 y1 y2 y3 y4 y5 y6 y7 y8 y9 y10) (fairwaylaw11_SegParses.j5 (k + 1) y0 y1 y2 y3 y4 y5 y6 y7 y8 y9 y10)) ∧ (∀ y0 y1 y2 y3 y4 y5 y6 y7, LeO (fairwaylaw11_SegParses.l1 k y0 y1 y2 y3 y4 y5 y6 y7) (fairwaylaw11_SegParses.l1 (k + 1) y0 y1 y2 y3 y4 y5 y6 y7))
 | 0 => ⟨fun _ _ _ _ _ _ _ r h => by simp [fairwaylaw11_SegParses.l0] at h, fun _ _ _ _ _ _ _ _ r h => by simp [fairwaylaw11_SegParses.j1] at h, fun _ _ r h => by simp [fairwaylaw11_SegParses.j3] at h, fun _ _ _ r h => by simp [fairwaylaw11_SegParses.l2] at h, fun _ _ _ _ _ _ _ _ _ _ _ r h => by simp [fairwaylaw11_SegParses.j5] at h, fun _ _ _ _ _ _ _ _ r h => by simp [fairwaylaw11_SegParses.l1] at h⟩
 | k + 1 => by
  obtain ⟨ih0, ih1, ih2, ih3, ih4, ih5⟩ := fairwaylaw11_SegParses.mono_l k
  refine ⟨?_, ?_, ?_, ?_, ?_, ?_⟩
  ·intro y0 y1 y2 y3 y4 y5 y6
   unfold fairwaylaw11_SegParses.l0
   repeat' first
   | (with_reducible exact ih0 _ _ _ _ _ _ _)
   | (with_reducible exact ih1 _ _ _ _ _ _ _ _)
   | (with_reducible exact ih2 _ _)
   | (with_reducible exact ih3 _ _ _)
   | (with_reducible exact ih4 _ _ _ _ _ _ _ _ _ _ _)
   | (with_reducible exact ih5 _ _ _ _ _ _ _ _)
   | (with_reducible exact fairwaylaw11_Heavy.mono _ _ _ _ _ _)
   | (with_reducible exact fairwaylaw11_wakes.mono _)
   | (with_reducible exact fairwayref0_EqSeg.mono _ _ _ _ _)
   | (with_reducible exact fairwayref10_Bytes.mono _ _ _ _ _ _ _)
   | (with_reducible exact fairwayref10_Parse.mono _ _ _)
   | (with_reducible exact seg_Parse.mono _ _ _)
   | (with_reducible exact LeO.refl _)
   | (with_reducible exact LeO.none _)
   | (with_reducible refine LeO.ite ?_ ?_)
   | (with_reducible refine LeO.bind ?_ (fun _ => ?_))
   | exact ih0 _ _ _ _ _ _ _
   | exact ih1 _ _ _ _ _ _ _ _
   | exact ih2 _ _
   | exact ih3 _ _ _
   | exact ih4 _ _ _ _ _ _ _ _ _ _ _
   | exact ih5 _ _ _ _ _ _ _ _
   | exact fairwaylaw11_Heavy.mono _ _ _ _ _ _
   | exact fairwaylaw11_wakes.mono _
   | exact fairwayref0_EqSeg.mono _ _ _ _ _
   | exact fairwayref10_Bytes.mono _ _ _ _ _ _ _
   | exact fairwayref10_Parse.mono _ _ _
   | exact seg_Parse.mono _ _ _
   | exact LeO.none _
   | refine LeO.ite ?_ ?_
   | refine LeO.bind ?_ (fun _ => ?_)
  ·intro y0 y1 y2 y3 y4 y5 y6 y7
   unfold fairwaylaw11_SegParses.j1
   repeat' first
   | (with_reducible exact ih0 _ _ _ _ _ _ _)
   | (with_reducible exact ih1 _ _ _ _ _ _ _ _)
   | (with_reducible exact ih2 _ _)
   | (with_reducible exact ih3 _ _ _)
   | (with_reducible exact ih4 _ _ _ _ _ _ _ _ _ _ _)
   | (with_reducible exact ih5 _ _ _ _ _ _ _ _)
   | (with_reducible exact fairwaylaw11_Heavy.mono _ _ _ _ _ _)
   | (with_reducible exact fairwaylaw11_wakes.mono _)
   | (with_reducible exact fairwayref0_EqSeg.mono _ _ _ _ _)
   | (with_reducible exact fairwayref10_Bytes.mono _ _ _ _ _ _ _)
   | (with_reducible exact fairwayref10_Parse.mono _ _ _)
   | (with_reducible exact seg_Parse.mono _ _ _)
   | (with_reducible exact LeO.refl _)
   | (with_reducible exact LeO.none _)
   | (with_reducible refine LeO.ite ?_ ?_)
   | (with_reducible refine LeO.bind ?_ (fun _ => ?_))
   | exact ih0 _ _ _ _ _ _ _
   | exact ih1 _ _ _ _ _ _ _ _
   | exact ih2 _ _
   | exact ih3 _ _ _
   | exact ih4 _ _ _ _ _ _ _ _ _ _ _
   | exact ih5 _ _ _ _ _ _ _ _
   | exact fairwaylaw11_Heavy.mono _ _ _ _ _ _
   | exact fairwaylaw11_wakes.mono _
   | exact fairwayref0_EqSeg.mono _ _ _ _ _
   | exact fairwayref10_Bytes.mono _ _ _ _ _ _ _
   | exact fairwayref10_Parse.mono _ _ _
   | exact seg_Parse.mono _ _ _
   | exact LeO.none _
   | refine LeO.ite ?_ ?_
   | refine LeO.bind ?_ (fun _ => ?_)
  ·intro y0 y1
   unfold fairwaylaw11_SegParses.j3
   repeat' first
   | (with_reducible exact ih0 _ _ _ _ _ _ _)
   | (with_reducible exact ih1 _ _ _ _ _ _ _ _)
   | (with_reducible exact ih2 _ _)
   | (with_reducible exact ih3 _ _ _)
   | (with_reducible exact ih4 _ _ _ _ _ _ _ _ _ _ _)
   | (with_reducible exact ih5 _ _ _ _ _ _ _ _)
   | (with_reducible exact fairwaylaw11_Heavy.mono _ _ _ _ _ _)
   | (with_reducible exact fairwaylaw11_wakes.mono _)
   | (with_reducible exact fairwayref0_EqSeg.mono _ _ _ _ _)
   | (with_reducible exact fairwayref10_Bytes.mono _ _ _ _ _ _ _)
   | (with_reducible exact fairwayref10_Parse.mono _ _ _)
   | (with_reducible exact seg_Parse.mono _ _ _)
   | (with_reducible exact LeO.refl _)
   | (with_reducible exact LeO.none _)
   | (with_reducible refine LeO.ite ?_ ?_)
   | (with_reducible refine LeO.bind ?_ (fun _ => ?_))
   | exact ih0 _ _ _ _ _ _ _
   | exact ih1 _ _ _ _ _ _ _ _
   | exact ih2 _ _
   | exact ih3 _ _ _
   | exact ih4 _ _ _ _ _ _ _ _ _ _ _
   | exact ih5 _ _ _ _ _ _ _ _
   | exact fairwaylaw11_Heavy.mono _ _ _ _ _ _
   | exact fairwaylaw11_wakes.mono _
   | exact fairwayref0_EqSeg.mono _ _ _ _ _
   | exact fairwayref10_Bytes.mono _ _ _ _ _ _ _
   | exact fairwayref10_Parse.mono _ _ _
   | exact seg_Parse.mono _ _ _
   | exact LeO.none _
   | refine LeO.ite ?_ ?_
   | refine LeO.bind ?_ (fun _ => ?_)
  ·intro y0 y1 y2
   unfold fairwaylaw11_SegParses.l2
   repeat' first
   | (with_reducible exact ih0 _ _ _ _ _ _ _)
   | (with_reducible exact ih1 _ _ _ _ _ _ _ _)
   | (with_reducible exact ih2 _ _)
   | (with_reducible exact ih3 _ _ _)
   | (with_reducible exact ih4 _ _ _ _ _ _ _ _ _ _ _)
   | (with_reducible exact ih5 _ _ _ _ _ _ _ _)
   | (with_reducible exact fairwaylaw11_Heavy.mono _ _ _ _ _ _)
   | (with_reducible exact fairwaylaw11_wakes.mono _)
   | (with_reducible exact fairwayref0_EqSeg.mono _ _ _ _ _)
   | (with_reducible exact fairwayref10_Bytes.mono _ _ _ _ _ _ _)
   | (with_reducible exact fairwayref10_Parse.mono _ _ _)
   | (with_reducible exact seg_Parse.mono _ _ _)
   | (with_reducible exact LeO.refl _)
   | (with_reducible exact LeO.none _)
   | (with_reducible refine LeO.ite ?_ ?_)
   | (with_reducible refine LeO.bind ?_ (fun _ => ?_))
   | exact ih0 _ _ _ _ _ _ _
   | exact ih1 _ _ _ _ _ _ _ _
   | exact ih2 _ _
   | exact ih3 _ _ _
   | exact ih4 _ _ _ _ _ _ _ _ _ _ _
   | exact ih5 _ _ _ _ _ _ _ _
   | exact fairwaylaw11_Heavy.mono _ _ _ _ _ _
   | exact fairwaylaw11_wakes.mono _
   | exact fairwayref0_EqSeg.mono _ _ _ _ _
   | exact fairwayref10_Bytes.mono _ _ _ _ _ _ _
   | exact fairwayref10_Parse.mono _ _ _
   | exact seg_Parse.mono _ _ _
   | exact LeO.none _
   | refine LeO.ite ?_ ?_
   | refine LeO.bind ?_ (fun _ => ?_)
  ·intro y0 y1 y2 y3 y4 y5 y6 y7 y8 y9 y10
   unfold fairwaylaw11_SegParses.j5
   repeat' first
   | (with_reducible exact ih0 _ _ _ _ _ _ _)
   | (with_reducible exact ih1 _ _ _ _ _ _ _ _)
   | (with_reducible exact ih2 _ _)
   | (with_reducible exact ih3 _ _ _)
   | (with_reducible exact ih4 _ _ _ _ _ _ _ _ _ _ _)
   | (with_reducible exact ih5 _ _ _ _ _ _ _ _)
   | (with_reducible exact fairwaylaw11_Heavy.mono _ _ _ _ _ _)
   | (with_reducible exact fairwaylaw11_wakes.mono _)
   | (with_reducible exact fairwayref0_EqSeg.mono _ _ _ _ _)
   | (with_reducible exact fairwayref10_Bytes.mono _ _ _ _ _ _ _)
   | (with_reducible exact fairwayref10_Parse.mono _ _ _)
   | (with_reducible exact seg_Parse.mono _ _ _)
   | (with_reducible exact LeO.refl _)
   | (with_reducible exact LeO.none _)
   | (with_reducible refine LeO.ite ?_ ?_)
   | (with_reducible refine LeO.bind ?_ (fun _ => ?_))
   | exact ih0 _ _ _ _ _ _ _
   | exact ih1 _ _ _ _ _ _ _ _
   | exact ih2 _ _
   | exact ih3 _ _ _
   | exact ih4 _ _ _ _ _ _ _ _ _ _ _
   | exact ih5 _ _ _ _ _ _ _ _
   | exact fairwaylaw11_Heavy.mono _ _ _ _ _ _
   | exact fairwaylaw11_wakes.mono _
   | exact fairwayref0_EqSeg.mono _ _ _ _ _
   | exact fairwayref10_Bytes.mono _ _ _ _ _ _ _
   | exact fairwayref10_Parse.mono _ _ _
   | exact seg_Parse.mono _ _ _
   | exact LeO.none _
   | refine LeO.ite ?_ ?_
   | refine LeO.bind ?_ (fun _ => ?_)
  ·intro y0 y1 y2 y3 y4 y5 y6 y7
   unfold fairwaylaw11_SegParses.l1
   repeat' first
   | (with_reducible exact ih0 _ _ _ _ _ _ _)
   | (with_reducible exact ih1 _ _ _ _ _ _ _ _)
   | (with_reducible exact ih2 _ _)
   | (with_reducible exact ih3 _ _ _)
   | (with_reducible exact ih4 _ _ _ _ _ _ _ _ _ _ _)
   | (with_reducible exact ih5 _ _ _ _ _ _ _ _)
   | (with_reducible exact fairwaylaw11_Heavy.mono _ _ _ _ _ _)
   | (with_reducible exact fairwaylaw11_wakes.mono _)
   | (with_reducible exact fairwayref0_EqSeg.mono _ _ _ _ _)
   | (with_reducible exact fairwayref10_Bytes.mono _ _ _ _ _ _ _)
   | (with_reducible exact fairwayref10_Parse.mono _ _ _)
   | (with_reducible exact seg_Parse.mono _ _ _)
   | (with_reducible exact LeO.refl _)
   | (with_reducible exact LeO.none _)
   | (with_reducible refine LeO.ite ?_ ?_)
   | (with_reducible refine LeO.bind ?_ (fun _ => ?_))
   | exact ih0 _ _ _ _ _ _ _
   | exact ih1 _ _ _ _ _ _ _ _
   | exact ih2 _ _
   | exact ih3 _ _ _
   | exact ih4 _ _ _ _ _ _ _ _ _ _ _
   | exact ih5 _ _ _ _ _ _ _ _
   | exact fairwaylaw11_Heavy.mono _ _ _ _ _ _
   | exact fairwaylaw11_wakes.mono _
   | exact fairwayref0_EqSeg.mono _ _ _ _ _
   | exact fairwayref10_Bytes.mono _ _ _ _ _ _ _
   | exact fairwayref10_Parse.mono _ _ _
   | exact seg_Parse.mono _ _ _
   | exact LeO.none _
   | refine LeO.ite ?_ ?_
   | refine LeO.bind ?_ (fun _ => ?_)
theorem fairwaylaw11_SegParses.mono : ∀ a0 a1 a2 a3 a4 k, LeO (fairwaylaw11_SegParses.f k a0 a1 a2 a3 a4) (fairwaylaw11_SegParses.f (k + 1) a0 a1 a2 a3 a4) := by
 intro a0 a1 a2 a3 a4 k
 obtain ⟨ih0, ih1, ih2, ih3, ih4, ih5⟩ := fairwaylaw11_SegParses.mono_l k
 unfold fairwaylaw11_SegParses.f
 repeat' first
  | (with_reducible exact ih0 _ _ _ _ _ _ _)
  | (with_reducible exact ih1 _ _ _ _ _ _ _ _)
  | (with_reducible exact ih2 _ _)
  | (with_reducible exact ih3 _ _ _)
  | (with_reducible exact ih4 _ _ _ _ _ _ _ _ _ _ _)
  | (with_reducible exact ih5 _ _ _ _ _ _ _ _)
  | (with_reducible exact fairwaylaw11_Heavy.mono _ _ _ _ _ _)
  | (with_reducible exact fairwaylaw11_wakes.mono _)
  | (with_reducible exact fairwayref0_EqSeg.mono _ _ _ _ _)
  | (with_reducible exact fairwayref10_Bytes.mono _ _ _ _ _ _ _)
  | (with_reducible exact fairwayref10_Parse.mono _ _ _)
  | (with_reducible exact seg_Parse.mono _ _ _)
  | (with_reducible exact LeO.refl _)
  | (with_reducible exact LeO.none _)
  | (with_reducible refine LeO.ite ?_ ?_)
  | (with_reducible refine LeO.bind ?_ (fun _ => ?_))
  | exact ih0 _ _ _ _ _ _ _
  | exact ih1 _ _ _ _ _ _ _ _
  | exact ih2 _ _
  | exact ih3 _ _ _
  | exact ih4 _ _ _ _ _ _ _ _ _ _ _
  | exact ih5 _ _ _ _ _ _ _ _
  | exact fairwaylaw11_Heavy.mono _ _ _ _ _ _
  | exact fairwaylaw11_wakes.mono _
  | exact fairwayref0_EqSeg.mono _ _ _ _ _
  | exact fairwayref10_Bytes.mono _ _ _ _ _ _ _
  | exact fairwayref10_Parse.mono _ _ _
  | exact seg_Parse.mono _ _ _
  | exact LeO.none _
  | refine LeO.ite ?_ ?_
  | refine LeO.bind ?_ (fun _ => ?_)
set_option maxHeartbeats 8000000 in
set_option maxRecDepth 100000 in
theorem fairwaylaw11_SegParses.calls (k : Nat) (a0_0 : Int) (A0_1 : Option Addr) (c0_1 : Nat) (l0_1 : List (S25)) (A0_2 : Option Addr) (c0_2 : Nat) (l0_2 : List (S25)) (A0_3 : Option Addr) (c0_3 : Nat) (l0_3 : List Int) (a0_4 : ByteArray) (r : Bool) (w : World) (hr0_1 : Kd.C k25 w A0_1 l0_1.length l0_1) (hc0_1 : l0_1.length ≤ c0_1) (hr0_2 : Kd.C k25 w A0_2 l0_2.length l0_2) (hc0_2 : l0_2.length ≤ c0_2) (hr0_3 : Kd.C (Kd.int .i64) w A0_3 l0_3.length l0_3) (hc0_3 : l0_3.length ≤ c0_3) (h : fairwaylaw11_SegParses.f k a0_0 l0_1 l0_2 l0_3 a0_4 = some r) :
 Calls Try.prog 8 #[.agg #[.int .i64 a0_0, .slice A0_1 l0_1.length c0_1, .slice A0_2 l0_2.length c0_2, .slice A0_3 l0_3.length c0_3, .string a0_4]] w fun e w' => e = .returned (.bool r) ∧ Below w.heap.size w w' := by
 have hu55 := Try.underlying55
 have hu25 := Try.underlying25
 have hu53 := Try.underlying53
 have HR0_1 := Aside0.mk hr0_1
 have HC0_1 := Aside0.mk hc0_1
 clear hr0_1 hc0_1
 have HR0_2 := Aside0.mk hr0_2
 have HC0_2 := Aside0.mk hc0_2
 clear hr0_2 hc0_2
 have HR0_3 := Aside0.mk hr0_3
 have HC0_3 := Aside0.mk hc0_3
 clear hr0_3 hc0_3
 have HB := Aside0.mk (Below.refl w.heap.size w)
 have H : ((fairwaylaw11_Heavy.f k a0_0 l0_1 l0_2 l0_3 a0_4).bind fun t496 => (if t496 = true then (some true) else (fairwaylaw11_SegParses.l0 k a0_4 0 a0_0 l0_1 l0_2 l0_3 a0_4))) = some r := h
 clear h
 replace H := Option.bind_eq_some_iff.mp H
 obtain ⟨t496, A20, H⟩ := H
 replace H : (if t496 = true then (some true) else (fairwaylaw11_SegParses.l0 k a0_4 0 a0_0 l0_1 l0_2 l0_3 a0_4)) = some r := H
 have A2 := Aside0.mk A20
 clear A20
 by_cases c3 : t496 = true
 ·subst c3
  have H1 : (some true) = some r := by rw [if_pos rfl] at H; exact H
  clear H
  have H := H1
  clear H1
  obtain rfl := Option.some.inj H
  go_enter Try.func8, Try.ntmps8
  go_wp2_with (first | ((with_reducible refine gate_dst (N := 1) rfl ?_); refine box_event ?hg (N := 1) ?hd (cs := #[.int .i64 a0_0, .slice A0_1 l0_1.length c0_1, .slice A0_2 l0_2.length c0_2, .slice A0_3 l0_3.length c0_3, .string a0_4]) (t := 55) ?hr ?_; (case hd => rfl); (case hg => rfl); (case hr => first | (go_simp; done) | (go_simp; rfl)); intro gb495 hg w4 hbox hb; have BK495 := Aside0.mk (hbox); have GW495 := Aside0.mk ((by rw [hg]; exact (below_size bo) : w.heap.size ≤ gb495)); have GE495 := Aside0.mk ((by rw [hg]; exact (below_size bo) : w.heap.size ≤ gb495)); replace HB := Aside0.mk (below_step bo hb); clear hb hbox hg; obtain ⟨hcz5_0, hcz5_1, hcz5_2, hcz5_3, hcz5_4⟩ := cl5 BK495.out; obtain ⟨hfz5_0, hfz5_1, hfz5_2, hfz5_3, hfz5_4⟩ := fz5 BK495.out) | ((with_reducible refine gate_callee (f := 30) rfl ?_); refine goesL_ (some 15) rfl rfl Try.func30 (by kernel_rfl) rfl #[.agg #[.int .i64 a0_0, .slice A0_1 l0_1.length c0_1, .slice A0_2 l0_2.length c0_2, .slice A0_3 l0_3.length c0_3, .string a0_4]] rfl aa ?_; (with_reducible refine (fairwaylaw11_Heavy.calls k a0_0 _ _ l0_1 _ _ l0_2 _ _ l0_3 a0_4 true _ ?side1 ?side2 ?side3 ?side4 ?side5 ?side6 A2.out).mono ?_); (case side1 => repeat (first | exact (Kd.C_below HR0_1.out HB.out) | (with_reducible refine Kd.C_alloc ?_ _) | (with_reducible refine Kd.C_drewN ?_ _) | (with_reducible refine Kd.C_drew ?_))); (case side2 => exact HC0_1.out); (case side3 => repeat (first | exact (Kd.C_below HR0_2.out HB.out) | (with_reducible refine Kd.C_alloc ?_ _) | (with_reducible refine Kd.C_drewN ?_ _) | (with_reducible refine Kd.C_drew ?_))); (case side4 => exact HC0_2.out); (case side5 => repeat (first | exact (Kd.C_below HR0_3.out HB.out) | (with_reducible refine Kd.C_alloc ?_ _) | (with_reducible refine Kd.C_drewN ?_ _) | (with_reducible refine Kd.C_drew ?_))); (case side6 => exact HC0_3.out); rintro e w6 ⟨rfl, hb⟩; refine ⟨_, rfl, ?_⟩; replace BK495 := Aside0.mk (blk_below (g := gb495) (o := .cells #[.int .i64 a0_0, .slice A0_1 l0_1.length c0_1, .slice A0_2 l0_2.length c0_2, .slice A0_3 l0_3.length c0_3, .string a0_4] 55 (0, 0)) (bk BK495.out) hb); replace HB := Aside0.mk (below_step bo hb); (try clear hb); (try clear hb2); (try clear hk); (try clear hi)))
  go_ret
  exact ⟨er, bo⟩
 ·replace c3 := Bool.eq_false_iff.mpr c3
  subst c3
  have H1 : (fairwaylaw11_SegParses.l0 k a0_4 0 a0_0 l0_1 l0_2 l0_3 a0_4) = some r := by rw [if_neg (show ¬ (false = true) by decide)] at H; exact H
  clear H
  have H := H1
  clear H1
  have H' := Aside0.mk H
  clear H
  go_enter Try.func8, Try.ntmps8
  go_wp2_with (first | ((with_reducible refine gate_dst (N := 1) rfl ?_); refine box_event ?hg (N := 1) ?hd (cs := #[.int .i64 a0_0, .slice A0_1 l0_1.length c0_1, .slice A0_2 l0_2.length c0_2, .slice A0_3 l0_3.length c0_3, .string a0_4]) (t := 55) ?hr ?_; (case hd => rfl); (case hg => rfl); (case hr => first | (go_simp; done) | (go_simp; rfl)); intro gb495 hg w7 hbox hb; have BK495 := Aside0.mk (hbox); have GW495 := Aside0.mk ((by rw [hg]; exact (below_size bo) : w.heap.size ≤ gb495)); have GE495 := Aside0.mk ((by rw [hg]; exact (below_size bo) : w.heap.size ≤ gb495)); replace HB := Aside0.mk (below_step bo hb); clear hb hbox hg; obtain ⟨hcz8_0, hcz8_1, hcz8_2, hcz8_3, hcz8_4⟩ := cl5 BK495.out; obtain ⟨hfz8_0, hfz8_1, hfz8_2, hfz8_3, hfz8_4⟩ := fz5 BK495.out) | ((with_reducible refine gate_callee (f := 30) rfl ?_); refine goesL_ (some 15) rfl rfl Try.func30 (by kernel_rfl) rfl #[.agg #[.int .i64 a0_0, .slice A0_1 l0_1.length c0_1, .slice A0_2 l0_2.length c0_2, .slice A0_3 l0_3.length c0_3, .string a0_4]] rfl aa ?_; (with_reducible refine (fairwaylaw11_Heavy.calls k a0_0 _ _ l0_1 _ _ l0_2 _ _ l0_3 a0_4 false _ ?side1 ?side2 ?side3 ?side4 ?side5 ?side6 A2.out).mono ?_); (case side1 => repeat (first | exact (Kd.C_below HR0_1.out HB.out) | (with_reducible refine Kd.C_alloc ?_ _) | (with_reducible refine Kd.C_drewN ?_ _) | (with_reducible refine Kd.C_drew ?_))); (case side2 => exact HC0_1.out); (case side3 => repeat (first | exact (Kd.C_below HR0_2.out HB.out) | (with_reducible refine Kd.C_alloc ?_ _) | (with_reducible refine Kd.C_drewN ?_ _) | (with_reducible refine Kd.C_drew ?_))); (case side4 => exact HC0_2.out); (case side5 => repeat (first | exact (Kd.C_below HR0_3.out HB.out) | (with_reducible refine Kd.C_alloc ?_ _) | (with_reducible refine Kd.C_drewN ?_ _) | (with_reducible refine Kd.C_drew ?_))); (case side6 => exact HC0_3.out); rintro e w9 ⟨rfl, hb⟩; refine ⟨_, rfl, ?_⟩; replace BK495 := Aside0.mk (blk_below (g := gb495) (o := .cells #[.int .i64 a0_0, .slice A0_1 l0_1.length c0_1, .slice A0_2 l0_2.length c0_2, .slice A0_3 l0_3.length c0_3, .string a0_4] 55 (0, 0)) (bk BK495.out) hb); replace HB := Aside0.mk (below_step bo hb); (try clear hb); (try clear hb2); (try clear hk); (try clear hi); obtain ⟨hcz10_0, hcz10_1, hcz10_2, hcz10_3, hcz10_4⟩ := cl5 BK495.out; obtain ⟨hfz10_0, hfz10_1, hfz10_2, hfz10_3, hfz10_4⟩ := fz5 BK495.out))
  go_loopg [3, 4] k (fun kq v3 v4 w' => ∃ (x3_1 : ByteArray) (x4_1 : Int), v3 = .string x3_1 ∧ v4 = .int .i64 x4_1 ∧ Aside0 (fairwaylaw11_SegParses.l0 kq x3_1 x4_1 a0_0 l0_1 l0_2 l0_3 a0_4 = some r) ∧ Aside0 (kq ≤ k) ∧ Aside0 (w'.heap[gb495]? = some (.cells #[.int .i64 a0_0, (.slice A0_1 l0_1.length c0_1), (.slice A0_2 l0_2.length c0_2), (.slice A0_3 l0_3.length c0_3), .string a0_4] 55 (0, 0))) ∧ Aside0 (Below w.heap.size w w'))
  case atStart => exact ⟨(a0_4), (0), ap, ap, H', ⟨Nat.le_refl _⟩, ⟨by (with_reducible repeat (first | refine blk_drewN ?_ _ | refine blk_drew ?_ | refine blk_alloc ?_ _)); exact BK495.out⟩, ⟨bo⟩⟩
  case round =>
   clear H'
   try clear p2
   try clear c3
   try clear c8
   try clear hcz10_0
   try clear hcz10_1
   try clear hcz10_2
   try clear hcz10_3
   try clear hcz10_4
   try clear hcz5_0
   try clear hcz5_1
   try clear hcz5_2
   try clear hcz5_3
   try clear hcz5_4
   try clear hcz8_0
   try clear hcz8_1
   try clear hcz8_2
   try clear hcz8_3
   try clear hcz8_4
   try clear hfz10_0
   try clear hfz10_1
   try clear hfz10_2
   try clear hfz10_3
   try clear hfz10_4
   try clear hfz5_0
   try clear hfz5_1
   try clear hfz5_2
   try clear hfz5_3
   try clear hfz5_4
   try clear hfz8_0
   try clear hfz8_1
   try clear hfz8_2
   try clear hfz8_3
   try clear hfz8_4
   obtain ⟨x3_1, x4_1, rfl, rfl, HA, HK1, BK495, HB⟩ := hrel
   cases gk with
   | zero => exact absurd HA.out (by simp [fairwaylaw11_SegParses.l0])
   | succ k1 =>
    have H := HA.out
    clear HA
    simp only [fairwaylaw11_SegParses.l0] at H
    have HC11 := Aside0.mk H
    clear H
    go_upto_region 5 with (fail)
    go_cut [26] (fun v26 wc => ∃ (kq : Nat) (x26_10 : Bool), v26 = .bool x26_10 ∧ Aside0 (fairwaylaw11_SegParses.j1 kq x3_1 x4_1 x26_10 a0_0 l0_1 l0_2 l0_3 a0_4 = some r) ∧ Aside0 (kq ≤ k1) ∧ Aside0 (wc.heap[gb495]? = some (.cells #[.int .i64 a0_0, (.slice A0_1 l0_1.length c0_1), (.slice A0_2 l0_2.length c0_2), (.slice A0_3 l0_3.length c0_3), .string a0_4] 55 (0, 0))) ∧ Aside0 (Below w.heap.size w wc))
    case first =>
     have H := HC11.out
     clear HC11
     by_cases c12 : x4_1 < (l0_2.length : Int)
     ·rw [if_pos c12] at H
      have c12b0 : decide (x4_1 < (l0_2.length : Int)) = true := decide_eq_true c12
      clear c12
      (first | rw [c12b0] | (simp only [i64_w, i32_w]; rw [c12b0]) | skip)
      have H' := Aside0.mk H
      clear H
      have hcz13_0 : wr.cell? ⟨gb495, 0, none⟩ = some (.int .i64 a0_0) := (blk_cell BK495.out 0).trans rfl
      have hcz13_1 : wr.cell? ⟨gb495, 1, none⟩ = some (.slice A0_1 l0_1.length c0_1) := (blk_cell BK495.out 1).trans rfl
      have hcz13_2 : wr.cell? ⟨gb495, 2, none⟩ = some (.slice A0_2 l0_2.length c0_2) := (blk_cell BK495.out 2).trans rfl
      have hcz13_3 : wr.cell? ⟨gb495, 3, none⟩ = some (.slice A0_3 l0_3.length c0_3) := (blk_cell BK495.out 3).trans rfl
      have hcz13_4 : wr.cell? ⟨gb495, 4, none⟩ = some (.string a0_4) := (blk_cell BK495.out 4).trans rfl
      have hfz13_0 := blk_frozen BK495.out 0
      have hfz13_1 := blk_frozen BK495.out 1
      have hfz13_2 := blk_frozen BK495.out 2
      have hfz13_3 := blk_frozen BK495.out 3
      have hfz13_4 := blk_frozen BK495.out 4
      go_wp2
      go_meet
      case rel => exact ⟨_, (decide (x4_1 < 6)), ap, H', ⟨by have := HK1.out; first | omega | exact Nat.le_refl _⟩, ⟨by (with_reducible repeat (first | refine blk_drewN ?_ _ | refine blk_drew ?_ | refine blk_alloc ?_ _)); exact BK495.out⟩, ⟨bo⟩⟩
     ·rw [if_neg c12] at H
      have c12b0 : decide (x4_1 < (l0_2.length : Int)) = false := decide_eq_false c12
      clear c12
      (first | rw [c12b0] | (simp only [i64_w, i32_w]; rw [c12b0]) | skip)
      have H' := Aside0.mk H
      clear H
      have hcz14_0 : wr.cell? ⟨gb495, 0, none⟩ = some (.int .i64 a0_0) := (blk_cell BK495.out 0).trans rfl
      have hcz14_1 : wr.cell? ⟨gb495, 1, none⟩ = some (.slice A0_1 l0_1.length c0_1) := (blk_cell BK495.out 1).trans rfl
      have hcz14_2 : wr.cell? ⟨gb495, 2, none⟩ = some (.slice A0_2 l0_2.length c0_2) := (blk_cell BK495.out 2).trans rfl
      have hcz14_3 : wr.cell? ⟨gb495, 3, none⟩ = some (.slice A0_3 l0_3.length c0_3) := (blk_cell BK495.out 3).trans rfl
      have hcz14_4 : wr.cell? ⟨gb495, 4, none⟩ = some (.string a0_4) := (blk_cell BK495.out 4).trans rfl
      have hfz14_0 := blk_frozen BK495.out 0
      have hfz14_1 := blk_frozen BK495.out 1
      have hfz14_2 := blk_frozen BK495.out 2
      have hfz14_3 := blk_frozen BK495.out 3
      have hfz14_4 := blk_frozen BK495.out 4
      go_wp2
      go_meet
      case rel => exact ⟨_, (false), ap, H', ⟨by have := HK1.out; first | omega | exact Nat.le_refl _⟩, ⟨by (with_reducible repeat (first | refine blk_drewN ?_ _ | refine blk_drew ?_ | refine blk_alloc ?_ _)); exact BK495.out⟩, ⟨bo⟩⟩
    case rest =>
     clear HC11
     try clear c1
     try clear p2
     try clear c3
     try clear c8
     try clear c12
     try clear c12b0
     try clear hcz10_0
     try clear hcz10_1
     try clear hcz10_2
     try clear hcz10_3
     try clear hcz10_4
     try clear hcz13_0
     try clear hcz13_1
     try clear hcz13_2
     try clear hcz13_3
     try clear hcz13_4
     try clear hcz14_0
     try clear hcz14_1
     try clear hcz14_2
     try clear hcz14_3
     try clear hcz14_4
     try clear hcz5_0
     try clear hcz5_1
     try clear hcz5_2
     try clear hcz5_3
     try clear hcz5_4
     try clear hcz8_0
     try clear hcz8_1
     try clear hcz8_2
     try clear hcz8_3
     try clear hcz8_4
     try clear hfz10_0
     try clear hfz10_1
     try clear hfz10_2
     try clear hfz10_3
     try clear hfz10_4
     try clear hfz13_0
     try clear hfz13_1
     try clear hfz13_2
     try clear hfz13_3
     try clear hfz13_4
     try clear hfz14_0
     try clear hfz14_1
     try clear hfz14_2
     try clear hfz14_3
     try clear hfz14_4
     try clear hfz5_0
     try clear hfz5_1
     try clear hfz5_2
     try clear hfz5_3
     try clear hfz5_4
     try clear hfz8_0
     try clear hfz8_1
     try clear hfz8_2
     try clear hfz8_3
     try clear hfz8_4
     try clear p2
     obtain ⟨kq, x26_10, rfl, HA, HJ10, BK495, HB⟩ := hcut
     cases kq with
     | zero => exact absurd HA.out (by simp [fairwaylaw11_SegParses.j1])
     | succ kj10 =>
      have H := HA.out
      clear HA
      simp only [fairwaylaw11_SegParses.j1] at H
      by_cases c15 : x26_10 = true
      ·subst c15
       have H1 : (if 0 ≤ x4_1 then (if x4_1 < (l0_2.length : Int) then ((fairwayref10_Rec.f ((rd_T25 l0_2 x4_1).f0) ((rd_T25 l0_2 x4_1).f1) ((rd_T25 l0_2 x4_1).f2) ((rd_T25 l0_2 x4_1).f3) ((rd_T25 l0_2 x4_1).f4) ((rd_T25 l0_2 x4_1).f5)).bind fun t498 => (if t498 = true then ((fairwayref10_Bytes.f kj10 ((rd_T25 l0_2 x4_1).f0) ((rd_T25 l0_2 x4_1).f1) ((rd_T25 l0_2 x4_1).f2) ((rd_T25 l0_2 x4_1).f3) ((rd_T25 l0_2 x4_1).f4) ((rd_T25 l0_2 x4_1).f5)).bind fun t500 => (if t500.size + x3_1.size ≤ 9223372036854775807 then (fairwaylaw11_SegParses.l0 kj10 (t500 ++ x3_1) (wrap64 (x4_1 + 1)) a0_0 l0_1 l0_2 l0_3 a0_4) else (none))) else (fairwaylaw11_SegParses.l0 kj10 x3_1 (wrap64 (x4_1 + 1)) a0_0 l0_1 l0_2 l0_3 a0_4))) else (none)) else (none)) = some r := by rw [if_pos rfl] at H; exact H
       clear H
       have H := H1
       clear H1
       by_cases c16 : 0 ≤ x4_1
       ·rw [if_pos c16] at H
        have c16b0 : decide (0 ≤ x4_1) = true := decide_eq_true c16
        clear c16
        by_cases c17 : x4_1 < (l0_2.length : Int)
        ·rw [if_pos c17] at H
         have c17b0 : decide (x4_1 < (l0_2.length : Int)) = true := decide_eq_true c17
         clear c17
         replace H := Option.bind_eq_some_iff.mp H
         obtain ⟨t498, A180, H⟩ := H
         replace H : (if t498 = true then ((fairwayref10_Bytes.f kj10 ((rd_T25 l0_2 x4_1).f0) ((rd_T25 l0_2 x4_1).f1) ((rd_T25 l0_2 x4_1).f2) ((rd_T25 l0_2 x4_1).f3) ((rd_T25 l0_2 x4_1).f4) ((rd_T25 l0_2 x4_1).f5)).bind fun t500 => (if t500.size + x3_1.size ≤ 9223372036854775807 then (fairwaylaw11_SegParses.l0 kj10 (t500 ++ x3_1) (wrap64 (x4_1 + 1)) a0_0 l0_1 l0_2 l0_3 a0_4) else (none))) else (fairwaylaw11_SegParses.l0 kj10 x3_1 (wrap64 (x4_1 + 1)) a0_0 l0_1 l0_2 l0_3 a0_4)) = some r := H
         have A18 := Aside0.mk A180
         clear A180
         by_cases c19 : t498 = true
         ·subst c19
          have H1 : ((fairwayref10_Bytes.f kj10 ((rd_T25 l0_2 x4_1).f0) ((rd_T25 l0_2 x4_1).f1) ((rd_T25 l0_2 x4_1).f2) ((rd_T25 l0_2 x4_1).f3) ((rd_T25 l0_2 x4_1).f4) ((rd_T25 l0_2 x4_1).f5)).bind fun t500 => (if t500.size + x3_1.size ≤ 9223372036854775807 then (fairwaylaw11_SegParses.l0 kj10 (t500 ++ x3_1) (wrap64 (x4_1 + 1)) a0_0 l0_1 l0_2 l0_3 a0_4) else (none))) = some r := by rw [if_pos rfl] at H; exact H
          clear H
          have H := H1
          clear H1
          replace H := Option.bind_eq_some_iff.mp H
          obtain ⟨t500, A200, H⟩ := H
          replace H : (if t500.size + x3_1.size ≤ 9223372036854775807 then (fairwaylaw11_SegParses.l0 kj10 (t500 ++ x3_1) (wrap64 (x4_1 + 1)) a0_0 l0_1 l0_2 l0_3 a0_4) else (none)) = some r := H
          have A20 := Aside0.mk A200
          clear A200
          by_cases c21 : t500.size + x3_1.size ≤ 9223372036854775807
          ·rw [if_pos c21] at H
           have c21b0 := eq_true c21
           have c21b1 : decide (t500.size + x3_1.size ≤ 9223372036854775807) = true := decide_eq_true c21
           try have c21b2 : (9223372036854775807 < t500.size + x3_1.size) = False := eq_false (Nat.not_lt.2 c21)
           have H' := Aside0.mk H
           clear H
           have hcz22_0 : wc.cell? ⟨gb495, 0, none⟩ = some (.int .i64 a0_0) := (blk_cell BK495.out 0).trans rfl
           have hcz22_1 : wc.cell? ⟨gb495, 1, none⟩ = some (.slice A0_1 l0_1.length c0_1) := (blk_cell BK495.out 1).trans rfl
           have hcz22_2 : wc.cell? ⟨gb495, 2, none⟩ = some (.slice A0_2 l0_2.length c0_2) := (blk_cell BK495.out 2).trans rfl
           have hcz22_3 : wc.cell? ⟨gb495, 3, none⟩ = some (.slice A0_3 l0_3.length c0_3) := (blk_cell BK495.out 3).trans rfl
           have hcz22_4 : wc.cell? ⟨gb495, 4, none⟩ = some (.string a0_4) := (blk_cell BK495.out 4).trans rfl
           have hfz22_0 := blk_frozen BK495.out 0
           have hfz22_1 := blk_frozen BK495.out 1
           have hfz22_2 := blk_frozen BK495.out 2
           have hfz22_3 := blk_frozen BK495.out 3
           have hfz22_4 := blk_frozen BK495.out 4
           have p497 : 0 ≤ (x4_1 : Int) := od
           have q497 : x4_1 < (l0_2.length : Int) := od
           obtain ⟨ad497, e497, hx497_0, hx497_1, hx497_2, hx497_3, hx497_4, hx497_5⟩ := at_T25 HR0_2.out x4_1 p497 q497
           cases e497
           replace hx497_0 := cx HB.out hx497_0
           replace hx497_1 := cx HB.out hx497_1
           replace hx497_2 := cx HB.out hx497_2
           replace hx497_3 := cx HB.out hx497_3
           replace hx497_4 := cx HB.out hx497_4
           replace hx497_5 := cx HB.out hx497_5
           replace p497 := eq_true p497
           replace q497 := eq_true q497
           go_wp2_with (first | ((with_reducible refine gate_callee (f := 17) rfl ?_); refine goesL_ (some 34) rfl rfl Try.func17 (by kernel_rfl) rfl #[.agg #[.int .i64 ((rd_T25 l0_2 x4_1).f0), .int .i64 ((rd_T25 l0_2 x4_1).f1), .string ((rd_T25 l0_2 x4_1).f2), .string ((rd_T25 l0_2 x4_1).f3), .int .i64 ((rd_T25 l0_2 x4_1).f4), .bool ((rd_T25 l0_2 x4_1).f5)]] rfl aa ?_; (with_reducible refine (fairwayref10_Rec.calls ((rd_T25 l0_2 x4_1).f0) ((rd_T25 l0_2 x4_1).f1) ((rd_T25 l0_2 x4_1).f2) ((rd_T25 l0_2 x4_1).f3) ((rd_T25 l0_2 x4_1).f4) ((rd_T25 l0_2 x4_1).f5) true _ A18.out).mono ?_); rintro e w23 ⟨rfl, hb⟩; refine ⟨_, rfl, ?_⟩; replace BK495 := Aside0.mk (blk_below (g := gb495) (o := .cells #[.int .i64 a0_0, .slice A0_1 l0_1.length c0_1, .slice (some ad497) l0_2.length c0_2, .slice A0_3 l0_3.length c0_3, .string a0_4] 55 (0, 0)) (bk BK495.out) hb); replace HB := Aside0.mk (below_step bo hb); (try clear hb); (try clear hb2); (try clear hk); (try clear hi); obtain ⟨hcz24_0, hcz24_1, hcz24_2, hcz24_3, hcz24_4⟩ := cl5 BK495.out; obtain ⟨hfz24_0, hfz24_1, hfz24_2, hfz24_3, hfz24_4⟩ := fz5 BK495.out; have p499 : 0 ≤ (x4_1 : Int) := od; have q499 : x4_1 < (l0_2.length : Int) := od; obtain ⟨ad499, e499, hx499_0, hx499_1, hx499_2, hx499_3, hx499_4, hx499_5⟩ := at_T25 HR0_2.out x4_1 p499 q499; obtain rfl : ad497 = ad499 := (by injection e499); replace hx499_0 := cx HB.out hx499_0; replace hx499_1 := cx HB.out hx499_1; replace hx499_2 := cx HB.out hx499_2; replace hx499_3 := cx HB.out hx499_3; replace hx499_4 := cx HB.out hx499_4; replace hx499_5 := cx HB.out hx499_5; replace p499 := eq_true p499; replace q499 := eq_true q499) | ((with_reducible refine gate_callee (f := 20) rfl ?_); refine goesL_ (some 40) rfl rfl Try.func20 (by kernel_rfl) rfl #[.agg #[.int .i64 ((rd_T25 l0_2 x4_1).f0), .int .i64 ((rd_T25 l0_2 x4_1).f1), .string ((rd_T25 l0_2 x4_1).f2), .string ((rd_T25 l0_2 x4_1).f3), .int .i64 ((rd_T25 l0_2 x4_1).f4), .bool ((rd_T25 l0_2 x4_1).f5)]] rfl aa ?_; (with_reducible refine (fairwayref10_Bytes.calls kj10 ((rd_T25 l0_2 x4_1).f0) ((rd_T25 l0_2 x4_1).f1) ((rd_T25 l0_2 x4_1).f2) ((rd_T25 l0_2 x4_1).f3) ((rd_T25 l0_2 x4_1).f4) ((rd_T25 l0_2 x4_1).f5) t500 _ A20.out).mono ?_); rintro e w25 ⟨rfl, hb⟩; refine ⟨_, rfl, ?_⟩; replace BK495 := Aside0.mk (blk_below (g := gb495) (o := .cells #[.int .i64 a0_0, .slice A0_1 l0_1.length c0_1, .slice (some ad497) l0_2.length c0_2, .slice A0_3 l0_3.length c0_3, .string a0_4] 55 (0, 0)) (bk BK495.out) hb); replace HB := Aside0.mk (below_step bo hb); (try clear hb); (try clear hb2); (try clear hk); (try clear hi)))
           go_roundg kj10
           case measure => have := HK1.out; have := HJ10.out; omega
           case rel => exact ⟨(t500 ++ x3_1), (wrap64 (x4_1 + 1)), ap, ap, H', ⟨by have := HK1.out; have := HJ10.out; omega⟩, ⟨by (with_reducible repeat (first | refine blk_drewN ?_ _ | refine blk_drew ?_ | refine blk_alloc ?_ _)); exact BK495.out⟩, ⟨bo⟩⟩
          ·rw [if_neg c21] at H
           exact absurd H (by simp)
         ·replace c19 := Bool.eq_false_iff.mpr c19
          subst c19
          have H1 : (fairwaylaw11_SegParses.l0 kj10 x3_1 (wrap64 (x4_1 + 1)) a0_0 l0_1 l0_2 l0_3 a0_4) = some r := by rw [if_neg (show ¬ (false = true) by decide)] at H; exact H
          clear H
          have H := H1
          clear H1
          have H' := Aside0.mk H
          clear H
          have hcz26_0 : wc.cell? ⟨gb495, 0, none⟩ = some (.int .i64 a0_0) := (blk_cell BK495.out 0).trans rfl
          have hcz26_1 : wc.cell? ⟨gb495, 1, none⟩ = some (.slice A0_1 l0_1.length c0_1) := (blk_cell BK495.out 1).trans rfl
          have hcz26_2 : wc.cell? ⟨gb495, 2, none⟩ = some (.slice A0_2 l0_2.length c0_2) := (blk_cell BK495.out 2).trans rfl
          have hcz26_3 : wc.cell? ⟨gb495, 3, none⟩ = some (.slice A0_3 l0_3.length c0_3) := (blk_cell BK495.out 3).trans rfl
          have hcz26_4 : wc.cell? ⟨gb495, 4, none⟩ = some (.string a0_4) := (blk_cell BK495.out 4).trans rfl
          have hfz26_0 := blk_frozen BK495.out 0
          have hfz26_1 := blk_frozen BK495.out 1
          have hfz26_2 := blk_frozen BK495.out 2
          have hfz26_3 := blk_frozen BK495.out 3
          have hfz26_4 := blk_frozen BK495.out 4
          have p497 : 0 ≤ (x4_1 : Int) := od
          have q497 : x4_1 < (l0_2.length : Int) := od
          obtain ⟨ad497, e497, hx497_0, hx497_1, hx497_2, hx497_3, hx497_4, hx497_5⟩ := at_T25 HR0_2.out x4_1 p497 q497
          cases e497
          replace hx497_0 := cx HB.out hx497_0
          replace hx497_1 := cx HB.out hx497_1
          replace hx497_2 := cx HB.out hx497_2
          replace hx497_3 := cx HB.out hx497_3
          replace hx497_4 := cx HB.out hx497_4
          replace hx497_5 := cx HB.out hx497_5
          replace p497 := eq_true p497
          replace q497 := eq_true q497
          go_wp2_with (first | ((with_reducible refine gate_callee (f := 17) rfl ?_); refine goesL_ (some 34) rfl rfl Try.func17 (by kernel_rfl) rfl #[.agg #[.int .i64 ((rd_T25 l0_2 x4_1).f0), .int .i64 ((rd_T25 l0_2 x4_1).f1), .string ((rd_T25 l0_2 x4_1).f2), .string ((rd_T25 l0_2 x4_1).f3), .int .i64 ((rd_T25 l0_2 x4_1).f4), .bool ((rd_T25 l0_2 x4_1).f5)]] rfl aa ?_; (with_reducible refine (fairwayref10_Rec.calls ((rd_T25 l0_2 x4_1).f0) ((rd_T25 l0_2 x4_1).f1) ((rd_T25 l0_2 x4_1).f2) ((rd_T25 l0_2 x4_1).f3) ((rd_T25 l0_2 x4_1).f4) ((rd_T25 l0_2 x4_1).f5) false _ A18.out).mono ?_); rintro e w27 ⟨rfl, hb⟩; refine ⟨_, rfl, ?_⟩; replace BK495 := Aside0.mk (blk_below (g := gb495) (o := .cells #[.int .i64 a0_0, .slice A0_1 l0_1.length c0_1, .slice (some ad497) l0_2.length c0_2, .slice A0_3 l0_3.length c0_3, .string a0_4] 55 (0, 0)) (bk BK495.out) hb); replace HB := Aside0.mk (below_step bo hb); (try clear hb); (try clear hb2); (try clear hk); (try clear hi)))
          go_roundg kj10
          case measure => have := HK1.out; have := HJ10.out; omega
          case rel => exact ⟨(x3_1), (wrap64 (x4_1 + 1)), ap, ap, H', ⟨by have := HK1.out; have := HJ10.out; omega⟩, ⟨by (with_reducible repeat (first | refine blk_drewN ?_ _ | refine blk_drew ?_ | refine blk_alloc ?_ _)); exact BK495.out⟩, ⟨bo⟩⟩
        ·rw [if_neg c17] at H
         exact absurd H (by simp)
       ·rw [if_neg c16] at H
        exact absurd H (by simp)
      ·replace c15 := Bool.eq_false_iff.mpr c15
       subst c15
       have H1 : (fairwaylaw11_SegParses.l1 kj10 x3_1 (([0, a0_0, (-1), 1099511627777] : List Int)) 0 a0_0 l0_1 l0_2 l0_3 a0_4) = some r := by rw [if_neg (show ¬ (false = true) by decide)] at H; exact H
       clear H
       have H := H1
       clear H1
       obtain ⟨y501, hy501⟩ : ∃ y_ : List Int, y_ = (([0, a0_0, (-1), 1099511627777] : List Int)) := ⟨_, rfl⟩
       replace H : (fairwaylaw11_SegParses.l1 kj10 x3_1 y501 0 a0_0 l0_1 l0_2 l0_3 a0_4) = some r := by first | (rw [hy501]; with_reducible exact H) | (have H2_ := (Option.bind_some _ _).symm.trans H; rw [hy501]; with_reducible exact H2_) | (have H2_ := (Option.bind_some _ _).symm.trans H; with_reducible exact H2_) | with_reducible exact H | (rw [hy501]; exact H) | exact H
       have Ny501 := Aside0.mk hy501
       clear hy501
       have HC28 := Aside0.mk H
       clear H
       have hcz29_0 : wc.cell? ⟨gb495, 0, none⟩ = some (.int .i64 a0_0) := (blk_cell BK495.out 0).trans rfl
       have hcz29_1 : wc.cell? ⟨gb495, 1, none⟩ = some (.slice A0_1 l0_1.length c0_1) := (blk_cell BK495.out 1).trans rfl
       have hcz29_2 : wc.cell? ⟨gb495, 2, none⟩ = some (.slice A0_2 l0_2.length c0_2) := (blk_cell BK495.out 2).trans rfl
       have hcz29_3 : wc.cell? ⟨gb495, 3, none⟩ = some (.slice A0_3 l0_3.length c0_3) := (blk_cell BK495.out 3).trans rfl
       have hcz29_4 : wc.cell? ⟨gb495, 4, none⟩ = some (.string a0_4) := (blk_cell BK495.out 4).trans rfl
       have hfz29_0 := blk_frozen BK495.out 0
       have hfz29_1 := blk_frozen BK495.out 1
       have hfz29_2 := blk_frozen BK495.out 2
       have hfz29_3 := blk_frozen BK495.out 3
       have hfz29_4 := blk_frozen BK495.out 4
       go_upto_block 2 with (first | ((with_reducible refine gate_dst (N := 46) rfl ?_); refine Kd.R_lit (Kd.int .i64) _ 3 ?hg (N := 46) ?hd (xs := ([0, a0_0, (-1), 1099511627777] : List Int)) (inner := [.int .i64 0, .int .i64 a0_0, .int .i64 (-1), .int .i64 1099511627777]) (ok := fun _ => True) (okp := fun _ => True) ?hr ?hp (fun _ hk => hk) trivial (Below.refl _ _) (Nat.le_refl _) (by simp) ?_; (case hd => rfl); (case hg => rfl); (case hr => first | (go_simp; done) | (go_simp; rfl)); (case hp => exact (Reps.one (show Kd.M (Kd.int .i64) _ _ _ 0 [.int .i64 0] from rfl) (Reps.one (show Kd.M (Kd.int .i64) _ _ _ a0_0 [.int .i64 a0_0] from rfl) (Reps.one (show Kd.M (Kd.int .i64) _ _ _ (-1) [.int .i64 (-1)] from rfl) (Reps.one (show Kd.M (Kd.int .i64) _ _ _ 1099511627777 [.int .i64 1099511627777] from rfl) (Reps.none _ _)))))); intro v502 w30 ho31 hb hg_ hnew_; clear hg_ hnew_; (first | rw [← Ny501.out] at ho31 | (simp only [Int.reduceToNat] at ho31; rw [← Ny501.out] at ho31)); have HO503 := Aside0.mk (Kd.R_lower ho31 (below_size bo)); replace BK495 := Aside0.mk (blk_below (g := gb495) (o := .cells #[.int .i64 a0_0, .slice A0_1 l0_1.length c0_1, .slice A0_2 l0_2.length c0_2, .slice A0_3 l0_3.length c0_3, .string a0_4] 55 (0, 0)) (bk BK495.out) hb); replace HB := Aside0.mk (below_step bo hb); clear hb ho31))
       (try simp only [Act.put, List.setIfInBounds_toArray, List.set_cons_zero, List.set_cons_succ])
       go_cut [5] (fun v5 wc => ∃ (kq : Nat) (x5_27 : List Int), Aside0 (fairwaylaw11_SegParses.j3 kq x3_1 x5_27 = some r) ∧ Aside0 (kq ≤ kj10) ∧ Aside0 (Kd.R (Kd.int .i64) 3 wc w.heap.size (fun _ => True) v5 x5_27) ∧ Aside0 (wc.heap[gb495]? = some (.cells #[.int .i64 a0_0, (.slice A0_1 l0_1.length c0_1), (.slice A0_2 l0_2.length c0_2), (.slice A0_3 l0_3.length c0_3), .string a0_4] 55 (0, 0))) ∧ Aside0 (Below w.heap.size w wc))
       case first =>
        have H := HC28.out
        clear HC28
        have H' := Aside0.mk H
        clear H
        go_wp2
        go_loopg [5, 6] kj10 (fun kq v5 v6 w' => ∃ (x5_3 : List Int) (x6_3 : Int), v6 = .int .i64 x6_3 ∧ Aside0 (fairwaylaw11_SegParses.l1 kq x3_1 x5_3 x6_3 a0_0 l0_1 l0_2 l0_3 a0_4 = some r) ∧ Aside0 (kq ≤ kj10) ∧ Aside0 (Kd.R (Kd.int .i64) 3 w' w.heap.size (fun _ => True) v5 x5_3) ∧ Aside0 (w'.heap[gb495]? = some (.cells #[.int .i64 a0_0, (.slice A0_1 l0_1.length c0_1), (.slice A0_2 l0_2.length c0_2), (.slice A0_3 l0_3.length c0_3), .string a0_4] 55 (0, 0))) ∧ Aside0 (Below w.heap.size w w'))
        case atStart => exact ⟨(y501), (0), ap, H', ⟨Nat.le_refl _⟩, ⟨by (with_reducible repeat (first | apply Kd.R_alloc | apply Kd.R_drewN | apply Kd.R_drew)); exact HO503.out⟩, ⟨by (with_reducible repeat (first | refine blk_drewN ?_ _ | refine blk_drew ?_ | refine blk_alloc ?_ _)); exact BK495.out⟩, ⟨bo⟩⟩
        case round =>
         clear H'
         try clear c1
         try clear c2
         try clear p2
         try clear c3
         try clear p4
         try clear q4
         try clear hx4
         try clear p6
         try clear c8
         try clear c12
         try clear c12b0
         try clear c15
         try clear c16
         try clear c16b0
         try clear c17
         try clear c17b0
         try clear c19
         try clear c20
         try clear c21
         try clear c21b0
         try clear c21b1
         try clear c21b2
         try clear c30
         try clear hcz10_0
         try clear hcz10_1
         try clear hcz10_2
         try clear hcz10_3
         try clear hcz10_4
         try clear hcz13_0
         try clear hcz13_1
         try clear hcz13_2
         try clear hcz13_3
         try clear hcz13_4
         try clear hcz14_0
         try clear hcz14_1
         try clear hcz14_2
         try clear hcz14_3
         try clear hcz14_4
         try clear hcz22_0
         try clear hcz22_1
         try clear hcz22_2
         try clear hcz22_3
         try clear hcz22_4
         try clear hcz24_0
         try clear hcz24_1
         try clear hcz24_2
         try clear hcz24_3
         try clear hcz24_4
         try clear hcz26_0
         try clear hcz26_1
         try clear hcz26_2
         try clear hcz26_3
         try clear hcz26_4
         try clear hcz29_0
         try clear hcz29_1
         try clear hcz29_2
         try clear hcz29_3
         try clear hcz29_4
         try clear hcz5_0
         try clear hcz5_1
         try clear hcz5_2
         try clear hcz5_3
         try clear hcz5_4
         try clear hcz8_0
         try clear hcz8_1
         try clear hcz8_2
         try clear hcz8_3
         try clear hcz8_4
         try clear hfz10_0
         try clear hfz10_1
         try clear hfz10_2
         try clear hfz10_3
         try clear hfz10_4
         try clear hfz13_0
         try clear hfz13_1
         try clear hfz13_2
         try clear hfz13_3
         try clear hfz13_4
         try clear hfz14_0
         try clear hfz14_1
         try clear hfz14_2
         try clear hfz14_3
         try clear hfz14_4
         try clear hfz22_0
         try clear hfz22_1
         try clear hfz22_2
         try clear hfz22_3
         try clear hfz22_4
         try clear hfz24_0
         try clear hfz24_1
         try clear hfz24_2
         try clear hfz24_3
         try clear hfz24_4
         try clear hfz26_0
         try clear hfz26_1
         try clear hfz26_2
         try clear hfz26_3
         try clear hfz26_4
         try clear hfz29_0
         try clear hfz29_1
         try clear hfz29_2
         try clear hfz29_3
         try clear hfz29_4
         try clear hfz5_0
         try clear hfz5_1
         try clear hfz5_2
         try clear hfz5_3
         try clear hfz5_4
         try clear hfz8_0
         try clear hfz8_1
         try clear hfz8_2
         try clear hfz8_3
         try clear hfz8_4
         try clear hx497_0
         try clear hx497_1
         try clear hx497_2
         try clear hx497_3
         try clear hx497_4
         try clear hx497_5
         try clear hx499_0
         try clear hx499_1
         try clear hx499_2
         try clear hx499_3
         try clear hx499_4
         try clear hx499_5
         try clear p2
         try clear p497
         try clear p499
         try clear q497
         try clear q499
         obtain ⟨x5_3, x6_3, rfl, HA, HK3, HO_5, BK495, HB⟩ := hrel
         cases gk with
         | zero => exact absurd HA.out (by simp [fairwaylaw11_SegParses.l1])
         | succ k3 =>
          have H := HA.out
          clear HA
          simp only [fairwaylaw11_SegParses.l1] at H
          by_cases c32 : x6_3 < (l0_3.length : Int)
          ·rw [if_pos c32] at H
           have c32b0 : decide (x6_3 < (l0_3.length : Int)) = true := decide_eq_true c32
           clear c32
           (first | rw [c32b0] | (simp only [i64_w, i32_w]; rw [c32b0]) | skip)
           by_cases c33 : x6_3 < 4
           ·rw [if_pos c33] at H
            have c33b0 : decide (x6_3 < 4) = true := decide_eq_true c33
            clear c33
            by_cases c34 : 0 ≤ x6_3
            ·rw [if_pos c34] at H
             have c34b0 : decide (0 ≤ x6_3) = true := decide_eq_true c34
             clear c34
             by_cases c35 : x5_3.length < 17592186044416
             ·rw [if_pos c35] at H
              have LMc35 := Aside0.mk c35
              clear c35
              obtain ⟨y505, hy505⟩ : ∃ y_ : List Int, y_ = (x5_3 ++ [rd l0_3 x6_3]) := ⟨_, rfl⟩
              replace H : (fairwaylaw11_SegParses.l1 k3 x3_1 y505 (wrap64 (x6_3 + 1)) a0_0 l0_1 l0_2 l0_3 a0_4) = some r := by first | (rw [hy505]; with_reducible exact H) | (have H2_ := (Option.bind_some _ _).symm.trans H; rw [hy505]; with_reducible exact H2_) | (have H2_ := (Option.bind_some _ _).symm.trans H; with_reducible exact H2_) | with_reducible exact H | (rw [hy505]; exact H) | exact H
              have Ny505 := Aside0.mk hy505
              clear hy505
              have H' := Aside0.mk H
              clear H
              have hcz36_0 : wr.cell? ⟨gb495, 0, none⟩ = some (.int .i64 a0_0) := (blk_cell BK495.out 0).trans rfl
              have hcz36_1 : wr.cell? ⟨gb495, 1, none⟩ = some (.slice A0_1 l0_1.length c0_1) := (blk_cell BK495.out 1).trans rfl
              have hcz36_2 : wr.cell? ⟨gb495, 2, none⟩ = some (.slice A0_2 l0_2.length c0_2) := (blk_cell BK495.out 2).trans rfl
              have hcz36_3 : wr.cell? ⟨gb495, 3, none⟩ = some (.slice A0_3 l0_3.length c0_3) := (blk_cell BK495.out 3).trans rfl
              have hcz36_4 : wr.cell? ⟨gb495, 4, none⟩ = some (.string a0_4) := (blk_cell BK495.out 4).trans rfl
              have hfz36_0 := blk_frozen BK495.out 0
              have hfz36_1 := blk_frozen BK495.out 1
              have hfz36_2 := blk_frozen BK495.out 2
              have hfz36_3 := blk_frozen BK495.out 3
              have hfz36_4 := blk_frozen BK495.out 4
              have p504 : 0 ≤ (x6_3 : Int) := od
              have q504 : x6_3 < (l0_3.length : Int) := od
              obtain ⟨ad504, e504, hx504_0⟩ := Kd.at_int HR0_3.out x6_3 p504 q504
              cases e504
              replace hx504_0 := cx HB.out hx504_0
              replace p504 := eq_true p504
              replace q504 := eq_true q504
              go_wp2_with (first | ((with_reducible refine gate_builtin (b := .append) (xs := #[.tmp 58, .tmp 64]) rfl ?_); at_builtin; refine Kd.R_append (Kd.int .i64) (w0 := w) w.heap.size rfl (.tmp 58) (.tmp 64) 50 3 (.int .i64 0) 8 rfl Try.underlying50 info3 rfl (by decide) (by omega) u5 x5_3 (rd l0_3 x6_3) [.int .i64 (rd l0_3 x6_3)] (fun _ => True) (fun _ => False) rfl rfl ?aP (fun _ hk => hk.elim) ?aF ?aO ?aB ?aS ?aL ?_; (case aP => exact rfl); (case aB => exact bo); (case aF => exact (fun _ _ => trivial)); (case aO => exact (rk HO_5.out)); (case aS => exact (below_size bo)); (case aL => have := LMc35.out; omega); intro v506 w37 ho hb hg hat; rw [← Ny505.out] at ho; have n0_ := Aside0.mk (blk_grown (g := gb495) (o := .cells #[.int .i64 a0_0, .slice A0_1 l0_1.length c0_1, .slice A0_2 l0_2.length c0_2, .slice (some ad504) l0_3.length c0_3, .string a0_4] 55 (0, 0)) (bk BK495.out) hg (Kd.R_ne HO_5.out BK495.out (by decide))); have n1_ := Aside0.mk (hb); have n2_ := Aside0.mk (ho); clear BK495; clear HB; clear HO_5; have BK495 := n0_; have HB := n1_; have HO507 := n2_; clear n0_ n1_ n2_; clear ho hb hg hat))
              go_roundg k3
              case measure => have := HK1.out; have := HJ10.out; have := HK3.out; omega
              case rel => exact ⟨(y505), (wrap64 (x6_3 + 1)), ap, H', ⟨by have := HK1.out; have := HJ10.out; have := HK3.out; omega⟩, ⟨by (with_reducible repeat (first | apply Kd.R_alloc | apply Kd.R_drewN | apply Kd.R_drew)); exact HO507.out⟩, ⟨by (with_reducible repeat (first | refine blk_drewN ?_ _ | refine blk_drew ?_ | refine blk_alloc ?_ _)); exact BK495.out⟩, ⟨bo⟩⟩
             ·rw [if_neg c35] at H
              exact absurd H (by simp)
            ·rw [if_neg c34] at H
             exact absurd H (by simp)
           ·rw [if_neg c33] at H
            have c33b0 : decide (x6_3 < 4) = false := decide_eq_false c33
            clear c33
            have H' := Aside0.mk H
            clear H
            have hcz38_0 : wr.cell? ⟨gb495, 0, none⟩ = some (.int .i64 a0_0) := (blk_cell BK495.out 0).trans rfl
            have hcz38_1 : wr.cell? ⟨gb495, 1, none⟩ = some (.slice A0_1 l0_1.length c0_1) := (blk_cell BK495.out 1).trans rfl
            have hcz38_2 : wr.cell? ⟨gb495, 2, none⟩ = some (.slice A0_2 l0_2.length c0_2) := (blk_cell BK495.out 2).trans rfl
            have hcz38_3 : wr.cell? ⟨gb495, 3, none⟩ = some (.slice A0_3 l0_3.length c0_3) := (blk_cell BK495.out 3).trans rfl
            have hcz38_4 : wr.cell? ⟨gb495, 4, none⟩ = some (.string a0_4) := (blk_cell BK495.out 4).trans rfl
            have hfz38_0 := blk_frozen BK495.out 0
            have hfz38_1 := blk_frozen BK495.out 1
            have hfz38_2 := blk_frozen BK495.out 2
            have hfz38_3 := blk_frozen BK495.out 3
            have hfz38_4 := blk_frozen BK495.out 4
            go_wp2
            go_meet
            case rel => exact ⟨_, (x5_3), H', ⟨by have := HK1.out; have := HJ10.out; have := HK3.out; first | omega | exact Nat.le_refl _⟩, ⟨by (with_reducible repeat (first | apply Kd.R_alloc | apply Kd.R_drewN | apply Kd.R_drew)); exact HO_5.out⟩, ⟨by (with_reducible repeat (first | refine blk_drewN ?_ _ | refine blk_drew ?_ | refine blk_alloc ?_ _)); exact BK495.out⟩, ⟨bo⟩⟩
          ·rw [if_neg c32] at H
           have c32b0 : decide (x6_3 < (l0_3.length : Int)) = false := decide_eq_false c32
           clear c32
           (first | rw [c32b0] | (simp only [i64_w, i32_w]; rw [c32b0]) | skip)
           have H' := Aside0.mk H
           clear H
           have hcz39_0 : wr.cell? ⟨gb495, 0, none⟩ = some (.int .i64 a0_0) := (blk_cell BK495.out 0).trans rfl
           have hcz39_1 : wr.cell? ⟨gb495, 1, none⟩ = some (.slice A0_1 l0_1.length c0_1) := (blk_cell BK495.out 1).trans rfl
           have hcz39_2 : wr.cell? ⟨gb495, 2, none⟩ = some (.slice A0_2 l0_2.length c0_2) := (blk_cell BK495.out 2).trans rfl
           have hcz39_3 : wr.cell? ⟨gb495, 3, none⟩ = some (.slice A0_3 l0_3.length c0_3) := (blk_cell BK495.out 3).trans rfl
           have hcz39_4 : wr.cell? ⟨gb495, 4, none⟩ = some (.string a0_4) := (blk_cell BK495.out 4).trans rfl
           have hfz39_0 := blk_frozen BK495.out 0
           have hfz39_1 := blk_frozen BK495.out 1
           have hfz39_2 := blk_frozen BK495.out 2
           have hfz39_3 := blk_frozen BK495.out 3
           have hfz39_4 := blk_frozen BK495.out 4
           go_wp2
           go_meet
           case rel => exact ⟨_, (x5_3), H', ⟨by have := HK1.out; have := HJ10.out; have := HK3.out; first | omega | exact Nat.le_refl _⟩, ⟨by (with_reducible repeat (first | apply Kd.R_alloc | apply Kd.R_drewN | apply Kd.R_drew)); exact HO_5.out⟩, ⟨by (with_reducible repeat (first | refine blk_drewN ?_ _ | refine blk_drew ?_ | refine blk_alloc ?_ _)); exact BK495.out⟩, ⟨bo⟩⟩
       case rest =>
        clear HC28
        try clear c1
        try clear c2
        try clear p2
        try clear c3
        try clear p4
        try clear q4
        try clear hx4
        try clear p5
        try clear q5
        try clear hx5
        try clear p6
        try clear c8
        try clear c12
        try clear c12b0
        try clear c15
        try clear c16
        try clear c16b0
        try clear c17
        try clear c17b0
        try clear c19
        try clear c20
        try clear c21
        try clear c21b0
        try clear c21b1
        try clear c21b2
        try clear c30
        try clear c32
        try clear c32b0
        try clear c33
        try clear c33b0
        try clear c34
        try clear c34b0
        try clear c35
        try clear hcz10_0
        try clear hcz10_1
        try clear hcz10_2
        try clear hcz10_3
        try clear hcz10_4
        try clear hcz13_0
        try clear hcz13_1
        try clear hcz13_2
        try clear hcz13_3
        try clear hcz13_4
        try clear hcz14_0
        try clear hcz14_1
        try clear hcz14_2
        try clear hcz14_3
        try clear hcz14_4
        try clear hcz22_0
        try clear hcz22_1
        try clear hcz22_2
        try clear hcz22_3
        try clear hcz22_4
        try clear hcz24_0
        try clear hcz24_1
        try clear hcz24_2
        try clear hcz24_3
        try clear hcz24_4
        try clear hcz26_0
        try clear hcz26_1
        try clear hcz26_2
        try clear hcz26_3
        try clear hcz26_4
        try clear hcz29_0
        try clear hcz29_1
        try clear hcz29_2
        try clear hcz29_3
        try clear hcz29_4
        try clear hcz36_0
        try clear hcz36_1
        try clear hcz36_2
        try clear hcz36_3
        try clear hcz36_4
        try clear hcz38_0
        try clear hcz38_1
        try clear hcz38_2
        try clear hcz38_3
        try clear hcz38_4
        try clear hcz39_0
        try clear hcz39_1
        try clear hcz39_2
        try clear hcz39_3
        try clear hcz39_4
        try clear hcz5_0
        try clear hcz5_1
        try clear hcz5_2
        try clear hcz5_3
        try clear hcz5_4
        try clear hcz8_0
        try clear hcz8_1
        try clear hcz8_2
        try clear hcz8_3
        try clear hcz8_4
        try clear hfz10_0
        try clear hfz10_1
        try clear hfz10_2
        try clear hfz10_3
        try clear hfz10_4
        try clear hfz13_0
        try clear hfz13_1
        try clear hfz13_2
        try clear hfz13_3
        try clear hfz13_4
        try clear hfz14_0
        try clear hfz14_1
        try clear hfz14_2
        try clear hfz14_3
        try clear hfz14_4
        try clear hfz22_0
        try clear hfz22_1
        try clear hfz22_2
        try clear hfz22_3
        try clear hfz22_4
        try clear hfz24_0
        try clear hfz24_1
        try clear hfz24_2
        try clear hfz24_3
        try clear hfz24_4
        try clear hfz26_0
        try clear hfz26_1
        try clear hfz26_2
        try clear hfz26_3
        try clear hfz26_4
        try clear hfz29_0
        try clear hfz29_1
        try clear hfz29_2
        try clear hfz29_3
        try clear hfz29_4
        try clear hfz36_0
        try clear hfz36_1
        try clear hfz36_2
        try clear hfz36_3
        try clear hfz36_4
        try clear hfz38_0
        try clear hfz38_1
        try clear hfz38_2
        try clear hfz38_3
        try clear hfz38_4
        try clear hfz39_0
        try clear hfz39_1
        try clear hfz39_2
        try clear hfz39_3
        try clear hfz39_4
        try clear hfz5_0
        try clear hfz5_1
        try clear hfz5_2
        try clear hfz5_3
        try clear hfz5_4
        try clear hfz8_0
        try clear hfz8_1
        try clear hfz8_2
        try clear hfz8_3
        try clear hfz8_4
        try clear hx497_0
        try clear hx497_1
        try clear hx497_2
        try clear hx497_3
        try clear hx497_4
        try clear hx497_5
        try clear hx499_0
        try clear hx499_1
        try clear hx499_2
        try clear hx499_3
        try clear hx499_4
        try clear hx499_5
        try clear hx504_0
        try clear p2
        try clear p4
        try clear p497
        try clear p499
        try clear p504
        try clear p6
        try clear q4
        try clear q497
        try clear q499
        try clear q504
        obtain ⟨kq, x5_27, HA, HJ27, HO_5, BK495, HB⟩ := hcut
        cases kq with
        | zero => exact absurd HA.out (by simp [fairwaylaw11_SegParses.j3])
        | succ kj27 =>
         have H := HA.out
         clear HA
         simp only [fairwaylaw11_SegParses.j3] at H
         have H' := Aside0.mk H
         clear H
         go_wp2
         go_loopg [7] kj27 (fun kq v7 w' => ∃ (x7_4 : Int), v7 = .int .i64 x7_4 ∧ Aside0 (fairwaylaw11_SegParses.l2 kq x3_1 x5_27 x7_4 = some r) ∧ Aside0 (kq ≤ kj27) ∧ Aside0 (Kd.R (Kd.int .i64) 3 w' w.heap.size (fun _ => True) u5 x5_27) ∧ Aside0 (w'.heap[gb495]? = some (.cells #[.int .i64 a0_0, (.slice A0_1 l0_1.length c0_1), (.slice A0_2 l0_2.length c0_2), (.slice A0_3 l0_3.length c0_3), .string a0_4] 55 (0, 0))) ∧ Aside0 (Below w.heap.size w w'))
         case atStart => exact ⟨(0), ap, H', ⟨Nat.le_refl _⟩, ⟨by (with_reducible repeat (first | apply Kd.R_alloc | apply Kd.R_drewN | apply Kd.R_drew)); exact HO_5.out⟩, ⟨by (with_reducible repeat (first | refine blk_drewN ?_ _ | refine blk_drew ?_ | refine blk_alloc ?_ _)); exact BK495.out⟩, ⟨bo⟩⟩
         case round =>
          clear H'
          try clear c1
          try clear c2
          try clear p2
          try clear c3
          try clear p4
          try clear q4
          try clear hx4
          try clear p5
          try clear q5
          try clear hx5
          try clear p6
          try clear c8
          try clear c12
          try clear c12b0
          try clear c15
          try clear c16
          try clear c16b0
          try clear c17
          try clear c17b0
          try clear c19
          try clear c20
          try clear c21
          try clear c21b0
          try clear c21b1
          try clear c21b2
          try clear c30
          try clear c32
          try clear c32b0
          try clear c33
          try clear c33b0
          try clear c34
          try clear c34b0
          try clear c35
          try clear hcz10_0
          try clear hcz10_1
          try clear hcz10_2
          try clear hcz10_3
          try clear hcz10_4
          try clear hcz13_0
          try clear hcz13_1
          try clear hcz13_2
          try clear hcz13_3
          try clear hcz13_4
          try clear hcz14_0
          try clear hcz14_1
          try clear hcz14_2
          try clear hcz14_3
          try clear hcz14_4
          try clear hcz22_0
          try clear hcz22_1
          try clear hcz22_2
          try clear hcz22_3
          try clear hcz22_4
          try clear hcz24_0
          try clear hcz24_1
          try clear hcz24_2
          try clear hcz24_3
          try clear hcz24_4
          try clear hcz26_0
          try clear hcz26_1
          try clear hcz26_2
          try clear hcz26_3
          try clear hcz26_4
          try clear hcz29_0
          try clear hcz29_1
          try clear hcz29_2
          try clear hcz29_3
          try clear hcz29_4
          try clear hcz36_0
          try clear hcz36_1
          try clear hcz36_2
          try clear hcz36_3
          try clear hcz36_4
          try clear hcz38_0
          try clear hcz38_1
          try clear hcz38_2
          try clear hcz38_3
          try clear hcz38_4
          try clear hcz39_0
          try clear hcz39_1
          try clear hcz39_2
          try clear hcz39_3
          try clear hcz39_4
          try clear hcz5_0
          try clear hcz5_1
          try clear hcz5_2
          try clear hcz5_3
          try clear hcz5_4
          try clear hcz8_0
          try clear hcz8_1
          try clear hcz8_2
          try clear hcz8_3
          try clear hcz8_4
          try clear hfz10_0
          try clear hfz10_1
          try clear hfz10_2
          try clear hfz10_3
          try clear hfz10_4
          try clear hfz13_0
          try clear hfz13_1
          try clear hfz13_2
          try clear hfz13_3
          try clear hfz13_4
          try clear hfz14_0
          try clear hfz14_1
          try clear hfz14_2
          try clear hfz14_3
          try clear hfz14_4
          try clear hfz22_0
          try clear hfz22_1
          try clear hfz22_2
          try clear hfz22_3
          try clear hfz22_4
          try clear hfz24_0
          try clear hfz24_1
          try clear hfz24_2
          try clear hfz24_3
          try clear hfz24_4
          try clear hfz26_0
          try clear hfz26_1
          try clear hfz26_2
          try clear hfz26_3
          try clear hfz26_4
          try clear hfz29_0
          try clear hfz29_1
          try clear hfz29_2
          try clear hfz29_3
          try clear hfz29_4
          try clear hfz36_0
          try clear hfz36_1
          try clear hfz36_2
          try clear hfz36_3
          try clear hfz36_4
          try clear hfz38_0
          try clear hfz38_1
          try clear hfz38_2
          try clear hfz38_3
          try clear hfz38_4
          try clear hfz39_0
          try clear hfz39_1
          try clear hfz39_2
          try clear hfz39_3
          try clear hfz39_4
          try clear hfz5_0
          try clear hfz5_1
          try clear hfz5_2
          try clear hfz5_3
          try clear hfz5_4
          try clear hfz8_0
          try clear hfz8_1
          try clear hfz8_2
          try clear hfz8_3
          try clear hfz8_4
          try clear hx497_0
          try clear hx497_1
          try clear hx497_2
          try clear hx497_3
          try clear hx497_4
          try clear hx497_5
          try clear hx499_0
          try clear hx499_1
          try clear hx499_2
          try clear hx499_3
          try clear hx499_4
          try clear hx499_5
          try clear hx504_0
          try clear p2
          try clear p4
          try clear p497
          try clear p499
          try clear p5
          try clear p504
          try clear p6
          try clear q4
          try clear q497
          try clear q499
          try clear q5
          try clear q504
          obtain ⟨x7_4, rfl, HA, HK4, HO_5, BK495, HB⟩ := hrel
          cases gk with
          | zero => exact absurd HA.out (by simp [fairwaylaw11_SegParses.l2])
          | succ k4 =>
           have H := HA.out
           clear HA
           simp only [fairwaylaw11_SegParses.l2] at H
           by_cases c40 : x7_4 < (x5_27.length : Int)
           ·rw [if_pos c40] at H
            have c40b0 : decide (x7_4 < (x5_27.length : Int)) = true := decide_eq_true c40
            clear c40
            by_cases c41 : 0 ≤ x7_4
            ·rw [if_pos c41] at H
             have c41b0 : decide (0 ≤ x7_4) = true := decide_eq_true c41
             clear c41
             replace H := Option.bind_eq_some_iff.mp H
             obtain ⟨⟨t510, t511, t514, t515⟩, A420, H⟩ := H
             replace H : ((fairwayref0_Num.f (rd x5_27 x7_4) 1099511627776).bind fun t519 => (if t519 = true then ((fairwayref10_Parse.f k4 (rd x5_27 x7_4) x3_1).bind fun bt521 => (fairwaylaw11_SegParses.j5 k4 x3_1 x5_27 x7_4 t514 t515 0 bt521.2.2 t510 t511 bt521.1 bt521.2.1)) else (fairwaylaw11_SegParses.j5 k4 x3_1 x5_27 x7_4 t514 t515 1 0 t510 t511 0 ([] : List (S25))))) = some r := H
             have A42 := Aside0.mk A420
             clear A420
             replace H := Option.bind_eq_some_iff.mp H
             obtain ⟨t519, A430, H⟩ := H
             replace H : (if t519 = true then ((fairwayref10_Parse.f k4 (rd x5_27 x7_4) x3_1).bind fun bt521 => (fairwaylaw11_SegParses.j5 k4 x3_1 x5_27 x7_4 t514 t515 0 bt521.2.2 t510 t511 bt521.1 bt521.2.1)) else (fairwaylaw11_SegParses.j5 k4 x3_1 x5_27 x7_4 t514 t515 1 0 t510 t511 0 ([] : List (S25)))) = some r := H
             have A43 := Aside0.mk A430
             clear A430
             have HC44 := Aside0.mk H
             clear H
             obtain ⟨Ao45, co45, eo45⟩ := Kd.R_slice HO_5.out
             subst eo45
             have p509 : 0 ≤ (x7_4 : Int) := od
             have q509 : x7_4 < (x5_27.length : Int) := od
             obtain ⟨ad509, e509, hx509_0⟩ := Kd.at_int (Kd.R_reads' HO_5.out).2.2 x7_4 p509 q509
             cases e509
             replace p509 := eq_true p509
             replace q509 := eq_true q509
             go_upto_if 87 with (first | ((with_reducible refine gate_callee (f := 38) rfl ?_); refine goesL_ (some 78) rfl rfl Try.func38 (by kernel_rfl) rfl #[.int .i64 (rd x5_27 x7_4), .string x3_1] rfl aa ?_; (with_reducible refine (seg_Parse.calls k4 (rd x5_27 x7_4) x3_1 t510 t511 t514 t515 _ A42.out).mono ?_); rintro e w46 ⟨v512, rfl, ho0, hb⟩; refine ⟨_, rfl, ?_⟩; replace HO_5 := Aside0.mk (Kd.R_below (rk HO_5.out) hb); have HO513 := Aside0.mk (Kd.R_lower ho0 (below_size bo)); replace BK495 := Aside0.mk (blk_below (g := gb495) (o := .cells #[.int .i64 a0_0, .slice A0_1 l0_1.length c0_1, .slice A0_2 l0_2.length c0_2, .slice A0_3 l0_3.length c0_3, .string a0_4] 55 (0, 0)) (bk BK495.out) hb); replace HB := Aside0.mk (below_step bo hb); (try clear hb); (try clear hb2); (try clear hk); (try clear hi); (try clear ho0)) | ((with_reducible refine gate_dst (N := 8) rfl ?_); refine box_event ?hg (N := 8) ?hd (cs := #[.int .i64 0, .slice none 0 0]) (t := 53) ?hr ?_; (case hd => rfl); (case hg => rfl); (case hr => first | (go_simp; done) | (go_simp; rfl)); intro gb516 hg w47 hbox hb; replace HO_5 := Aside0.mk (Kd.R_below (rk HO_5.out) hb); replace HO513 := Aside0.mk (Kd.R_below (rk HO513.out) hb); have BK516 := Aside0.mk (hbox); have GW516 := Aside0.mk ((by rw [hg]; exact (below_size bo) : w.heap.size ≤ gb516)); have GE516 := Aside0.mk ((by rw [hg]; exact (below_size bo) : w.heap.size ≤ gb516)); replace HB := Aside0.mk (below_step bo hb); have NB495_516 := Aside0.mk ((by rw [hg]; exact Nat.ne_of_lt (blk_lt (g := gb495) (o := .cells #[.int .i64 a0_0, .slice A0_1 l0_1.length c0_1, .slice A0_2 l0_2.length c0_2, .slice A0_3 l0_3.length c0_3, .string a0_4] 55 (0, 0)) (bk BK495.out)) : gb495 ≠ gb516)); have NB516_495 := Aside0.mk ((by rw [hg]; exact Nat.ne_of_gt (blk_lt (g := gb495) (o := .cells #[.int .i64 a0_0, .slice A0_1 l0_1.length c0_1, .slice A0_2 l0_2.length c0_2, .slice A0_3 l0_3.length c0_3, .string a0_4] 55 (0, 0)) (bk BK495.out)) : gb516 ≠ gb495)); replace BK495 := Aside0.mk (blk_below (g := gb495) (o := .cells #[.int .i64 a0_0, .slice A0_1 l0_1.length c0_1, .slice A0_2 l0_2.length c0_2, .slice A0_3 l0_3.length c0_3, .string a0_4] 55 (0, 0)) (bk BK495.out) hb); clear hb hbox hg; have hnb48 := NB516_495.out; have hnc48 := NB495_516.out; obtain ⟨hcz49_0, hcz49_1⟩ := cl2 BK516.out; obtain ⟨hfz49_0, hfz49_1⟩ := fz2 BK516.out; obtain ⟨Ao50, co50, eo50⟩ := Kd.R_slice HO513.out; subst eo50) | ((with_reducible refine gate_dst (N := 12) rfl ?_); refine box_event ?hg (N := 12) ?hd (cs := #[.int .i64 0, .slice none 0 0]) (t := 53) ?hr ?_; (case hd => rfl); (case hg => rfl); (case hr => first | (go_simp; done) | (go_simp; rfl)); intro gb517 hg w51 hbox hb; replace HO_5 := Aside0.mk (Kd.R_below (by (with_reducible repeat (first | apply Kd.R_alloc | apply Kd.R_drewN | apply Kd.R_drew)); exact (Kd.R_mono (Kd.R_far (p := ⟨gb516, 1, none⟩) (Kd.R_far (p := ⟨gb516, 0, none⟩) (Kd.R_types HO_5.out BK516.out (by decide)) (fun _ hk => hk.2) (.int .i64 t510)) (fun _ hk => hk.2) (.slice Ao50 t511.length co50)) (fun _ h_ => h_.1))) hb); replace HO513 := Aside0.mk (Kd.R_below (by (with_reducible repeat (first | apply Kd.R_alloc | apply Kd.R_drewN | apply Kd.R_drew)); exact (Kd.R_mono (Kd.R_far (p := ⟨gb516, 1, none⟩) (Kd.R_far (p := ⟨gb516, 0, none⟩) (Kd.R_types HO513.out BK516.out (by decide)) (fun _ hk => hk.2) (.int .i64 t510)) (fun _ hk => hk.2) (.slice Ao50 t511.length co50)) (fun _ h_ => h_.1))) hb); have BK517 := Aside0.mk (hbox); have GW517 := Aside0.mk ((by rw [hg]; exact (below_size bo) : w.heap.size ≤ gb517)); have GE517 := Aside0.mk ((by rw [hg]; exact (below_size bo) : w.heap.size ≤ gb517)); replace HB := Aside0.mk (below_step bo hb); have NB495_517 := Aside0.mk ((by rw [hg]; exact Nat.ne_of_lt (blk_lt (g := gb495) (o := .cells #[.int .i64 a0_0, .slice A0_1 l0_1.length c0_1, .slice A0_2 l0_2.length c0_2, .slice A0_3 l0_3.length c0_3, .string a0_4] 55 (0, 0)) (bf BK495.out)) : gb495 ≠ gb517)); have NB517_495 := Aside0.mk ((by rw [hg]; exact Nat.ne_of_gt (blk_lt (g := gb495) (o := .cells #[.int .i64 a0_0, .slice A0_1 l0_1.length c0_1, .slice A0_2 l0_2.length c0_2, .slice A0_3 l0_3.length c0_3, .string a0_4] 55 (0, 0)) (bf BK495.out)) : gb517 ≠ gb495)); replace BK495 := Aside0.mk (blk_below (g := gb495) (o := .cells #[.int .i64 a0_0, .slice A0_1 l0_1.length c0_1, .slice A0_2 l0_2.length c0_2, .slice A0_3 l0_3.length c0_3, .string a0_4] 55 (0, 0)) (bf BK495.out) hb); have NB516_517 := Aside0.mk ((by rw [hg]; exact Nat.ne_of_lt (blk_lt (g := gb516) (o := .cells #[.int .i64 t510, .slice Ao50 t511.length co50] 53 (0, 0)) (by (with_reducible repeat (first | refine blk_drewN ?_ _ | refine blk_drew ?_ | refine blk_alloc ?_ _)); refine blk_put (cs := #[.int .i64 t510, .slice none 0 0]) ?_ 1 _ rfl; (with_reducible repeat (first | refine blk_drewN ?_ _ | refine blk_drew ?_ | refine blk_alloc ?_ _)); refine blk_put (cs := #[.int .i64 0, .slice none 0 0]) ?_ 0 _ rfl; (with_reducible repeat (first | refine blk_drewN ?_ _ | refine blk_drew ?_ | refine blk_alloc ?_ _)); exact BK516.out)) : gb516 ≠ gb517)); have NB517_516 := Aside0.mk ((by rw [hg]; exact Nat.ne_of_gt (blk_lt (g := gb516) (o := .cells #[.int .i64 t510, .slice Ao50 t511.length co50] 53 (0, 0)) (by (with_reducible repeat (first | refine blk_drewN ?_ _ | refine blk_drew ?_ | refine blk_alloc ?_ _)); refine blk_put (cs := #[.int .i64 t510, .slice none 0 0]) ?_ 1 _ rfl; (with_reducible repeat (first | refine blk_drewN ?_ _ | refine blk_drew ?_ | refine blk_alloc ?_ _)); refine blk_put (cs := #[.int .i64 0, .slice none 0 0]) ?_ 0 _ rfl; (with_reducible repeat (first | refine blk_drewN ?_ _ | refine blk_drew ?_ | refine blk_alloc ?_ _)); exact BK516.out)) : gb517 ≠ gb516)); replace BK516 := Aside0.mk (blk_below (g := gb516) (o := .cells #[.int .i64 t510, .slice Ao50 t511.length co50] 53 (0, 0)) (by (with_reducible repeat (first | refine blk_drewN ?_ _ | refine blk_drew ?_ | refine blk_alloc ?_ _)); refine blk_put (cs := #[.int .i64 t510, .slice none 0 0]) ?_ 1 _ rfl; (with_reducible repeat (first | refine blk_drewN ?_ _ | refine blk_drew ?_ | refine blk_alloc ?_ _)); refine blk_put (cs := #[.int .i64 0, .slice none 0 0]) ?_ 0 _ rfl; (with_reducible repeat (first | refine blk_drewN ?_ _ | refine blk_drew ?_ | refine blk_alloc ?_ _)); exact BK516.out) hb); clear hb hbox hg; have hnb52 := NB517_495.out; have hnc52 := NB495_517.out; have hnb53 := NB517_516.out; have hnc53 := NB516_517.out; obtain ⟨hcz54_0, hcz54_1⟩ := cl2 BK517.out; obtain ⟨hfz54_0, hfz54_1⟩ := fz2 BK517.out; have p518 : 0 ≤ (x7_4 : Int) := od; have q518 : x7_4 < (x5_27.length : Int) := od; obtain ⟨ad518, e518, hx518_0⟩ := Kd.at_int (Kd.R_reads' HO_5.out).2.2 x7_4 p518 q518; obtain rfl : ad509 = ad518 := (by injection e518); have hn518_0 : ad509.block ≠ gb517 := Kd.own_blk (Kd.R_ne HO_5.out BK517.out (by decide)); have hn518_1 : ad509.block ≠ gb517 := Kd.own_blk (Kd.R_ne HO_5.out BK517.out (by decide)); replace hx518_0 := (cell_far (p := ⟨gb517, 0, none⟩) (by first | (rw [add_block]; exact hn518_0) | (show (Addr.add _ _).block ≠ _; rw [add_block]; exact hn518_0) | exact hn518_0) (.int .i64 0)).trans hx518_0; replace hx518_0 := (cell_far (p := ⟨gb517, 1, none⟩) (by first | (rw [add_block]; exact hn518_1) | (show (Addr.add _ _).block ≠ _; rw [add_block]; exact hn518_1) | exact hn518_1) (.slice none 0 0)).trans hx518_0; clear hn518_0; clear hn518_1; replace p518 := eq_true p518; replace q518 := eq_true q518) | ((with_reducible refine gate_callee (f := 39) rfl ?_); refine goesL_ (some 87) rfl rfl Try.func39 (by kernel_rfl) rfl #[.int .i64 (rd x5_27 x7_4), .int .i64 1099511627776] rfl aa ?_; (with_reducible refine (fairwayref0_Num.calls (rd x5_27 x7_4) 1099511627776 t519 _ A43.out).mono ?_); rintro e w' ⟨rfl, ⟨nd, rfl⟩⟩; refine ⟨_, rfl, ?_⟩))
             (try simp only [Act.put, List.setIfInBounds_toArray, List.set_cons_zero, List.set_cons_succ])
             go_cut [11, 13] (fun v11 v13 wc => ∃ (kq : Nat) (x11_43 : Int) (x13_43 : Int) (x518000_43 : Int) (x518001_43 : List (S25)) (u518001 : Value), v11 = .int .i64 x11_43 ∧ v13 = .int .i64 x13_43 ∧ Aside0 (fairwaylaw11_SegParses.j5 kq x3_1 x5_27 x7_4 t514 t515 x11_43 x13_43 t510 t511 x518000_43 x518001_43 = some r) ∧ Aside0 (kq ≤ k4) ∧ Aside0 (Kd.R (Kd.int .i64) 3 wc w.heap.size (fun _ => True) (.slice (some ad509) x5_27.length co45) x5_27) ∧ Aside0 (Kd.R k25 25 wc w.heap.size (fun k_ => some k_ ≠ (u518001 : Value).ownBlock) (.slice Ao50 t511.length co50) t511) ∧ Aside0 (Kd.R k25 25 wc w.heap.size (fun k_ => some k_ ≠ ((.slice Ao50 t511.length co50) : Value).ownBlock) u518001 x518001_43) ∧ Aside0 (wc.heap[gb495]? = some (.cells #[.int .i64 a0_0, (.slice A0_1 l0_1.length c0_1), (.slice A0_2 l0_2.length c0_2), (.slice A0_3 l0_3.length c0_3), .string a0_4] 55 (0, 0))) ∧ Aside0 (wc.heap[gb516]? = some (.cells #[.int .i64 t510, (.slice Ao50 t511.length co50)] 53 (0, 0))) ∧ Aside0 (wc.heap[gb517]? = some (.cells #[.int .i64 x518000_43, u518001] 53 (0, 0))) ∧ Aside0 (Below w.heap.size w wc))
             case first =>
              have H := HC44.out
              clear HC44
              by_cases c55 : t519 = true
              ·subst c55
               have H1 : ((fairwayref10_Parse.f k4 (rd x5_27 x7_4) x3_1).bind fun bt521 => (fairwaylaw11_SegParses.j5 k4 x3_1 x5_27 x7_4 t514 t515 0 bt521.2.2 t510 t511 bt521.1 bt521.2.1)) = some r := by rw [if_pos rfl] at H; exact H
               clear H
               have H := H1
               clear H1
               replace H := Option.bind_eq_some_iff.mp H
               obtain ⟨⟨t521, t522, t525⟩, A560, H⟩ := H
               replace H : (fairwaylaw11_SegParses.j5 k4 x3_1 x5_27 x7_4 t514 t515 0 t525 t510 t511 t521 t522) = some r := H
               have A56 := Aside0.mk A560
               clear A560
               have H' := Aside0.mk H
               clear H
               have p520 : 0 ≤ (x7_4 : Int) := od
               have q520 : x7_4 < (x5_27.length : Int) := od
               obtain ⟨ad520, e520, hx520_0⟩ := Kd.at_int (Kd.R_reads' HO_5.out).2.2 x7_4 p520 q520
               obtain rfl : ad509 = ad520 := (by injection e520)
               have hn520_0 : ad509.block ≠ gb517 := Kd.own_blk (Kd.R_ne HO_5.out BK517.out (by decide))
               have hn520_1 : ad509.block ≠ gb517 := Kd.own_blk (Kd.R_ne HO_5.out BK517.out (by decide))
               replace hx520_0 := (cell_far (p := ⟨gb517, 0, none⟩) (by first | (rw [add_block]; exact hn520_0) | (show (Addr.add _ _).block ≠ _; rw [add_block]; exact hn520_0) | exact hn520_0) (.int .i64 0)).trans hx520_0
               replace hx520_0 := (cell_far (p := ⟨gb517, 1, none⟩) (by first | (rw [add_block]; exact hn520_1) | (show (Addr.add _ _).block ≠ _; rw [add_block]; exact hn520_1) | exact hn520_1) (.slice none 0 0)).trans hx520_0
               clear hn520_0
               clear hn520_1
               replace p520 := eq_true p520
               replace q520 := eq_true q520
               go_wp2_with (first | ((with_reducible refine gate_callee (f := 40) rfl ?_); refine goesL_ (some 94) rfl rfl Try.func40 (by kernel_rfl) rfl #[.int .i64 (rd x5_27 x7_4), .string x3_1] rfl aa ?_; (with_reducible refine (fairwayref10_Parse.calls k4 (rd x5_27 x7_4) x3_1 t521 t522 t525 _ A56.out).mono ?_); rintro e w57 ⟨v523, rfl, ho0, hb⟩; refine ⟨_, rfl, ?_⟩; replace HO_5 := Aside0.mk (Kd.R_below (by (with_reducible repeat (first | apply Kd.R_alloc | apply Kd.R_drewN | apply Kd.R_drew)); exact (Kd.R_mono (Kd.R_far (p := ⟨gb517, 1, none⟩) (Kd.R_far (p := ⟨gb517, 0, none⟩) (Kd.R_types HO_5.out BK517.out (by decide)) (fun _ hk => hk.2) (.int .i64 0)) (fun _ hk => hk.2) (.slice none 0 0)) (fun _ h_ => h_.1))) hb); have HO524 := Aside0.mk (Kd.R_lower (Kd.R_new' ho0 (Kd.R_lt (by (with_reducible repeat (first | apply Kd.R_alloc | apply Kd.R_drewN | apply Kd.R_drew)); exact (Kd.R_mono (Kd.R_far (p := ⟨gb517, 1, none⟩) (Kd.R_far (p := ⟨gb517, 0, none⟩) (Kd.R_types HO513.out BK517.out (by decide)) (fun _ hk => hk.2) (.int .i64 0)) (fun _ hk => hk.2) (.slice none 0 0)) (fun _ h_ => h_.1))))) (below_size bo)); replace HO513 := Aside0.mk (Kd.R_elder' (by (with_reducible repeat (first | apply Kd.R_alloc | apply Kd.R_drewN | apply Kd.R_drew)); exact (Kd.R_mono (Kd.R_far (p := ⟨gb517, 1, none⟩) (Kd.R_far (p := ⟨gb517, 0, none⟩) (Kd.R_types HO513.out BK517.out (by decide)) (fun _ hk => hk.2) (.int .i64 0)) (fun _ hk => hk.2) (.slice none 0 0)) (fun _ h_ => h_.1))) (Kd.R_base ho0) hb); replace BK495 := Aside0.mk (blk_below (g := gb495) (o := .cells #[.int .i64 a0_0, .slice A0_1 l0_1.length c0_1, .slice A0_2 l0_2.length c0_2, .slice A0_3 l0_3.length c0_3, .string a0_4] 55 (0, 0)) (bf BK495.out) hb); replace BK516 := Aside0.mk (blk_below (g := gb516) (o := .cells #[.int .i64 t510, .slice Ao50 t511.length co50] 53 (0, 0)) (bf BK516.out) hb); replace BK517 := Aside0.mk (blk_below (g := gb517) (o := .cells #[.int .i64 0, .slice none 0 0] 53 (0, 0)) (by (with_reducible repeat (first | refine blk_drewN ?_ _ | refine blk_drew ?_ | refine blk_alloc ?_ _)); refine blk_put (cs := #[.int .i64 0, .slice none 0 0]) ?_ 1 _ rfl; (with_reducible repeat (first | refine blk_drewN ?_ _ | refine blk_drew ?_ | refine blk_alloc ?_ _)); refine blk_put (cs := #[.int .i64 0, .slice none 0 0]) ?_ 0 _ rfl; (with_reducible repeat (first | refine blk_drewN ?_ _ | refine blk_drew ?_ | refine blk_alloc ?_ _)); exact BK517.out) hb); replace HB := Aside0.mk (below_step bo hb); (try clear hb); (try clear hb2); (try clear hk); (try clear hi); (try clear ho0); have hnb58 := NB517_495.out; have hnc58 := NB495_517.out; have hnb59 := NB517_516.out; have hnc59 := NB516_517.out; obtain ⟨hcz60_0, hcz60_1⟩ := cl2 BK517.out; obtain ⟨hfz60_0, hfz60_1⟩ := fz2 BK517.out; obtain ⟨Ao61, co61, eo61⟩ := Kd.R_slice HO524.out; subst eo61))
               go_meet
               case rel => exact ⟨_, (0), (t525), (t521), (t522), (.slice Ao61 t522.length co61), ap, ap, H', ⟨by have := HK1.out; have := HJ10.out; have := HJ27.out; have := HK4.out; first | omega | exact Nat.le_refl _⟩, ⟨by (with_reducible repeat (first | apply Kd.R_alloc | apply Kd.R_drewN | apply Kd.R_drew)); exact Kd.R_mono (Kd.R_far (p := ⟨gb517, 1, none⟩) (Kd.R_far (p := ⟨gb517, 0, none⟩) (Kd.R_types HO_5.out BK517.out (by decide)) (fun _ hk => hk.2) (.int .i64 t521)) (fun _ hk => hk.2) (.slice Ao61 t522.length co61)) (fun _ hk => trivial)⟩, ⟨by (with_reducible repeat (first | apply Kd.R_alloc | apply Kd.R_drewN | apply Kd.R_drew)); exact Kd.R_mono (Kd.R_far (p := ⟨gb517, 1, none⟩) (Kd.R_far (p := ⟨gb517, 0, none⟩) (Kd.R_types HO513.out BK517.out (by decide)) (fun _ hk => hk.2) (.int .i64 t521)) (fun _ hk => hk.2) (.slice Ao61 t522.length co61)) (fun _ hk => hk.1.2)⟩, ⟨by (with_reducible repeat (first | apply Kd.R_alloc | apply Kd.R_drewN | apply Kd.R_drew)); exact Kd.R_mono (Kd.R_far (p := ⟨gb517, 1, none⟩) (Kd.R_far (p := ⟨gb517, 0, none⟩) (Kd.R_types HO524.out BK517.out (by decide)) (fun _ hk => hk.2) (.int .i64 t521)) (fun _ hk => hk.2) (.slice Ao61 t522.length co61)) (fun _ hk => hk.1.2)⟩, ⟨by (with_reducible repeat (first | refine blk_drewN ?_ _ | refine blk_drew ?_ | refine blk_alloc ?_ _)); refine blk_far ?_ NB495_517.out _; (with_reducible repeat (first | refine blk_drewN ?_ _ | refine blk_drew ?_ | refine blk_alloc ?_ _)); refine blk_far ?_ NB495_517.out _; (with_reducible repeat (first | refine blk_drewN ?_ _ | refine blk_drew ?_ | refine blk_alloc ?_ _)); exact BK495.out⟩, ⟨by (with_reducible repeat (first | refine blk_drewN ?_ _ | refine blk_drew ?_ | refine blk_alloc ?_ _)); refine blk_far ?_ NB516_517.out _; (with_reducible repeat (first | refine blk_drewN ?_ _ | refine blk_drew ?_ | refine blk_alloc ?_ _)); refine blk_far ?_ NB516_517.out _; (with_reducible repeat (first | refine blk_drewN ?_ _ | refine blk_drew ?_ | refine blk_alloc ?_ _)); exact BK516.out⟩, ⟨by (with_reducible repeat (first | refine blk_drewN ?_ _ | refine blk_drew ?_ | refine blk_alloc ?_ _)); refine blk_put (cs := #[.int .i64 t521, .slice none 0 0]) ?_ 1 _ rfl; (with_reducible repeat (first | refine blk_drewN ?_ _ | refine blk_drew ?_ | refine blk_alloc ?_ _)); refine blk_put (cs := #[.int .i64 0, .slice none 0 0]) ?_ 0 _ rfl; (with_reducible repeat (first | refine blk_drewN ?_ _ | refine blk_drew ?_ | refine blk_alloc ?_ _)); exact BK517.out⟩, ⟨bo⟩⟩
              ·replace c55 := Bool.eq_false_iff.mpr c55
               subst c55
               have H1 : (fairwaylaw11_SegParses.j5 k4 x3_1 x5_27 x7_4 t514 t515 1 0 t510 t511 0 ([] : List (S25))) = some r := by rw [if_neg (show ¬ (false = true) by decide)] at H; exact H
               clear H
               have H := H1
               clear H1
               have H' := Aside0.mk H
               clear H
               go_wp2
               go_meet
               case rel => exact ⟨_, (1), (0), (0), (([] : List (S25))), (.slice none 0 0), ap, ap, H', ⟨by have := HK1.out; have := HJ10.out; have := HJ27.out; have := HK4.out; first | omega | exact Nat.le_refl _⟩, ⟨by (with_reducible repeat (first | apply Kd.R_alloc | apply Kd.R_drewN | apply Kd.R_drew)); exact Kd.R_mono (Kd.R_far (p := ⟨gb517, 1, none⟩) (Kd.R_far (p := ⟨gb517, 0, none⟩) (Kd.R_types HO_5.out BK517.out (by decide)) (fun _ hk => hk.2) (.int .i64 0)) (fun _ hk => hk.2) (.slice none 0 0)) (fun _ hk => trivial)⟩, ⟨by (with_reducible repeat (first | apply Kd.R_alloc | apply Kd.R_drewN | apply Kd.R_drew)); exact Kd.R_mono (Kd.R_far (p := ⟨gb517, 1, none⟩) (Kd.R_far (p := ⟨gb517, 0, none⟩) (Kd.R_types HO513.out BK517.out (by decide)) (fun _ hk => hk.2) (.int .i64 0)) (fun _ hk => hk.2) (.slice none 0 0)) (fun _ hk => (by simp [Value.ownBlock]))⟩, ⟨by first | exact Kd.R_nil _ _ _ _ _ | exact Kd.N_nil _ _ _ _ _ | exact Kd.V_nil _ _ _ _ _ | exact Kd.Q_nil _ _ _ _ _ | exact Kd.S_nil _ _ _ _ _⟩, ⟨by (with_reducible repeat (first | refine blk_drewN ?_ _ | refine blk_drew ?_ | refine blk_alloc ?_ _)); refine blk_far ?_ NB495_517.out _; (with_reducible repeat (first | refine blk_drewN ?_ _ | refine blk_drew ?_ | refine blk_alloc ?_ _)); refine blk_far ?_ NB495_517.out _; (with_reducible repeat (first | refine blk_drewN ?_ _ | refine blk_drew ?_ | refine blk_alloc ?_ _)); exact BK495.out⟩, ⟨by (with_reducible repeat (first | refine blk_drewN ?_ _ | refine blk_drew ?_ | refine blk_alloc ?_ _)); refine blk_far ?_ NB516_517.out _; (with_reducible repeat (first | refine blk_drewN ?_ _ | refine blk_drew ?_ | refine blk_alloc ?_ _)); refine blk_far ?_ NB516_517.out _; (with_reducible repeat (first | refine blk_drewN ?_ _ | refine blk_drew ?_ | refine blk_alloc ?_ _)); exact BK516.out⟩, ⟨by (with_reducible repeat (first | refine blk_drewN ?_ _ | refine blk_drew ?_ | refine blk_alloc ?_ _)); refine blk_put (cs := #[.int .i64 0, .slice none 0 0]) ?_ 1 _ rfl; (with_reducible repeat (first | refine blk_drewN ?_ _ | refine blk_drew ?_ | refine blk_alloc ?_ _)); refine blk_put (cs := #[.int .i64 0, .slice none 0 0]) ?_ 0 _ rfl; (with_reducible repeat (first | refine blk_drewN ?_ _ | refine blk_drew ?_ | refine blk_alloc ?_ _)); exact BK517.out⟩, ⟨bo⟩⟩
             case rest =>
              clear HC44
              try clear c1
              try clear c2
              try clear p2
              try clear c3
              try clear c4
              try clear p4
              try clear q4
              try clear hx4
              try clear c5
              try clear p5
              try clear q5
              try clear hx5
              try clear p6
              try clear c8
              try clear c12
              try clear c12b0
              try clear c15
              try clear c16
              try clear c16b0
              try clear c17
              try clear c17b0
              try clear c19
              try clear c20
              try clear c21
              try clear c21b0
              try clear c21b1
              try clear c21b2
              try clear c30
              try clear c32
              try clear c32b0
              try clear c33
              try clear c33b0
              try clear c34
              try clear c34b0
              try clear c35
              try clear c38
              try clear c39
              try clear c40
              try clear c40b0
              try clear c41
              try clear c41b0
              try clear c48
              try clear p49
              try clear q49
              try clear hx49
              try clear p50
              try clear q50
              try clear hx50
              try clear p51
              try clear q51
              try clear hx51
              try clear c52
              try clear p52
              try clear q52
              try clear hx52
              try clear c53
              try clear c55
              try clear c58
              try clear c59
              try clear hcz10_0
              try clear hcz10_1
              try clear hcz10_2
              try clear hcz10_3
              try clear hcz10_4
              try clear hcz13_0
              try clear hcz13_1
              try clear hcz13_2
              try clear hcz13_3
              try clear hcz13_4
              try clear hcz14_0
              try clear hcz14_1
              try clear hcz14_2
              try clear hcz14_3
              try clear hcz14_4
              try clear hcz22_0
              try clear hcz22_1
              try clear hcz22_2
              try clear hcz22_3
              try clear hcz22_4
              try clear hcz24_0
              try clear hcz24_1
              try clear hcz24_2
              try clear hcz24_3
              try clear hcz24_4
              try clear hcz26_0
              try clear hcz26_1
              try clear hcz26_2
              try clear hcz26_3
              try clear hcz26_4
              try clear hcz29_0
              try clear hcz29_1
              try clear hcz29_2
              try clear hcz29_3
              try clear hcz29_4
              try clear hcz36_0
              try clear hcz36_1
              try clear hcz36_2
              try clear hcz36_3
              try clear hcz36_4
              try clear hcz38_0
              try clear hcz38_1
              try clear hcz38_2
              try clear hcz38_3
              try clear hcz38_4
              try clear hcz39_0
              try clear hcz39_1
              try clear hcz39_2
              try clear hcz39_3
              try clear hcz39_4
              try clear hcz49_0
              try clear hcz49_1
              try clear hcz54_0
              try clear hcz54_1
              try clear hcz5_0
              try clear hcz5_1
              try clear hcz5_2
              try clear hcz5_3
              try clear hcz5_4
              try clear hcz60_0
              try clear hcz60_1
              try clear hcz8_0
              try clear hcz8_1
              try clear hcz8_2
              try clear hcz8_3
              try clear hcz8_4
              try clear hfz10_0
              try clear hfz10_1
              try clear hfz10_2
              try clear hfz10_3
              try clear hfz10_4
              try clear hfz13_0
              try clear hfz13_1
              try clear hfz13_2
              try clear hfz13_3
              try clear hfz13_4
              try clear hfz14_0
              try clear hfz14_1
              try clear hfz14_2
              try clear hfz14_3
              try clear hfz14_4
              try clear hfz22_0
              try clear hfz22_1
              try clear hfz22_2
              try clear hfz22_3
              try clear hfz22_4
              try clear hfz24_0
              try clear hfz24_1
              try clear hfz24_2
              try clear hfz24_3
              try clear hfz24_4
              try clear hfz26_0
              try clear hfz26_1
              try clear hfz26_2
              try clear hfz26_3
              try clear hfz26_4
              try clear hfz29_0
              try clear hfz29_1
              try clear hfz29_2
              try clear hfz29_3
              try clear hfz29_4
              try clear hfz36_0
              try clear hfz36_1
              try clear hfz36_2
              try clear hfz36_3
              try clear hfz36_4
              try clear hfz38_0
              try clear hfz38_1
              try clear hfz38_2
              try clear hfz38_3
              try clear hfz38_4
              try clear hfz39_0
              try clear hfz39_1
              try clear hfz39_2
              try clear hfz39_3
              try clear hfz39_4
              try clear hfz49_0
              try clear hfz49_1
              try clear hfz54_0
              try clear hfz54_1
              try clear hfz5_0
              try clear hfz5_1
              try clear hfz5_2
              try clear hfz5_3
              try clear hfz5_4
              try clear hfz60_0
              try clear hfz60_1
              try clear hfz8_0
              try clear hfz8_1
              try clear hfz8_2
              try clear hfz8_3
              try clear hfz8_4
              try clear hx497_0
              try clear hx497_1
              try clear hx497_2
              try clear hx497_3
              try clear hx497_4
              try clear hx497_5
              try clear hx499_0
              try clear hx499_1
              try clear hx499_2
              try clear hx499_3
              try clear hx499_4
              try clear hx499_5
              try clear hx504_0
              try clear hx509_0
              try clear hx518_0
              try clear hx520_0
              try clear p2
              try clear p4
              try clear p497
              try clear p499
              try clear p5
              try clear p504
              try clear p509
              try clear p518
              try clear p520
              try clear p6
              try clear q4
              try clear q497
              try clear q499
              try clear q5
              try clear q504
              try clear q509
              try clear q518
              try clear q520
              obtain ⟨kq, x11_43, x13_43, x518000_43, x518001_43, u518001, rfl, rfl, HA, HJ43, HO_5, HO_517001, HO_518001, BK495, BK516, BK517, HB⟩ := hcut
              cases kq with
              | zero => exact absurd HA.out (by simp [fairwaylaw11_SegParses.j5])
              | succ kj43 =>
               have H := HA.out
               clear HA
               simp only [fairwaylaw11_SegParses.j5] at H
               replace H := Option.bind_eq_some_iff.mp H
               obtain ⟨t526, A620, H⟩ := H
               replace H : (if t526 = x11_43 then (if t514 = x13_43 then ((fairwayref0_EqSeg.f kj43 t510 t511 x518000_43 x518001_43).bind fun t527 => (if t527 = true then (fairwaylaw11_SegParses.l2 kj43 x3_1 x5_27 (wrap64 (x7_4 + 1))) else (some false))) else (some false)) else (some false)) = some r := H
               have A62 := Aside0.mk A620
               clear A620
               by_cases c63 : t526 = x11_43
               ·rw [if_pos c63] at H
                have c63b0 : (t526 == x11_43) = true := beq_iff_eq.mpr c63
                have c63b1 : (t526 != x11_43) = false := bne_eq_false_iff_eq.mpr c63
                clear c63
                by_cases c64 : t514 = x13_43
                ·rw [if_pos c64] at H
                 have c64b0 : (t514 == x13_43) = true := beq_iff_eq.mpr c64
                 have c64b1 : (t514 != x13_43) = false := bne_eq_false_iff_eq.mpr c64
                 clear c64
                 replace H := Option.bind_eq_some_iff.mp H
                 obtain ⟨t527, A650, H⟩ := H
                 replace H : (if t527 = true then (fairwaylaw11_SegParses.l2 kj43 x3_1 x5_27 (wrap64 (x7_4 + 1))) else (some false)) = some r := H
                 have A65 := Aside0.mk A650
                 clear A650
                 by_cases c66 : t527 = true
                 ·subst c66
                  have H1 : (fairwaylaw11_SegParses.l2 kj43 x3_1 x5_27 (wrap64 (x7_4 + 1))) = some r := by rw [if_pos rfl] at H; exact H
                  clear H
                  have H := H1
                  clear H1
                  have H' := Aside0.mk H
                  clear H
                  go_wp2_with (first | ((with_reducible refine gate_callee (f := 36) rfl ?_); refine goesL_ (some 98) rfl rfl Try.func36 (by kernel_rfl) rfl #[.int .i64 t515] rfl aa ?_; (with_reducible refine (fairwaylaw11_num.calls t515 t526 _ A62.out).mono ?_); rintro e w' ⟨rfl, ⟨nd, rfl⟩⟩; refine ⟨_, rfl, ?_⟩; have hnb67 := NB516_495.out; have hnc67 := NB495_516.out; have hnb68 := NB516_517.out; have hnc68 := NB517_516.out; obtain ⟨hcz69_0, hcz69_1⟩ := cl2 BK516.out; obtain ⟨hfz69_0, hfz69_1⟩ := fz2 BK516.out; have hnb70 := NB517_495.out; have hnc70 := NB495_517.out; obtain ⟨hcz71_0, hcz71_1⟩ := cl2 BK517.out; obtain ⟨hfz71_0, hfz71_1⟩ := fz2 BK517.out; obtain ⟨Ao72, co72, eo72⟩ := Kd.R_slice HO_518001.out; subst eo72) | (go_at_call 41; (with_reducible refine (fairwayref0_EqSeg.calls kj43 t510 _ _ t511 x518000_43 _ _ x518001_43 true _ ?side1 ?side2 ?side3 ?side4 A65.out).mono ?_); (case side1 => repeat (first | exact (Kd.R_reads' HO_517001.out).2.2 | (with_reducible refine Kd.C_alloc ?_ _) | (with_reducible refine Kd.C_drewN ?_ _) | (with_reducible refine Kd.C_drew ?_))); (case side2 => exact (Kd.R_reads' HO_517001.out).2.1); (case side3 => repeat (first | exact (Kd.R_reads' HO_518001.out).2.2 | (with_reducible refine Kd.C_alloc ?_ _) | (with_reducible refine Kd.C_drewN ?_ _) | (with_reducible refine Kd.C_drew ?_))); (case side4 => exact (Kd.R_reads' HO_518001.out).2.1); rintro e w73 ⟨rfl, hb⟩; replace HO_5 := Aside0.mk (Kd.R_below (rk HO_5.out) hb); replace HO_517001 := Aside0.mk (Kd.R_below (rk HO_517001.out) hb); replace HO_518001 := Aside0.mk (Kd.R_below (rk HO_518001.out) hb); replace BK495 := Aside0.mk (blk_below (g := gb495) (o := .cells #[.int .i64 a0_0, .slice A0_1 l0_1.length c0_1, .slice A0_2 l0_2.length c0_2, .slice A0_3 l0_3.length c0_3, .string a0_4] 55 (0, 0)) (bk BK495.out) hb); replace BK516 := Aside0.mk (blk_below (g := gb516) (o := .cells #[.int .i64 t510, .slice Ao50 t511.length co50] 53 (0, 0)) (bk BK516.out) hb); replace BK517 := Aside0.mk (blk_below (g := gb517) (o := .cells #[.int .i64 x518000_43, .slice Ao72 x518001_43.length co72] 53 (0, 0)) (bk BK517.out) hb); replace HB := Aside0.mk (below_step bo hb); (try clear hb); (try clear hb2); (try clear hk); (try clear hi)))
                  go_roundg kj43
                  case measure => have := HK1.out; have := HJ10.out; have := HJ27.out; have := HK4.out; have := HJ43.out; omega
                  case rel => exact ⟨(wrap64 (x7_4 + 1)), ap, H', ⟨by have := HK1.out; have := HJ10.out; have := HJ27.out; have := HK4.out; have := HJ43.out; omega⟩, ⟨by (with_reducible repeat (first | apply Kd.R_alloc | apply Kd.R_drewN | apply Kd.R_drew)); exact HO_5.out⟩, ⟨by (with_reducible repeat (first | refine blk_drewN ?_ _ | refine blk_drew ?_ | refine blk_alloc ?_ _)); exact BK495.out⟩, ⟨bo⟩⟩
                 ·replace c66 := Bool.eq_false_iff.mpr c66
                  subst c66
                  have H1 : (some false) = some r := by rw [if_neg (show ¬ (false = true) by decide)] at H; exact H
                  clear H
                  have H := H1
                  clear H1
                  obtain rfl := Option.some.inj H
                  go_wp2_with (first | ((with_reducible refine gate_callee (f := 36) rfl ?_); refine goesL_ (some 98) rfl rfl Try.func36 (by kernel_rfl) rfl #[.int .i64 t515] rfl aa ?_; (with_reducible refine (fairwaylaw11_num.calls t515 t526 _ A62.out).mono ?_); rintro e w' ⟨rfl, ⟨nd, rfl⟩⟩; refine ⟨_, rfl, ?_⟩; have hnb74 := NB516_495.out; have hnc74 := NB495_516.out; have hnb75 := NB516_517.out; have hnc75 := NB517_516.out; obtain ⟨hcz76_0, hcz76_1⟩ := cl2 BK516.out; obtain ⟨hfz76_0, hfz76_1⟩ := fz2 BK516.out; have hnb77 := NB517_495.out; have hnc77 := NB495_517.out; obtain ⟨hcz78_0, hcz78_1⟩ := cl2 BK517.out; obtain ⟨hfz78_0, hfz78_1⟩ := fz2 BK517.out; obtain ⟨Ao79, co79, eo79⟩ := Kd.R_slice HO_518001.out; subst eo79) | (go_at_call 41; (with_reducible refine (fairwayref0_EqSeg.calls kj43 t510 _ _ t511 x518000_43 _ _ x518001_43 false _ ?side1 ?side2 ?side3 ?side4 A65.out).mono ?_); (case side1 => repeat (first | exact (Kd.R_reads' HO_517001.out).2.2 | (with_reducible refine Kd.C_alloc ?_ _) | (with_reducible refine Kd.C_drewN ?_ _) | (with_reducible refine Kd.C_drew ?_))); (case side2 => exact (Kd.R_reads' HO_517001.out).2.1); (case side3 => repeat (first | exact (Kd.R_reads' HO_518001.out).2.2 | (with_reducible refine Kd.C_alloc ?_ _) | (with_reducible refine Kd.C_drewN ?_ _) | (with_reducible refine Kd.C_drew ?_))); (case side4 => exact (Kd.R_reads' HO_518001.out).2.1); rintro e w80 ⟨rfl, hb⟩; replace HO_5 := Aside0.mk (Kd.R_below (rk HO_5.out) hb); replace HO_517001 := Aside0.mk (Kd.R_below (rk HO_517001.out) hb); replace HO_518001 := Aside0.mk (Kd.R_below (rk HO_518001.out) hb); replace BK495 := Aside0.mk (blk_below (g := gb495) (o := .cells #[.int .i64 a0_0, .slice A0_1 l0_1.length c0_1, .slice A0_2 l0_2.length c0_2, .slice A0_3 l0_3.length c0_3, .string a0_4] 55 (0, 0)) (bk BK495.out) hb); replace BK516 := Aside0.mk (blk_below (g := gb516) (o := .cells #[.int .i64 t510, .slice Ao50 t511.length co50] 53 (0, 0)) (bk BK516.out) hb); replace BK517 := Aside0.mk (blk_below (g := gb517) (o := .cells #[.int .i64 x518000_43, .slice Ao79 x518001_43.length co79] 53 (0, 0)) (bk BK517.out) hb); replace HB := Aside0.mk (below_step bo hb); (try clear hb); (try clear hb2); (try clear hk); (try clear hi)))
                  go_ret
                  exact ⟨er, bo⟩
                ·rw [if_neg c64] at H
                 have c64b0 : (t514 == x13_43) = false := beq_eq_false_iff_ne.mpr c64
                 have c64b1 : (t514 != x13_43) = true := bne_iff_ne.mpr c64
                 obtain rfl := Option.some.inj H
                 go_wp2_with (first | ((with_reducible refine gate_callee (f := 36) rfl ?_); refine goesL_ (some 98) rfl rfl Try.func36 (by kernel_rfl) rfl #[.int .i64 t515] rfl aa ?_; (with_reducible refine (fairwaylaw11_num.calls t515 t526 _ A62.out).mono ?_); rintro e w' ⟨rfl, ⟨nd, rfl⟩⟩; refine ⟨_, rfl, ?_⟩))
                 go_ret
                 exact ⟨er, bo⟩
               ·rw [if_neg c63] at H
                have c63b0 : (t526 == x11_43) = false := beq_eq_false_iff_ne.mpr c63
                have c63b1 : (t526 != x11_43) = true := bne_iff_ne.mpr c63
                obtain rfl := Option.some.inj H
                go_wp2_with (first | ((with_reducible refine gate_callee (f := 36) rfl ?_); refine goesL_ (some 98) rfl rfl Try.func36 (by kernel_rfl) rfl #[.int .i64 t515] rfl aa ?_; (with_reducible refine (fairwaylaw11_num.calls t515 t526 _ A62.out).mono ?_); rintro e w' ⟨rfl, ⟨nd, rfl⟩⟩; refine ⟨_, rfl, ?_⟩))
                go_ret
                exact ⟨er, bo⟩
            ·rw [if_neg c41] at H
             exact absurd H (by simp)
           ·rw [if_neg c40] at H
            have c40b0 : decide (x7_4 < (x5_27.length : Int)) = false := decide_eq_false c40
            clear c40
            replace H := Option.bind_eq_some_iff.mp H
            obtain ⟨t508, A810, H⟩ := H
            replace H : (some t508) = some r := H
            have A81 := Aside0.mk A810
            clear A810
            obtain rfl := Option.some.inj H
            obtain ⟨Ao82, co82, eo82⟩ := Kd.R_slice HO_5.out
            subst eo82
            go_wp2_with (first | ((with_reducible refine gate_callee (f := 37) rfl ?_); refine goesL_ (some 112) rfl rfl Try.func37 (by kernel_rfl) rfl #[] rfl aa ?_; (with_reducible refine (fairwaylaw11_wakes.calls k4  t508 _ A81.out).mono ?_); rintro e w83 ⟨rfl, hb⟩; refine ⟨_, rfl, ?_⟩; replace HO_5 := Aside0.mk (Kd.R_below (rk HO_5.out) hb); replace BK495 := Aside0.mk (blk_below (g := gb495) (o := .cells #[.int .i64 a0_0, .slice A0_1 l0_1.length c0_1, .slice A0_2 l0_2.length c0_2, .slice A0_3 l0_3.length c0_3, .string a0_4] 55 (0, 0)) (bk BK495.out) hb); replace HB := Aside0.mk (below_step bo hb); (try clear hb); (try clear hb2); (try clear hk); (try clear hi)))
            go_ret
            exact ⟨er, bo⟩

end Go.Proofs.Ytmabdfdmccbfnaa.P

/- From data to typed values: whatever the claim's reader reads at a type is told by the print's kinds, with the bounds of the reach. -/
namespace Go.Proofs.Ytmabdfdmccbfnaa.Open
open Go.RowKit Go.Proofs.YtmabdfdmccbfnaaW.PrintWords Go.Proofs.YtmabdfdmccbfnaaW.PrintLast
set_option linter.unusedVariables false

/-- What is read at type t is told by kind k, and is good. -/
structure Rd {α : Type} (P : Program) (t : TypeId) (k : Kd α) (good : α → Prop) : Prop where
  sz : P.cellsOf t = k.sz
  rd : ∀ {H : Type} (enc : TypeId × Value → H) (w : World) (fuel : Nat) (cs : List Value) (d : DataW H) (ps : List MemPlace),
    DataW.trod enc P w 0 (fun _ => true) true fuel t cs = some (d, ps) → (∀ n ∈ d.weights P t, n ≤ reachBytes) → ∃ x, k.K w x cs ∧ good x

theorem rd_int {P : Program} {t : TypeId} {k : IntKind} (hu : P.underlying t = some (.int k)) (hc : P.cellsOf t = 1) : Rd P t (Kd.int k) (fun n => (Lit.int k n).wf = true) where
  sz := hc
  rd := by
    intro H enc w fuel cs d ps h _
    obtain ⟨n, rfl, _, hw⟩ := DataW.trod_int hu h
    exact ⟨n, rfl, hw⟩

theorem rd_bool {P : Program} {t : TypeId} (hu : P.underlying t = some .bool) (hc : P.cellsOf t = 1) : Rd P t Kd.bool (fun _ => True) where
  sz := hc
  rd := by
    intro H enc w fuel cs d ps h _
    obtain ⟨b, rfl, _⟩ := DataW.trod_bool hu h
    exact ⟨b, rfl, trivial⟩

theorem rd_string {P : Program} {t : TypeId} (hu : P.underlying t = some .string) (hc : P.cellsOf t = 1) : Rd P t Kd.string (fun s => s.size ≤ 140737488351232) where
  sz := hc
  rd := by
    intro H enc w fuel cs d ps h hw
    obtain ⟨s, rfl, hx, _⟩ := DataW.trod_string hu h
    obtain ⟨rfl, rfl⟩ := Prod.mk.inj hx
    refine ⟨s, rfl, ?_⟩
    have := hw s.data.toList.length (by simp [DataW.weights])
    simpa [reachBytes] using this

/-- A struct's fields, from one on: their cells in line. -/
structure Fs {α : Type} (P : Program) (fs : List Field) (off : Nat) (k : Kd α) (good : α → Prop) : Prop where
  rd : ∀ {H : Type} (enc : TypeId × Value → H) (w : World) (fuel : Nat) (cs : List Value) (ds : List (DataW H × List MemPlace)),
    ds.length = fs.length → (∀ (i : Nat) f, fs[i]? = some f → DataW.trod enc P w 0 (fun _ => true) true fuel f.type ((cs.drop f.offset).take (P.cellsOf f.type)) = ds[i]?) →
    (∀ n ∈ DataW.weightsEach P (fs.map (·.type)) (ds.map (·.1)), n ≤ reachBytes) → cs.length = off + k.sz → ∃ x, k.K w x (cs.drop off) ∧ good x

theorem fs_last {α : Type} {P : Program} {f : Field} {k : Kd α} {good : α → Prop} (h : Rd P f.type k good) : Fs P [f] f.offset k good where
  rd := by
    intro H enc w fuel cs ds hl hd hw hc
    match ds, hl with
    | [y], _ =>
      have h0 := hd 0 f rfl
      simp only [List.getElem?_cons_zero] at h0
      obtain ⟨x, hk, hg⟩ := h.rd enc w fuel _ y.1 y.2 h0 (fun n hn => hw n (by simp [DataW.weightsEach]; exact hn))
      rw [h.sz, List.take_of_length_le (by rw [List.length_drop]; omega)] at hk
      exact ⟨x, hk, hg⟩

theorem fs_cons {α β : Type} {P : Program} {f : Field} {fs : List Field} {off : Nat} {k : Kd α} {k' : Kd β} {good : α → Prop} {good' : β → Prop} (h : Rd P f.type k good) (hs : Fs P fs off k' good')
    (ho : f.offset + k.sz = off) : Fs P (f :: fs) f.offset (Kd.pair k k') (fun x => good x.1 ∧ good' x.2) where
  rd := by
    intro H enc w fuel cs ds hl hd hw hc
    match ds, hl with
    | y :: ys, hl =>
      have hsz : (Kd.pair k k').sz = k.sz + k'.sz := rfl
      rw [hsz] at hc
      have h0 := hd 0 f rfl
      simp only [List.getElem?_cons_zero] at h0
      obtain ⟨x, hk, hg⟩ := h.rd enc w fuel _ y.1 y.2 h0 (fun n hn => hw n (by simp only [List.map_cons, DataW.weightsEach, List.mem_append]; exact .inl hn))
      obtain ⟨x', hk', hg'⟩ := hs.rd enc w fuel cs ys (by simpa using hl) (fun i g hi => by simpa using hd (i + 1) g (by simpa using hi))
        (fun n hn => hw n (by simp only [List.map_cons, DataW.weightsEach, List.mem_append]; exact .inr hn)) (by omega)
      rw [h.sz] at hk
      refine ⟨(x, x'), ⟨_, _, ?_, hk, hk'⟩, hg, hg'⟩
      rw [← ho, ← List.drop_drop, List.take_append_drop]

theorem rd_struct {α β : Type} {P : Program} {t : TypeId} {fs : Array Field} {k : Kd β} {good : β → Prop} {fw : α → β} {back : β → α} (hu : P.underlying t = some (.struct fs)) (h : Fs P fs.toList 0 k good)
    (hc : P.cellsOf t = k.sz) (hb : ∀ y, fw (back y) = y) : Rd P t (Kd.iso k fw) (fun x => good (fw x)) where
  sz := hc
  rd := by
    intro H enc w fuel cs d ps hr hw
    obtain ⟨xs, n, _, hx, hl, hlen, hf⟩ := DataW.trod_struct hu hr
    obtain ⟨rfl, rfl⟩ := Prod.mk.inj hx
    obtain ⟨x, hk, hg⟩ := h.rd enc w n cs xs (by simpa using hlen) (fun i f hi => by simpa using hf i f (by simpa using hi))
      (fun m hm => hw m (by simp only [DataW.weights, hu]; exact hm)) (by rw [hl, hc]; omega)
    refine ⟨back x, ?_, ?_⟩
    · show k.K w (fw (back x)) cs
      rw [hb]
      simpa using hk
    · show good (fw (back x))
      rw [hb]; exact hg

theorem list_of {α : Type} {p : Nat → α → Prop} : ∀ n, (∀ i, i < n → ∃ x, p i x) → ∃ xs : List α, xs.length = n ∧ ∀ i x, xs[i]? = some x → p i x
  | 0, _ => ⟨[], rfl, fun i x h => by simp at h⟩
  | n + 1, h => by
    obtain ⟨xs, hl, hx⟩ := list_of n (fun i hi => h i (by omega))
    obtain ⟨y, hy⟩ := h n (by omega)
    refine ⟨xs ++ [y], by simp [hl], fun i x hi => ?_⟩
    by_cases hin : i < xs.length
    · rw [List.getElem?_append_left hin] at hi
      exact hx i x hi
    · rw [List.getElem?_append_right (by omega)] at hi
      have : i = xs.length := by
        by_cases e : i - xs.length = 0
        · omega
        · rw [List.getElem?_eq_none (by simp; omega)] at hi
          exact absurd hi (by simp)
      subst this
      simp at hi
      rw [hl, ← hi]
      exact hy

theorem weights_all {H : Type} {P : Program} {e : TypeId} : ∀ {l : List (DataW H)} {d : DataW H}, d ∈ l → ∀ n ∈ d.weights P e, n ∈ DataW.weightsAll P e l
  | [], _, h, _, _ => by simp at h
  | x :: l, d, h, n, hn => by
    simp only [DataW.weightsAll, List.mem_append]
    rcases List.mem_cons.1 h with rfl | h
    · exact .inl hn
    · exact .inr (weights_all h n hn)

theorem rd_slice {α : Type} {P : Program} {t e : TypeId} {k : Kd α} {good : α → Prop} (B : Nat) (hu : P.underlying t = some (.slice e)) (hc : P.cellsOf t = 1) (hB : P.bytesOf e = B) (h : Rd P e k good) :
    Rd P t (Kd.slice e k) (fun xs => (∀ x ∈ xs, good x) ∧ xs.length * B ≤ 140737488351232) where
  sz := hc
  rd := by
    intro H enc w fuel cs d ps hr hw
    rcases DataW.trod_slice hu hr with ⟨rfl, hx⟩ | ⟨a, len, cap, elems, rest, n, _, rfl, hx, _, hl, hm, hlen, hel, _, _⟩
    · exact ⟨[], ⟨none, 0, rfl, Nat.le_refl 0, Kd.C_nil k w⟩, by simp, by simp⟩
    · obtain ⟨rfl, rfl⟩ := Prod.mk.inj hx
      have hw1 : ∀ x ∈ elems, ∀ n ∈ x.1.weights P e, n ≤ reachBytes := fun x hx n hn =>
        hw n (by simp only [DataW.weights, hu, List.mem_cons, List.mem_append]; exact .inr (.inl (weights_all (List.mem_map_of_mem hx) n hn)))
      have hw2 : (elems.length + rest.length) * P.bytesOf e ≤ reachBytes := hw _ (by simp only [DataW.weights, hu, List.mem_cons, List.length_map]; simp)
      have key : ∀ i, i < len → ∃ x, good x ∧ ∃ c, c.length = k.sz ∧ k.K w x c ∧ ∀ j u, c[j]? = some u → w.cell? (a.add (i * k.sz + j)) = some u := by
        intro i hi
        have h1 := hel i hi
        rw [List.getElem?_eq_getElem (by omega)] at h1
        obtain ⟨c, hcs, htr⟩ := Option.bind_eq_some_iff.1 h1
        obtain ⟨x, hk, hg⟩ := h.rd enc w n c _ _ htr (hw1 _ (List.getElem_mem _))
        obtain ⟨_, hcl, hcell⟩ := World.cells?_some hcs
        rw [h.sz] at hcl hcell
        refine ⟨x, hg, c, hcl, hk, fun j u hu => ?_⟩
        have hj : j < k.sz := by
          rw [← hcl]
          exact (List.getElem?_eq_some_iff.1 hu).1
        rw [← Go.Deep.add_add, hcell j hj, hu]
      obtain ⟨xs, hxl, hxs⟩ := list_of (α := α) len key
      subst hxl
      refine ⟨xs, ⟨some a, cap, rfl, hl, rfl, by unfold maxLen at hm; omega, fun _ => ⟨a, rfl, fun j p hp => ?_⟩⟩, fun x hx => ?_, ?_⟩
      · obtain ⟨_, c, h1, h2, h3⟩ := hxs j p hp
        exact ⟨c, h1, h2, h3⟩
      · obtain ⟨i, hi, rfl⟩ := List.mem_iff_getElem.1 hx
        exact (hxs i _ (List.getElem?_eq_getElem hi)).1
      · have : xs.length * P.bytesOf e ≤ (elems.length + rest.length) * P.bytesOf e := Nat.mul_le_mul_right _ (by omega)
        unfold reachBytes at hw2
        rw [hB] at hw2 this
        omega
end Go.Proofs.Ytmabdfdmccbfnaa.Open

/- Readers of the types that this seat's laws take. -/
namespace Go.Proofs.Ytmabdfdmccbfnaa.P
open Go.RowKit Go.Proofs.YtmabdfdmccbfnaaW.PrintWords Go.Proofs.YtmabdfdmccbfnaaW.PrintLast Go.Proofs.Ytmabdfdmccbfnaa.Open
set_option linter.unusedVariables false
def good25 (x : S25) : Prop := (Lit.int .i64 x.f0).wf = true ∧ (Lit.int .i64 x.f1).wf = true ∧ x.f2.size ≤ 140737488351232 ∧ x.f3.size ≤ 140737488351232 ∧ (Lit.int .i64 x.f4).wf = true ∧ True
theorem rd25 : Rd Try.prog 25 k25 good25 := rd_struct (back := fun y => ⟨y.1, y.2.1, y.2.2.1, y.2.2.2.1, y.2.2.2.2.1, y.2.2.2.2.2⟩) Try.underlying25 (fs_cons (rd_int Try.underlying3 (by kernel_rfl)) (fs_cons (rd_int Try.underlying3 (by kernel_rfl)) (fs_cons (rd_string Try.underlying9 (by kernel_rfl)) (fs_cons (rd_string Try.underlying9 (by kernel_rfl)) (fs_cons (rd_int Try.underlying3 (by kernel_rfl)) (fs_last (rd_bool Try.underlying4 (by kernel_rfl))) rfl) rfl) rfl) rfl) rfl) (by kernel_rfl) (fun _ => rfl)
def good38 (x : S38) : Prop := ((∀ z ∈ x.f0, good25 z) ∧ x.f0.length * 64 ≤ 140737488351232) ∧ x.f1.size ≤ 140737488351232
theorem rd38 : Rd Try.prog 38 k38 good38 := rd_struct (back := fun y => ⟨y.1, y.2⟩) Try.underlying38 (fs_cons (rd_slice 64 Try.underlying36 (by kernel_rfl) (by kernel_rfl) rd25) (fs_last (rd_string Try.underlying9 (by kernel_rfl))) rfl) (by kernel_rfl) (fun _ => rfl)
def good53 (x : S53) : Prop := (Lit.int .i64 x.f0).wf = true ∧ ((∀ z ∈ x.f1, good25 z) ∧ x.f1.length * 64 ≤ 140737488351232)
theorem rd53 : Rd Try.prog 53 k53 good53 := rd_struct (back := fun y => ⟨y.1, y.2⟩) Try.underlying53 (fs_cons (rd_int Try.underlying3 (by kernel_rfl)) (fs_last (rd_slice 64 Try.underlying36 (by kernel_rfl) (by kernel_rfl) rd25)) rfl) (by kernel_rfl) (fun _ => rfl)
structure S55 where
  f0 : S53
  f1 : List (S25)
  f2 : List (Int)
  f3 : ByteArray
def k55 : Kd S55 := Kd.iso (Kd.pair k53 (Kd.pair (Kd.slice 25 k25) (Kd.pair (Kd.slice 3 (Kd.int .i64)) Kd.string))) (fun x : S55 => (x.f0, x.f1, x.f2, x.f3))
def good55 (x : S55) : Prop := good53 x.f0 ∧ ((∀ z ∈ x.f1, good25 z) ∧ x.f1.length * 64 ≤ 140737488351232) ∧ ((∀ z ∈ x.f2, (Lit.int .i64 z).wf = true) ∧ x.f2.length * 8 ≤ 140737488351232) ∧ x.f3.size ≤ 140737488351232
theorem rd55 : Rd Try.prog 55 k55 good55 := rd_struct (back := fun y => ⟨y.1, y.2.1, y.2.2.1, y.2.2.2⟩) Try.underlying55 (fs_cons rd53 (fs_cons (rd_slice 64 Try.underlying36 (by kernel_rfl) (by kernel_rfl) rd25) (fs_cons (rd_slice 8 Try.underlying50 (by kernel_rfl) (by kernel_rfl) (rd_int Try.underlying3 (by kernel_rfl))) (fs_last (rd_string Try.underlying9 (by kernel_rfl))) rfl) rfl) rfl) (by kernel_rfl) (fun _ => rfl)
end Go.Proofs.Ytmabdfdmccbfnaa.P

/- Records: which may be, how many bytes they have. -/
namespace Go.Proofs.Ytmabdfdmccbfnaa.URec
open Go Go.RowKit Go.Proofs.Ytmabdfdmccbfnaa.P Go.Proofs.YtmabdfdmccbfnaaW.PrintWords Go.Proofs.YtmabdfdmccbfnaaW.PrintLast
set_option linter.unusedVariables false
set_option linter.unusedSimpArgs false

abbrev R := S25
/-- A record that may be. -/
def recOk (r : R) : Prop := 0 ≤ r.f0 ∧ r.f0 < 1099511627776 ∧ 0 ≤ r.f1 ∧ r.f1 ≤ 1099511627776 ∧ r.f2.size ≤ 1024 ∧ r.f3.size ≤ 1024 ∧ 0 ≤ r.f4 ∧ r.f4 ≤ 2 ∧ (r.f5 = true → r.f3.toList = [])

theorem check_yes (r : R) (h : recOk r) : Ev (fun k => rec_Check.f k r.f0 r.f1 r.f2 r.f3 r.f4 r.f5) 0 := by
  obtain ⟨h0, h1, h2, h3, h4, h5, h6, h7, h8⟩ := h
  refine Ev.step (f := fun _ => some 0) (fun k => ?_) (Ev.now _)
  simp only [rec_Check.f, rec_Check.j0]
  rw [if_neg (by omega), if_neg (by omega), if_neg (by omega), if_neg (by omega), if_neg (by omega), if_neg (by simp; omega), if_neg (by omega), if_neg (by omega)]
  split
  · rename_i hg
    rw [if_pos (h8 hg)]
  · rfl
theorem check_no (r : R) (h : ¬ recOk r) : Ev (fun k => rec_Check.f k r.f0 r.f1 r.f2 r.f3 r.f4 r.f5) 1 := by
  refine Ev.step (f := fun _ => some 1) (fun k => ?_) (Ev.now _)
  simp only [rec_Check.f, rec_Check.j0]
  by_cases h0 : r.f0 < 0
  · rw [if_pos h0]; rfl
  rw [if_neg h0]
  by_cases h1 : r.f0 ≥ 1099511627776
  · rw [if_pos h1]; rfl
  rw [if_neg h1]
  by_cases h2 : r.f1 < 0
  · rw [if_pos h2]; rfl
  rw [if_neg h2]
  by_cases h3 : r.f1 > 1099511627776
  · rw [if_pos h3]; rfl
  rw [if_neg h3]
  by_cases h4 : r.f4 < 0
  · rw [if_pos h4]; rfl
  rw [if_neg h4]
  by_cases h5 : r.f4 > 2
  · rw [if_pos (by simpa using h5)]
  rw [if_neg (by simpa using h5)]
  by_cases h6 : (r.f2.size : Int) > 1024
  · rw [if_pos h6]
  rw [if_neg h6]
  by_cases h7 : (r.f3.size : Int) > 1024
  · rw [if_pos h7]
  rw [if_neg h7]
  by_cases h8 : r.f5 = true
  · rw [if_pos h8]
    by_cases h9 : r.f3.toList = []
    · exact absurd ⟨by omega, by omega, by omega, by omega, by omega, by omega, by omega, by omega, fun _ => h9⟩ h
    · rw [if_neg h9]
  · exact absurd ⟨by omega, by omega, by omega, by omega, by omega, by omega, by omega, by omega, fun g => absurd g h8⟩ h

theorem num_f (a b : Int) : fairwayref0_Num.f a b = some (decide (0 ≤ a ∧ a ≤ b)) := by
  unfold fairwayref0_Num.f
  by_cases h : a ≥ 0
  · rw [if_pos h]; congr 1; simp; omega
  · rw [if_neg h]; congr 1; symm; simp; omega

theorem rec_yes (r : R) (h : recOk r) : fairwayref10_Rec.f r.f0 r.f1 r.f2 r.f3 r.f4 r.f5 = some true := by
  obtain ⟨h0, h1, h2, h3, h4, h5, h6, h7, h8⟩ := h
  unfold fairwayref10_Rec.f
  simp only [num_f, Option.bind_some]
  rw [if_pos (by simp; omega), if_pos (by simp; omega), if_pos (by omega), if_pos (by omega), if_pos (by simp; omega)]
  split
  · rename_i hg
    rw [h8 hg]; rfl
  · rfl
theorem rec_no (r : R) (h : ¬ recOk r) : fairwayref10_Rec.f r.f0 r.f1 r.f2 r.f3 r.f4 r.f5 = some false := by
  unfold fairwayref10_Rec.f
  simp only [num_f, Option.bind_some]
  by_cases h0 : 0 ≤ r.f0 ∧ r.f0 ≤ 1099511627775
  · rw [if_pos (by simpa using h0)]
    by_cases h1 : 0 ≤ r.f1 ∧ r.f1 ≤ 1099511627776
    · rw [if_pos (by simpa using h1)]
      by_cases h2 : (r.f2.size : Int) ≤ 1024
      · rw [if_pos h2]
        by_cases h3 : (r.f3.size : Int) ≤ 1024
        · rw [if_pos h3]
          by_cases h4 : 0 ≤ r.f4 ∧ r.f4 ≤ 2
          · rw [if_pos (by simpa using h4)]
            by_cases h8 : r.f5 = true
            · rw [if_pos h8]
              by_cases h9 : r.f3.toList = []
              · exact absurd ⟨by omega, by omega, by omega, by omega, by omega, by omega, by omega, by omega, fun _ => h9⟩ h
              · simpa using h9
            · exact absurd ⟨by omega, by omega, by omega, by omega, by omega, by omega, by omega, by omega, fun g => absurd g h8⟩ h
          · rw [if_neg (by simpa using h4)]
        · rw [if_neg h3]
      · rw [if_neg h2]
    · rw [if_neg (by simpa using h1)]
  · rw [if_neg (by simpa using h0)]

/-- How many bytes a record has. -/
def recLen (r : R) : Nat := 25 + r.f2.size + r.f3.size
theorem wrap_in {x : Int} (h0 : -9223372036854775808 ≤ x) (h1 : x ≤ 9223372036854775807) : wrap64 x = x := by
  unfold wrap64; omega
theorem size_yes (r : R) (h : recOk r) : Ev (fun k => rec_Size.f k r.f0 r.f1 r.f2 r.f3 r.f4 r.f5) ((recLen r : Int), 0) := by
  obtain ⟨h0, h1, h2, h3, h4, h5, h6, h7, h8⟩ := id h
  refine Ev.bind (check_yes r h) (Ev.congr (f := fun _ => some ((recLen r : Int), 0)) (fun k => ?_) (Ev.now _))
  simp only [if_pos]
  rw [wrap_in (x := 25 + (r.f2.size : Int)) (by omega) (by omega), wrap_in (by omega) (by omega)]
  simp [recLen]
theorem size_no (r : R) (h : ¬ recOk r) : Ev (fun k => rec_Size.f k r.f0 r.f1 r.f2 r.f3 r.f4 r.f5) (0, 1) := by
  refine Ev.bind (check_no r h) (Ev.congr (f := fun _ => some (0, 1)) (fun k => ?_) (Ev.now _))
  rw [if_neg (by decide)]

theorem rd_take (l : List R) (n i : Nat) (h : i < n) : rd_T25 (l.take n) i = rd_T25 l i := by
  unfold rd_T25
  simp [List.getD_eq_getElem?_getD, List.getElem?_take, h]
theorem rd_mem {l : List R} {i : Nat} (h : i < l.length) : rd_T25 l i ∈ l := by
  unfold rd_T25
  simp [List.getD_eq_getElem?_getD, List.getElem?_eq_getElem h]
theorem rd_get {l : List R} {i : Nat} (h : i < l.length) : rd_T25 l i = l[i] := by
  unfold rd_T25
  simp [List.getD_eq_getElem?_getD, List.getElem?_eq_getElem h]
end Go.Proofs.Ytmabdfdmccbfnaa.URec

/- Weights: how much of a script is played. -/
namespace Go.Proofs.Ytmabdfdmccbfnaa.UHeavy
open Go Go.RowKit Go.Proofs.Ytmabdfdmccbfnaa.P Go.Proofs.Ytmabdfdmccbfnaa.URec Go.Proofs.YtmabdfdmccbfnaaW.PrintWords Go.Proofs.YtmabdfdmccbfnaaW.PrintLast
set_option linter.unusedVariables false
set_option linter.unusedSimpArgs false

/-- The letters of records. -/
def letters : List R → Nat
  | [] => 0
  | r :: l => r.f2.size + r.f3.size + letters l
theorem letters_take (l : List R) (i : Nat) (h : i < l.length) : letters (l.take (i + 1)) = letters (l.take i) + (rd_T25 l i).f2.size + (rd_T25 l i).f3.size := by
  rw [rd_get h]
  induction l generalizing i with
  | nil => simp at h
  | cons r l ih =>
    cases i with
    | zero => simp [letters]
    | succ i =>
      have := ih i (by simpa using h)
      simp [letters, this]; omega
theorem letters_mem {l : List R} {r : R} (h : r ∈ l) : r.f2.size + r.f3.size ≤ letters l := by
  induction l with
  | nil => simp at h
  | cons x l ih =>
    simp only [letters]
    rcases List.mem_cons.1 h with rfl | h
    · omega
    · have := ih h; omega

theorem weight_loop (l : List R) (hl : l.length * 64 ≤ 140737488351232) (hg : ∀ x ∈ l, good25 x) : ∀ (d i : Nat) (x : Nat), l.length = i + d → x = l.length + letters (l.take i) → x ≤ 562949953421312 →
    ∃ n : Nat, Ev (fun k => fairwaylaw0_RecsWeight.l0 k l x i) (n : Int) ∧ n ≤ 562949953421312 ∧ (n < 1048576 → n = l.length + letters l)
  | 0, i, x, h, hx, hm => by
    refine ⟨x, Ev.step (f := fun _ => some _) (fun k => ?_) (Ev.now _), hm, fun _ => ?_⟩
    · simp only [fairwaylaw0_RecsWeight.l0]
      rw [if_neg (by omega)]
    · rw [hx, List.take_of_length_le (by omega)]
  | d + 1, i, x, h, hx, hm => by
    have hi : i < l.length := by omega
    by_cases hs : x < 1048576
    · have hgi := hg _ (rd_mem hi)
      obtain ⟨g0, g1, g2, g3, g4⟩ := hgi
      obtain ⟨n, hn, h1, h2⟩ := weight_loop l hl hg d (i + 1) (x + (rd_T25 l i).f2.size + (rd_T25 l i).f3.size) (by omega) (by rw [letters_take l i hi]; omega) (by omega)
      refine ⟨n, Ev.step (fun k => ?_) hn, h1, h2⟩
      simp only [fairwaylaw0_RecsWeight.l0]
      rw [if_pos (by omega), if_pos (by omega), if_pos (by omega), wrap_in (x := (x : Int) + ((rd_T25 l i).f2.size : Int)) (by omega) (by omega), wrap_in (by omega) (by omega), wrap_in (by omega) (by omega)]
      rfl
    · refine ⟨x, Ev.step (f := fun _ => some _) (fun k => ?_) (Ev.now _), hm, fun h => absurd h hs⟩
      simp only [fairwaylaw0_RecsWeight.l0]
      rw [if_pos (by omega), if_neg (by omega)]
theorem weight_ev (l : List R) (hl : l.length * 64 ≤ 140737488351232) (hg : ∀ x ∈ l, good25 x) :
    ∃ n : Nat, Ev (fun k => fairwaylaw0_RecsWeight.f k l) (n : Int) ∧ n ≤ 562949953421312 ∧ (n < 1048576 → n = l.length + letters l) :=
  weight_loop l hl hg l.length 0 l.length (by omega) (by simp [letters]) (by omega)

theorem heavy_ev (base : Int) (g l : List R) (ns : List Int) (s : ByteArray) (hg : ∀ x ∈ g, good25 x) (hg2 : g.length * 64 ≤ 140737488351232) (hl : ∀ x ∈ l, good25 x) (hl2 : l.length * 64 ≤ 140737488351232) :
    ∃ b, Ev (fun k => fairwaylaw11_Heavy.f k base g l ns s) b ∧ (b = false → g.length + letters g + (l.length + letters l) ≤ 8000 ∧ s.size ≤ 8000 ∧ ns.length ≤ 500) := by
  obtain ⟨n, h1, h2, h3⟩ := weight_ev g hg2 hg
  obtain ⟨m, k1, k2, k3⟩ := weight_ev l hl2 hl
  by_cases a : wrap64 ((n : Int) + (m : Int)) > 8000
  · exact ⟨true, Ev.bind h1 (Ev.bind k1 (Ev.congr (fun k => if_pos a) (Ev.now _))), fun e => by cases e⟩
  · have hw : (n : Int) + m ≤ 8000 := by rw [wrap_in (by omega) (by omega)] at a; omega
    by_cases b : (s.size : Int) > 8000
    · exact ⟨true, Ev.bind h1 (Ev.bind k1 (Ev.congr (fun k => if_neg a) (Ev.congr (fun k => if_pos b) (Ev.now _)))), fun e => by cases e⟩
    · refine ⟨_, Ev.bind h1 (Ev.bind k1 (Ev.congr (fun k => if_neg a) (Ev.congr (fun k => if_neg b) (Ev.now _)))), fun e => ?_⟩
      have := of_decide_eq_false e
      exact ⟨by rw [← h3 (by omega), ← k3 (by omega)]; omega, by omega, by omega⟩
end Go.Proofs.Ytmabdfdmccbfnaa.UHeavy

/- Segments: which may be: the program's answer and the page's are one. -/
namespace Go.Proofs.Ytmabdfdmccbfnaa.USeg
open Go Go.RowKit Go.Proofs.Ytmabdfdmccbfnaa.P Go.Proofs.Ytmabdfdmccbfnaa.URec Go.Proofs.YtmabdfdmccbfnaaW.PrintWords Go.Proofs.YtmabdfdmccbfnaaW.PrintLast
set_option linter.unusedVariables false
set_option linter.unusedSimpArgs false

/-- The record at a place may stand there. -/
def okAt (base : Int) (l : List R) (i : Nat) : Prop :=
  recOk (rd_T25 l i) ∧ base ≤ (rd_T25 l i).f0 ∧ (0 < i → (rd_T25 l (i - 1 : Nat)).f0 < (rd_T25 l i).f0 ∧ (rd_T25 l (i - 1 : Nat)).f1 ≤ (rd_T25 l i).f1)
/-- A segment that may be. -/
def segOk (base : Int) (l : List R) : Prop := 0 ≤ base ∧ base ≤ 1099511627776 ∧ l.length ≤ 200 ∧ ∀ i, i < l.length → okAt base l i

theorem segOk_rec {base : Int} {l : List R} (h : segOk base l) {i : Nat} (hi : i < l.length) : recOk (rd_T25 l i) := (h.2.2.2 i hi).1

theorem behind_yes (base : Int) (l : List R) (r : R) (h : recOk r) (hb : base ≤ r.f0) (hn : l.length < 200)
    (hp : 0 < l.length → (rd_T25 l (l.length - 1 : Nat)).f0 < r.f0 ∧ (rd_T25 l (l.length - 1 : Nat)).f1 ≤ r.f1) :
    Ev (fun k => seg_behind.f k base l r.f0 r.f1 r.f2 r.f3 r.f4 r.f5) true := by
  refine Ev.bind (check_yes r h) (Ev.congr (f := fun _ => some true) (fun k => ?_) (Ev.now _))
  rw [if_pos rfl, if_neg (by omega), if_neg (by omega)]
  by_cases h0 : (l.length : Int) = 0
  · rw [if_pos h0]
  · have hw : wrap64 ((l.length : Int) - 1) = ((l.length - 1 : Nat) : Int) := by rw [wrap_in (by omega) (by omega)]; omega
    obtain ⟨p0, p1⟩ := hp (by omega)
    rw [if_neg h0, hw, if_pos (by omega), if_pos (by omega), if_pos p0]
    simpa using p1
theorem behind_no (base : Int) (l : List R) (r : R) (hl : l.length ≤ 200) (h : ¬ (recOk r ∧ base ≤ r.f0 ∧ l.length < 200 ∧
    (0 < l.length → (rd_T25 l (l.length - 1 : Nat)).f0 < r.f0 ∧ (rd_T25 l (l.length - 1 : Nat)).f1 ≤ r.f1))) :
    Ev (fun k => seg_behind.f k base l r.f0 r.f1 r.f2 r.f3 r.f4 r.f5) false := by
  by_cases hr : recOk r
  · refine Ev.bind (check_yes r hr) (Ev.congr (f := fun _ => some false) (fun k => ?_) (Ev.now _))
    rw [if_pos rfl]
    by_cases hb : r.f0 < base
    · rw [if_pos hb]
    rw [if_neg hb]
    by_cases hn : (l.length : Int) ≥ 200
    · rw [if_pos hn]
    rw [if_neg hn]
    by_cases h0 : (l.length : Int) = 0
    · exact absurd ⟨hr, by omega, by omega, fun g => by omega⟩ h
    have hw : wrap64 ((l.length : Int) - 1) = ((l.length - 1 : Nat) : Int) := by rw [wrap_in (by omega) (by omega)]; omega
    rw [if_neg h0, hw, if_pos (by omega), if_pos (by omega)]
    by_cases p0 : (rd_T25 l (l.length - 1 : Nat)).f0 < r.f0
    · rw [if_pos p0]
      by_cases p1 : (rd_T25 l (l.length - 1 : Nat)).f1 ≤ r.f1
      · exact absurd ⟨hr, by omega, by omega, fun g => ⟨p0, p1⟩⟩ h
      · simpa using p1
    · rw [if_neg p0]
  · refine Ev.bind (check_no r hr) (Ev.congr (f := fun _ => some false) (fun k => ?_) (Ev.now _))
    rw [if_neg (by decide)]

theorem take_last (l : List R) (i : Nat) (h : i ≤ l.length) (h0 : 0 < i) : rd_T25 (l.take i) ((l.take i).length - 1 : Nat) = rd_T25 l (i - 1 : Nat) := by
  rw [List.length_take, Nat.min_eq_left h]
  exact rd_take l i (i - 1) (by omega)

theorem check_loop_yes (base : Int) (l : List R) (hl : l.length ≤ 200) (hok : ∀ i, i < l.length → okAt base l i) : ∀ (d i : Nat), l.length = i + d →
    Ev (fun k => seg_Check.l0 k l (l.length : Int) i base l) 0
  | 0, i, h => by
    refine Ev.step (f := fun _ => some 0) (fun k => ?_) (Ev.now _)
    simp only [seg_Check.l0]
    rw [if_neg (by omega)]
  | d + 1, i, h => by
    have hi : i < l.length := by omega
    obtain ⟨h1, h2, h3⟩ := hok i hi
    refine Ev.step (f := fun k => (seg_behind.f k base (l.take i) ((rd_T25 l i).f0) ((rd_T25 l i).f1) ((rd_T25 l i).f2) ((rd_T25 l i).f3) ((rd_T25 l i).f4) ((rd_T25 l i).f5)).bind fun t => if t = true then seg_Check.l0 k l (l.length : Int) (wrap64 (i + 1)) base l else some 1) (fun k => ?_) ?_
    · simp only [seg_Check.l0]
      rw [if_pos (by omega), if_pos (by omega), if_pos (by omega), if_pos (by omega), Int.toNat_natCast]
    · refine Ev.bind (behind_yes base (l.take i) (rd_T25 l i) h1 h2 (by rw [List.length_take]; omega) (fun g => ?_)) (Ev.congr (fun k => if_pos rfl) ?_)
      · have hi0 : 0 < i := by rw [List.length_take] at g; omega
        rw [take_last l i (by omega) hi0]
        exact h3 hi0
      · rw [wrap_in (by omega) (by omega)]
        exact check_loop_yes base l hl hok d (i + 1) (by omega)
theorem check_loop_no (base : Int) (l : List R) (j : Nat) (hj : j < l.length) (hj2 : j ≤ 200) (hbad : ¬ (okAt base l j ∧ j < 200)) (hok : ∀ i, i < j → okAt base l i) : ∀ (d i : Nat), j = i + d →
    Ev (fun k => seg_Check.l0 k l (l.length : Int) i base l) 1
  | 0, i, h => by
    obtain rfl : j = i := by omega
    refine Ev.step (f := fun k => (seg_behind.f k base (l.take j) ((rd_T25 l j).f0) ((rd_T25 l j).f1) ((rd_T25 l j).f2) ((rd_T25 l j).f3) ((rd_T25 l j).f4) ((rd_T25 l j).f5)).bind fun t => if t = true then seg_Check.l0 k l (l.length : Int) (wrap64 (j + 1)) base l else some 1) (fun k => ?_) ?_
    · simp only [seg_Check.l0]
      rw [if_pos (by omega), if_pos (by omega), if_pos (by omega), if_pos (by omega), Int.toNat_natCast]
    · refine Ev.bind (behind_no base (l.take j) (rd_T25 l j) (by rw [List.length_take]; omega) (fun g => hbad ?_)) (Ev.congr (f := fun _ => some 1) (fun k => if_neg (by decide)) (Ev.now _))
      obtain ⟨g1, g2, g3, g4⟩ := g
      rw [List.length_take, Nat.min_eq_left (by omega)] at g3
      refine ⟨⟨g1, g2, fun h0 => ?_⟩, g3⟩
      have := g4 (by rw [List.length_take]; omega)
      rw [take_last l j (by omega) h0] at this
      exact this
  | d + 1, i, h => by
    have hi : i < l.length := by omega
    obtain ⟨h1, h2, h3⟩ := hok i (by omega)
    refine Ev.step (f := fun k => (seg_behind.f k base (l.take i) ((rd_T25 l i).f0) ((rd_T25 l i).f1) ((rd_T25 l i).f2) ((rd_T25 l i).f3) ((rd_T25 l i).f4) ((rd_T25 l i).f5)).bind fun t => if t = true then seg_Check.l0 k l (l.length : Int) (wrap64 (i + 1)) base l else some 1) (fun k => ?_) ?_
    · simp only [seg_Check.l0]
      rw [if_pos (by omega), if_pos (by omega), if_pos (by omega), if_pos (by omega), Int.toNat_natCast]
    · refine Ev.bind (behind_yes base (l.take i) (rd_T25 l i) h1 h2 (by rw [List.length_take]; omega) (fun g => ?_)) (Ev.congr (fun k => if_pos rfl) ?_)
      · have hi0 : 0 < i := by rw [List.length_take] at g; omega
        rw [take_last l i (by omega) hi0]
        exact h3 hi0
      · rw [wrap_in (by omega) (by omega)]
        exact check_loop_no base l j hj hj2 hbad hok d (i + 1) (by omega)

theorem least {p : Nat → Prop} : ∀ n, (∃ i, i < n ∧ ¬ p i) → ∃ j, j < n ∧ ¬ p j ∧ ∀ i, i < j → p i
  | 0, ⟨i, h, _⟩ => by omega
  | n + 1, ⟨i, h, hp⟩ => by
    by_cases e : ∃ i, i < n ∧ ¬ p i
    · obtain ⟨j, h1, h2, h3⟩ := least n e
      exact ⟨j, by omega, h2, h3⟩
    · have e' : ∀ i, i < n → p i := fun i hi => Classical.byContradiction fun hn => e ⟨i, hi, hn⟩
      have : i = n := by
        by_cases hin : i < n
        · exact absurd (e' i hin) hp
        · omega
      subst this
      exact ⟨i, by omega, hp, e'⟩

theorem segcheck_yes (base : Int) (l : List R) (h : segOk base l) : Ev (fun k => seg_Check.f k base l) 0 := by
  obtain ⟨h0, h1, h2, h3⟩ := h
  refine Ev.step (f := fun k => seg_Check.l0 k l (l.length : Int) 0 base l) (fun k => ?_) (check_loop_yes base l h2 h3 l.length 0 (by omega))
  simp only [seg_Check.f, seg_Check.j0]
  rw [if_neg (by omega), if_neg (by simp; omega)]
theorem segcheck_no (base : Int) (l : List R) (h : ¬ segOk base l) : Ev (fun k => seg_Check.f k base l) 1 := by
  by_cases h0 : base < 0
  · refine Ev.step (f := fun _ => some 1) (fun k => ?_) (Ev.now _)
    simp only [seg_Check.f, seg_Check.j0]
    rw [if_pos h0]; rfl
  by_cases h1 : base > 1099511627776
  · refine Ev.step (f := fun _ => some 1) (fun k => ?_) (Ev.now _)
    simp only [seg_Check.f, seg_Check.j0]
    rw [if_neg h0, if_pos (by simpa using h1)]
  have hb : ∃ i, i < l.length ∧ ¬ (okAt base l i ∧ i < 200) := by
    refine Classical.byContradiction fun hn => h ⟨by omega, by omega, ?_, ?_⟩
    · by_cases hl : l.length ≤ 200
      · exact hl
      · exact absurd ⟨200, by omega, fun g => by omega⟩ hn
    · intro i hi
      exact Classical.byContradiction fun hc => hn ⟨i, hi, fun g => hc g.1⟩
  obtain ⟨j, hj, hbad, hok⟩ := least l.length hb
  have hj2 : j ≤ 200 := by
    by_cases e : j ≤ 200
    · exact e
    · have := (hok 200 (by omega)).2
      omega
  refine Ev.step (f := fun k => seg_Check.l0 k l (l.length : Int) 0 base l) (fun k => ?_) (check_loop_no base l j hj hj2 hbad (fun i hi => (hok i hi).1) j 0 (by omega))
  simp only [seg_Check.f, seg_Check.j0]
  rw [if_neg (by omega), if_neg (by simp; omega)]

/-! ### the page's own -/
theorem j2_no (base : Int) (l : List R) (i : Int) : Ev (fun k => fairwayref10_Seg.j2 k i true base l) false := by
  refine Ev.step (f := fun _ => some false) (fun k => ?_) (Ev.now _)
  simp only [fairwayref10_Seg.j2]
  rw [if_pos trivial]
theorem ref_step (base : Int) (l : List R) (hm : l.length ≤ 9223372036854775806) (i : Nat) (hi : i < l.length) (h : okAt base l i) {r : Bool} (hr : Ev (fun k => fairwayref10_Seg.l0 k ((i + 1 : Nat) : Int) base l) r) :
    Ev (fun k => fairwayref10_Seg.l0 k i base l) r := by
  obtain ⟨h1, h2, h3⟩ := h
  refine Ev.step (f := fun k => fairwayref10_Seg.j1 k i base l) (fun k => ?_) ?_
  · simp only [fairwayref10_Seg.l0]
    rw [if_pos (by omega)]
  · refine Ev.step (f := fun k => fairwayref10_Seg.j2 k i false base l) (fun k => ?_) ?_
    · simp only [fairwayref10_Seg.j1]
      rw [if_pos (by omega), if_pos (by omega), rec_yes _ h1]
      simp only [Option.bind_some]
      rw [if_pos trivial, if_neg (by omega)]
      by_cases h0 : (i : Int) > 0
      · obtain ⟨p0, p1⟩ := h3 (by omega)
        have hw : wrap64 ((i : Int) - 1) = ((i - 1 : Nat) : Int) := by rw [wrap_in (by omega) (by omega)]; omega
        rw [if_pos h0, hw, if_pos (by omega), if_pos (by omega), if_neg (by omega), decide_eq_false (by omega)]
      · rw [if_neg h0]
    · refine Ev.step (f := fun k => fairwayref10_Seg.l0 k ((i + 1 : Nat) : Int) base l) (fun k => ?_) hr
      simp only [fairwayref10_Seg.j2]
      rw [if_neg (by decide), wrap_in (by omega) (by omega)]
      rfl
theorem ref_stop (base : Int) (l : List R) (hm : l.length ≤ 9223372036854775806) (i : Nat) (hi : i < l.length) (h : ¬ okAt base l i) : Ev (fun k => fairwayref10_Seg.l0 k i base l) false := by
  refine Ev.step (f := fun k => fairwayref10_Seg.j1 k i base l) (fun k => ?_) ?_
  · simp only [fairwayref10_Seg.l0]
    rw [if_pos (by omega)]
  · refine Ev.step (f := fun k => fairwayref10_Seg.j2 k i true base l) (fun k => ?_) (j2_no base l i)
    simp only [fairwayref10_Seg.j1]
    rw [if_pos (by omega), if_pos (by omega)]
    by_cases h1 : recOk (rd_T25 l i)
    · rw [rec_yes _ h1]
      simp only [Option.bind_some]
      rw [if_pos trivial]
      by_cases h2 : (rd_T25 l i).f0 < base
      · rw [if_pos h2]
      rw [if_neg h2]
      by_cases h0 : (i : Int) > 0
      · have hw : wrap64 ((i : Int) - 1) = ((i - 1 : Nat) : Int) := by rw [wrap_in (by omega) (by omega)]; omega
        rw [if_pos h0, hw, if_pos (by omega), if_pos (by omega)]
        by_cases p0 : (rd_T25 l (i - 1 : Nat)).f0 ≥ (rd_T25 l i).f0
        · rw [if_pos p0]
        · rw [if_neg p0]
          by_cases p1 : (rd_T25 l (i - 1 : Nat)).f1 > (rd_T25 l i).f1
          · rw [decide_eq_true p1]
          · exact absurd ⟨h1, by omega, fun _ => ⟨by omega, by omega⟩⟩ h
      · exact absurd ⟨h1, by omega, fun g => by omega⟩ h
    · rw [rec_no _ h1]
      simp only [Option.bind_some]
      rw [if_neg (by decide)]
theorem ref_loop (base : Int) (l : List R) (hm : l.length ≤ 9223372036854775806) (n : Nat) (hn : n ≤ l.length) (hok : ∀ i, i < n → okAt base l i) {r : Bool} (hr : Ev (fun k => fairwayref10_Seg.l0 k n base l) r) : ∀ (d i : Nat), n = i + d →
    Ev (fun k => fairwayref10_Seg.l0 k i base l) r
  | 0, i, h => by
    obtain rfl : n = i := by omega
    exact hr
  | d + 1, i, h => ref_step base l hm i (by omega) (hok i (by omega)) (ref_loop base l hm n hn hok hr d (i + 1) (by omega))
theorem ref_end (base : Int) (l : List R) : Ev (fun k => fairwayref10_Seg.l0 k l.length base l) (decide (0 ≤ base ∧ base ≤ 1099511627776) && decide (l.length ≤ 200)) := by
  refine Ev.step (f := fun _ => some _) (fun k => ?_) (Ev.now _)
  simp only [fairwayref10_Seg.l0]
  rw [if_neg (by omega), num_f]
  simp only [Option.bind_some]
  by_cases h : 0 ≤ base ∧ base ≤ 1099511627776
  · rw [if_pos (by simpa using h), decide_eq_true h]
    simp only [Bool.true_and, Option.some.injEq, decide_eq_decide]
    omega
  · rw [if_neg (by simpa using h), decide_eq_false h]
    rfl
theorem refseg_yes (base : Int) (l : List R) (h : segOk base l) : Ev (fun k => fairwayref10_Seg.f k base l) true := by
  obtain ⟨h0, h1, h2, h3⟩ := h
  have e := ref_end base l
  rw [decide_eq_true ⟨h0, h1⟩, decide_eq_true h2] at e
  exact ref_loop base l (by omega) l.length (Nat.le_refl _) h3 e l.length 0 (by omega)
theorem refseg_no (base : Int) (l : List R) (hm : l.length ≤ 9223372036854775806) (h : ¬ segOk base l) : Ev (fun k => fairwayref10_Seg.f k base l) false := by
  by_cases e : ∃ i, i < l.length ∧ ¬ okAt base l i
  · obtain ⟨j, hj, hbad, hok⟩ := least l.length e
    exact ref_loop base l hm j (by omega) hok (ref_stop base l hm j hj hbad) j 0 (by omega)
  · have e' : ∀ i, i < l.length → okAt base l i := fun i hi => Classical.byContradiction fun hn => e ⟨i, hi, hn⟩
    have z := ref_end base l
    have : (decide (0 ≤ base ∧ base ≤ 1099511627776) && decide (l.length ≤ 200)) = false := by
      rw [Bool.and_eq_false_iff]
      by_cases hb : 0 ≤ base ∧ base ≤ 1099511627776
      · right
        exact decide_eq_false fun hl => h ⟨hb.1, hb.2, hl, e'⟩
      · left
        exact decide_eq_false hb
    rw [this] at z
    exact ref_loop base l hm l.length (Nat.le_refl _) e' z l.length 0 (by omega)
end Go.Proofs.Ytmabdfdmccbfnaa.USeg

/- Segments with one record more; records copied; the segment that records begin with: the program's and the page's. -/
namespace Go.Proofs.Ytmabdfdmccbfnaa.UWith
open Go Go.RowKit Go.Proofs.Ytmabdfdmccbfnaa.P Go.Proofs.Ytmabdfdmccbfnaa.URec Go.Proofs.Ytmabdfdmccbfnaa.USeg Go.Proofs.YtmabdfdmccbfnaaW.PrintWords Go.Proofs.YtmabdfdmccbfnaaW.PrintLast
set_option linter.unusedVariables false
set_option linter.unusedSimpArgs false

theorem take_snoc (l : List R) (i : Nat) (hi : i < l.length) : l.take (i + 1) = l.take i ++ [rd_T25 l i] := by
  rw [rd_get hi]; exact List.take_succ_eq_append_getElem hi
theorem copyrecs_loop (l : List R) (hm : l.length < 2199023255552) : ∀ (d i : Nat), l.length = i + d → Ev (fun k => fairwayref0_CopyRecs.l0 k l (l.take i) i) l
  | 0, i, h => by
    refine Ev.step (fun k => by rw [fairwayref0_CopyRecs.l0, if_neg (by omega), List.take_of_length_le (by omega)]) (Ev.now _)
  | d + 1, i, h => by
    have ih := copyrecs_loop l hm d (i + 1) (by omega)
    have hw : wrap64 ((i : Int) + 1) = ((i + 1 : Nat) : Int) := by rw [wrap_in (by omega) (by omega)]; omega
    rw [take_snoc l i (by omega)] at ih
    exact Ev.step (fun k => by rw [fairwayref0_CopyRecs.l0, if_pos (by omega), if_pos (by omega), if_pos (by rw [List.length_take]; omega), hw]) ih
theorem copyrecs_ev (l : List R) (hm : l.length < 2199023255552) : Ev (fun k => fairwayref0_CopyRecs.f k l) l := copyrecs_loop l hm l.length 0 (by omega)
theorem copyseg_ev (b : Int) (l : List R) (hm : l.length < 2199023255552) : Ev (fun k => fairwayref0_CopySeg.f k b l) (b, l) := Ev.bind (copyrecs_ev l hm) (Ev.now _)
theorem with_ev (b : Int) (l : List R) (r : R) (hm : l.length < 2199023255552) : Ev (fun k => fairwayref10_With.f k b l r.f0 r.f1 r.f2 r.f3 r.f4 r.f5) (b, l ++ [r]) :=
  Ev.bind (copyseg_ev b l hm) (Ev.congr (fun k => if_pos hm) (Ev.now _))

theorem rd_left (l m : List R) (i : Nat) (h : i < l.length) : rd_T25 (l ++ m) i = rd_T25 l i := by
  rw [rd_get h, rd_get (by rw [List.length_append]; omega), List.getElem_append_left h]
theorem rd_last (l : List R) (r : R) : rd_T25 (l ++ [r]) (l.length : Nat) = r := by
  rw [rd_get (by simp)]; simp
theorem okAt_left (b : Int) (l m : List R) (i : Nat) (h : i < l.length) : okAt b (l ++ m) i ↔ okAt b l i := by
  unfold okAt
  rw [rd_left l m i h, rd_left l m (i - 1) (by omega)]
/-- What may stand behind records. -/
def canAdd (b : Int) (l : List R) (r : R) : Prop := recOk r ∧ b ≤ r.f0 ∧ l.length < 200 ∧ (0 < l.length → (rd_T25 l (l.length - 1 : Nat)).f0 < r.f0 ∧ (rd_T25 l (l.length - 1 : Nat)).f1 ≤ r.f1)
theorem segOk_snoc (b : Int) (l : List R) (r : R) : segOk b (l ++ [r]) ↔ segOk b l ∧ canAdd b l r := by
  constructor
  · rintro ⟨h0, h1, h2, h3⟩
    have hl : l.length < 200 := by rw [List.length_append] at h2; simp at h2; omega
    refine ⟨⟨h0, h1, by omega, fun i hi => (okAt_left b l [r] i hi).1 (h3 i (by rw [List.length_append]; omega))⟩, ?_⟩
    obtain ⟨a1, a2, a3⟩ := h3 l.length (by rw [List.length_append]; simp)
    rw [rd_last] at a1 a2 a3
    refine ⟨a1, a2, hl, fun hp => ?_⟩
    rw [rd_left l [r] (l.length - 1) (by omega)] at a3
    exact a3 hp
  · rintro ⟨⟨h0, h1, h2, h3⟩, a1, a2, a3, a4⟩
    refine ⟨h0, h1, by rw [List.length_append]; simp; omega, fun i hi => ?_⟩
    by_cases hil : i < l.length
    · exact (okAt_left b l [r] i hil).2 (h3 i hil)
    · have : i = l.length := by rw [List.length_append] at hi; simp at hi; omega
      subst this
      refine ⟨by rw [rd_last]; exact a1, by rw [rd_last]; exact a2, fun hp => ?_⟩
      rw [rd_last, rd_left l [r] (l.length - 1) (by omega)]
      exact a4 hp
theorem segOk_nil (b : Int) (h0 : 0 ≤ b) (h1 : b ≤ 1099511627776) : segOk b [] := ⟨h0, h1, by simp, fun i hi => by simp at hi⟩
theorem segOk_take (b : Int) (l : List R) (h : segOk b l) (n : Nat) : segOk b (l.take n) := by
  refine ⟨h.1, h.2.1, by have := h.2.2.1; rw [List.length_take]; omega, fun i hi => ?_⟩
  rw [List.length_take] at hi
  have := h.2.2.2 i (by omega)
  rw [← List.take_append_drop n l] at this
  exact (okAt_left b (l.take n) (l.drop n) i (by rw [List.length_take]; omega)).1 this
theorem recLen_in (r : R) (h : recOk r) : recLen r ≤ 3000 := by obtain ⟨_, _, _, _, h4, h5, _⟩ := h; unfold recLen; omega
end Go.Proofs.Ytmabdfdmccbfnaa.UWith

-- written by a program of the proving session, out of the translation; Lean checks it
namespace Go.Proofs.Ytmabdfdmccbfnaa.P
open Go.RowKit Go.Proofs.Ytmabdfdmccbfnaa.Sq Go.Proofs.YtmabdfdmccbfnaaW.PrintWords Go.Proofs.YtmabdfdmccbfnaaW.PrintLast Go.Proofs.YtmabdfdmccbfnaaW.PrintMore
attribute [local go_sem] max2_int min2_int max_two min_two max_three min_three max_four min_four   -- for this text's walks alone
set_option linter.unusedVariables false
set_option linter.unusedSimpArgs false

/-! ### vbi_high: function 81 -/
mutual
def vbi_high.j0 : Nat → Int → Int → Bool → Option (ByteArray × Int)
 | 0, _, _, _ => none
 | k + 1, x0, x1, x16 => if x16 = true then (some ((⟨#[]⟩ : ByteArray), 2)) else (if 0 ≤ x1 then (if (x1 : Int).toNat ≤ 281474976710656 then ((some (List.replicate (x1 : Int).toNat 0 : List Int)).bind fun y102 => (vbi_high.l0 k x0 x1 y102 (y102.length : Int) 0)) else (none)) else (none))
def vbi_high.l0 : Nat → Int → Int → List Int → Int → Int → Option (ByteArray × Int)
 | 0, _, _, _, _, _ => none
 | k + 1, x0, x1, x6, x20, x21 => if x21 < x20 then (if 0 ≤ (wrap64 (8 * x21)) then (if 0 ≤ (wrap64 ((wrap64 (x1 - 1)) - x21)) then (if (wrap64 ((wrap64 (x1 - 1)) - x21)) < (x6.length : Int) then (vbi_high.l0 k x0 x1 (x6.set ((wrap64 ((wrap64 (x1 - 1)) - x21)) : Int).toNat ((shr .i64 x0 (wrap64 (8 * x21))) % 256)) x20 (wrap64 (x21 + 1))) else (none)) else (none)) else (none)) else (some (strOfNums x6, 0))
end
def vbi_high.f (k : Nat) (a0 : Int) (a1 : Int) : Option (ByteArray × Int) := if a0 < 0 then (vbi_high.j0 k a0 a1 true) else (if 0 ≤ (wrap64 (8 * a1)) then (vbi_high.j0 k a0 a1 ((shr .i64 a0 (wrap64 (8 * a1))) != 0)) else (none))
theorem vbi_high.mono_l : ∀ k, (∀ y0 y1 y2, LeO (vbi_high.j0 k y0 y1 y2) (vbi_high.j0 (k + 1) y0 y1 y2)) ∧ (∀ y0 y1 y2 y3 y4, LeO (vbi_high.l0 k y0 y1 y2 y3 y4) (vbi_high.l0 (k + 1) y0 y1 y2 y3 y4))
 | 0 => ⟨fun _ _ _ r h => by simp [vbi_high.j0] at h, fun _ _ _ _ _ r h => by simp [vbi_high.l0] at h⟩
 | k + 1 => by
  obtain ⟨ih0, ih1⟩ := vbi_high.mono_l k
  refine ⟨?_, ?_⟩
  ·intro y0 y1 y2
   unfold vbi_high.j0
   repeat' first
   | (with_reducible exact ih0 _ _ _)
   | (with_reducible exact ih1 _ _ _ _ _)
   | (with_reducible exact LeO.refl _)
   | (with_reducible exact LeO.none _)
   | (with_reducible refine LeO.ite ?_ ?_)
   | (with_reducible refine LeO.bind ?_ (fun _ => ?_))
   | exact ih0 _ _ _
   | exact ih1 _ _ _ _ _
   | exact LeO.none _
   | refine LeO.ite ?_ ?_
   | refine LeO.bind ?_ (fun _ => ?_)
  ·intro y0 y1 y2 y3 y4
   unfold vbi_high.l0
   repeat' first
   | (with_reducible exact ih0 _ _ _)
   | (with_reducible exact ih1 _ _ _ _ _)
   | (with_reducible exact LeO.refl _)
   | (with_reducible exact LeO.none _)
   | (with_reducible refine LeO.ite ?_ ?_)
   | (with_reducible refine LeO.bind ?_ (fun _ => ?_))
   | exact ih0 _ _ _
   | exact ih1 _ _ _ _ _
   | exact LeO.none _
   | refine LeO.ite ?_ ?_
   | refine LeO.bind ?_ (fun _ => ?_)
theorem vbi_high.mono : ∀ a0 a1 k, LeO (vbi_high.f k a0 a1) (vbi_high.f (k + 1) a0 a1) := by
 intro a0 a1 k
 obtain ⟨ih0, ih1⟩ := vbi_high.mono_l k
 unfold vbi_high.f
 repeat' first
  | (with_reducible exact ih0 _ _ _)
  | (with_reducible exact ih1 _ _ _ _ _)
  | (with_reducible exact LeO.refl _)
  | (with_reducible exact LeO.none _)
  | (with_reducible refine LeO.ite ?_ ?_)
  | (with_reducible refine LeO.bind ?_ (fun _ => ?_))
  | exact ih0 _ _ _
  | exact ih1 _ _ _ _ _
  | exact LeO.none _
  | refine LeO.ite ?_ ?_
  | refine LeO.bind ?_ (fun _ => ?_)
set_option maxHeartbeats 8000000 in
set_option maxRecDepth 100000 in
theorem vbi_high.calls (k : Nat) (a0 : Int) (a1 : Int) (r1 : ByteArray) (r2 : Int) (w : World) (h : vbi_high.f k a0 a1 = some (r1, r2)) :
 Calls Try.prog 81 #[.int .i64 a0, .int .i64 a1] w fun e w' => e = .returned (.tuple #[.string r1, .int .i64 r2]) ∧ Below w.heap.size w w' := by
 have HB := Aside0.mk (Below.refl w.heap.size w)
 have H : (if a0 < 0 then (vbi_high.j0 k a0 a1 true) else (if 0 ≤ (wrap64 (8 * a1)) then (vbi_high.j0 k a0 a1 ((shr .i64 a0 (wrap64 (8 * a1))) != 0)) else (none))) = some (r1, r2) := h
 clear h
 have HC3 := Aside0.mk H
 clear H
 go_enter Try.func81, Try.ntmps81
 go_upto_region 1 with (fail)
 go_cut [16] (fun v16 wc => ∃ (kq : Nat) (x16_2 : Bool), v16 = .bool x16_2 ∧ Aside0 (vbi_high.j0 kq a0 a1 x16_2 = some (r1, r2)) ∧ Aside0 (kq ≤ k) ∧ Aside0 (Below w.heap.size w wc))
 case first =>
  have H := HC3.out
  clear HC3
  by_cases c4 : a0 < 0
  ·rw [if_pos c4] at H
   have c4b0 : decide (a0 < 0) = true := decide_eq_true c4
   clear c4
   (first | rw [c4b0] | (simp only [i64_w, i32_w]; rw [c4b0]) | skip)
   have H' := Aside0.mk H
   clear H
   go_wp2
   go_meet
   case rel => exact ⟨_, (true), ap, H', ⟨by first | omega | exact Nat.le_refl _⟩, ⟨bo⟩⟩
  ·rw [if_neg c4] at H
   have c4b0 : decide (a0 < 0) = false := decide_eq_false c4
   clear c4
   (first | rw [c4b0] | (simp only [i64_w, i32_w]; rw [c4b0]) | skip)
   obtain ⟨ji5, hji5⟩ : ∃ j_ : Int, (wrap64 (8 * a1)) = j_ := ⟨_, rfl⟩
   replace H : (if 0 ≤ (ji5) then (vbi_high.j0 k a0 a1 ((shr .i64 a0 (ji5)) != 0)) else (none)) = some (r1, r2) := by first | (rw [hji5] at H; exact H) | (simp only [hji5] at H ⊢; exact H)
   have hji5w : (IntKind.i64.wrap (8 * a1)) = ji5 := (i64_w _).trans hji5
   by_cases c6 : 0 ≤ (ji5)
   ·rw [if_pos c6] at H
    have c6b0 := eq_true c6
    have c6b1 : decide (0 ≤ (ji5)) = true := decide_eq_true c6
    clear c6
    obtain ⟨ji7, hji7⟩ : ∃ j_ : Int, (shr .i64 a0 (ji5)) = j_ := ⟨_, rfl⟩
    replace H : (vbi_high.j0 k a0 a1 ((ji7) != 0)) = some (r1, r2) := by first | (rw [hji7] at H; exact H) | (simp only [hji7] at H ⊢; exact H)
    have hji7_ : (a0 / 2 ^ min (ji5).toNat 64) = ji7 := hji7
    have hji7z : (ji5) ≤ 64 → (a0 / 2 ^ (ji5).toNat) = ji7 := shr_small hji7
    have H' := Aside0.mk H
    clear H
    go_wp2
    go_meet
    case rel => exact ⟨_, (((ji7) != 0)), (by first | rfl | (simp; done) | (simp only [← hji7] <;> (first | rfl | simp)) | (simp [*]; done)), H', ⟨by first | omega | exact Nat.le_refl _⟩, ⟨bo⟩⟩
   ·rw [if_neg c6] at H
    exact absurd H (by simp)
 case rest =>
  clear HC3
  try clear p2
  try clear c4
  try clear c4b0
  try clear c6
  try clear c6b0
  try clear c6b1
  try clear p6
  obtain ⟨kq, x16_2, rfl, HA, HJ2, HB⟩ := hcut
  cases kq with
  | zero => exact absurd HA.out (by simp [vbi_high.j0])
  | succ kj2 =>
   have H := HA.out
   clear HA
   simp only [vbi_high.j0] at H
   by_cases c8 : x16_2 = true
   ·subst c8
    have H1 : (some ((⟨#[]⟩ : ByteArray), 2)) = some (r1, r2) := by rw [if_pos rfl] at H; exact H
    clear H
    have H := H1
    clear H1
    simp only [Option.some.injEq, Prod.mk.injEq] at H
    obtain ⟨rfl, rfl⟩ := H
    go_wp2
    go_ret2
    exact ⟨er, bo⟩
   ·replace c8 := Bool.eq_false_iff.mpr c8
    subst c8
    have H1 : (if 0 ≤ a1 then (if (a1 : Int).toNat ≤ 281474976710656 then ((some (List.replicate (a1 : Int).toNat 0 : List Int)).bind fun y102 => (vbi_high.l0 kj2 a0 a1 y102 (y102.length : Int) 0)) else (none)) else (none)) = some (r1, r2) := by rw [if_neg (show ¬ (false = true) by decide)] at H; exact H
    clear H
    have H := H1
    clear H1
    by_cases c9 : 0 ≤ a1
    ·rw [if_pos c9] at H
     have c9b0 := eq_true c9
     have c9b1 : decide (0 ≤ a1) = true := decide_eq_true c9
     clear c9
     by_cases c10 : (a1 : Int).toNat ≤ 281474976710656
     ·rw [if_pos c10] at H
      have c10b0 := eq_true c10
      have c10b1 : decide ((a1 : Int).toNat ≤ 281474976710656) = true := decide_eq_true c10
      clear c10
      obtain ⟨y102, hy102⟩ : ∃ y_ : List Int, y_ = (List.replicate (a1 : Int).toNat 0) := ⟨_, rfl⟩
      replace H : (vbi_high.l0 kj2 a0 a1 y102 (y102.length : Int) 0) = some (r1, r2) := by first | (rw [hy102]; with_reducible exact H) | (have H2_ := (Option.bind_some _ _).symm.trans H; rw [hy102]; with_reducible exact H2_) | (have H2_ := (Option.bind_some _ _).symm.trans H; with_reducible exact H2_) | with_reducible exact H | (rw [hy102]; exact H) | exact H
      have Ny102 := Aside0.mk hy102
      clear hy102
      have H' := Aside0.mk H
      clear H
      go_wp2_with (first | ((with_reducible refine gate_dst (N := 18) rfl ?_); refine Kd.R_make (Kd.int .u8) _ 5 rfl (N := 18) rfl 23 _ _ rfl a1 rfl rfl Try.underlying23 (.int .u8 0) 1 info5 rfl (by decide) (by omega) 0 (ok := fun _ => True) (okp := fun _ => True) rfl (fun _ hk => hk) trivial (od) (Nat.le_trans (Nat.mul_le_mul_right _ (od : a1.toNat ≤ 281474976710656)) (by omega)) (Below.refl _ _) (Nat.le_refl _) ?_; intro v103 w11 ho12 hb hg_ hnew_; clear hg_ hnew_; (first | rw [← Ny102.out] at ho12 | (simp only [Int.reduceToNat] at ho12; rw [← Ny102.out] at ho12)); have HO104 := Aside0.mk (Kd.R_lower ho12 (below_size bo)); replace HB := Aside0.mk (below_step bo hb); clear hb ho12; obtain ⟨Ao13, co13, eo13⟩ := Kd.R_slice HO104.out; subst eo13))
      go_loopg [21] kj2 (fun kq v21 w' => ∃ (x6_2 : List Int) (x21_2 : Int), v21 = .int .i64 x21_2 ∧ Aside0 (vbi_high.l0 kq a0 a1 x6_2 (y102.length : Int) x21_2 = some (r1, r2)) ∧ Aside0 (kq ≤ kj2) ∧ Aside0 (Kd.R (Kd.int .u8) 5 w' w.heap.size (fun _ => True) (.slice Ao13 y102.length co13) x6_2) ∧ Aside0 (Below w.heap.size w w'))
      case atStart => exact ⟨(y102), (0), ap, H', ⟨Nat.le_refl _⟩, ⟨by (with_reducible repeat (first | apply Kd.R_alloc | apply Kd.R_drewN | apply Kd.R_drew)); exact HO104.out⟩, ⟨bo⟩⟩
      case round =>
       clear H'
       try clear c1
       try clear p2
       try clear c4
       try clear c4b0
       try clear c6
       try clear c6b0
       try clear c6b1
       try clear p6
       try clear c8
       try clear c9
       try clear c9b0
       try clear c9b1
       try clear c10
       try clear c10b0
       try clear c10b1
       try clear p2
       try clear p6
       obtain ⟨x6_2, x21_2, rfl, HA, HK2, HO_6, HB⟩ := hrel
       have hl6_2 := (Kd.R_reads' HO_6.out).1
       rw [hl6_2] at HO_6
       (try simp only [hl6_2])
       cases gk with
       | zero => exact absurd HA.out (by simp [vbi_high.l0])
       | succ k2 =>
        have H := HA.out
        clear HA
        simp only [vbi_high.l0] at H
        by_cases c14 : x21_2 < (y102.length : Int)
        ·rw [if_pos c14] at H
         have c14b0 : decide (x21_2 < (y102.length : Int)) = true := decide_eq_true c14
         (try (have c14z0hl6_2 := c14b0; rw [hl6_2] at c14z0hl6_2))
         clear c14
         obtain ⟨ji15, hji15⟩ : ∃ j_ : Int, (wrap64 (8 * x21_2)) = j_ := ⟨_, rfl⟩
         replace H : (if 0 ≤ (ji15) then (if 0 ≤ (wrap64 ((wrap64 (a1 - 1)) - x21_2)) then (if (wrap64 ((wrap64 (a1 - 1)) - x21_2)) < (x6_2.length : Int) then (vbi_high.l0 k2 a0 a1 (x6_2.set ((wrap64 ((wrap64 (a1 - 1)) - x21_2)) : Int).toNat ((shr .i64 a0 (ji15)) % 256)) (y102.length : Int) (wrap64 (x21_2 + 1))) else (none)) else (none)) else (none)) = some (r1, r2) := by first | (rw [hji15] at H; exact H) | (simp only [hji15] at H ⊢; exact H)
         have hji15w : (IntKind.i64.wrap (8 * x21_2)) = ji15 := (i64_w _).trans hji15
         by_cases c16 : 0 ≤ (ji15)
         ·rw [if_pos c16] at H
          have c16b0 := eq_true c16
          have c16b1 : decide (0 ≤ (ji15)) = true := decide_eq_true c16
          clear c16
          obtain ⟨ji17, hji17⟩ : ∃ j_ : Int, (shr .i64 a0 (ji15)) = j_ := ⟨_, rfl⟩
          replace H : (if 0 ≤ (wrap64 ((wrap64 (a1 - 1)) - x21_2)) then (if (wrap64 ((wrap64 (a1 - 1)) - x21_2)) < (x6_2.length : Int) then (vbi_high.l0 k2 a0 a1 (x6_2.set ((wrap64 ((wrap64 (a1 - 1)) - x21_2)) : Int).toNat ((ji17) % 256)) (y102.length : Int) (wrap64 (x21_2 + 1))) else (none)) else (none)) = some (r1, r2) := by first | (rw [hji17] at H; exact H) | (simp only [hji17] at H ⊢; exact H)
          have hji17_ : (a0 / 2 ^ min (ji15).toNat 64) = ji17 := hji17
          have hji17z : (ji15) ≤ 64 → (a0 / 2 ^ (ji15).toNat) = ji17 := shr_small hji17
          obtain ⟨ji18, hji18⟩ : ∃ j_ : Int, (wrap64 ((wrap64 (a1 - 1)) - x21_2)) = j_ := ⟨_, rfl⟩
          replace H : (if 0 ≤ (ji18) then (if (ji18) < (x6_2.length : Int) then (vbi_high.l0 k2 a0 a1 (x6_2.set ((ji18) : Int).toNat ((ji17) % 256)) (y102.length : Int) (wrap64 (x21_2 + 1))) else (none)) else (none)) = some (r1, r2) := by first | (rw [hji18] at H; exact H) | (simp only [hji18] at H ⊢; exact H)
          have hji18w : (IntKind.i64.wrap ((wrap64 (a1 - 1)) - x21_2)) = ji18 := (i64_w _).trans hji18
          by_cases c19 : 0 ≤ (ji18)
          ·rw [if_pos c19] at H
           have c19b0 : decide (0 ≤ (ji18)) = true := decide_eq_true c19
           clear c19
           by_cases c20 : (ji18) < (x6_2.length : Int)
           ·rw [if_pos c20] at H
            have c20b0 : decide ((ji18) < (x6_2.length : Int)) = true := decide_eq_true c20
            (try (have c20z0hl6_2 := c20b0; rw [hl6_2] at c20z0hl6_2))
            clear c20
            obtain ⟨y105, hy105⟩ : ∃ y_ : List Int, y_ = (x6_2.set ((ji18) : Int).toNat ((ji17) % 256)) := ⟨_, rfl⟩
            replace H : (vbi_high.l0 k2 a0 a1 y105 (y102.length : Int) (wrap64 (x21_2 + 1))) = some (r1, r2) := by first | (rw [hy105]; with_reducible exact H) | (have H2_ := (Option.bind_some _ _).symm.trans H; rw [hy105]; with_reducible exact H2_) | (have H2_ := (Option.bind_some _ _).symm.trans H; with_reducible exact H2_) | with_reducible exact H | (rw [hy105]; exact H) | exact H
            have Ny105 := Aside0.mk hy105
            clear hy105
            have H' := Aside0.mk H
            clear H
            have p21 : 0 ≤ ((ji18) : Int) := od
            have q21 : ((ji18) : Int) < ((x6_2.length : Int) : Int) := od
            obtain ⟨go21, co21, eo21, gb21, gl21, cl21, HG21⟩ := Kd.R_form HO_6.out (by omega)
            (first | cases eo21 | (injection eo21 with ea_ en_ ec_; (first | subst ea_ | (injection ea_ with ea_; subst ea_)); subst ec_; clear en_))
            have GB21 := Aside0.mk gb21
            have GG21 := Aside0.mk HG21
            clear gb21 gl21 HG21
            obtain ⟨hx21_0, hf21_0⟩ := Kd.R_celln 0 HO_6.out ((ji18) : Int) p21 q21
            replace p21 := eq_true p21
            replace q21 := eq_true q21
            have HP22 := Kd.R_putg HO_6.out ((ji18) : Int) ((ji17) % 256)
            go_wp2_with (first | ((with_reducible refine gate_store (t := 5) (p := 34) rfl ?_); refine store_event (t := 5) (p := 34) (v := ?vo_w23) (w1 := (wr.setCell ⟨go21, ((ji18) : Int).toNat, none⟩ (.int .u8 ((ji17) % 256)))) ?hg ?ho ?hn ?hr ?_; (case ho => rfl); (case hg => rfl); (case hn => rfl); (case hr => first | (go_simp; done) | (go_simp; rfl)); intro w23 hw; have hg : wr.grownBy w23 (some go21) := (by rw [hw]; exact HP22.2); have hp_ : Kd.R (Kd.int .u8) 5 w23 w.heap.size (fun _ => True) (.slice (some ⟨go21, 0, none⟩) x6_2.length co13) y105 := (by rw [hw, Ny105.out]; exact HP22.1); clear HP22; replace HO_6 := Aside0.mk (hp_); replace HB := Aside0.mk ((by rw [hw]; exact below_set (HB.out) GB21.out : Below w.heap.size w w23)); clear hg hw hp_))
            (try simp only [← hl6_2])
            go_roundg k2
            case measure => have := HJ2.out; have := HK2.out; omega
            case rel => exact ⟨(y105), (wrap64 (x21_2 + 1)), ap, H', ⟨by have := HJ2.out; have := HK2.out; omega⟩, ⟨by (try simp only [hl6_2]); (with_reducible repeat (first | apply Kd.R_alloc | apply Kd.R_drewN | apply Kd.R_drew)); exact HO_6.out⟩, ⟨bo⟩⟩
           ·rw [if_neg c20] at H
            exact absurd H (by simp)
          ·rw [if_neg c19] at H
           exact absurd H (by simp)
         ·rw [if_neg c16] at H
          exact absurd H (by simp)
        ·rw [if_neg c14] at H
         have c14b0 : decide (x21_2 < (y102.length : Int)) = false := decide_eq_false c14
         (try (have c14z0hl6_2 := c14b0; rw [hl6_2] at c14z0hl6_2))
         clear c14
         simp only [Option.some.injEq, Prod.mk.injEq] at H
         obtain ⟨rfl, rfl⟩ := H
         have hcv24 := own_string (P := Try.prog) Try.underlying23 Try.underlying5 Try.underlying9 (Kd.own_of_R HO_6.out)
         go_wp2
         go_ret2
         exact ⟨er, bo⟩
     ·rw [if_neg c10] at H
      exact absurd H (by simp)
    ·rw [if_neg c9] at H
     exact absurd H (by simp)

end Go.Proofs.Ytmabdfdmccbfnaa.P

-- written by a program of the proving session, out of the translation; Lean checks it
namespace Go.Proofs.Ytmabdfdmccbfnaa.P
open Go.RowKit Go.Proofs.Ytmabdfdmccbfnaa.Sq Go.Proofs.YtmabdfdmccbfnaaW.PrintWords Go.Proofs.YtmabdfdmccbfnaaW.PrintLast Go.Proofs.YtmabdfdmccbfnaaW.PrintMore
attribute [local go_sem] max2_int min2_int max_two min_two max_three min_three max_four min_four   -- for this text's walks alone
set_option linter.unusedVariables false
set_option linter.unusedSimpArgs false

/-! ### vbi_Two: function 60 -/
def vbi_Two.f (k : Nat) (a0 : Int) : Option (ByteArray × Int) := (vbi_high.f k a0 2).bind fun bt106 => (some (bt106.1, bt106.2))
theorem vbi_Two.mono : ∀ a0 k, LeO (vbi_Two.f k a0) (vbi_Two.f (k + 1) a0) := by
 intro a0 k
 unfold vbi_Two.f
 repeat' first
  | (with_reducible exact vbi_high.mono _ _ _)
  | (with_reducible exact LeO.refl _)
  | (with_reducible exact LeO.none _)
  | (with_reducible refine LeO.ite ?_ ?_)
  | (with_reducible refine LeO.bind ?_ (fun _ => ?_))
  | exact vbi_high.mono _ _ _
  | exact LeO.none _
  | refine LeO.ite ?_ ?_
  | refine LeO.bind ?_ (fun _ => ?_)
set_option maxHeartbeats 8000000 in
set_option maxRecDepth 100000 in
theorem vbi_Two.calls (k : Nat) (a0 : Int) (r1 : ByteArray) (r2 : Int) (w : World) (h : vbi_Two.f k a0 = some (r1, r2)) :
 Calls Try.prog 60 #[.int .i64 a0] w fun e w' => e = .returned (.tuple #[.string r1, .int .i64 r2]) ∧ Below w.heap.size w w' := by
 have HB := Aside0.mk (Below.refl w.heap.size w)
 have H : ((vbi_high.f k a0 2).bind fun bt106 => (some (bt106.1, bt106.2))) = some (r1, r2) := h
 clear h
 replace H := Option.bind_eq_some_iff.mp H
 obtain ⟨⟨t106, t107⟩, A20, H⟩ := H
 replace H : (some (t106, t107)) = some (r1, r2) := H
 have A2 := Aside0.mk A20
 clear A20
 simp only [Option.some.injEq, Prod.mk.injEq] at H
 obtain ⟨rfl, rfl⟩ := H
 go_enter Try.func60, Try.ntmps60
 go_wp2_with (first | ((with_reducible refine gate_callee (f := 81) rfl ?_); refine goesL_ (some 5) rfl rfl Try.func81 (by kernel_rfl) rfl #[.int .i64 a0, .int .i64 2] rfl aa ?_; (with_reducible refine (vbi_high.calls k a0 2 t106 t107 _ A2.out).mono ?_); rintro e w3 ⟨rfl, hb⟩; refine ⟨_, rfl, ?_⟩; replace HB := Aside0.mk (below_step bo hb); (try clear hb); (try clear hb2); (try clear hk); (try clear hi)))
 go_ret2
 exact ⟨er, bo⟩

end Go.Proofs.Ytmabdfdmccbfnaa.P

-- written by a program of the proving session, out of the translation; Lean checks it
namespace Go.Proofs.Ytmabdfdmccbfnaa.P
open Go.RowKit Go.Proofs.Ytmabdfdmccbfnaa.Sq Go.Proofs.YtmabdfdmccbfnaaW.PrintWords Go.Proofs.YtmabdfdmccbfnaaW.PrintLast Go.Proofs.YtmabdfdmccbfnaaW.PrintMore
attribute [local go_sem] max2_int min2_int max_two min_two max_three min_three max_four min_four   -- for this text's walks alone
set_option linter.unusedVariables false
set_option linter.unusedSimpArgs false

/-! ### vbi_Four: function 62 -/
def vbi_Four.f (k : Nat) (a0 : Int) : Option (ByteArray × Int) := (vbi_high.f k a0 4).bind fun bt108 => (some (bt108.1, bt108.2))
theorem vbi_Four.mono : ∀ a0 k, LeO (vbi_Four.f k a0) (vbi_Four.f (k + 1) a0) := by
 intro a0 k
 unfold vbi_Four.f
 repeat' first
  | (with_reducible exact vbi_high.mono _ _ _)
  | (with_reducible exact LeO.refl _)
  | (with_reducible exact LeO.none _)
  | (with_reducible refine LeO.ite ?_ ?_)
  | (with_reducible refine LeO.bind ?_ (fun _ => ?_))
  | exact vbi_high.mono _ _ _
  | exact LeO.none _
  | refine LeO.ite ?_ ?_
  | refine LeO.bind ?_ (fun _ => ?_)
set_option maxHeartbeats 8000000 in
set_option maxRecDepth 100000 in
theorem vbi_Four.calls (k : Nat) (a0 : Int) (r1 : ByteArray) (r2 : Int) (w : World) (h : vbi_Four.f k a0 = some (r1, r2)) :
 Calls Try.prog 62 #[.int .i64 a0] w fun e w' => e = .returned (.tuple #[.string r1, .int .i64 r2]) ∧ Below w.heap.size w w' := by
 have HB := Aside0.mk (Below.refl w.heap.size w)
 have H : ((vbi_high.f k a0 4).bind fun bt108 => (some (bt108.1, bt108.2))) = some (r1, r2) := h
 clear h
 replace H := Option.bind_eq_some_iff.mp H
 obtain ⟨⟨t108, t109⟩, A20, H⟩ := H
 replace H : (some (t108, t109)) = some (r1, r2) := H
 have A2 := Aside0.mk A20
 clear A20
 simp only [Option.some.injEq, Prod.mk.injEq] at H
 obtain ⟨rfl, rfl⟩ := H
 go_enter Try.func62, Try.ntmps62
 go_wp2_with (first | ((with_reducible refine gate_callee (f := 81) rfl ?_); refine goesL_ (some 5) rfl rfl Try.func81 (by kernel_rfl) rfl #[.int .i64 a0, .int .i64 4] rfl aa ?_; (with_reducible refine (vbi_high.calls k a0 4 t108 t109 _ A2.out).mono ?_); rintro e w3 ⟨rfl, hb⟩; refine ⟨_, rfl, ?_⟩; replace HB := Aside0.mk (below_step bo hb); (try clear hb); (try clear hb2); (try clear hk); (try clear hi)))
 go_ret2
 exact ⟨er, bo⟩

end Go.Proofs.Ytmabdfdmccbfnaa.P

-- written by a program of the proving session, out of the translation; Lean checks it
namespace Go.Proofs.Ytmabdfdmccbfnaa.P
open Go.RowKit Go.Proofs.Ytmabdfdmccbfnaa.Sq Go.Proofs.YtmabdfdmccbfnaaW.PrintWords Go.Proofs.YtmabdfdmccbfnaaW.PrintLast Go.Proofs.YtmabdfdmccbfnaaW.PrintMore
attribute [local go_sem] max2_int min2_int max_two min_two max_three min_three max_four min_four   -- for this text's walks alone
set_option linter.unusedVariables false
set_option linter.unusedSimpArgs false

/-! ### rec_eight: function 61 -/
def rec_eight.f (k : Nat) (a0 : Int) : Option (ByteArray) := (vbi_Four.f k (a0 / 4294967296)).bind fun bt110 => ((vbi_Four.f k (Go.bits .and .i64 a0 4294967295)).bind fun bt112 => (if bt110.1.size + bt112.1.size ≤ 9223372036854775807 then (some (bt110.1 ++ bt112.1)) else (none)))
theorem rec_eight.mono : ∀ a0 k, LeO (rec_eight.f k a0) (rec_eight.f (k + 1) a0) := by
 intro a0 k
 unfold rec_eight.f
 repeat' first
  | (with_reducible exact vbi_Four.mono _ _)
  | (with_reducible exact LeO.refl _)
  | (with_reducible exact LeO.none _)
  | (with_reducible refine LeO.ite ?_ ?_)
  | (with_reducible refine LeO.bind ?_ (fun _ => ?_))
  | exact vbi_Four.mono _ _
  | exact LeO.none _
  | refine LeO.ite ?_ ?_
  | refine LeO.bind ?_ (fun _ => ?_)
set_option maxHeartbeats 8000000 in
set_option maxRecDepth 100000 in
theorem rec_eight.calls (k : Nat) (a0 : Int) (r : ByteArray) (w : World) (h : rec_eight.f k a0 = some r) :
 Calls Try.prog 61 #[.int .i64 a0] w fun e w' => e = .returned (.string r) ∧ Below w.heap.size w w' := by
 have HB := Aside0.mk (Below.refl w.heap.size w)
 have H : ((vbi_Four.f k (a0 / 4294967296)).bind fun bt110 => ((vbi_Four.f k (Go.bits .and .i64 a0 4294967295)).bind fun bt112 => (if bt110.1.size + bt112.1.size ≤ 9223372036854775807 then (some (bt110.1 ++ bt112.1)) else (none)))) = some r := h
 clear h
 replace H := Option.bind_eq_some_iff.mp H
 obtain ⟨⟨t110, t111⟩, A20, H⟩ := H
 replace H : ((vbi_Four.f k (Go.bits .and .i64 a0 4294967295)).bind fun bt112 => (if t110.size + bt112.1.size ≤ 9223372036854775807 then (some (t110 ++ bt112.1)) else (none))) = some r := H
 have A2 := Aside0.mk A20
 clear A20
 replace H := Option.bind_eq_some_iff.mp H
 obtain ⟨⟨t112, t113⟩, A30, H⟩ := H
 replace H : (if t110.size + t112.size ≤ 9223372036854775807 then (some (t110 ++ t112)) else (none)) = some r := H
 have A3 := Aside0.mk A30
 clear A30
 by_cases c4 : t110.size + t112.size ≤ 9223372036854775807
 ·rw [if_pos c4] at H
  have c4b0 := eq_true c4
  have c4b1 : decide (t110.size + t112.size ≤ 9223372036854775807) = true := decide_eq_true c4
  try have c4b2 : (9223372036854775807 < t110.size + t112.size) = False := eq_false (Nat.not_lt.2 c4)
  obtain rfl := Option.some.inj H
  go_enter Try.func61, Try.ntmps61
  go_wp2_with (first | ((with_reducible refine gate_callee (f := 62) rfl ?_); refine goesL_ (some 10) rfl rfl Try.func62 (by kernel_rfl) rfl #[.int .i64 (a0 / 4294967296)] rfl aa ?_; (with_reducible refine (vbi_Four.calls k (a0 / 4294967296) t110 t111 _ A2.out).mono ?_); rintro e w5 ⟨rfl, hb⟩; refine ⟨_, rfl, ?_⟩; replace HB := Aside0.mk (below_step bo hb); (try clear hb); (try clear hb2); (try clear hk); (try clear hi)) | ((with_reducible refine gate_callee (f := 62) rfl ?_); refine goesL_ (some 16) rfl rfl Try.func62 (by kernel_rfl) rfl #[.int .i64 (Go.bits .and .i64 a0 4294967295)] rfl aa ?_; (with_reducible refine (vbi_Four.calls k (Go.bits .and .i64 a0 4294967295) t112 t113 _ A3.out).mono ?_); rintro e w6 ⟨rfl, hb⟩; refine ⟨_, rfl, ?_⟩; replace HB := Aside0.mk (below_step bo hb); (try clear hb); (try clear hb2); (try clear hk); (try clear hi)))
  go_ret
  exact ⟨er, bo⟩
 ·rw [if_neg c4] at H
  exact absurd H (by simp)

end Go.Proofs.Ytmabdfdmccbfnaa.P

