/- The law IndexLooks: printed functions, their contracts, the plain laws and the row, part 6. -/
import Derived.Test.YtmabdfdmccbfnaaKIndexLooks4
import Derived.Test.YtmabdfdmccbfnaaKIndexLooks5
-- written by a program of the proving session, out of the translation; Lean checks it
namespace Go.Proofs.Ytmabdfdmccbfnaa.P
open Go.RowKit Go.Proofs.Ytmabdfdmccbfnaa.Sq Go.Proofs.YtmabdfdmccbfnaaW.PrintWords Go.Proofs.YtmabdfdmccbfnaaW.PrintLast Go.Proofs.YtmabdfdmccbfnaaW.PrintMore
attribute [local go_sem] max2_int min2_int max_two min_two max_three min_three max_four min_four   -- for this text's walks alone
set_option linter.unusedVariables false
set_option linter.unusedSimpArgs false

/-! ### index_Look: function 59 -/
mutual
def index_Look.j0 : Nat → List (S77) → Int → Int → Bool → Int → List (S25) → Int → Int → ByteArray → ByteArray → Int → Bool → Option (Int × Int × ByteArray × ByteArray × Int × Bool × Int × Int)
 | 0, _, _, _, _, _, _, _, _, _, _, _, _ => none
 | k + 1, x1, x2, x7, x25, x738000, x738001, x739000, x739001, x739002, x739003, x739004, x739005 => if x25 = true then (some (x739000, x739001, x739002, x739003, x739004, x739005, 0, 1)) else ((index_From.f k x1 x2).bind fun bt741 => (index_Look.l0 k x2 x7 x738001 (x738001.length : Int) 0 bt741.1 bt741.2.1))
def index_Look.l0 : Nat → Int → Int → List (S25) → Int → Int → Int → Int → Option (Int × Int × ByteArray × ByteArray × Int × Bool × Int × Int)
 | 0, _, _, _, _, _, _, _ => none
 | k + 1, x2, x7, x34, x35, x36, x745000, x745001 => if x36 < x35 then (if 0 ≤ x36 then (if x36 < (x34.length : Int) then (if ((rd_T25 x34 x36).f0) < x745000 then (index_Look.l0 k x2 x7 x34 x35 (wrap64 (x36 + 1)) x745000 x745001) else (if ((rd_T25 x34 x36).f0) < x2 then (index_Look.l0 k x2 (wrap64 (x7 + 1)) x34 x35 (wrap64 (x36 + 1)) x745000 x745001) else (some ((rd_T25 x34 x36).f0, (rd_T25 x34 x36).f1, (rd_T25 x34 x36).f2, (rd_T25 x34 x36).f3, (rd_T25 x34 x36).f4, (rd_T25 x34 x36).f5, x7, 0)))) else (none)) else (none)) else (some (0, 0, (⟨#[]⟩ : ByteArray), (⟨#[]⟩ : ByteArray), 0, false, 0, 3))
end
def index_Look.f (k : Nat) (a0_0 : Int) (l0_1 : List (S25)) (l1 : List (S77)) (a2 : Int) : Option (Int × Int × ByteArray × ByteArray × Int × Bool × Int × Int) := (index_Check.f k a0_0 l0_1 l1).bind fun bt739 => (if bt739.2 = 0 then (index_Look.j0 k l1 a2 0 (!bt739.1) a0_0 l0_1 0 0 (⟨#[]⟩ : ByteArray) (⟨#[]⟩ : ByteArray) 0 false) else (index_Look.j0 k l1 a2 0 true a0_0 l0_1 0 0 (⟨#[]⟩ : ByteArray) (⟨#[]⟩ : ByteArray) 0 false))
theorem index_Look.mono_l : ∀ k, (∀ y0 y1 y2 y3 y4 y5 y6 y7 y8 y9 y10 y11, LeO (index_Look.j0 k y0 y1 y2 y3 y4 y5 y6 y7 y8 y9 y10 y11) (index_Look.j0 (k + 1) y0 y1 y2 y3 y4 y5 y6 y7 y8 y9 y10 y11)) ∧ (∀ y0 y1 y2 y3 y4 y5 y6, LeO (index_Look.l0 k y0 y1 y2 y3 y4 y5 y6) (index_Look.l0 (k + 1) y0 y1 y2 y3 y4 y5 y6))
 | 0 => ⟨fun _ _ _ _ _ _ _ _ _ _ _ _ r h => by simp [index_Look.j0] at h, fun _ _ _ _ _ _ _ r h => by simp [index_Look.l0] at h⟩
 | k + 1 => by
  obtain ⟨ih0, ih1⟩ := index_Look.mono_l k
  refine ⟨?_, ?_⟩
  ·intro y0 y1 y2 y3 y4 y5 y6 y7 y8 y9 y10 y11
   unfold index_Look.j0
   repeat' first
   | (with_reducible exact ih0 _ _ _ _ _ _ _ _ _ _ _ _)
   | (with_reducible exact ih1 _ _ _ _ _ _ _)
   | (with_reducible exact index_Check.mono _ _ _ _)
   | (with_reducible exact index_From.mono _ _ _)
   | (with_reducible exact LeO.refl _)
   | (with_reducible exact LeO.none _)
   | (with_reducible refine LeO.ite ?_ ?_)
   | (with_reducible refine LeO.bind ?_ (fun _ => ?_))
   | exact ih0 _ _ _ _ _ _ _ _ _ _ _ _
   | exact ih1 _ _ _ _ _ _ _
   | exact index_Check.mono _ _ _ _
   | exact index_From.mono _ _ _
   | exact LeO.none _
   | refine LeO.ite ?_ ?_
   | refine LeO.bind ?_ (fun _ => ?_)
  ·intro y0 y1 y2 y3 y4 y5 y6
   unfold index_Look.l0
   repeat' first
   | (with_reducible exact ih0 _ _ _ _ _ _ _ _ _ _ _ _)
   | (with_reducible exact ih1 _ _ _ _ _ _ _)
   | (with_reducible exact index_Check.mono _ _ _ _)
   | (with_reducible exact index_From.mono _ _ _)
   | (with_reducible exact LeO.refl _)
   | (with_reducible exact LeO.none _)
   | (with_reducible refine LeO.ite ?_ ?_)
   | (with_reducible refine LeO.bind ?_ (fun _ => ?_))
   | exact ih0 _ _ _ _ _ _ _ _ _ _ _ _
   | exact ih1 _ _ _ _ _ _ _
   | exact index_Check.mono _ _ _ _
   | exact index_From.mono _ _ _
   | exact LeO.none _
   | refine LeO.ite ?_ ?_
   | refine LeO.bind ?_ (fun _ => ?_)
theorem index_Look.mono : ∀ a0 a1 a2 a3 k, LeO (index_Look.f k a0 a1 a2 a3) (index_Look.f (k + 1) a0 a1 a2 a3) := by
 intro a0 a1 a2 a3 k
 obtain ⟨ih0, ih1⟩ := index_Look.mono_l k
 unfold index_Look.f
 repeat' first
  | (with_reducible exact ih0 _ _ _ _ _ _ _ _ _ _ _ _)
  | (with_reducible exact ih1 _ _ _ _ _ _ _)
  | (with_reducible exact index_Check.mono _ _ _ _)
  | (with_reducible exact index_From.mono _ _ _)
  | (with_reducible exact LeO.refl _)
  | (with_reducible exact LeO.none _)
  | (with_reducible refine LeO.ite ?_ ?_)
  | (with_reducible refine LeO.bind ?_ (fun _ => ?_))
  | exact ih0 _ _ _ _ _ _ _ _ _ _ _ _
  | exact ih1 _ _ _ _ _ _ _
  | exact index_Check.mono _ _ _ _
  | exact index_From.mono _ _ _
  | exact LeO.none _
  | refine LeO.ite ?_ ?_
  | refine LeO.bind ?_ (fun _ => ?_)
set_option maxHeartbeats 8000000 in
set_option maxRecDepth 100000 in
theorem index_Look.calls (k : Nat) (a0_0 : Int) (A0_1 : Option Addr) (c0_1 : Nat) (l0_1 : List (S25)) (A1 : Option Addr) (c1 : Nat) (l1 : List (S77)) (a2 : Int) (r1 : Int) (r2 : Int) (r3 : ByteArray) (r4 : ByteArray) (r5 : Int) (r6 : Bool) (r7 : Int) (r8 : Int) (w : World) (hr0_1 : Kd.C k25 w A0_1 l0_1.length l0_1) (hc0_1 : l0_1.length ≤ c0_1) (hr1 : Kd.C k77 w A1 l1.length l1) (hc1 : l1.length ≤ c1) (h : index_Look.f k a0_0 l0_1 l1 a2 = some (r1, r2, r3, r4, r5, r6, r7, r8)) :
 Calls Try.prog 59 #[.agg #[.int .i64 a0_0, .slice A0_1 l0_1.length c0_1], .slice A1 l1.length c1, .int .i64 a2] w fun e w' => e = .returned (.tuple #[.agg #[.int .i64 r1, .int .i64 r2, .string r3, .string r4, .int .i64 r5, .bool r6], .int .i64 r7, .int .i64 r8]) ∧ Below w.heap.size w w' := by
 have hu53 := Try.underlying53
 have hu25 := Try.underlying25
 have hu77 := Try.underlying77
 have HR0_1 := Aside0.mk hr0_1
 have HC0_1 := Aside0.mk hc0_1
 clear hr0_1 hc0_1
 have HR1 := Aside0.mk hr1
 have HC1 := Aside0.mk hc1
 clear hr1 hc1
 have HB := Aside0.mk (Below.refl w.heap.size w)
 have H : ((index_Check.f k a0_0 l0_1 l1).bind fun bt739 => (if bt739.2 = 0 then (index_Look.j0 k l1 a2 0 (!bt739.1) a0_0 l0_1 0 0 (⟨#[]⟩ : ByteArray) (⟨#[]⟩ : ByteArray) 0 false) else (index_Look.j0 k l1 a2 0 true a0_0 l0_1 0 0 (⟨#[]⟩ : ByteArray) (⟨#[]⟩ : ByteArray) 0 false))) = some (r1, r2, r3, r4, r5, r6, r7, r8) := h
 clear h
 replace H := Option.bind_eq_some_iff.mp H
 obtain ⟨⟨t739, t740⟩, A40, H⟩ := H
 replace H : (if t740 = 0 then (index_Look.j0 k l1 a2 0 (!t739) a0_0 l0_1 0 0 (⟨#[]⟩ : ByteArray) (⟨#[]⟩ : ByteArray) 0 false) else (index_Look.j0 k l1 a2 0 true a0_0 l0_1 0 0 (⟨#[]⟩ : ByteArray) (⟨#[]⟩ : ByteArray) 0 false)) = some (r1, r2, r3, r4, r5, r6, r7, r8) := H
 have A4 := Aside0.mk A40
 clear A40
 have HC5 := Aside0.mk H
 clear H
 go_enter Try.func59, Try.ntmps59
 go_upto_region 2 with (first | ((with_reducible refine gate_dst (N := 3) rfl ?_); refine box_event ?hg (N := 3) ?hd (cs := #[.int .i64 a0_0, .slice A0_1 l0_1.length c0_1]) (t := 53) ?hr ?_; (case hd => rfl); (case hg => rfl); (case hr => first | (go_simp; done) | (go_simp; rfl)); intro gb737 hg w6 hbox hb; have BK737 := Aside0.mk (hbox); have GW737 := Aside0.mk ((by rw [hg]; exact (below_size bo) : w.heap.size ≤ gb737)); have GE737 := Aside0.mk ((by rw [hg]; exact (below_size bo) : w.heap.size ≤ gb737)); replace HB := Aside0.mk (below_step bo hb); clear hb hbox hg) | ((with_reducible refine gate_dst (N := 6) rfl ?_); refine box_event ?hg (N := 6) ?hd (cs := #[.int .i64 0, .int .i64 0, .string (⟨#[]⟩ : ByteArray), .string (⟨#[]⟩ : ByteArray), .int .i64 0, .bool false]) (t := 25) ?hr ?_; (case hd => rfl); (case hg => rfl); (case hr => first | (go_simp; done) | (go_simp; rfl)); intro gb738 hg w7 hbox hb; have BK738 := Aside0.mk (hbox); have GW738 := Aside0.mk ((by rw [hg]; exact (below_size bo) : w.heap.size ≤ gb738)); have GE738 := Aside0.mk ((by rw [hg]; exact (below_size bo) : w.heap.size ≤ gb738)); replace HB := Aside0.mk (below_step bo hb); have NB737_738 := Aside0.mk ((by rw [hg]; exact Nat.ne_of_lt (blk_lt (g := gb737) (o := .cells #[.int .i64 a0_0, .slice A0_1 l0_1.length c0_1] 53 (0, 0)) (bk BK737.out)) : gb737 ≠ gb738)); have NB738_737 := Aside0.mk ((by rw [hg]; exact Nat.ne_of_gt (blk_lt (g := gb737) (o := .cells #[.int .i64 a0_0, .slice A0_1 l0_1.length c0_1] 53 (0, 0)) (bk BK737.out)) : gb738 ≠ gb737)); replace BK737 := Aside0.mk (blk_below (g := gb737) (o := .cells #[.int .i64 a0_0, .slice A0_1 l0_1.length c0_1] 53 (0, 0)) (bk BK737.out) hb); clear hb hbox hg; have hnb8 := NB737_738.out; have hnc8 := NB738_737.out; obtain ⟨hcz9_0, hcz9_1⟩ := cl2 BK737.out; obtain ⟨hfz9_0, hfz9_1⟩ := fz2 BK737.out) | ((with_reducible refine gate_callee (f := 55) rfl ?_); refine goesL_ (some 17) rfl rfl Try.func55 (by kernel_rfl) rfl #[.agg #[.int .i64 a0_0, .slice A0_1 l0_1.length c0_1], .slice A1 l1.length c1] rfl aa ?_; (with_reducible refine (index_Check.calls k a0_0 _ _ l0_1 _ _ l1 t739 t740 _ ?side1 ?side2 ?side3 ?side4 A4.out).mono ?_); (case side1 => repeat (first | exact (Kd.C_below HR0_1.out HB.out) | (with_reducible refine Kd.C_alloc ?_ _) | (with_reducible refine Kd.C_drewN ?_ _) | (with_reducible refine Kd.C_drew ?_))); (case side2 => exact HC0_1.out); (case side3 => repeat (first | exact (Kd.C_below HR1.out HB.out) | (with_reducible refine Kd.C_alloc ?_ _) | (with_reducible refine Kd.C_drewN ?_ _) | (with_reducible refine Kd.C_drew ?_))); (case side4 => exact HC1.out); rintro e w10 ⟨rfl, hb⟩; refine ⟨_, rfl, ?_⟩; replace BK737 := Aside0.mk (blk_below (g := gb737) (o := .cells #[.int .i64 a0_0, .slice A0_1 l0_1.length c0_1] 53 (0, 0)) (bk BK737.out) hb); replace BK738 := Aside0.mk (blk_below (g := gb738) (o := .cells #[.int .i64 0, .int .i64 0, .string (⟨#[]⟩ : ByteArray), .string (⟨#[]⟩ : ByteArray), .int .i64 0, .bool false] 25 (0, 0)) (bk BK738.out) hb); replace HB := Aside0.mk (below_step bo hb); (try clear hb); (try clear hb2); (try clear hk); (try clear hi)))
 (try simp only [Act.put, List.setIfInBounds_toArray, List.set_cons_zero, List.set_cons_succ])
 go_cut [25] (fun v25 wc => ∃ (kq : Nat) (x25_4 : Bool), v25 = .bool x25_4 ∧ Aside0 (index_Look.j0 kq l1 a2 0 x25_4 a0_0 l0_1 0 0 (⟨#[]⟩ : ByteArray) (⟨#[]⟩ : ByteArray) 0 false = some (r1, r2, r3, r4, r5, r6, r7, r8)) ∧ Aside0 (kq ≤ k) ∧ Aside0 (wc.heap[gb737]? = some (.cells #[.int .i64 a0_0, (.slice A0_1 l0_1.length c0_1)] 53 (0, 0))) ∧ Aside0 (wc.heap[gb738]? = some (.cells #[.int .i64 0, .int .i64 0, .string (⟨#[]⟩ : ByteArray), .string (⟨#[]⟩ : ByteArray), .int .i64 0, .bool false] 25 (0, 0))) ∧ Aside0 (Below w.heap.size w wc))
 case first =>
  have H := HC5.out
  clear HC5
  by_cases c11 : t740 = 0
  ·rw [if_pos c11] at H
   have c11b0 : (t740 == 0) = true := beq_iff_eq.mpr c11
   have c11b1 : (t740 != 0) = false := bne_eq_false_iff_eq.mpr c11
   clear c11
   (first | rw [c11b0] | (simp only [i64_w, i32_w]; rw [c11b0]) | skip)
   have H' := Aside0.mk H
   clear H
   go_wp2
   go_meet
   case rel => exact ⟨_, (!t739), ap, H', ⟨by first | omega | exact Nat.le_refl _⟩, ⟨by (with_reducible repeat (first | refine blk_drewN ?_ _ | refine blk_drew ?_ | refine blk_alloc ?_ _)); exact BK737.out⟩, ⟨by (with_reducible repeat (first | refine blk_drewN ?_ _ | refine blk_drew ?_ | refine blk_alloc ?_ _)); exact BK738.out⟩, ⟨bo⟩⟩
  ·rw [if_neg c11] at H
   have c11b0 : (t740 == 0) = false := beq_eq_false_iff_ne.mpr c11
   have c11b1 : (t740 != 0) = true := bne_iff_ne.mpr c11
   (first | rw [c11b0] | (simp only [i64_w, i32_w]; rw [c11b0]) | skip)
   have H' := Aside0.mk H
   clear H
   go_wp2
   go_meet
   case rel => exact ⟨_, (true), ap, H', ⟨by first | omega | exact Nat.le_refl _⟩, ⟨by (with_reducible repeat (first | refine blk_drewN ?_ _ | refine blk_drew ?_ | refine blk_alloc ?_ _)); exact BK737.out⟩, ⟨by (with_reducible repeat (first | refine blk_drewN ?_ _ | refine blk_drew ?_ | refine blk_alloc ?_ _)); exact BK738.out⟩, ⟨bo⟩⟩
 case rest =>
  clear HC5
  try clear c1
  try clear p2
  try clear c5
  try clear c8
  try clear c11
  try clear c11b0
  try clear c11b1
  try clear hcz9_0
  try clear hcz9_1
  try clear hfz9_0
  try clear hfz9_1
  obtain ⟨kq, x25_4, rfl, HA, HJ4, BK737, BK738, HB⟩ := hcut
  cases kq with
  | zero => exact absurd HA.out (by simp [index_Look.j0])
  | succ kj4 =>
   have H := HA.out
   clear HA
   simp only [index_Look.j0] at H
   by_cases c12 : x25_4 = true
   ·subst c12
    have H1 : (some (0, 0, (⟨#[]⟩ : ByteArray), (⟨#[]⟩ : ByteArray), 0, false, 0, 1)) = some (r1, r2, r3, r4, r5, r6, r7, r8) := by rw [if_pos rfl] at H; exact H
    clear H
    have H := H1
    clear H1
    simp only [Option.some.injEq, Prod.mk.injEq] at H
    obtain ⟨rfl, rfl, rfl, rfl, rfl, rfl, rfl, rfl⟩ := H
    have hnb13 := NB738_737.out
    have hnc13 := NB737_738.out
    have hcz14_0 : wc.cell? ⟨gb738, 0, none⟩ = some (.int .i64 0) := (blk_cell BK738.out 0).trans rfl
    have hcz14_1 : wc.cell? ⟨gb738, 1, none⟩ = some (.int .i64 0) := (blk_cell BK738.out 1).trans rfl
    have hcz14_2 : wc.cell? ⟨gb738, 2, none⟩ = some (.string (⟨#[]⟩ : ByteArray)) := (blk_cell BK738.out 2).trans rfl
    have hcz14_3 : wc.cell? ⟨gb738, 3, none⟩ = some (.string (⟨#[]⟩ : ByteArray)) := (blk_cell BK738.out 3).trans rfl
    have hcz14_4 : wc.cell? ⟨gb738, 4, none⟩ = some (.int .i64 0) := (blk_cell BK738.out 4).trans rfl
    have hcz14_5 : wc.cell? ⟨gb738, 5, none⟩ = some (.bool false) := (blk_cell BK738.out 5).trans rfl
    have hfz14_0 := blk_frozen BK738.out 0
    have hfz14_1 := blk_frozen BK738.out 1
    have hfz14_2 := blk_frozen BK738.out 2
    have hfz14_3 := blk_frozen BK738.out 3
    have hfz14_4 := blk_frozen BK738.out 4
    have hfz14_5 := blk_frozen BK738.out 5
    go_wp2
    refine bodyPost_ret (results_ctt rfl _ _ gb738 25 #[.int .i64 0, .int .i64 0, .string (⟨#[]⟩ : ByteArray), .string (⟨#[]⟩ : ByteArray), .int .i64 0, .bool false] (0, 0) _ rfl (by (with_reducible repeat (first | refine blk_drewN ?_ _ | refine blk_drew ?_ | refine blk_alloc ?_ _)); refine blk_put (cs := #[.int .i64 0, .int .i64 0, .string (⟨#[]⟩ : ByteArray), .string (⟨#[]⟩ : ByteArray), .int .i64 0, .bool false]) ?_ 5 _ rfl; (with_reducible repeat (first | refine blk_drewN ?_ _ | refine blk_drew ?_ | refine blk_alloc ?_ _)); refine blk_put (cs := #[.int .i64 0, .int .i64 0, .string (⟨#[]⟩ : ByteArray), .string (⟨#[]⟩ : ByteArray), .int .i64 0, .bool false]) ?_ 4 _ rfl; (with_reducible repeat (first | refine blk_drewN ?_ _ | refine blk_drew ?_ | refine blk_alloc ?_ _)); refine blk_put (cs := #[.int .i64 0, .int .i64 0, .string (⟨#[]⟩ : ByteArray), .string (⟨#[]⟩ : ByteArray), .int .i64 0, .bool false]) ?_ 3 _ rfl; (with_reducible repeat (first | refine blk_drewN ?_ _ | refine blk_drew ?_ | refine blk_alloc ?_ _)); refine blk_put (cs := #[.int .i64 0, .int .i64 0, .string (⟨#[]⟩ : ByteArray), .string (⟨#[]⟩ : ByteArray), .int .i64 0, .bool false]) ?_ 2 _ rfl; (with_reducible repeat (first | refine blk_drewN ?_ _ | refine blk_drew ?_ | refine blk_alloc ?_ _)); refine blk_put (cs := #[.int .i64 0, .int .i64 0, .string (⟨#[]⟩ : ByteArray), .string (⟨#[]⟩ : ByteArray), .int .i64 0, .bool false]) ?_ 1 _ rfl; (with_reducible repeat (first | refine blk_drewN ?_ _ | refine blk_drew ?_ | refine blk_alloc ?_ _)); refine blk_put (cs := #[.int .i64 0, .int .i64 0, .string (⟨#[]⟩ : ByteArray), .string (⟨#[]⟩ : ByteArray), .int .i64 0, .bool false]) ?_ 0 _ rfl; (with_reducible repeat (first | refine blk_drewN ?_ _ | refine blk_drew ?_ | refine blk_alloc ?_ _)); exact BK738.out) Try.underlying25 rfl (by kernel_rfl)) rfl ?_
    exact ⟨er, bo⟩
   ·replace c12 := Bool.eq_false_iff.mpr c12
    subst c12
    have H1 : ((index_From.f kj4 l1 a2).bind fun bt741 => (index_Look.l0 kj4 a2 0 l0_1 (l0_1.length : Int) 0 bt741.1 bt741.2.1)) = some (r1, r2, r3, r4, r5, r6, r7, r8) := by rw [if_neg (show ¬ (false = true) by decide)] at H; exact H
    clear H
    have H := H1
    clear H1
    replace H := Option.bind_eq_some_iff.mp H
    obtain ⟨⟨t741, t742, t743⟩, A150, H⟩ := H
    replace H : (index_Look.l0 kj4 a2 0 l0_1 (l0_1.length : Int) 0 t741 t742) = some (r1, r2, r3, r4, r5, r6, r7, r8) := H
    have A15 := Aside0.mk A150
    clear A150
    have H' := Aside0.mk H
    clear H
    go_wp2_with (first | ((with_reducible refine gate_callee (f := 49) rfl ?_); refine goesL_ (some 30) rfl rfl Try.func49 (by kernel_rfl) rfl #[.slice A1 l1.length c1, .int .i64 a2] rfl aa ?_; (with_reducible refine (index_From.calls kj4 _ _ l1 a2 t741 t742 t743 _ ?side1 ?side2 A15.out).mono ?_); (case side1 => repeat (first | exact (Kd.C_below HR1.out HB.out) | (with_reducible refine Kd.C_alloc ?_ _) | (with_reducible refine Kd.C_drewN ?_ _) | (with_reducible refine Kd.C_drew ?_))); (case side2 => exact HC1.out); rintro e w16 ⟨rfl, hb⟩; refine ⟨_, rfl, ?_⟩; replace BK737 := Aside0.mk (blk_below (g := gb737) (o := .cells #[.int .i64 a0_0, .slice A0_1 l0_1.length c0_1] 53 (0, 0)) (bk BK737.out) hb); replace BK738 := Aside0.mk (blk_below (g := gb738) (o := .cells #[.int .i64 0, .int .i64 0, .string (⟨#[]⟩ : ByteArray), .string (⟨#[]⟩ : ByteArray), .int .i64 0, .bool false] 25 (0, 0)) (bk BK738.out) hb); replace HB := Aside0.mk (below_step bo hb); (try clear hb); (try clear hb2); (try clear hk); (try clear hi)) | ((with_reducible refine gate_dst (N := 10) rfl ?_); refine box_event ?hg (N := 10) ?hd (cs := #[.int .i64 0, .int .i64 0]) (t := 77) ?hr ?_; (case hd => rfl); (case hg => rfl); (case hr => first | (go_simp; done) | (go_simp; rfl)); intro gb744 hg w17 hbox hb; have BK744 := Aside0.mk (hbox); have GW744 := Aside0.mk ((by rw [hg]; exact (below_size bo) : w.heap.size ≤ gb744)); have GE744 := Aside0.mk ((by rw [hg]; exact (below_size bo) : w.heap.size ≤ gb744)); replace HB := Aside0.mk (below_step bo hb); have NB737_744 := Aside0.mk ((by rw [hg]; exact Nat.ne_of_lt (blk_lt (g := gb737) (o := .cells #[.int .i64 a0_0, .slice A0_1 l0_1.length c0_1] 53 (0, 0)) (bk BK737.out)) : gb737 ≠ gb744)); have NB744_737 := Aside0.mk ((by rw [hg]; exact Nat.ne_of_gt (blk_lt (g := gb737) (o := .cells #[.int .i64 a0_0, .slice A0_1 l0_1.length c0_1] 53 (0, 0)) (bk BK737.out)) : gb744 ≠ gb737)); replace BK737 := Aside0.mk (blk_below (g := gb737) (o := .cells #[.int .i64 a0_0, .slice A0_1 l0_1.length c0_1] 53 (0, 0)) (bk BK737.out) hb); have NB738_744 := Aside0.mk ((by rw [hg]; exact Nat.ne_of_lt (blk_lt (g := gb738) (o := .cells #[.int .i64 0, .int .i64 0, .string (⟨#[]⟩ : ByteArray), .string (⟨#[]⟩ : ByteArray), .int .i64 0, .bool false] 25 (0, 0)) (bk BK738.out)) : gb738 ≠ gb744)); have NB744_738 := Aside0.mk ((by rw [hg]; exact Nat.ne_of_gt (blk_lt (g := gb738) (o := .cells #[.int .i64 0, .int .i64 0, .string (⟨#[]⟩ : ByteArray), .string (⟨#[]⟩ : ByteArray), .int .i64 0, .bool false] 25 (0, 0)) (bk BK738.out)) : gb744 ≠ gb738)); replace BK738 := Aside0.mk (blk_below (g := gb738) (o := .cells #[.int .i64 0, .int .i64 0, .string (⟨#[]⟩ : ByteArray), .string (⟨#[]⟩ : ByteArray), .int .i64 0, .bool false] 25 (0, 0)) (bk BK738.out) hb); clear hb hbox hg; have hnb18 := NB744_737.out; have hnc18 := NB737_744.out; have hnb19 := NB744_738.out; have hnc19 := NB738_744.out; obtain ⟨hcz20_0, hcz20_1⟩ := cl2 BK744.out; obtain ⟨hfz20_0, hfz20_1⟩ := fz2 BK744.out; have hnb21 := NB737_738.out; have hnc21 := NB738_737.out; obtain ⟨hcz22_0, hcz22_1⟩ := cl2 BK737.out; obtain ⟨hfz22_0, hfz22_1⟩ := fz2 BK737.out))
    go_loopg [7, 36] kj4 (fun kq v7 v36 w' => ∃ (x7_2 : Int) (x36_2 : Int) (x739000_2 : Int) (x739001_2 : Int) (x739002_2 : ByteArray) (x739003_2 : ByteArray) (x739004_2 : Int) (x739005_2 : Bool), v7 = .int .i64 x7_2 ∧ v36 = .int .i64 x36_2 ∧ Aside0 (index_Look.l0 kq a2 x7_2 l0_1 (l0_1.length : Int) x36_2 t741 t742 = some (r1, r2, r3, r4, r5, r6, r7, r8)) ∧ Aside0 (kq ≤ kj4) ∧ Aside0 (w'.heap[gb737]? = some (.cells #[.int .i64 a0_0, (.slice A0_1 l0_1.length c0_1)] 53 (0, 0))) ∧ Aside0 (w'.heap[gb738]? = some (.cells #[.int .i64 x739000_2, .int .i64 x739001_2, .string x739002_2, .string x739003_2, .int .i64 x739004_2, .bool x739005_2] 25 (0, 0))) ∧ Aside0 (w'.heap[gb744]? = some (.cells #[.int .i64 t741, .int .i64 t742] 77 (0, 0))) ∧ Aside0 (Below w.heap.size w w'))
    case atStart => exact ⟨(0), (0), (0), (0), ((⟨#[]⟩ : ByteArray)), ((⟨#[]⟩ : ByteArray)), (0), (false), ap, ap, H', ⟨Nat.le_refl _⟩, ⟨by (with_reducible repeat (first | refine blk_drewN ?_ _ | refine blk_drew ?_ | refine blk_alloc ?_ _)); refine blk_far ?_ NB737_744.out _; (with_reducible repeat (first | refine blk_drewN ?_ _ | refine blk_drew ?_ | refine blk_alloc ?_ _)); refine blk_far ?_ NB737_744.out _; (with_reducible repeat (first | refine blk_drewN ?_ _ | refine blk_drew ?_ | refine blk_alloc ?_ _)); exact BK737.out⟩, ⟨by (with_reducible repeat (first | refine blk_drewN ?_ _ | refine blk_drew ?_ | refine blk_alloc ?_ _)); refine blk_far ?_ NB738_744.out _; (with_reducible repeat (first | refine blk_drewN ?_ _ | refine blk_drew ?_ | refine blk_alloc ?_ _)); refine blk_far ?_ NB738_744.out _; (with_reducible repeat (first | refine blk_drewN ?_ _ | refine blk_drew ?_ | refine blk_alloc ?_ _)); exact BK738.out⟩, ⟨by (with_reducible repeat (first | refine blk_drewN ?_ _ | refine blk_drew ?_ | refine blk_alloc ?_ _)); refine blk_put (cs := #[.int .i64 t741, .int .i64 0]) ?_ 1 _ rfl; (with_reducible repeat (first | refine blk_drewN ?_ _ | refine blk_drew ?_ | refine blk_alloc ?_ _)); refine blk_put (cs := #[.int .i64 0, .int .i64 0]) ?_ 0 _ rfl; (with_reducible repeat (first | refine blk_drewN ?_ _ | refine blk_drew ?_ | refine blk_alloc ?_ _)); exact BK744.out⟩, ⟨bo⟩⟩
    case round =>
     clear H'
     try clear c1
     try clear c2
     try clear p2
     try clear c4
     try clear c5
     try clear c8
     try clear c11
     try clear c11b0
     try clear c11b1
     try clear c12
     try clear c13
     try clear c18
     try clear c19
     try clear c21
     try clear hcz14_0
     try clear hcz14_1
     try clear hcz14_2
     try clear hcz14_3
     try clear hcz14_4
     try clear hcz14_5
     try clear hcz20_0
     try clear hcz20_1
     try clear hcz22_0
     try clear hcz22_1
     try clear hcz9_0
     try clear hcz9_1
     try clear hfz14_0
     try clear hfz14_1
     try clear hfz14_2
     try clear hfz14_3
     try clear hfz14_4
     try clear hfz14_5
     try clear hfz20_0
     try clear hfz20_1
     try clear hfz22_0
     try clear hfz22_1
     try clear hfz9_0
     try clear hfz9_1
     try clear p2
     obtain ⟨x7_2, x36_2, x739000_2, x739001_2, x739002_2, x739003_2, x739004_2, x739005_2, rfl, rfl, HA, HK2, BK737, BK738, BK744, HB⟩ := hrel
     cases gk with
     | zero => exact absurd HA.out (by simp [index_Look.l0])
     | succ k2 =>
      have H := HA.out
      clear HA
      simp only [index_Look.l0] at H
      by_cases c23 : x36_2 < (l0_1.length : Int)
      ·rw [if_pos c23] at H
       have c23b0 : decide (x36_2 < (l0_1.length : Int)) = true := decide_eq_true c23
       clear c23
       by_cases c24 : 0 ≤ x36_2
       ·rw [if_pos c24] at H
        have c24b0 : decide (0 ≤ x36_2) = true := decide_eq_true c24
        clear c24
        by_cases c25 : x36_2 < (l0_1.length : Int)
        ·rw [if_pos c25] at H
         have c25b0 : decide (x36_2 < (l0_1.length : Int)) = true := decide_eq_true c25
         clear c25
         by_cases c26 : ((rd_T25 l0_1 x36_2).f0) < t741
         ·rw [if_pos c26] at H
          have c26b0 : decide (((rd_T25 l0_1 x36_2).f0) < t741) = true := decide_eq_true c26
          clear c26
          have H' := Aside0.mk H
          clear H
          have p745 : 0 ≤ (x36_2 : Int) := od
          have q745 : x36_2 < (l0_1.length : Int) := od
          obtain ⟨ad745, e745, hx745_0, hx745_1, hx745_2, hx745_3, hx745_4, hx745_5⟩ := at_T25 HR0_1.out x36_2 p745 q745
          cases e745
          replace hx745_0 := cx HB.out hx745_0
          replace hx745_1 := cx HB.out hx745_1
          replace hx745_2 := cx HB.out hx745_2
          replace hx745_3 := cx HB.out hx745_3
          replace hx745_4 := cx HB.out hx745_4
          replace hx745_5 := cx HB.out hx745_5
          replace p745 := eq_true p745
          replace q745 := eq_true q745
          go_wp2_with (first | ((with_reducible refine gate_dst (N := 13) rfl ?_); refine box_event ?hg (N := 13) ?hd (cs := #[.int .i64 0, .int .i64 0, .string (⟨#[]⟩ : ByteArray), .string (⟨#[]⟩ : ByteArray), .int .i64 0, .bool false]) (t := 25) ?hr ?_; (case hd => rfl); (case hg => rfl); (case hr => first | (go_simp; done) | (go_simp; rfl)); intro gb746 hg w27 hbox hb; have BK746 := Aside0.mk (hbox); have GW746 := Aside0.mk ((by rw [hg]; exact (below_size bo) : w.heap.size ≤ gb746)); have GE746 := Aside0.mk ((by rw [hg]; exact (below_size bo) : w.heap.size ≤ gb746)); replace HB := Aside0.mk (below_step bo hb); have NB737_746 := Aside0.mk ((by rw [hg]; exact Nat.ne_of_lt (blk_lt (g := gb737) (o := .cells #[.int .i64 a0_0, .slice (some ad745) l0_1.length c0_1] 53 (0, 0)) (bk BK737.out)) : gb737 ≠ gb746)); have NB746_737 := Aside0.mk ((by rw [hg]; exact Nat.ne_of_gt (blk_lt (g := gb737) (o := .cells #[.int .i64 a0_0, .slice (some ad745) l0_1.length c0_1] 53 (0, 0)) (bk BK737.out)) : gb746 ≠ gb737)); replace BK737 := Aside0.mk (blk_below (g := gb737) (o := .cells #[.int .i64 a0_0, .slice (some ad745) l0_1.length c0_1] 53 (0, 0)) (bk BK737.out) hb); have NB738_746 := Aside0.mk ((by rw [hg]; exact Nat.ne_of_lt (blk_lt (g := gb738) (o := .cells #[.int .i64 x739000_2, .int .i64 x739001_2, .string x739002_2, .string x739003_2, .int .i64 x739004_2, .bool x739005_2] 25 (0, 0)) (bk BK738.out)) : gb738 ≠ gb746)); have NB746_738 := Aside0.mk ((by rw [hg]; exact Nat.ne_of_gt (blk_lt (g := gb738) (o := .cells #[.int .i64 x739000_2, .int .i64 x739001_2, .string x739002_2, .string x739003_2, .int .i64 x739004_2, .bool x739005_2] 25 (0, 0)) (bk BK738.out)) : gb746 ≠ gb738)); replace BK738 := Aside0.mk (blk_below (g := gb738) (o := .cells #[.int .i64 x739000_2, .int .i64 x739001_2, .string x739002_2, .string x739003_2, .int .i64 x739004_2, .bool x739005_2] 25 (0, 0)) (bk BK738.out) hb); have NB744_746 := Aside0.mk ((by rw [hg]; exact Nat.ne_of_lt (blk_lt (g := gb744) (o := .cells #[.int .i64 t741, .int .i64 t742] 77 (0, 0)) (bk BK744.out)) : gb744 ≠ gb746)); have NB746_744 := Aside0.mk ((by rw [hg]; exact Nat.ne_of_gt (blk_lt (g := gb744) (o := .cells #[.int .i64 t741, .int .i64 t742] 77 (0, 0)) (bk BK744.out)) : gb746 ≠ gb744)); replace BK744 := Aside0.mk (blk_below (g := gb744) (o := .cells #[.int .i64 t741, .int .i64 t742] 77 (0, 0)) (bk BK744.out) hb); clear hb hbox hg; have hnb28 := NB746_737.out; have hnc28 := NB737_746.out; have hnb29 := NB746_738.out; have hnc29 := NB738_746.out; have hnb30 := NB746_744.out; have hnc30 := NB744_746.out; obtain ⟨hcz31_0, hcz31_1, hcz31_2, hcz31_3, hcz31_4, hcz31_5⟩ := cl6 BK746.out; obtain ⟨hfz31_0, hfz31_1, hfz31_2, hfz31_3, hfz31_4, hfz31_5⟩ := fz6 BK746.out; have hnb32 := NB744_737.out; have hnc32 := NB737_744.out; have hnb33 := NB744_738.out; have hnc33 := NB738_744.out; obtain ⟨hcz34_0, hcz34_1⟩ := cl2 BK744.out; obtain ⟨hfz34_0, hfz34_1⟩ := fz2 BK744.out))
          go_roundg k2
          case measure => have := HJ4.out; have := HK2.out; omega
          case rel => exact ⟨(x7_2), (wrap64 (x36_2 + 1)), (x739000_2), (x739001_2), (x739002_2), (x739003_2), (x739004_2), (x739005_2), ap, ap, H', ⟨by have := HJ4.out; have := HK2.out; omega⟩, ⟨by (with_reducible repeat (first | refine blk_drewN ?_ _ | refine blk_drew ?_ | refine blk_alloc ?_ _)); refine blk_far ?_ NB737_746.out _; (with_reducible repeat (first | refine blk_drewN ?_ _ | refine blk_drew ?_ | refine blk_alloc ?_ _)); refine blk_far ?_ NB737_746.out _; (with_reducible repeat (first | refine blk_drewN ?_ _ | refine blk_drew ?_ | refine blk_alloc ?_ _)); refine blk_far ?_ NB737_746.out _; (with_reducible repeat (first | refine blk_drewN ?_ _ | refine blk_drew ?_ | refine blk_alloc ?_ _)); refine blk_far ?_ NB737_746.out _; (with_reducible repeat (first | refine blk_drewN ?_ _ | refine blk_drew ?_ | refine blk_alloc ?_ _)); refine blk_far ?_ NB737_746.out _; (with_reducible repeat (first | refine blk_drewN ?_ _ | refine blk_drew ?_ | refine blk_alloc ?_ _)); refine blk_far ?_ NB737_746.out _; (with_reducible repeat (first | refine blk_drewN ?_ _ | refine blk_drew ?_ | refine blk_alloc ?_ _)); exact BK737.out⟩, ⟨by (with_reducible repeat (first | refine blk_drewN ?_ _ | refine blk_drew ?_ | refine blk_alloc ?_ _)); refine blk_far ?_ NB738_746.out _; (with_reducible repeat (first | refine blk_drewN ?_ _ | refine blk_drew ?_ | refine blk_alloc ?_ _)); refine blk_far ?_ NB738_746.out _; (with_reducible repeat (first | refine blk_drewN ?_ _ | refine blk_drew ?_ | refine blk_alloc ?_ _)); refine blk_far ?_ NB738_746.out _; (with_reducible repeat (first | refine blk_drewN ?_ _ | refine blk_drew ?_ | refine blk_alloc ?_ _)); refine blk_far ?_ NB738_746.out _; (with_reducible repeat (first | refine blk_drewN ?_ _ | refine blk_drew ?_ | refine blk_alloc ?_ _)); refine blk_far ?_ NB738_746.out _; (with_reducible repeat (first | refine blk_drewN ?_ _ | refine blk_drew ?_ | refine blk_alloc ?_ _)); refine blk_far ?_ NB738_746.out _; (with_reducible repeat (first | refine blk_drewN ?_ _ | refine blk_drew ?_ | refine blk_alloc ?_ _)); exact BK738.out⟩, ⟨by (with_reducible repeat (first | refine blk_drewN ?_ _ | refine blk_drew ?_ | refine blk_alloc ?_ _)); refine blk_far ?_ NB744_746.out _; (with_reducible repeat (first | refine blk_drewN ?_ _ | refine blk_drew ?_ | refine blk_alloc ?_ _)); refine blk_far ?_ NB744_746.out _; (with_reducible repeat (first | refine blk_drewN ?_ _ | refine blk_drew ?_ | refine blk_alloc ?_ _)); refine blk_far ?_ NB744_746.out _; (with_reducible repeat (first | refine blk_drewN ?_ _ | refine blk_drew ?_ | refine blk_alloc ?_ _)); refine blk_far ?_ NB744_746.out _; (with_reducible repeat (first | refine blk_drewN ?_ _ | refine blk_drew ?_ | refine blk_alloc ?_ _)); refine blk_far ?_ NB744_746.out _; (with_reducible repeat (first | refine blk_drewN ?_ _ | refine blk_drew ?_ | refine blk_alloc ?_ _)); refine blk_far ?_ NB744_746.out _; (with_reducible repeat (first | refine blk_drewN ?_ _ | refine blk_drew ?_ | refine blk_alloc ?_ _)); exact BK744.out⟩, ⟨bo⟩⟩
         ·rw [if_neg c26] at H
          have c26b0 : decide (((rd_T25 l0_1 x36_2).f0) < t741) = false := decide_eq_false c26
          clear c26
          by_cases c35 : ((rd_T25 l0_1 x36_2).f0) < a2
          ·rw [if_pos c35] at H
           have c35b0 : decide (((rd_T25 l0_1 x36_2).f0) < a2) = true := decide_eq_true c35
           clear c35
           have H' := Aside0.mk H
           clear H
           have p745 : 0 ≤ (x36_2 : Int) := od
           have q745 : x36_2 < (l0_1.length : Int) := od
           obtain ⟨ad745, e745, hx745_0, hx745_1, hx745_2, hx745_3, hx745_4, hx745_5⟩ := at_T25 HR0_1.out x36_2 p745 q745
           cases e745
           replace hx745_0 := cx HB.out hx745_0
           replace hx745_1 := cx HB.out hx745_1
           replace hx745_2 := cx HB.out hx745_2
           replace hx745_3 := cx HB.out hx745_3
           replace hx745_4 := cx HB.out hx745_4
           replace hx745_5 := cx HB.out hx745_5
           replace p745 := eq_true p745
           replace q745 := eq_true q745
           go_wp2_with (first | ((with_reducible refine gate_dst (N := 13) rfl ?_); refine box_event ?hg (N := 13) ?hd (cs := #[.int .i64 0, .int .i64 0, .string (⟨#[]⟩ : ByteArray), .string (⟨#[]⟩ : ByteArray), .int .i64 0, .bool false]) (t := 25) ?hr ?_; (case hd => rfl); (case hg => rfl); (case hr => first | (go_simp; done) | (go_simp; rfl)); intro gb746 hg w36 hbox hb; have BK746 := Aside0.mk (hbox); have GW746 := Aside0.mk ((by rw [hg]; exact (below_size bo) : w.heap.size ≤ gb746)); have GE746 := Aside0.mk ((by rw [hg]; exact (below_size bo) : w.heap.size ≤ gb746)); replace HB := Aside0.mk (below_step bo hb); have NB737_746 := Aside0.mk ((by rw [hg]; exact Nat.ne_of_lt (blk_lt (g := gb737) (o := .cells #[.int .i64 a0_0, .slice (some ad745) l0_1.length c0_1] 53 (0, 0)) (bk BK737.out)) : gb737 ≠ gb746)); have NB746_737 := Aside0.mk ((by rw [hg]; exact Nat.ne_of_gt (blk_lt (g := gb737) (o := .cells #[.int .i64 a0_0, .slice (some ad745) l0_1.length c0_1] 53 (0, 0)) (bk BK737.out)) : gb746 ≠ gb737)); replace BK737 := Aside0.mk (blk_below (g := gb737) (o := .cells #[.int .i64 a0_0, .slice (some ad745) l0_1.length c0_1] 53 (0, 0)) (bk BK737.out) hb); have NB738_746 := Aside0.mk ((by rw [hg]; exact Nat.ne_of_lt (blk_lt (g := gb738) (o := .cells #[.int .i64 x739000_2, .int .i64 x739001_2, .string x739002_2, .string x739003_2, .int .i64 x739004_2, .bool x739005_2] 25 (0, 0)) (bk BK738.out)) : gb738 ≠ gb746)); have NB746_738 := Aside0.mk ((by rw [hg]; exact Nat.ne_of_gt (blk_lt (g := gb738) (o := .cells #[.int .i64 x739000_2, .int .i64 x739001_2, .string x739002_2, .string x739003_2, .int .i64 x739004_2, .bool x739005_2] 25 (0, 0)) (bk BK738.out)) : gb746 ≠ gb738)); replace BK738 := Aside0.mk (blk_below (g := gb738) (o := .cells #[.int .i64 x739000_2, .int .i64 x739001_2, .string x739002_2, .string x739003_2, .int .i64 x739004_2, .bool x739005_2] 25 (0, 0)) (bk BK738.out) hb); have NB744_746 := Aside0.mk ((by rw [hg]; exact Nat.ne_of_lt (blk_lt (g := gb744) (o := .cells #[.int .i64 t741, .int .i64 t742] 77 (0, 0)) (bk BK744.out)) : gb744 ≠ gb746)); have NB746_744 := Aside0.mk ((by rw [hg]; exact Nat.ne_of_gt (blk_lt (g := gb744) (o := .cells #[.int .i64 t741, .int .i64 t742] 77 (0, 0)) (bk BK744.out)) : gb746 ≠ gb744)); replace BK744 := Aside0.mk (blk_below (g := gb744) (o := .cells #[.int .i64 t741, .int .i64 t742] 77 (0, 0)) (bk BK744.out) hb); clear hb hbox hg; have hnb37 := NB746_737.out; have hnc37 := NB737_746.out; have hnb38 := NB746_738.out; have hnc38 := NB738_746.out; have hnb39 := NB746_744.out; have hnc39 := NB744_746.out; obtain ⟨hcz40_0, hcz40_1, hcz40_2, hcz40_3, hcz40_4, hcz40_5⟩ := cl6 BK746.out; obtain ⟨hfz40_0, hfz40_1, hfz40_2, hfz40_3, hfz40_4, hfz40_5⟩ := fz6 BK746.out; have hnb41 := NB744_737.out; have hnc41 := NB737_744.out; have hnb42 := NB744_738.out; have hnc42 := NB738_744.out; obtain ⟨hcz43_0, hcz43_1⟩ := cl2 BK744.out; obtain ⟨hfz43_0, hfz43_1⟩ := fz2 BK744.out))
           go_roundg k2
           case measure => have := HJ4.out; have := HK2.out; omega
           case rel => exact ⟨(wrap64 (x7_2 + 1)), (wrap64 (x36_2 + 1)), (x739000_2), (x739001_2), (x739002_2), (x739003_2), (x739004_2), (x739005_2), ap, ap, H', ⟨by have := HJ4.out; have := HK2.out; omega⟩, ⟨by (with_reducible repeat (first | refine blk_drewN ?_ _ | refine blk_drew ?_ | refine blk_alloc ?_ _)); refine blk_far ?_ NB737_746.out _; (with_reducible repeat (first | refine blk_drewN ?_ _ | refine blk_drew ?_ | refine blk_alloc ?_ _)); refine blk_far ?_ NB737_746.out _; (with_reducible repeat (first | refine blk_drewN ?_ _ | refine blk_drew ?_ | refine blk_alloc ?_ _)); refine blk_far ?_ NB737_746.out _; (with_reducible repeat (first | refine blk_drewN ?_ _ | refine blk_drew ?_ | refine blk_alloc ?_ _)); refine blk_far ?_ NB737_746.out _; (with_reducible repeat (first | refine blk_drewN ?_ _ | refine blk_drew ?_ | refine blk_alloc ?_ _)); refine blk_far ?_ NB737_746.out _; (with_reducible repeat (first | refine blk_drewN ?_ _ | refine blk_drew ?_ | refine blk_alloc ?_ _)); refine blk_far ?_ NB737_746.out _; (with_reducible repeat (first | refine blk_drewN ?_ _ | refine blk_drew ?_ | refine blk_alloc ?_ _)); exact BK737.out⟩, ⟨by (with_reducible repeat (first | refine blk_drewN ?_ _ | refine blk_drew ?_ | refine blk_alloc ?_ _)); refine blk_far ?_ NB738_746.out _; (with_reducible repeat (first | refine blk_drewN ?_ _ | refine blk_drew ?_ | refine blk_alloc ?_ _)); refine blk_far ?_ NB738_746.out _; (with_reducible repeat (first | refine blk_drewN ?_ _ | refine blk_drew ?_ | refine blk_alloc ?_ _)); refine blk_far ?_ NB738_746.out _; (with_reducible repeat (first | refine blk_drewN ?_ _ | refine blk_drew ?_ | refine blk_alloc ?_ _)); refine blk_far ?_ NB738_746.out _; (with_reducible repeat (first | refine blk_drewN ?_ _ | refine blk_drew ?_ | refine blk_alloc ?_ _)); refine blk_far ?_ NB738_746.out _; (with_reducible repeat (first | refine blk_drewN ?_ _ | refine blk_drew ?_ | refine blk_alloc ?_ _)); refine blk_far ?_ NB738_746.out _; (with_reducible repeat (first | refine blk_drewN ?_ _ | refine blk_drew ?_ | refine blk_alloc ?_ _)); exact BK738.out⟩, ⟨by (with_reducible repeat (first | refine blk_drewN ?_ _ | refine blk_drew ?_ | refine blk_alloc ?_ _)); refine blk_far ?_ NB744_746.out _; (with_reducible repeat (first | refine blk_drewN ?_ _ | refine blk_drew ?_ | refine blk_alloc ?_ _)); refine blk_far ?_ NB744_746.out _; (with_reducible repeat (first | refine blk_drewN ?_ _ | refine blk_drew ?_ | refine blk_alloc ?_ _)); refine blk_far ?_ NB744_746.out _; (with_reducible repeat (first | refine blk_drewN ?_ _ | refine blk_drew ?_ | refine blk_alloc ?_ _)); refine blk_far ?_ NB744_746.out _; (with_reducible repeat (first | refine blk_drewN ?_ _ | refine blk_drew ?_ | refine blk_alloc ?_ _)); refine blk_far ?_ NB744_746.out _; (with_reducible repeat (first | refine blk_drewN ?_ _ | refine blk_drew ?_ | refine blk_alloc ?_ _)); refine blk_far ?_ NB744_746.out _; (with_reducible repeat (first | refine blk_drewN ?_ _ | refine blk_drew ?_ | refine blk_alloc ?_ _)); exact BK744.out⟩, ⟨bo⟩⟩
          ·rw [if_neg c35] at H
           have c35b0 : decide (((rd_T25 l0_1 x36_2).f0) < a2) = false := decide_eq_false c35
           clear c35
           simp only [Option.some.injEq, Prod.mk.injEq] at H
           obtain ⟨rfl, rfl, rfl, rfl, rfl, rfl, rfl, rfl⟩ := H
           have p745 : 0 ≤ (x36_2 : Int) := od
           have q745 : x36_2 < (l0_1.length : Int) := od
           obtain ⟨ad745, e745, hx745_0, hx745_1, hx745_2, hx745_3, hx745_4, hx745_5⟩ := at_T25 HR0_1.out x36_2 p745 q745
           cases e745
           replace hx745_0 := cx HB.out hx745_0
           replace hx745_1 := cx HB.out hx745_1
           replace hx745_2 := cx HB.out hx745_2
           replace hx745_3 := cx HB.out hx745_3
           replace hx745_4 := cx HB.out hx745_4
           replace hx745_5 := cx HB.out hx745_5
           replace p745 := eq_true p745
           replace q745 := eq_true q745
           go_wp2_with (first | ((with_reducible refine gate_dst (N := 13) rfl ?_); refine box_event ?hg (N := 13) ?hd (cs := #[.int .i64 0, .int .i64 0, .string (⟨#[]⟩ : ByteArray), .string (⟨#[]⟩ : ByteArray), .int .i64 0, .bool false]) (t := 25) ?hr ?_; (case hd => rfl); (case hg => rfl); (case hr => first | (go_simp; done) | (go_simp; rfl)); intro gb746 hg w44 hbox hb; have BK746 := Aside0.mk (hbox); have GW746 := Aside0.mk ((by rw [hg]; exact (below_size bo) : w.heap.size ≤ gb746)); have GE746 := Aside0.mk ((by rw [hg]; exact (below_size bo) : w.heap.size ≤ gb746)); replace HB := Aside0.mk (below_step bo hb); have NB737_746 := Aside0.mk ((by rw [hg]; exact Nat.ne_of_lt (blk_lt (g := gb737) (o := .cells #[.int .i64 a0_0, .slice (some ad745) l0_1.length c0_1] 53 (0, 0)) (bk BK737.out)) : gb737 ≠ gb746)); have NB746_737 := Aside0.mk ((by rw [hg]; exact Nat.ne_of_gt (blk_lt (g := gb737) (o := .cells #[.int .i64 a0_0, .slice (some ad745) l0_1.length c0_1] 53 (0, 0)) (bk BK737.out)) : gb746 ≠ gb737)); replace BK737 := Aside0.mk (blk_below (g := gb737) (o := .cells #[.int .i64 a0_0, .slice (some ad745) l0_1.length c0_1] 53 (0, 0)) (bk BK737.out) hb); have NB738_746 := Aside0.mk ((by rw [hg]; exact Nat.ne_of_lt (blk_lt (g := gb738) (o := .cells #[.int .i64 x739000_2, .int .i64 x739001_2, .string x739002_2, .string x739003_2, .int .i64 x739004_2, .bool x739005_2] 25 (0, 0)) (bk BK738.out)) : gb738 ≠ gb746)); have NB746_738 := Aside0.mk ((by rw [hg]; exact Nat.ne_of_gt (blk_lt (g := gb738) (o := .cells #[.int .i64 x739000_2, .int .i64 x739001_2, .string x739002_2, .string x739003_2, .int .i64 x739004_2, .bool x739005_2] 25 (0, 0)) (bk BK738.out)) : gb746 ≠ gb738)); replace BK738 := Aside0.mk (blk_below (g := gb738) (o := .cells #[.int .i64 x739000_2, .int .i64 x739001_2, .string x739002_2, .string x739003_2, .int .i64 x739004_2, .bool x739005_2] 25 (0, 0)) (bk BK738.out) hb); have NB744_746 := Aside0.mk ((by rw [hg]; exact Nat.ne_of_lt (blk_lt (g := gb744) (o := .cells #[.int .i64 t741, .int .i64 t742] 77 (0, 0)) (bk BK744.out)) : gb744 ≠ gb746)); have NB746_744 := Aside0.mk ((by rw [hg]; exact Nat.ne_of_gt (blk_lt (g := gb744) (o := .cells #[.int .i64 t741, .int .i64 t742] 77 (0, 0)) (bk BK744.out)) : gb746 ≠ gb744)); replace BK744 := Aside0.mk (blk_below (g := gb744) (o := .cells #[.int .i64 t741, .int .i64 t742] 77 (0, 0)) (bk BK744.out) hb); clear hb hbox hg; have hnb45 := NB746_737.out; have hnc45 := NB737_746.out; have hnb46 := NB746_738.out; have hnc46 := NB738_746.out; have hnb47 := NB746_744.out; have hnc47 := NB744_746.out; obtain ⟨hcz48_0, hcz48_1, hcz48_2, hcz48_3, hcz48_4, hcz48_5⟩ := cl6 BK746.out; obtain ⟨hfz48_0, hfz48_1, hfz48_2, hfz48_3, hfz48_4, hfz48_5⟩ := fz6 BK746.out; have hnb49 := NB744_737.out; have hnc49 := NB737_744.out; have hnb50 := NB744_738.out; have hnc50 := NB738_744.out; obtain ⟨hcz51_0, hcz51_1⟩ := cl2 BK744.out; obtain ⟨hfz51_0, hfz51_1⟩ := fz2 BK744.out; have hnb52 := NB738_737.out; have hnc52 := NB737_738.out; obtain ⟨hcz53_0, hcz53_1, hcz53_2, hcz53_3, hcz53_4, hcz53_5⟩ := cl6 BK738.out; obtain ⟨hfz53_0, hfz53_1, hfz53_2, hfz53_3, hfz53_4, hfz53_5⟩ := fz6 BK738.out))
           refine bodyPost_ret (results_ctt rfl _ _ gb738 25 #[.int .i64 ((rd_T25 l0_1 x36_2).f0), .int .i64 ((rd_T25 l0_1 x36_2).f1), .string ((rd_T25 l0_1 x36_2).f2), .string ((rd_T25 l0_1 x36_2).f3), .int .i64 ((rd_T25 l0_1 x36_2).f4), .bool ((rd_T25 l0_1 x36_2).f5)] (0, 0) _ rfl (by (with_reducible repeat (first | refine blk_drewN ?_ _ | refine blk_drew ?_ | refine blk_alloc ?_ _)); refine blk_put (cs := #[.int .i64 ((rd_T25 l0_1 x36_2).f0), .int .i64 ((rd_T25 l0_1 x36_2).f1), .string ((rd_T25 l0_1 x36_2).f2), .string ((rd_T25 l0_1 x36_2).f3), .int .i64 ((rd_T25 l0_1 x36_2).f4), .bool x739005_2]) ?_ 5 _ rfl; (with_reducible repeat (first | refine blk_drewN ?_ _ | refine blk_drew ?_ | refine blk_alloc ?_ _)); refine blk_put (cs := #[.int .i64 ((rd_T25 l0_1 x36_2).f0), .int .i64 ((rd_T25 l0_1 x36_2).f1), .string ((rd_T25 l0_1 x36_2).f2), .string ((rd_T25 l0_1 x36_2).f3), .int .i64 x739004_2, .bool x739005_2]) ?_ 4 _ rfl; (with_reducible repeat (first | refine blk_drewN ?_ _ | refine blk_drew ?_ | refine blk_alloc ?_ _)); refine blk_put (cs := #[.int .i64 ((rd_T25 l0_1 x36_2).f0), .int .i64 ((rd_T25 l0_1 x36_2).f1), .string ((rd_T25 l0_1 x36_2).f2), .string x739003_2, .int .i64 x739004_2, .bool x739005_2]) ?_ 3 _ rfl; (with_reducible repeat (first | refine blk_drewN ?_ _ | refine blk_drew ?_ | refine blk_alloc ?_ _)); refine blk_put (cs := #[.int .i64 ((rd_T25 l0_1 x36_2).f0), .int .i64 ((rd_T25 l0_1 x36_2).f1), .string x739002_2, .string x739003_2, .int .i64 x739004_2, .bool x739005_2]) ?_ 2 _ rfl; (with_reducible repeat (first | refine blk_drewN ?_ _ | refine blk_drew ?_ | refine blk_alloc ?_ _)); refine blk_put (cs := #[.int .i64 ((rd_T25 l0_1 x36_2).f0), .int .i64 x739001_2, .string x739002_2, .string x739003_2, .int .i64 x739004_2, .bool x739005_2]) ?_ 1 _ rfl; (with_reducible repeat (first | refine blk_drewN ?_ _ | refine blk_drew ?_ | refine blk_alloc ?_ _)); refine blk_put (cs := #[.int .i64 x739000_2, .int .i64 x739001_2, .string x739002_2, .string x739003_2, .int .i64 x739004_2, .bool x739005_2]) ?_ 0 _ rfl; (with_reducible repeat (first | refine blk_drewN ?_ _ | refine blk_drew ?_ | refine blk_alloc ?_ _)); refine blk_far ?_ NB738_746.out _; (with_reducible repeat (first | refine blk_drewN ?_ _ | refine blk_drew ?_ | refine blk_alloc ?_ _)); refine blk_far ?_ NB738_746.out _; (with_reducible repeat (first | refine blk_drewN ?_ _ | refine blk_drew ?_ | refine blk_alloc ?_ _)); refine blk_far ?_ NB738_746.out _; (with_reducible repeat (first | refine blk_drewN ?_ _ | refine blk_drew ?_ | refine blk_alloc ?_ _)); refine blk_far ?_ NB738_746.out _; (with_reducible repeat (first | refine blk_drewN ?_ _ | refine blk_drew ?_ | refine blk_alloc ?_ _)); refine blk_far ?_ NB738_746.out _; (with_reducible repeat (first | refine blk_drewN ?_ _ | refine blk_drew ?_ | refine blk_alloc ?_ _)); refine blk_far ?_ NB738_746.out _; (with_reducible repeat (first | refine blk_drewN ?_ _ | refine blk_drew ?_ | refine blk_alloc ?_ _)); exact BK738.out) Try.underlying25 rfl (by kernel_rfl)) rfl ?_
           exact ⟨er, bo⟩
        ·rw [if_neg c25] at H
         exact absurd H (by simp)
       ·rw [if_neg c24] at H
        exact absurd H (by simp)
      ·rw [if_neg c23] at H
       have c23b0 : decide (x36_2 < (l0_1.length : Int)) = false := decide_eq_false c23
       clear c23
       simp only [Option.some.injEq, Prod.mk.injEq] at H
       obtain ⟨rfl, rfl, rfl, rfl, rfl, rfl, rfl, rfl⟩ := H
       have hnb54 := NB738_737.out
       have hnc54 := NB737_738.out
       have hnb55 := NB738_744.out
       have hnc55 := NB744_738.out
       have hcz56_0 : wr.cell? ⟨gb738, 0, none⟩ = some (.int .i64 x739000_2) := (blk_cell BK738.out 0).trans rfl
       have hcz56_1 : wr.cell? ⟨gb738, 1, none⟩ = some (.int .i64 x739001_2) := (blk_cell BK738.out 1).trans rfl
       have hcz56_2 : wr.cell? ⟨gb738, 2, none⟩ = some (.string x739002_2) := (blk_cell BK738.out 2).trans rfl
       have hcz56_3 : wr.cell? ⟨gb738, 3, none⟩ = some (.string x739003_2) := (blk_cell BK738.out 3).trans rfl
       have hcz56_4 : wr.cell? ⟨gb738, 4, none⟩ = some (.int .i64 x739004_2) := (blk_cell BK738.out 4).trans rfl
       have hcz56_5 : wr.cell? ⟨gb738, 5, none⟩ = some (.bool x739005_2) := (blk_cell BK738.out 5).trans rfl
       have hfz56_0 := blk_frozen BK738.out 0
       have hfz56_1 := blk_frozen BK738.out 1
       have hfz56_2 := blk_frozen BK738.out 2
       have hfz56_3 := blk_frozen BK738.out 3
       have hfz56_4 := blk_frozen BK738.out 4
       have hfz56_5 := blk_frozen BK738.out 5
       go_wp2
       refine bodyPost_ret (results_ctt rfl _ _ gb738 25 #[.int .i64 0, .int .i64 0, .string (⟨#[]⟩ : ByteArray), .string (⟨#[]⟩ : ByteArray), .int .i64 0, .bool false] (0, 0) _ rfl (by (with_reducible repeat (first | refine blk_drewN ?_ _ | refine blk_drew ?_ | refine blk_alloc ?_ _)); refine blk_put (cs := #[.int .i64 0, .int .i64 0, .string (⟨#[]⟩ : ByteArray), .string (⟨#[]⟩ : ByteArray), .int .i64 0, .bool x739005_2]) ?_ 5 _ rfl; (with_reducible repeat (first | refine blk_drewN ?_ _ | refine blk_drew ?_ | refine blk_alloc ?_ _)); refine blk_put (cs := #[.int .i64 0, .int .i64 0, .string (⟨#[]⟩ : ByteArray), .string (⟨#[]⟩ : ByteArray), .int .i64 x739004_2, .bool x739005_2]) ?_ 4 _ rfl; (with_reducible repeat (first | refine blk_drewN ?_ _ | refine blk_drew ?_ | refine blk_alloc ?_ _)); refine blk_put (cs := #[.int .i64 0, .int .i64 0, .string (⟨#[]⟩ : ByteArray), .string x739003_2, .int .i64 x739004_2, .bool x739005_2]) ?_ 3 _ rfl; (with_reducible repeat (first | refine blk_drewN ?_ _ | refine blk_drew ?_ | refine blk_alloc ?_ _)); refine blk_put (cs := #[.int .i64 0, .int .i64 0, .string x739002_2, .string x739003_2, .int .i64 x739004_2, .bool x739005_2]) ?_ 2 _ rfl; (with_reducible repeat (first | refine blk_drewN ?_ _ | refine blk_drew ?_ | refine blk_alloc ?_ _)); refine blk_put (cs := #[.int .i64 0, .int .i64 x739001_2, .string x739002_2, .string x739003_2, .int .i64 x739004_2, .bool x739005_2]) ?_ 1 _ rfl; (with_reducible repeat (first | refine blk_drewN ?_ _ | refine blk_drew ?_ | refine blk_alloc ?_ _)); refine blk_put (cs := #[.int .i64 x739000_2, .int .i64 x739001_2, .string x739002_2, .string x739003_2, .int .i64 x739004_2, .bool x739005_2]) ?_ 0 _ rfl; (with_reducible repeat (first | refine blk_drewN ?_ _ | refine blk_drew ?_ | refine blk_alloc ?_ _)); exact BK738.out) Try.underlying25 rfl (by kernel_rfl)) rfl ?_
       exact ⟨er, bo⟩

end Go.Proofs.Ytmabdfdmccbfnaa.P

-- written by a program of the proving session, out of the translation; Lean checks it
namespace Go.Proofs.Ytmabdfdmccbfnaa.P
open Go.RowKit Go.Proofs.Ytmabdfdmccbfnaa.Sq Go.Proofs.YtmabdfdmccbfnaaW.PrintWords Go.Proofs.YtmabdfdmccbfnaaW.PrintLast Go.Proofs.YtmabdfdmccbfnaaW.PrintMore
attribute [local go_sem] max2_int min2_int max_two min_two max_three min_three max_four min_four   -- for this text's walks alone
set_option linter.unusedVariables false
set_option linter.unusedSimpArgs false

attribute [local go_sem high] eqA25
/-! ### fairwaylaw12_IndexLooks: function 13 -/
mutual
def fairwaylaw12_IndexLooks.j0 : Nat → Int → List (S25) → List (S25) → List Int → ByteArray → Option (Bool)
 | 0, _, _, _, _, _ => none
 | k + 1, x748000, x748001, x748002, x748003, x748004 => (fairwayref10_Seg.f k x748000 x748001).bind fun t749 => (if t749 = true then ((fairwayref10_Marks.f k x748000 x748001).bind fun t750 => (fairwaylaw12_IndexLooks.j1 k t749 t750 x748000 x748001 x748002 x748003 x748004)) else (fairwaylaw12_IndexLooks.j1 k t749 ([] : List (S77)) x748000 x748001 x748002 x748003 x748004))
def fairwaylaw12_IndexLooks.j1 : Nat → Bool → List (S77) → Int → List (S25) → List (S25) → List Int → ByteArray → Option (Bool)
 | 0, _, _, _, _, _, _, _ => none
 | k + 1, x3, x4, x748000, x748001, x748002, x748003, x748004 => fairwaylaw12_IndexLooks.l0 k x3 x4 0 x748000 x748001 x748002 x748003 x748004
def fairwaylaw12_IndexLooks.j10 : Nat → Option (Bool)
 | 0 => none
 | k + 1 => (fairwaylaw0_Within.f 3 2).bind fun t791 => (if t791 = 1 then ((fairwaylaw12_wakes.f k).bind fun t792 => (some t792)) else (some false))
def fairwaylaw12_IndexLooks.l0 : Nat → Bool → List (S77) → Int → Int → List (S25) → List (S25) → List Int → ByteArray → Option (Bool)
 | 0, _, _, _, _, _, _, _, _ => none
 | k + 1, x3, x4, x5, x748000, x748001, x748002, x748003, x748004 => if x5 < (x748003.length : Int) then (fairwaylaw12_IndexLooks.j3 k x3 x4 x5 (decide (x5 < 20)) x748000 x748001 x748002 x748003 x748004) else (fairwaylaw12_IndexLooks.j3 k x3 x4 x5 false x748000 x748001 x748002 x748003 x748004)
def fairwaylaw12_IndexLooks.j3 : Nat → Bool → List (S77) → Int → Bool → Int → List (S25) → List (S25) → List Int → ByteArray → Option (Bool)
 | 0, _, _, _, _, _, _, _, _, _ => none
 | k + 1, x3, x4, x5, x32, x748000, x748001, x748002, x748003, x748004 => if x32 = true then (fairwaylaw12_IndexLooks.j4 k x3 x4 x5 x748000 x748001 x748002 x748003 x748004) else (fairwaylaw12_IndexLooks.j10 k)
def fairwaylaw12_IndexLooks.j4 : Nat → Bool → List (S77) → Int → Int → List (S25) → List (S25) → List Int → ByteArray → Option (Bool)
 | 0, _, _, _, _, _, _, _, _ => none
 | k + 1, x3, x4, x5, x748000, x748001, x748002, x748003, x748004 => if 0 ≤ x5 then (if x5 < (x748003.length : Int) then ((index_Look.f k x748000 x748001 x4 (rd x748003 x5)).bind fun bt754 => ((fairwayref0_CopyMarks.f k x4).bind fun t763 => ((some (([(⟨(-1), 0⟩ : S77)] : List (S77)) : List (S77))).bind fun y766 => (if t763.length + y766.length < 8796093022208 then ((index_Look.f k x748000 x748001 (t763 ++ y766) (rd x748003 x5)).bind fun bt773 => ((fairwaylaw12_num.f bt773.2.2.2.2.2.2.2).bind fun t782 => (if t782 = 1 then (fairwaylaw12_IndexLooks.j5 k x3 x4 x5 bt754.2.2.2.2.2.2.1 bt754.2.2.2.2.2.2.2 x748000 x748001 x748002 x748003 x748004 bt754.1 bt754.2.1 bt754.2.2.1 bt754.2.2.2.1 bt754.2.2.2.2.1 bt754.2.2.2.2.2.1) else (some false)))) else (none))))) else (none)) else (none)
def fairwaylaw12_IndexLooks.j5 : Nat → Bool → List (S77) → Int → Int → Int → Int → List (S25) → List (S25) → List Int → ByteArray → Int → Int → ByteArray → ByteArray → Int → Bool → Option (Bool)
 | 0, _, _, _, _, _, _, _, _, _, _, _, _, _, _, _, _ => none
 | k + 1, x3, x4, x5, x7, x8, x748000, x748001, x748002, x748003, x748004, x763000, x763001, x763002, x763003, x763004, x763005 => if x3 = true then (fairwaylaw12_IndexLooks.j6 k x3 x4 x5 x7 x8 x748000 x748001 x748002 x748003 x748004 x763000 x763001 x763002 x763003 x763004 x763005) else ((fairwaylaw12_num.f x8).bind fun t783 => (if t783 = 1 then (if x7 = 0 then (fairwaylaw12_IndexLooks.l0 k x3 x4 (wrap64 (x5 + 1)) x748000 x748001 x748002 x748003 x748004) else (some false)) else (some false)))
def fairwaylaw12_IndexLooks.j6 : Nat → Bool → List (S77) → Int → Int → Int → Int → List (S25) → List (S25) → List Int → ByteArray → Int → Int → ByteArray → ByteArray → Int → Bool → Option (Bool)
 | 0, _, _, _, _, _, _, _, _, _, _, _, _, _, _, _, _ => none
 | k + 1, x3, x4, x5, x7, x8, x748000, x748001, x748002, x748003, x748004, x763000, x763001, x763002, x763003, x763004, x763005 => if 0 ≤ x5 then (if x5 < (x748003.length : Int) then ((fairwayref10_Find.f k x748001 (rd x748003 x5)).bind fun t785 => (if t785 < 0 then ((fairwaylaw12_num.f x8).bind fun t786 => (if t786 = 3 then (if x7 = 0 then (fairwaylaw12_IndexLooks.l0 k x3 x4 (wrap64 (x5 + 1)) x748000 x748001 x748002 x748003 x748004) else (some false)) else (some false))) else (fairwaylaw12_IndexLooks.j7 k x3 x4 x5 x7 x8 t785 x748000 x748001 x748002 x748003 x748004 x763000 x763001 x763002 x763003 x763004 x763005))) else (none)) else (none)
def fairwaylaw12_IndexLooks.j7 : Nat → Bool → List (S77) → Int → Int → Int → Int → Int → List (S25) → List (S25) → List Int → ByteArray → Int → Int → ByteArray → ByteArray → Int → Bool → Option (Bool)
 | 0, _, _, _, _, _, _, _, _, _, _, _, _, _, _, _, _, _ => none
 | k + 1, x3, x4, x5, x7, x8, x12, x748000, x748001, x748002, x748003, x748004, x763000, x763001, x763002, x763003, x763004, x763005 => if 0 ≤ x5 then (if x5 < (x748003.length : Int) then ((fairwayref10_From.f k x4 (rd x748003 x5)).bind fun t788 => (if t788 > 0 then (fairwaylaw12_IndexLooks.j8 k x3 x4 x5 x7 x8 x12 (wrap64 (t788 * 4)) x748000 x748001 x748002 x748003 x748004 x763000 x763001 x763002 x763003 x763004 x763005) else (fairwaylaw12_IndexLooks.j8 k x3 x4 x5 x7 x8 x12 0 x748000 x748001 x748002 x748003 x748004 x763000 x763001 x763002 x763003 x763004 x763005))) else (none)) else (none)
def fairwaylaw12_IndexLooks.j8 : Nat → Bool → List (S77) → Int → Int → Int → Int → Int → Int → List (S25) → List (S25) → List Int → ByteArray → Int → Int → ByteArray → ByteArray → Int → Bool → Option (Bool)
 | 0, _, _, _, _, _, _, _, _, _, _, _, _, _, _, _, _, _, _ => none
 | k + 1, x3, x4, x5, x7, x8, x12, x13, x748000, x748001, x748002, x748003, x748004, x763000, x763001, x763002, x763003, x763004, x763005 => (fairwaylaw12_num.f x8).bind fun t789 => (if t789 = 0 then (if 0 ≤ x12 then (if x12 < (x748001.length : Int) then (if (!(x763000 == ((rd_T25 x748001 x12).f0)) || (!(x763001 == ((rd_T25 x748001 x12).f1)) || (!(x763002.toList == (((rd_T25 x748001 x12).f2).toList)) || (!(x763003.toList == (((rd_T25 x748001 x12).f3).toList)) || (!(x763004 == ((rd_T25 x748001 x12).f4)) || (!(x763005 == ((rd_T25 x748001 x12).f5)))))))) = true then (fairwaylaw12_IndexLooks.j9 k x3 x4 x5 true x748000 x748001 x748002 x748003 x748004) else (if x7 = (wrap64 (x12 - x13)) then (if x7 < 0 then (fairwaylaw12_IndexLooks.j9 k x3 x4 x5 true x748000 x748001 x748002 x748003 x748004) else (fairwaylaw12_IndexLooks.j9 k x3 x4 x5 (decide (x7 > 4)) x748000 x748001 x748002 x748003 x748004)) else (fairwaylaw12_IndexLooks.j9 k x3 x4 x5 true x748000 x748001 x748002 x748003 x748004))) else (none)) else (none)) else (fairwaylaw12_IndexLooks.j9 k x3 x4 x5 true x748000 x748001 x748002 x748003 x748004))
def fairwaylaw12_IndexLooks.j9 : Nat → Bool → List (S77) → Int → Bool → Int → List (S25) → List (S25) → List Int → ByteArray → Option (Bool)
 | 0, _, _, _, _, _, _, _, _, _ => none
 | k + 1, x3, x4, x5, x133, x748000, x748001, x748002, x748003, x748004 => if x133 = true then (some false) else (fairwaylaw12_IndexLooks.l0 k x3 x4 (wrap64 (x5 + 1)) x748000 x748001 x748002 x748003 x748004)
end
def fairwaylaw12_IndexLooks.f (k : Nat) (a0_0 : Int) (l0_1 : List (S25)) (l0_2 : List (S25)) (l0_3 : List Int) (a0_4 : ByteArray) : Option (Bool) := (fairwaylaw11_Heavy.f k a0_0 l0_1 l0_2 l0_3 a0_4).bind fun t748 => (if t748 = true then (some true) else (fairwaylaw12_IndexLooks.j0 k a0_0 l0_1 l0_2 l0_3 a0_4))
theorem fairwaylaw12_IndexLooks.mono_l : ∀ k, (∀ y0 y1 y2 y3 y4, LeO (fairwaylaw12_IndexLooks.j0 k y0 y1 y2 y3 y4) (fairwaylaw12_IndexLooks.j0 (k + 1) y0 y1 y2 y3 y4)) ∧ (∀ y0 y1 y2 y3 y4 y5 y6, LeO (fairwaylaw12_IndexLooks.j1 k y0 y1 y2 y3 y4 y5 y6) (fairwaylaw12_IndexLooks.j1 (k + 1) y0 y1 y2 y3 y4 y5 y6)) ∧ (LeO (fairwaylaw12_IndexLooks.j10 k ) (fairwaylaw12_IndexLooks.j10 (k + 1) )) ∧ (∀ y0 y1 y2 y3 y4 y5 y6 y7, LeO (fairwaylaw12_IndexLooks.l0 k y0 y1 y2 y3 y4 y5 y6 y7) (fairwaylaw12_IndexLooks.l0 (k + 1) y0 y1 y2 y3 y4 y5 y6 y7)) ∧ (∀ y0 y1 y2 y3 y4 y5 y6 y7 y8, LeO (fairwaylaw12_IndexLooks.j3 k y0 y1 y2 y3 y4 y5 y6 y7 y8) (fairwaylaw12_IndexLooks.j3 (k + 1) y0 y1 y2 y3 y4 y5 y6 y7 y8)) ∧ (∀ y0 y1 y2 y3 y4 y5 y6 y7, LeO (fairwaylaw12_IndexLooks.j4 k y0 y1 y2 y3 y4 y5 y6 y7) (fairwaylaw12_IndexLooks.j4 (k + 1) y0 y1 y2 y3 y4 y5 y6 y7)) ∧ (∀ y0 y1 y2 y3 y4 y5 y6 y7 y8 y9 y10 y11 y12 y13 y14 y15, LeO (fairwaylaw12_IndexLooks.j5 k y0 y1 y2 y3 y4 y5 y6 y7 y8 y9 y10 y11 y12 y13 y14 y15) (fairwaylaw12_IndexLooks.j5 (k + 1) y0 y1 y2 y3 y4 y5 y6 y7 y8 y9 y10 y11 y12 y13 y14 y15)) ∧ (∀ y0 y1 y2 y3 y4 y5 y6 y7 y8 y9 y10 y11 y12 y13 y14 y15, LeO (fairwaylaw12_IndexLooks.j6 k y0 y1 y2 y3 y4 y5 y6 y7 y8 y9 y10 y11 y12 y13 y14 y15) (fairwaylaw12_IndexLooks.j6 (k + 1) y0 y1 y2 y3 y4 y5 y6 y7 y8 y9 y10 y11 y12 y13 y14 y15)) ∧ (∀ y0 y1 y2 y3 y4 y5 y6 y7 y8 y9 y10 y11 y12 y13 y14 y15 y16, LeO (fairwaylaw12_IndexLooks.j7 k y0 y1 y2 y3 y4 y5 y6 y7 y8 y9 y10 y11 y12 y13 y14 y15 y16) (fairwaylaw12_IndexLooks.j7 (k + 1) y0 y1 y2 y3 y4 y5 y6 y7 y8 y9 y10 y11 y12 y13 y14 y15 y16)) ∧ (∀ y0 y1 y2 y3 y4 y5 y6 y7 y8 y9 y10 y11 y12 y13 y14 y15 y16 y17, LeO (fairwaylaw12_IndexLooks.j8 k y0 y1 y2 y3 y4 y5 y6 y7 y8 y9 y10 y11 y12 y13 y14 y15 y16 y17) (fairwaylaw12_IndexLooks.j8 (k + 1) y0 y1 y2 y3 y4 y5 y6 y7 y8 y9 y10 y11 y12 y13 y14 y15 y16 y17)) ∧ (∀ y0 y1 y2 y3 y4 y5 y6 y7 y8, LeO (fairwaylaw12_IndexLooks.j9 k y0 y1 y2 y3 y4 y5 y6 y7 y8) (fairwaylaw12_IndexLooks.j9 (k + 1) y0 y1 y2 y3 y4 y5 y6 y7 y8))
 | 0 => ⟨fun _ _ _ _ _ r h => by simp [fairwaylaw12_IndexLooks.j0] at h, fun _ _ _ _ _ _ _ r h => by simp [fairwaylaw12_IndexLooks.j1] at h, fun r h => by simp [fairwaylaw12_IndexLooks.j10] at h, fun _ _ _ _ _ _ _ _ r h => by simp [fairwaylaw12_IndexLooks.l0] at h, fun _ _ _ _ _ _ _ _ _ r h => by simp [fairwaylaw12_IndexLooks.j3] at h, fun _ _ _ _ _ _ _ _ r h => by simp [fairwaylaw12_IndexLooks.j4] at h, fun _ _ _ _ _ _ _ _ _ _ _ _ _ _ _ _ r h => by simp [fairwaylaw12_IndexLooks.j5] at h, fun _ _ _ _ _ _ _ _ _ _ _ _ _ _ _ _ r h => by simp [fairwaylaw12_IndexLooks.j6] at h, fun _ _ _ _ _ _ _ _ _ _ _ _ _ _ _ _ _ r h => by simp [fairwaylaw12_IndexLooks.j7] at h, fun _ _ _ _ _ _ _ _ _ _ _ _ _ _ _ _ _ _ r h => by simp [fairwaylaw12_IndexLooks.j8] at h, fun _ _ _ _ _ _ _ _ _ r h => by simp [fairwaylaw12_IndexLooks.j9] at h⟩
 | k + 1 => by
  obtain ⟨ih0, ih1, ih2, ih3, ih4, ih5, ih6, ih7, ih8, ih9, ih10⟩ := fairwaylaw12_IndexLooks.mono_l k
  refine ⟨?_, ?_, ?_, ?_, ?_, ?_, ?_, ?_, ?_, ?_, ?_⟩
  ·intro y0 y1 y2 y3 y4
   unfold fairwaylaw12_IndexLooks.j0
   repeat' first
   | (with_reducible exact ih0 _ _ _ _ _)
   | (with_reducible exact ih1 _ _ _ _ _ _ _)
   | (with_reducible exact ih2)
   | (with_reducible exact ih3 _ _ _ _ _ _ _ _)
   | (with_reducible exact ih4 _ _ _ _ _ _ _ _ _)
   | (with_reducible exact ih5 _ _ _ _ _ _ _ _)
   | (with_reducible exact ih6 _ _ _ _ _ _ _ _ _ _ _ _ _ _ _ _)
   | (with_reducible exact ih7 _ _ _ _ _ _ _ _ _ _ _ _ _ _ _ _)
   | (with_reducible exact ih8 _ _ _ _ _ _ _ _ _ _ _ _ _ _ _ _ _)
   | (with_reducible exact ih9 _ _ _ _ _ _ _ _ _ _ _ _ _ _ _ _ _ _)
   | (with_reducible exact ih10 _ _ _ _ _ _ _ _ _)
   | (with_reducible exact fairwaylaw11_Heavy.mono _ _ _ _ _ _)
   | (with_reducible exact fairwaylaw12_wakes.mono _)
   | (with_reducible exact fairwayref0_CopyMarks.mono _ _)
   | (with_reducible exact fairwayref10_Find.mono _ _ _)
   | (with_reducible exact fairwayref10_From.mono _ _ _)
   | (with_reducible exact fairwayref10_Marks.mono _ _ _)
   | (with_reducible exact fairwayref10_Seg.mono _ _ _)
   | (with_reducible exact index_Look.mono _ _ _ _ _)
   | (with_reducible exact LeO.refl _)
   | (with_reducible exact LeO.none _)
   | (with_reducible refine LeO.ite ?_ ?_)
   | (with_reducible refine LeO.bind ?_ (fun _ => ?_))
   | exact ih0 _ _ _ _ _
   | exact ih1 _ _ _ _ _ _ _
   | exact ih2
   | exact ih3 _ _ _ _ _ _ _ _
   | exact ih4 _ _ _ _ _ _ _ _ _
   | exact ih5 _ _ _ _ _ _ _ _
   | exact ih6 _ _ _ _ _ _ _ _ _ _ _ _ _ _ _ _
   | exact ih7 _ _ _ _ _ _ _ _ _ _ _ _ _ _ _ _
   | exact ih8 _ _ _ _ _ _ _ _ _ _ _ _ _ _ _ _ _
   | exact ih9 _ _ _ _ _ _ _ _ _ _ _ _ _ _ _ _ _ _
   | exact ih10 _ _ _ _ _ _ _ _ _
   | exact fairwaylaw11_Heavy.mono _ _ _ _ _ _
   | exact fairwaylaw12_wakes.mono _
   | exact fairwayref0_CopyMarks.mono _ _
   | exact fairwayref10_Find.mono _ _ _
   | exact fairwayref10_From.mono _ _ _
   | exact fairwayref10_Marks.mono _ _ _
   | exact fairwayref10_Seg.mono _ _ _
   | exact index_Look.mono _ _ _ _ _
   | exact LeO.none _
   | refine LeO.ite ?_ ?_
   | refine LeO.bind ?_ (fun _ => ?_)
  ·intro y0 y1 y2 y3 y4 y5 y6
   unfold fairwaylaw12_IndexLooks.j1
   repeat' first
   | (with_reducible exact ih0 _ _ _ _ _)
   | (with_reducible exact ih1 _ _ _ _ _ _ _)
   | (with_reducible exact ih2)
   | (with_reducible exact ih3 _ _ _ _ _ _ _ _)
   | (with_reducible exact ih4 _ _ _ _ _ _ _ _ _)
   | (with_reducible exact ih5 _ _ _ _ _ _ _ _)
   | (with_reducible exact ih6 _ _ _ _ _ _ _ _ _ _ _ _ _ _ _ _)
   | (with_reducible exact ih7 _ _ _ _ _ _ _ _ _ _ _ _ _ _ _ _)
   | (with_reducible exact ih8 _ _ _ _ _ _ _ _ _ _ _ _ _ _ _ _ _)
   | (with_reducible exact ih9 _ _ _ _ _ _ _ _ _ _ _ _ _ _ _ _ _ _)
   | (with_reducible exact ih10 _ _ _ _ _ _ _ _ _)
   | (with_reducible exact fairwaylaw11_Heavy.mono _ _ _ _ _ _)
   | (with_reducible exact fairwaylaw12_wakes.mono _)
   | (with_reducible exact fairwayref0_CopyMarks.mono _ _)
   | (with_reducible exact fairwayref10_Find.mono _ _ _)
   | (with_reducible exact fairwayref10_From.mono _ _ _)
   | (with_reducible exact fairwayref10_Marks.mono _ _ _)
   | (with_reducible exact fairwayref10_Seg.mono _ _ _)
   | (with_reducible exact index_Look.mono _ _ _ _ _)
   | (with_reducible exact LeO.refl _)
   | (with_reducible exact LeO.none _)
   | (with_reducible refine LeO.ite ?_ ?_)
   | (with_reducible refine LeO.bind ?_ (fun _ => ?_))
   | exact ih0 _ _ _ _ _
   | exact ih1 _ _ _ _ _ _ _
   | exact ih2
   | exact ih3 _ _ _ _ _ _ _ _
   | exact ih4 _ _ _ _ _ _ _ _ _
   | exact ih5 _ _ _ _ _ _ _ _
   | exact ih6 _ _ _ _ _ _ _ _ _ _ _ _ _ _ _ _
   | exact ih7 _ _ _ _ _ _ _ _ _ _ _ _ _ _ _ _
   | exact ih8 _ _ _ _ _ _ _ _ _ _ _ _ _ _ _ _ _
   | exact ih9 _ _ _ _ _ _ _ _ _ _ _ _ _ _ _ _ _ _
   | exact ih10 _ _ _ _ _ _ _ _ _
   | exact fairwaylaw11_Heavy.mono _ _ _ _ _ _
   | exact fairwaylaw12_wakes.mono _
   | exact fairwayref0_CopyMarks.mono _ _
   | exact fairwayref10_Find.mono _ _ _
   | exact fairwayref10_From.mono _ _ _
   | exact fairwayref10_Marks.mono _ _ _
   | exact fairwayref10_Seg.mono _ _ _
   | exact index_Look.mono _ _ _ _ _
   | exact LeO.none _
   | refine LeO.ite ?_ ?_
   | refine LeO.bind ?_ (fun _ => ?_)
  ·skip
   unfold fairwaylaw12_IndexLooks.j10
   repeat' first
   | (with_reducible exact ih0 _ _ _ _ _)
   | (with_reducible exact ih1 _ _ _ _ _ _ _)
   | (with_reducible exact ih2)
   | (with_reducible exact ih3 _ _ _ _ _ _ _ _)
   | (with_reducible exact ih4 _ _ _ _ _ _ _ _ _)
   | (with_reducible exact ih5 _ _ _ _ _ _ _ _)
   | (with_reducible exact ih6 _ _ _ _ _ _ _ _ _ _ _ _ _ _ _ _)
   | (with_reducible exact ih7 _ _ _ _ _ _ _ _ _ _ _ _ _ _ _ _)
   | (with_reducible exact ih8 _ _ _ _ _ _ _ _ _ _ _ _ _ _ _ _ _)
   | (with_reducible exact ih9 _ _ _ _ _ _ _ _ _ _ _ _ _ _ _ _ _ _)
   | (with_reducible exact ih10 _ _ _ _ _ _ _ _ _)
   | (with_reducible exact fairwaylaw11_Heavy.mono _ _ _ _ _ _)
   | (with_reducible exact fairwaylaw12_wakes.mono _)
   | (with_reducible exact fairwayref0_CopyMarks.mono _ _)
   | (with_reducible exact fairwayref10_Find.mono _ _ _)
   | (with_reducible exact fairwayref10_From.mono _ _ _)
   | (with_reducible exact fairwayref10_Marks.mono _ _ _)
   | (with_reducible exact fairwayref10_Seg.mono _ _ _)
   | (with_reducible exact index_Look.mono _ _ _ _ _)
   | (with_reducible exact LeO.refl _)
   | (with_reducible exact LeO.none _)
   | (with_reducible refine LeO.ite ?_ ?_)
   | (with_reducible refine LeO.bind ?_ (fun _ => ?_))
   | exact ih0 _ _ _ _ _
   | exact ih1 _ _ _ _ _ _ _
   | exact ih2
   | exact ih3 _ _ _ _ _ _ _ _
   | exact ih4 _ _ _ _ _ _ _ _ _
   | exact ih5 _ _ _ _ _ _ _ _
   | exact ih6 _ _ _ _ _ _ _ _ _ _ _ _ _ _ _ _
   | exact ih7 _ _ _ _ _ _ _ _ _ _ _ _ _ _ _ _
   | exact ih8 _ _ _ _ _ _ _ _ _ _ _ _ _ _ _ _ _
   | exact ih9 _ _ _ _ _ _ _ _ _ _ _ _ _ _ _ _ _ _
   | exact ih10 _ _ _ _ _ _ _ _ _
   | exact fairwaylaw11_Heavy.mono _ _ _ _ _ _
   | exact fairwaylaw12_wakes.mono _
   | exact fairwayref0_CopyMarks.mono _ _
   | exact fairwayref10_Find.mono _ _ _
   | exact fairwayref10_From.mono _ _ _
   | exact fairwayref10_Marks.mono _ _ _
   | exact fairwayref10_Seg.mono _ _ _
   | exact index_Look.mono _ _ _ _ _
   | exact LeO.none _
   | refine LeO.ite ?_ ?_
   | refine LeO.bind ?_ (fun _ => ?_)
  ·intro y0 y1 y2 y3 y4 y5 y6 y7
   unfold fairwaylaw12_IndexLooks.l0
   repeat' first
   | (with_reducible exact ih0 _ _ _ _ _)
   | (with_reducible exact ih1 _ _ _ _ _ _ _)
   | (with_reducible exact ih2)
   | (with_reducible exact ih3 _ _ _ _ _ _ _ _)
   | (with_reducible exact ih4 _ _ _ _ _ _ _ _ _)
   | (with_reducible exact ih5 _ _ _ _ _ _ _ _)
   | (with_reducible exact ih6 _ _ _ _ _ _ _ _ _ _ _ _ _ _ _ _)
   | (with_reducible exact ih7 _ _ _ _ _ _ _ _ _ _ _ _ _ _ _ _)
   | (with_reducible exact ih8 _ _ _ _ _ _ _ _ _ _ _ _ _ _ _ _ _)
   | (with_reducible exact ih9 _ _ _ _ _ _ _ _ _ _ _ _ _ _ _ _ _ _)
   | (with_reducible exact ih10 _ _ _ _ _ _ _ _ _)
   | (with_reducible exact fairwaylaw11_Heavy.mono _ _ _ _ _ _)
   | (with_reducible exact fairwaylaw12_wakes.mono _)
   | (with_reducible exact fairwayref0_CopyMarks.mono _ _)
   | (with_reducible exact fairwayref10_Find.mono _ _ _)
   | (with_reducible exact fairwayref10_From.mono _ _ _)
   | (with_reducible exact fairwayref10_Marks.mono _ _ _)
   | (with_reducible exact fairwayref10_Seg.mono _ _ _)
   | (with_reducible exact index_Look.mono _ _ _ _ _)
   | (with_reducible exact LeO.refl _)
   | (with_reducible exact LeO.none _)
   | (with_reducible refine LeO.ite ?_ ?_)
   | (with_reducible refine LeO.bind ?_ (fun _ => ?_))
   | exact ih0 _ _ _ _ _
   | exact ih1 _ _ _ _ _ _ _
   | exact ih2
   | exact ih3 _ _ _ _ _ _ _ _
   | exact ih4 _ _ _ _ _ _ _ _ _
   | exact ih5 _ _ _ _ _ _ _ _
   | exact ih6 _ _ _ _ _ _ _ _ _ _ _ _ _ _ _ _
   | exact ih7 _ _ _ _ _ _ _ _ _ _ _ _ _ _ _ _
   | exact ih8 _ _ _ _ _ _ _ _ _ _ _ _ _ _ _ _ _
   | exact ih9 _ _ _ _ _ _ _ _ _ _ _ _ _ _ _ _ _ _
   | exact ih10 _ _ _ _ _ _ _ _ _
   | exact fairwaylaw11_Heavy.mono _ _ _ _ _ _
   | exact fairwaylaw12_wakes.mono _
   | exact fairwayref0_CopyMarks.mono _ _
   | exact fairwayref10_Find.mono _ _ _
   | exact fairwayref10_From.mono _ _ _
   | exact fairwayref10_Marks.mono _ _ _
   | exact fairwayref10_Seg.mono _ _ _
   | exact index_Look.mono _ _ _ _ _
   | exact LeO.none _
   | refine LeO.ite ?_ ?_
   | refine LeO.bind ?_ (fun _ => ?_)
  ·intro y0 y1 y2 y3 y4 y5 y6 y7 y8
   unfold fairwaylaw12_IndexLooks.j3
   repeat' first
   | (with_reducible exact ih0 _ _ _ _ _)
   | (with_reducible exact ih1 _ _ _ _ _ _ _)
   | (with_reducible exact ih2)
   | (with_reducible exact ih3 _ _ _ _ _ _ _ _)
   | (with_reducible exact ih4 _ _ _ _ _ _ _ _ _)
   | (with_reducible exact ih5 _ _ _ _ _ _ _ _)
   | (with_reducible exact ih6 _ _ _ _ _ _ _ _ _ _ _ _ _ _ _ _)
   | (with_reducible exact ih7 _ _ _ _ _ _ _ _ _ _ _ _ _ _ _ _)
   | (with_reducible exact ih8 _ _ _ _ _ _ _ _ _ _ _ _ _ _ _ _ _)
   | (with_reducible exact ih9 _ _ _ _ _ _ _ _ _ _ _ _ _ _ _ _ _ _)
   | (with_reducible exact ih10 _ _ _ _ _ _ _ _ _)
   | (with_reducible exact fairwaylaw11_Heavy.mono _ _ _ _ _ _)
   | (with_reducible exact fairwaylaw12_wakes.mono _)
   | (with_reducible exact fairwayref0_CopyMarks.mono _ _)
   | (with_reducible exact fairwayref10_Find.mono _ _ _)
   | (with_reducible exact fairwayref10_From.mono _ _ _)
   | (with_reducible exact fairwayref10_Marks.mono _ _ _)
   | (with_reducible exact fairwayref10_Seg.mono _ _ _)
   | (with_reducible exact index_Look.mono _ _ _ _ _)
   | (with_reducible exact LeO.refl _)
   | (with_reducible exact LeO.none _)
   | (with_reducible refine LeO.ite ?_ ?_)
   | (with_reducible refine LeO.bind ?_ (fun _ => ?_))
   | exact ih0 _ _ _ _ _
   | exact ih1 _ _ _ _ _ _ _
   | exact ih2
   | exact ih3 _ _ _ _ _ _ _ _
   | exact ih4 _ _ _ _ _ _ _ _ _
   | exact ih5 _ _ _ _ _ _ _ _
   | exact ih6 _ _ _ _ _ _ _ _ _ _ _ _ _ _ _ _
   | exact ih7 _ _ _ _ _ _ _ _ _ _ _ _ _ _ _ _
   | exact ih8 _ _ _ _ _ _ _ _ _ _ _ _ _ _ _ _ _
   | exact ih9 _ _ _ _ _ _ _ _ _ _ _ _ _ _ _ _ _ _
   | exact ih10 _ _ _ _ _ _ _ _ _
   | exact fairwaylaw11_Heavy.mono _ _ _ _ _ _
   | exact fairwaylaw12_wakes.mono _
   | exact fairwayref0_CopyMarks.mono _ _
   | exact fairwayref10_Find.mono _ _ _
   | exact fairwayref10_From.mono _ _ _
   | exact fairwayref10_Marks.mono _ _ _
   | exact fairwayref10_Seg.mono _ _ _
   | exact index_Look.mono _ _ _ _ _
   | exact LeO.none _
   | refine LeO.ite ?_ ?_
   | refine LeO.bind ?_ (fun _ => ?_)
  ·intro y0 y1 y2 y3 y4 y5 y6 y7
   unfold fairwaylaw12_IndexLooks.j4
   repeat' first
   | (with_reducible exact ih0 _ _ _ _ _)
   | (with_reducible exact ih1 _ _ _ _ _ _ _)
   | (with_reducible exact ih2)
   | (with_reducible exact ih3 _ _ _ _ _ _ _ _)
   | (with_reducible exact ih4 _ _ _ _ _ _ _ _ _)
   | (with_reducible exact ih5 _ _ _ _ _ _ _ _)
   | (with_reducible exact ih6 _ _ _ _ _ _ _ _ _ _ _ _ _ _ _ _)
   | (with_reducible exact ih7 _ _ _ _ _ _ _ _ _ _ _ _ _ _ _ _)
   | (with_reducible exact ih8 _ _ _ _ _ _ _ _ _ _ _ _ _ _ _ _ _)
   | (with_reducible exact ih9 _ _ _ _ _ _ _ _ _ _ _ _ _ _ _ _ _ _)
   | (with_reducible exact ih10 _ _ _ _ _ _ _ _ _)
   | (with_reducible exact fairwaylaw11_Heavy.mono _ _ _ _ _ _)
   | (with_reducible exact fairwaylaw12_wakes.mono _)
   | (with_reducible exact fairwayref0_CopyMarks.mono _ _)
   | (with_reducible exact fairwayref10_Find.mono _ _ _)
   | (with_reducible exact fairwayref10_From.mono _ _ _)
   | (with_reducible exact fairwayref10_Marks.mono _ _ _)
   | (with_reducible exact fairwayref10_Seg.mono _ _ _)
   | (with_reducible exact index_Look.mono _ _ _ _ _)
   | (with_reducible exact LeO.refl _)
   | (with_reducible exact LeO.none _)
   | (with_reducible refine LeO.ite ?_ ?_)
   | (with_reducible refine LeO.bind ?_ (fun _ => ?_))
   | exact ih0 _ _ _ _ _
   | exact ih1 _ _ _ _ _ _ _
   | exact ih2
   | exact ih3 _ _ _ _ _ _ _ _
   | exact ih4 _ _ _ _ _ _ _ _ _
   | exact ih5 _ _ _ _ _ _ _ _
   | exact ih6 _ _ _ _ _ _ _ _ _ _ _ _ _ _ _ _
   | exact ih7 _ _ _ _ _ _ _ _ _ _ _ _ _ _ _ _
   | exact ih8 _ _ _ _ _ _ _ _ _ _ _ _ _ _ _ _ _
   | exact ih9 _ _ _ _ _ _ _ _ _ _ _ _ _ _ _ _ _ _
   | exact ih10 _ _ _ _ _ _ _ _ _
   | exact fairwaylaw11_Heavy.mono _ _ _ _ _ _
   | exact fairwaylaw12_wakes.mono _
   | exact fairwayref0_CopyMarks.mono _ _
   | exact fairwayref10_Find.mono _ _ _
   | exact fairwayref10_From.mono _ _ _
   | exact fairwayref10_Marks.mono _ _ _
   | exact fairwayref10_Seg.mono _ _ _
   | exact index_Look.mono _ _ _ _ _
   | exact LeO.none _
   | refine LeO.ite ?_ ?_
   | refine LeO.bind ?_ (fun _ => ?_)
  ·intro y0 y1 y2 y3 y4 y5 y6 y7 y8 y9 y10 y11 y12 y13 y14 y15
   unfold fairwaylaw12_IndexLooks.j5
   repeat' first
   | (with_reducible exact ih0 _ _ _ _ _)
   | (with_reducible exact ih1 _ _ _ _ _ _ _)
   | (with_reducible exact ih2)
   | (with_reducible exact ih3 _ _ _ _ _ _ _ _)
   | (with_reducible exact ih4 _ _ _ _ _ _ _ _ _)
   | (with_reducible exact ih5 _ _ _ _ _ _ _ _)
   | (with_reducible exact ih6 _ _ _ _ _ _ _ _ _ _ _ _ _ _ _ _)
   | (with_reducible exact ih7 _ _ _ _ _ _ _ _ _ _ _ _ _ _ _ _)
   | (with_reducible exact ih8 _ _ _ _ _ _ _ _ _ _ _ _ _ _ _ _ _)
   | (with_reducible exact ih9 _ _ _ _ _ _ _ _ _ _ _ _ _ _ _ _ _ _)
   | (with_reducible exact ih10 _ _ _ _ _ _ _ _ _)
   | (with_reducible exact fairwaylaw11_Heavy.mono _ _ _ _ _ _)
   | (with_reducible exact fairwaylaw12_wakes.mono _)
   | (with_reducible exact fairwayref0_CopyMarks.mono _ _)
   | (with_reducible exact fairwayref10_Find.mono _ _ _)
   | (with_reducible exact fairwayref10_From.mono _ _ _)
   | (with_reducible exact fairwayref10_Marks.mono _ _ _)
   | (with_reducible exact fairwayref10_Seg.mono _ _ _)
   | (with_reducible exact index_Look.mono _ _ _ _ _)
   | (with_reducible exact LeO.refl _)
   | (with_reducible exact LeO.none _)
   | (with_reducible refine LeO.ite ?_ ?_)
   | (with_reducible refine LeO.bind ?_ (fun _ => ?_))
   | exact ih0 _ _ _ _ _
   | exact ih1 _ _ _ _ _ _ _
   | exact ih2
   | exact ih3 _ _ _ _ _ _ _ _
   | exact ih4 _ _ _ _ _ _ _ _ _
   | exact ih5 _ _ _ _ _ _ _ _
   | exact ih6 _ _ _ _ _ _ _ _ _ _ _ _ _ _ _ _
   | exact ih7 _ _ _ _ _ _ _ _ _ _ _ _ _ _ _ _
   | exact ih8 _ _ _ _ _ _ _ _ _ _ _ _ _ _ _ _ _
   | exact ih9 _ _ _ _ _ _ _ _ _ _ _ _ _ _ _ _ _ _
   | exact ih10 _ _ _ _ _ _ _ _ _
   | exact fairwaylaw11_Heavy.mono _ _ _ _ _ _
   | exact fairwaylaw12_wakes.mono _
   | exact fairwayref0_CopyMarks.mono _ _
   | exact fairwayref10_Find.mono _ _ _
   | exact fairwayref10_From.mono _ _ _
   | exact fairwayref10_Marks.mono _ _ _
   | exact fairwayref10_Seg.mono _ _ _
   | exact index_Look.mono _ _ _ _ _
   | exact LeO.none _
   | refine LeO.ite ?_ ?_
   | refine LeO.bind ?_ (fun _ => ?_)
  ·intro y0 y1 y2 y3 y4 y5 y6 y7 y8 y9 y10 y11 y12 y13 y14 y15
   unfold fairwaylaw12_IndexLooks.j6
   repeat' first
   | (with_reducible exact ih0 _ _ _ _ _)
   | (with_reducible exact ih1 _ _ _ _ _ _ _)
   | (with_reducible exact ih2)
   | (with_reducible exact ih3 _ _ _ _ _ _ _ _)
   | (with_reducible exact ih4 _ _ _ _ _ _ _ _ _)
   | (with_reducible exact ih5 _ _ _ _ _ _ _ _)
   | (with_reducible exact ih6 _ _ _ _ _ _ _ _ _ _ _ _ _ _ _ _)
   | (with_reducible exact ih7 _ _ _ _ _ _ _ _ _ _ _ _ _ _ _ _)
   | (with_reducible exact ih8 _ _ _ _ _ _ _ _ _ _ _ _ _ _ _ _ _)
   | (with_reducible exact ih9 _ _ _ _ _ _ _ _ _ _ _ _ _ _ _ _ _ _)
   | (with_reducible exact ih10 _ _ _ _ _ _ _ _ _)
   | (with_reducible exact fairwaylaw11_Heavy.mono _ _ _ _ _ _)
   | (with_reducible exact fairwaylaw12_wakes.mono _)
   | (with_reducible exact fairwayref0_CopyMarks.mono _ _)
   | (with_reducible exact fairwayref10_Find.mono _ _ _)
   | (with_reducible exact fairwayref10_From.mono _ _ _)
   | (with_reducible exact fairwayref10_Marks.mono _ _ _)
   | (with_reducible exact fairwayref10_Seg.mono _ _ _)
   | (with_reducible exact index_Look.mono _ _ _ _ _)
   | (with_reducible exact LeO.refl _)
   | (with_reducible exact LeO.none _)
   | (with_reducible refine LeO.ite ?_ ?_)
   | (with_reducible refine LeO.bind ?_ (fun _ => ?_))
   | exact ih0 _ _ _ _ _
   | exact ih1 _ _ _ _ _ _ _
   | exact ih2
   | exact ih3 _ _ _ _ _ _ _ _
   | exact ih4 _ _ _ _ _ _ _ _ _
   | exact ih5 _ _ _ _ _ _ _ _
   | exact ih6 _ _ _ _ _ _ _ _ _ _ _ _ _ _ _ _
   | exact ih7 _ _ _ _ _ _ _ _ _ _ _ _ _ _ _ _
   | exact ih8 _ _ _ _ _ _ _ _ _ _ _ _ _ _ _ _ _
   | exact ih9 _ _ _ _ _ _ _ _ _ _ _ _ _ _ _ _ _ _
   | exact ih10 _ _ _ _ _ _ _ _ _
   | exact fairwaylaw11_Heavy.mono _ _ _ _ _ _
   | exact fairwaylaw12_wakes.mono _
   | exact fairwayref0_CopyMarks.mono _ _
   | exact fairwayref10_Find.mono _ _ _
   | exact fairwayref10_From.mono _ _ _
   | exact fairwayref10_Marks.mono _ _ _
   | exact fairwayref10_Seg.mono _ _ _
   | exact index_Look.mono _ _ _ _ _
   | exact LeO.none _
   | refine LeO.ite ?_ ?_
   | refine LeO.bind ?_ (fun _ => ?_)
  ·intro y0 y1 y2 y3 y4 y5 y6 y7 y8 y9 y10 y11 y12 y13 y14 y15 y16
   unfold fairwaylaw12_IndexLooks.j7
   repeat' first
   | (with_reducible exact ih0 _ _ _ _ _)
   | (with_reducible exact ih1 _ _ _ _ _ _ _)
   | (with_reducible exact ih2)
   | (with_reducible exact ih3 _ _ _ _ _ _ _ _)
   | (with_reducible exact ih4 _ _ _ _ _ _ _ _ _)
   | (with_reducible exact ih5 _ _ _ _ _ _ _ _)
   | (with_reducible exact ih6 _ _ _ _ _ _ _ _ _ _ _ _ _ _ _ _)
   | (with_reducible exact ih7 _ _ _ _ _ _ _ _ _ _ _ _ _ _ _ _)
   | (with_reducible exact ih8 _ _ _ _ _ _ _ _ _ _ _ _ _ _ _ _ _)
   | (with_reducible exact ih9 _ _ _ _ _ _ _ _ _ _ _ _ _ _ _ _ _ _)
   | (with_reducible exact ih10 _ _ _ _ _ _ _ _ _)
   | (with_reducible exact fairwaylaw11_Heavy.mono _ _ _ _ _ _)
   | (with_reducible exact fairwaylaw12_wakes.mono _)
   | (with_reducible exact fairwayref0_CopyMarks.mono _ _)
   | (with_reducible exact fairwayref10_Find.mono _ _ _)
   | (with_reducible exact fairwayref10_From.mono _ _ _)
   | (with_reducible exact fairwayref10_Marks.mono _ _ _)
   | (with_reducible exact fairwayref10_Seg.mono _ _ _)
   | (with_reducible exact index_Look.mono _ _ _ _ _)
   | (with_reducible exact LeO.refl _)
   | (with_reducible exact LeO.none _)
   | (with_reducible refine LeO.ite ?_ ?_)
   | (with_reducible refine LeO.bind ?_ (fun _ => ?_))
   | exact ih0 _ _ _ _ _
   | exact ih1 _ _ _ _ _ _ _
   | exact ih2
   | exact ih3 _ _ _ _ _ _ _ _
   | exact ih4 _ _ _ _ _ _ _ _ _
   | exact ih5 _ _ _ _ _ _ _ _
   | exact ih6 _ _ _ _ _ _ _ _ _ _ _ _ _ _ _ _
   | exact ih7 _ _ _ _ _ _ _ _ _ _ _ _ _ _ _ _
   | exact ih8 _ _ _ _ _ _ _ _ _ _ _ _ _ _ _ _ _
   | exact ih9 _ _ _ _ _ _ _ _ _ _ _ _ _ _ _ _ _ _
   | exact ih10 _ _ _ _ _ _ _ _ _
   | exact fairwaylaw11_Heavy.mono _ _ _ _ _ _
   | exact fairwaylaw12_wakes.mono _
   | exact fairwayref0_CopyMarks.mono _ _
   | exact fairwayref10_Find.mono _ _ _
   | exact fairwayref10_From.mono _ _ _
   | exact fairwayref10_Marks.mono _ _ _
   | exact fairwayref10_Seg.mono _ _ _
   | exact index_Look.mono _ _ _ _ _
   | exact LeO.none _
   | refine LeO.ite ?_ ?_
   | refine LeO.bind ?_ (fun _ => ?_)
  ·intro y0 y1 y2 y3 y4 y5 y6 y7 y8 y9 y10 y11 y12 y13 y14 y15 y16 y17
   unfold fairwaylaw12_IndexLooks.j8
   repeat' first
   | (with_reducible exact ih0 _ _ _ _ _)
   | (with_reducible exact ih1 _ _ _ _ _ _ _)
   | (with_reducible exact ih2)
   | (with_reducible exact ih3 _ _ _ _ _ _ _ _)
   | (with_reducible exact ih4 _ _ _ _ _ _ _ _ _)
   | (with_reducible exact ih5 _ _ _ _ _ _ _ _)
   | (with_reducible exact ih6 _ _ _ _ _ _ _ _ _ _ _ _ _ _ _ _)
   | (with_reducible exact ih7 _ _ _ _ _ _ _ _ _ _ _ _ _ _ _ _)
   | (with_reducible exact ih8 _ _ _ _ _ _ _ _ _ _ _ _ _ _ _ _ _)
   | (with_reducible exact ih9 _ _ _ _ _ _ _ _ _ _ _ _ _ _ _ _ _ _)
   | (with_reducible exact ih10 _ _ _ _ _ _ _ _ _)
   | (with_reducible exact fairwaylaw11_Heavy.mono _ _ _ _ _ _)
   | (with_reducible exact fairwaylaw12_wakes.mono _)
   | (with_reducible exact fairwayref0_CopyMarks.mono _ _)
   | (with_reducible exact fairwayref10_Find.mono _ _ _)
   | (with_reducible exact fairwayref10_From.mono _ _ _)
   | (with_reducible exact fairwayref10_Marks.mono _ _ _)
   | (with_reducible exact fairwayref10_Seg.mono _ _ _)
   | (with_reducible exact index_Look.mono _ _ _ _ _)
   | (with_reducible exact LeO.refl _)
   | (with_reducible exact LeO.none _)
   | (with_reducible refine LeO.ite ?_ ?_)
   | (with_reducible refine LeO.bind ?_ (fun _ => ?_))
   | exact ih0 _ _ _ _ _
   | exact ih1 _ _ _ _ _ _ _
   | exact ih2
   | exact ih3 _ _ _ _ _ _ _ _
   | exact ih4 _ _ _ _ _ _ _ _ _
   | exact ih5 _ _ _ _ _ _ _ _
   | exact ih6 _ _ _ _ _ _ _ _ _ _ _ _ _ _ _ _
   | exact ih7 _ _ _ _ _ _ _ _ _ _ _ _ _ _ _ _
   | exact ih8 _ _ _ _ _ _ _ _ _ _ _ _ _ _ _ _ _
   | exact ih9 _ _ _ _ _ _ _ _ _ _ _ _ _ _ _ _ _ _
   | exact ih10 _ _ _ _ _ _ _ _ _
   | exact fairwaylaw11_Heavy.mono _ _ _ _ _ _
   | exact fairwaylaw12_wakes.mono _
   | exact fairwayref0_CopyMarks.mono _ _
   | exact fairwayref10_Find.mono _ _ _
   | exact fairwayref10_From.mono _ _ _
   | exact fairwayref10_Marks.mono _ _ _
   | exact fairwayref10_Seg.mono _ _ _
   | exact index_Look.mono _ _ _ _ _
   | exact LeO.none _
   | refine LeO.ite ?_ ?_
   | refine LeO.bind ?_ (fun _ => ?_)
  ·intro y0 y1 y2 y3 y4 y5 y6 y7 y8
   unfold fairwaylaw12_IndexLooks.j9
   repeat' first
   | (with_reducible exact ih0 _ _ _ _ _)
   | (with_reducible exact ih1 _ _ _ _ _ _ _)
   | (with_reducible exact ih2)
   | (with_reducible exact ih3 _ _ _ _ _ _ _ _)
   | (with_reducible exact ih4 _ _ _ _ _ _ _ _ _)
   | (with_reducible exact ih5 _ _ _ _ _ _ _ _)
   | (with_reducible exact ih6 _ _ _ _ _ _ _ _ _ _ _ _ _ _ _ _)
   | (with_reducible exact ih7 _ _ _ _ _ _ _ _ _ _ _ _ _ _ _ _)
   | (with_reducible exact ih8 _ _ _ _ _ _ _ _ _ _ _ _ _ _ _ _ _)
   | (with_reducible exact ih9 _ _ _ _ _ _ _ _ _ _ _ _ _ _ _ _ _ _)
   | (with_reducible exact ih10 _ _ _ _ _ _ _ _ _)
   | (with_reducible exact fairwaylaw11_Heavy.mono _ _ _ _ _ _)
   | (with_reducible exact fairwaylaw12_wakes.mono _)
   | (with_reducible exact fairwayref0_CopyMarks.mono _ _)
   | (with_reducible exact fairwayref10_Find.mono _ _ _)
   | (with_reducible exact fairwayref10_From.mono _ _ _)
   | (with_reducible exact fairwayref10_Marks.mono _ _ _)
   | (with_reducible exact fairwayref10_Seg.mono _ _ _)
   | (with_reducible exact index_Look.mono _ _ _ _ _)
   | (with_reducible exact LeO.refl _)
   | (with_reducible exact LeO.none _)
   | (with_reducible refine LeO.ite ?_ ?_)
   | (with_reducible refine LeO.bind ?_ (fun _ => ?_))
   | exact ih0 _ _ _ _ _
   | exact ih1 _ _ _ _ _ _ _
   | exact ih2
   | exact ih3 _ _ _ _ _ _ _ _
   | exact ih4 _ _ _ _ _ _ _ _ _
   | exact ih5 _ _ _ _ _ _ _ _
   | exact ih6 _ _ _ _ _ _ _ _ _ _ _ _ _ _ _ _
   | exact ih7 _ _ _ _ _ _ _ _ _ _ _ _ _ _ _ _
   | exact ih8 _ _ _ _ _ _ _ _ _ _ _ _ _ _ _ _ _
   | exact ih9 _ _ _ _ _ _ _ _ _ _ _ _ _ _ _ _ _ _
   | exact ih10 _ _ _ _ _ _ _ _ _
   | exact fairwaylaw11_Heavy.mono _ _ _ _ _ _
   | exact fairwaylaw12_wakes.mono _
   | exact fairwayref0_CopyMarks.mono _ _
   | exact fairwayref10_Find.mono _ _ _
   | exact fairwayref10_From.mono _ _ _
   | exact fairwayref10_Marks.mono _ _ _
   | exact fairwayref10_Seg.mono _ _ _
   | exact index_Look.mono _ _ _ _ _
   | exact LeO.none _
   | refine LeO.ite ?_ ?_
   | refine LeO.bind ?_ (fun _ => ?_)
theorem fairwaylaw12_IndexLooks.mono : ∀ a0 a1 a2 a3 a4 k, LeO (fairwaylaw12_IndexLooks.f k a0 a1 a2 a3 a4) (fairwaylaw12_IndexLooks.f (k + 1) a0 a1 a2 a3 a4) := by
 intro a0 a1 a2 a3 a4 k
 obtain ⟨ih0, ih1, ih2, ih3, ih4, ih5, ih6, ih7, ih8, ih9, ih10⟩ := fairwaylaw12_IndexLooks.mono_l k
 unfold fairwaylaw12_IndexLooks.f
 repeat' first
  | (with_reducible exact ih0 _ _ _ _ _)
  | (with_reducible exact ih1 _ _ _ _ _ _ _)
  | (with_reducible exact ih2)
  | (with_reducible exact ih3 _ _ _ _ _ _ _ _)
  | (with_reducible exact ih4 _ _ _ _ _ _ _ _ _)
  | (with_reducible exact ih5 _ _ _ _ _ _ _ _)
  | (with_reducible exact ih6 _ _ _ _ _ _ _ _ _ _ _ _ _ _ _ _)
  | (with_reducible exact ih7 _ _ _ _ _ _ _ _ _ _ _ _ _ _ _ _)
  | (with_reducible exact ih8 _ _ _ _ _ _ _ _ _ _ _ _ _ _ _ _ _)
  | (with_reducible exact ih9 _ _ _ _ _ _ _ _ _ _ _ _ _ _ _ _ _ _)
  | (with_reducible exact ih10 _ _ _ _ _ _ _ _ _)
  | (with_reducible exact fairwaylaw11_Heavy.mono _ _ _ _ _ _)
  | (with_reducible exact fairwaylaw12_wakes.mono _)
  | (with_reducible exact fairwayref0_CopyMarks.mono _ _)
  | (with_reducible exact fairwayref10_Find.mono _ _ _)
  | (with_reducible exact fairwayref10_From.mono _ _ _)
  | (with_reducible exact fairwayref10_Marks.mono _ _ _)
  | (with_reducible exact fairwayref10_Seg.mono _ _ _)
  | (with_reducible exact index_Look.mono _ _ _ _ _)
  | (with_reducible exact LeO.refl _)
  | (with_reducible exact LeO.none _)
  | (with_reducible refine LeO.ite ?_ ?_)
  | (with_reducible refine LeO.bind ?_ (fun _ => ?_))
  | exact ih0 _ _ _ _ _
  | exact ih1 _ _ _ _ _ _ _
  | exact ih2
  | exact ih3 _ _ _ _ _ _ _ _
  | exact ih4 _ _ _ _ _ _ _ _ _
  | exact ih5 _ _ _ _ _ _ _ _
  | exact ih6 _ _ _ _ _ _ _ _ _ _ _ _ _ _ _ _
  | exact ih7 _ _ _ _ _ _ _ _ _ _ _ _ _ _ _ _
  | exact ih8 _ _ _ _ _ _ _ _ _ _ _ _ _ _ _ _ _
  | exact ih9 _ _ _ _ _ _ _ _ _ _ _ _ _ _ _ _ _ _
  | exact ih10 _ _ _ _ _ _ _ _ _
  | exact fairwaylaw11_Heavy.mono _ _ _ _ _ _
  | exact fairwaylaw12_wakes.mono _
  | exact fairwayref0_CopyMarks.mono _ _
  | exact fairwayref10_Find.mono _ _ _
  | exact fairwayref10_From.mono _ _ _
  | exact fairwayref10_Marks.mono _ _ _
  | exact fairwayref10_Seg.mono _ _ _
  | exact index_Look.mono _ _ _ _ _
  | exact LeO.none _
  | refine LeO.ite ?_ ?_
  | refine LeO.bind ?_ (fun _ => ?_)
def fairwaylaw12_IndexLooks.T10 : Bool × List (List Nat × List Nat) := (true, [([], []), ([0], [0]), ([], []), ([], []), ([3], [3]), ([], []), ([4, 5], [4, 5]), ([6], [6]), ([1, 2, 7], [1, 2, 7]), ([8], [8]), ([9], [9]), ([9], [9]), ([9], [9]), ([], []), ([13, 10, 8, 0, 1, 2, 3, 4, 5, 6, 7, 8, 9, 10, 13], [10, 13]), ([11, 14, 0, 1, 2, 3, 4, 5, 6, 7, 8, 9, 10, 11, 13, 14], [11]), ([12, 15, 0, 1, 2, 3, 4, 5, 6, 7, 8, 9, 10, 11, 12, 13, 14, 15], [12])])
def fairwaylaw12_IndexLooks.B10 : List Nat := [0, 1, 0, 0, 8, 0, 56, 120, 255, 511, 1023, 1023, 1023, 0, 10239, 28671, 65535]
theorem fairwaylaw12_IndexLooks.tab10 : rtab .any (opsOf Try.f13 10) = fairwaylaw12_IndexLooks.T10 := by kernel_rfl
theorem fairwaylaw12_IndexLooks.bits10 : waitsOk fairwaylaw12_IndexLooks.T10.2 fairwaylaw12_IndexLooks.B10 = true := by kernel_rfl
def fairwaylaw12_IndexLooks.T11 : Bool × List (List Nat × List Nat) := (true, [([], []), ([0], [0]), ([], []), ([2], [2]), ([], []), ([4], [4]), ([3, 5, 3], [3, 5]), ([], []), ([7], [7]), ([], []), ([8, 9], [8, 9]), ([10], [10]), ([1, 6, 11, 6], [1, 6, 11]), ([12], [12]), ([13], [13]), ([13], [13]), ([13], [13]), ([], []), ([17, 14, 12, 0, 1, 2, 3, 4, 5, 6, 7, 8, 9, 10, 11, 12, 13, 14, 17], [14, 17]), ([15, 18, 0, 1, 2, 3, 4, 5, 6, 7, 8, 9, 10, 11, 12, 13, 14, 15, 17, 18], [15]), ([16, 19, 0, 1, 2, 3, 4, 5, 6, 7, 8, 9, 10, 11, 12, 13, 14, 15, 16, 17, 18, 19], [16])])
def fairwaylaw12_IndexLooks.B11 : List Nat := [0, 1, 0, 4, 0, 16, 60, 0, 128, 0, 896, 1920, 4095, 8191, 16383, 16383, 16383, 0, 163839, 458751, 1048575]
theorem fairwaylaw12_IndexLooks.tab11 : rtab .any (opsOf Try.f13 11) = fairwaylaw12_IndexLooks.T11 := by kernel_rfl
theorem fairwaylaw12_IndexLooks.bits11 : waitsOk fairwaylaw12_IndexLooks.T11.2 fairwaylaw12_IndexLooks.B11 = true := by kernel_rfl
def fairwaylaw12_IndexLooks.T17 : Bool × List (List Nat × List Nat) := (true, [([], []), ([0], [0]), ([1], [1]), ([], []), ([3], [3]), ([], []), ([4, 5], [4, 5]), ([6], [6]), ([2, 7], [2, 7]), ([8, 8, 0, 1, 2, 3, 4, 5, 6, 7, 8], [8])])
def fairwaylaw12_IndexLooks.B17 : List Nat := [0, 1, 3, 0, 8, 0, 56, 120, 255, 511]
theorem fairwaylaw12_IndexLooks.tab17 : rtab .any (opsOf Try.f13 17) = fairwaylaw12_IndexLooks.T17 := by kernel_rfl
theorem fairwaylaw12_IndexLooks.bits17 : waitsOk fairwaylaw12_IndexLooks.T17.2 fairwaylaw12_IndexLooks.B17 = true := by kernel_rfl
def fairwaylaw12_IndexLooks.T25 : Bool × List (List Nat × List Nat) := (true, [([], []), ([0], [0]), ([1], [1]), ([2, 1], [2]), ([3], [3]), ([3], [3]), ([5, 3], [3, 5]), ([6, 3], [3, 6]), ([3], [3]), ([7, 8, 3], [3, 7, 8]), ([9, 3], [3, 9]), ([4, 10, 3], [3, 4, 10]), ([3, 11], [3, 11]), ([12, 3], [12]), ([13], [13]), ([13], [13]), ([13], [13]), ([15, 16, 13], [13, 15, 16]), ([14, 17, 13], [13, 14, 17]), ([13, 18], [13, 18]), ([19, 13], [19]), ([20], [20]), ([21, 20], [20, 21]), ([20, 22], [20, 22]), ([23, 20], [23]), ([24], [24]), ([25, 24], [24, 25]), ([24, 26], [24, 26])])
def fairwaylaw12_IndexLooks.B25 : List Nat := [0, 1, 3, 7, 15, 15, 47, 111, 15, 495, 1007, 2047, 4095, 8191, 16383, 16383, 16383, 114687, 262143, 524287, 1048575, 2097151, 4194303, 8388607, 16777215, 33554431, 67108863, 134217727]
theorem fairwaylaw12_IndexLooks.tab25 : rtab .any (opsOf Try.f13 25) = fairwaylaw12_IndexLooks.T25 := by kernel_rfl
theorem fairwaylaw12_IndexLooks.bits25 : waitsOk fairwaylaw12_IndexLooks.T25.2 fairwaylaw12_IndexLooks.B25 = true := by kernel_rfl
end Go.Proofs.Ytmabdfdmccbfnaa.P

