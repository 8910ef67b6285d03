/- RecBack: for every input of the row the law returns true, and the input reads afterwards as before. Conditions: none beside the row's own. -/
import Derived.Test.YtmabdfdmccbfnaaKRecBack4
import Derived.Test.YtmabdfdmccbfnaaKRecBack6
import Derived.Test.YtmabdfdmccbfnaaKRecBack7
import Derived.Test.YtmabdfdmccbfnaaKRecBack5
import Derived.Test.YtmabdfdmccbfnaaRows
import Derived.WalkKit
import Derived.ProofKit
import Derived.OpenShut
import Derived.ShutString
import Derived.ChangeOld
import Derived.Below
import Derived.SizedLaws
-- written by a program of the proving session, out of the translation; Lean checks it
namespace Go.Proofs.Ytmabdfdmccbfnaa.P
open Go.RowKit Go.Proofs.Ytmabdfdmccbfnaa.Sq Go.Proofs.YtmabdfdmccbfnaaW.PrintWords Go.Proofs.YtmabdfdmccbfnaaW.PrintLast Go.Proofs.YtmabdfdmccbfnaaW.PrintMore
attribute [local go_sem] max2_int min2_int max_two min_two max_three min_three max_four min_four   -- for this text's walks alone
set_option linter.unusedVariables false
set_option linter.unusedSimpArgs false

/-! ### fairwayref0_CopyRecs: function 76 -/
def fairwayref0_CopyRecs.l0 : Nat → List (S25) → List (S25) → Int → Option ((List (S25)))
 | 0, _, _, _ => none
 | k + 1, x0, x3, x4 => if x4 < (x0.length : Int) then (if 0 ≤ x4 then (if x3.length < 2199023255552 then (fairwayref0_CopyRecs.l0 k x0 (x3 ++ [(⟨(rd_T25 x0 x4).f0, (rd_T25 x0 x4).f1, (rd_T25 x0 x4).f2, (rd_T25 x0 x4).f3, (rd_T25 x0 x4).f4, (rd_T25 x0 x4).f5⟩ : S25)]) (wrap64 (x4 + 1))) else (none)) else (none)) else (some x3)
def fairwayref0_CopyRecs.f (k : Nat) (l0 : List (S25)) : Option ((List (S25))) := fairwayref0_CopyRecs.l0 k l0 ([] : List (S25)) 0
theorem fairwayref0_CopyRecs.mono_l : ∀ k, (∀ y0 y1 y2, LeO (fairwayref0_CopyRecs.l0 k y0 y1 y2) (fairwayref0_CopyRecs.l0 (k + 1) y0 y1 y2))
 | 0 => fun _ _ _ r h => by simp [fairwayref0_CopyRecs.l0] at h
 | k + 1 => by
  have ih0 := fairwayref0_CopyRecs.mono_l k
  ·intro y0 y1 y2
   unfold fairwayref0_CopyRecs.l0
   repeat' first
   | (with_reducible exact ih0 _ _ _)
   | (with_reducible exact LeO.refl _)
   | (with_reducible exact LeO.none _)
   | (with_reducible refine LeO.ite ?_ ?_)
   | (with_reducible refine LeO.bind ?_ (fun _ => ?_))
   | exact ih0 _ _ _
   | exact LeO.none _
   | refine LeO.ite ?_ ?_
   | refine LeO.bind ?_ (fun _ => ?_)
theorem fairwayref0_CopyRecs.mono : ∀ a0 k, LeO (fairwayref0_CopyRecs.f k a0) (fairwayref0_CopyRecs.f (k + 1) a0) := by
 intro a0 k
 have ih0 := fairwayref0_CopyRecs.mono_l k
 unfold fairwayref0_CopyRecs.f
 repeat' first
  | (with_reducible exact ih0 _ _ _)
  | (with_reducible exact LeO.refl _)
  | (with_reducible exact LeO.none _)
  | (with_reducible refine LeO.ite ?_ ?_)
  | (with_reducible refine LeO.bind ?_ (fun _ => ?_))
  | exact ih0 _ _ _
  | exact LeO.none _
  | refine LeO.ite ?_ ?_
  | refine LeO.bind ?_ (fun _ => ?_)
set_option maxHeartbeats 8000000 in
set_option maxRecDepth 100000 in
theorem fairwayref0_CopyRecs.calls (k : Nat) (A0 : Option Addr) (c0 : Nat) (l0 : List (S25)) (r : List (S25)) (w : World) (hr0 : Kd.C k25 w A0 l0.length l0) (hc0 : l0.length ≤ c0) (h : fairwayref0_CopyRecs.f k l0 = some r) :
 Calls Try.prog 76 #[.slice A0 l0.length c0] w fun e w' => ∃ v0_ : Value, e = .returned (v0_) ∧ Kd.R k25 25 w' w.heap.size (fun _ => True) v0_ r ∧ Below w.heap.size w w' := by
 have hu25 := Try.underlying25
 have HR0 := Aside0.mk hr0
 have HC0 := Aside0.mk hc0
 clear hr0 hc0
 have HB := Aside0.mk (Below.refl w.heap.size w)
 have H : (fairwayref0_CopyRecs.l0 k l0 ([] : List (S25)) 0) = some r := h
 clear h
 have H' := Aside0.mk H
 clear H
 go_enter Try.func76, Try.ntmps76
 go_wp2
 go_loopg [3, 4] k (fun kq v3 v4 w' => ∃ (x3_1 : List (S25)) (x4_1 : Int), v4 = .int .i64 x4_1 ∧ Aside0 (fairwayref0_CopyRecs.l0 kq l0 x3_1 x4_1 = some r) ∧ Aside0 (kq ≤ k) ∧ Aside0 (Kd.R k25 25 w' w.heap.size (fun _ => True) v3 x3_1) ∧ Aside0 (Below w.heap.size w w'))
 case atStart => exact ⟨(([] : List (S25))), (0), ap, H', ⟨Nat.le_refl _⟩, ⟨by first | exact Kd.R_nil _ _ _ _ _ | exact Kd.N_nil _ _ _ _ _ | exact Kd.V_nil _ _ _ _ _ | exact Kd.Q_nil _ _ _ _ _ | exact Kd.S_nil _ _ _ _ _⟩, ⟨bo⟩⟩
 case round =>
  clear H'
  obtain ⟨x3_1, x4_1, rfl, HA, HK1, HO_3, HB⟩ := hrel
  cases gk with
  | zero => exact absurd HA.out (by simp [fairwayref0_CopyRecs.l0])
  | succ k1 =>
   have H := HA.out
   clear HA
   simp only [fairwayref0_CopyRecs.l0] at H
   by_cases c2 : x4_1 < (l0.length : Int)
   ·rw [if_pos c2] at H
    have c2b0 : decide (x4_1 < (l0.length : Int)) = true := decide_eq_true c2
    clear c2
    by_cases c3 : 0 ≤ x4_1
    ·rw [if_pos c3] at H
     have c3b0 : decide (0 ≤ x4_1) = true := decide_eq_true c3
     clear c3
     by_cases c4 : x3_1.length < 2199023255552
     ·rw [if_pos c4] at H
      have LMc4 := Aside0.mk c4
      clear c4
      obtain ⟨y489, hy489⟩ : ∃ y_ : List (S25), y_ = (x3_1 ++ [(⟨(rd_T25 l0 x4_1).f0, (rd_T25 l0 x4_1).f1, (rd_T25 l0 x4_1).f2, (rd_T25 l0 x4_1).f3, (rd_T25 l0 x4_1).f4, (rd_T25 l0 x4_1).f5⟩ : S25)]) := ⟨_, rfl⟩
      replace H : (fairwayref0_CopyRecs.l0 k1 l0 y489 (wrap64 (x4_1 + 1))) = some r := by first | (rw [hy489]; with_reducible exact H) | (have H2_ := (Option.bind_some _ _).symm.trans H; rw [hy489]; with_reducible exact H2_) | (have H2_ := (Option.bind_some _ _).symm.trans H; with_reducible exact H2_) | with_reducible exact H | (rw [hy489]; exact H) | exact H
      have Ny489 := Aside0.mk hy489
      clear hy489
      have H' := Aside0.mk H
      clear H
      have p488 : 0 ≤ (x4_1 : Int) := od
      have q488 : x4_1 < (l0.length : Int) := od
      obtain ⟨ad488, e488, hx488_0, hx488_1, hx488_2, hx488_3, hx488_4, hx488_5⟩ := at_T25 HR0.out x4_1 p488 q488
      cases e488
      replace hx488_0 := cx HB.out hx488_0
      replace hx488_1 := cx HB.out hx488_1
      replace hx488_2 := cx HB.out hx488_2
      replace hx488_3 := cx HB.out hx488_3
      replace hx488_4 := cx HB.out hx488_4
      replace hx488_5 := cx HB.out hx488_5
      replace p488 := eq_true p488
      replace q488 := eq_true q488
      go_wp2_with (first | ((with_reducible refine gate_builtin (b := .append) (xs := #[.tmp 11, .tmp 16]) rfl ?_); at_builtin; refine Kd.R_append k25 (w0 := w) w.heap.size rfl (.tmp 11) (.tmp 16) 36 25 (.agg #[(.int .i64 0), (.int .i64 0), (.string ⟨#[]⟩), (.string ⟨#[]⟩), (.int .i64 0), (.bool false)]) 64 rfl Try.underlying36 info25 rfl (by decide) (by omega) u3 x3_1 (⟨(rd_T25 l0 x4_1).f0, (rd_T25 l0 x4_1).f1, (rd_T25 l0 x4_1).f2, (rd_T25 l0 x4_1).f3, (rd_T25 l0 x4_1).f4, (rd_T25 l0 x4_1).f5⟩ : S25) [.int .i64 ((rd_T25 l0 x4_1).f0), .int .i64 ((rd_T25 l0 x4_1).f1), .string ((rd_T25 l0 x4_1).f2), .string ((rd_T25 l0 x4_1).f3), .int .i64 ((rd_T25 l0 x4_1).f4), .bool ((rd_T25 l0 x4_1).f5)] (fun _ => True) (fun _ => False) rfl rfl ?aP (fun _ hk => hk.elim) ?aF ?aO ?aB ?aS ?aL ?_; (case aP => exact k25_mkM _ _ _ (⟨(rd_T25 l0 x4_1).f0, (rd_T25 l0 x4_1).f1, (rd_T25 l0 x4_1).f2, (rd_T25 l0 x4_1).f3, (rd_T25 l0 x4_1).f4, (rd_T25 l0 x4_1).f5⟩ : S25)); (case aB => exact bo); (case aF => exact (fun _ _ => trivial)); (case aO => exact (rk HO_3.out)); (case aS => exact (below_size bo)); (case aL => have := LMc4.out; omega); intro v490 w5 ho hb hg hat; rw [← Ny489.out] at ho; have n0_ := Aside0.mk (hb); have n1_ := Aside0.mk (ho); clear HB; clear HO_3; have HB := n0_; have HO491 := n1_; clear n0_ n1_; clear ho hb hg hat))
      go_roundg k1
      case measure => have := HK1.out; omega
      case rel => exact ⟨(y489), (wrap64 (x4_1 + 1)), ap, H', ⟨by have := HK1.out; omega⟩, ⟨by (with_reducible repeat (first | apply Kd.R_alloc | apply Kd.R_drewN | apply Kd.R_drew)); exact HO491.out⟩, ⟨bo⟩⟩
     ·rw [if_neg c4] at H
      exact absurd H (by simp)
    ·rw [if_neg c3] at H
     exact absurd H (by simp)
   ·rw [if_neg c2] at H
    have c2b0 : decide (x4_1 < (l0.length : Int)) = false := decide_eq_false c2
    clear c2
    obtain rfl := Option.some.inj H
    go_wp2
    go_ret
    exact ⟨_, er, by (with_reducible repeat (first | apply Kd.R_alloc | apply Kd.R_drewN | apply Kd.R_drew)); exact HO_3.out, bo⟩

end Go.Proofs.Ytmabdfdmccbfnaa.P

-- written by a program of the proving session, out of the translation; Lean checks it
namespace Go.Proofs.Ytmabdfdmccbfnaa.P
open Go.RowKit Go.Proofs.Ytmabdfdmccbfnaa.Sq Go.Proofs.YtmabdfdmccbfnaaW.PrintWords Go.Proofs.YtmabdfdmccbfnaaW.PrintLast Go.Proofs.YtmabdfdmccbfnaaW.PrintMore
attribute [local go_sem] max2_int min2_int max_two min_two max_three min_three max_four min_four   -- for this text's walks alone
set_option linter.unusedVariables false
set_option linter.unusedSimpArgs false

/-! ### fairwayref0_CopySeg: function 42 -/
def fairwayref0_CopySeg.f (k : Nat) (a0_0 : Int) (l0_1 : List (S25)) : Option (Int × (List (S25))) := (fairwayref0_CopyRecs.f k l0_1).bind fun t495 => (some (a0_0, t495))
theorem fairwayref0_CopySeg.mono : ∀ a0 a1 k, LeO (fairwayref0_CopySeg.f k a0 a1) (fairwayref0_CopySeg.f (k + 1) a0 a1) := by
 intro a0 a1 k
 unfold fairwayref0_CopySeg.f
 repeat' first
  | (with_reducible exact fairwayref0_CopyRecs.mono _ _)
  | (with_reducible exact LeO.refl _)
  | (with_reducible exact LeO.none _)
  | (with_reducible refine LeO.ite ?_ ?_)
  | (with_reducible refine LeO.bind ?_ (fun _ => ?_))
  | exact fairwayref0_CopyRecs.mono _ _
  | exact LeO.none _
  | refine LeO.ite ?_ ?_
  | refine LeO.bind ?_ (fun _ => ?_)
set_option maxHeartbeats 8000000 in
set_option maxRecDepth 100000 in
theorem fairwayref0_CopySeg.calls (k : Nat) (a0_0 : Int) (A0_1 : Option Addr) (c0_1 : Nat) (l0_1 : List (S25)) (r1 : Int) (r2 : List (S25)) (w : World) (hr0_1 : Kd.C k25 w A0_1 l0_1.length l0_1) (hc0_1 : l0_1.length ≤ c0_1) (h : fairwayref0_CopySeg.f k a0_0 l0_1 = some (r1, r2)) :
 Calls Try.prog 42 #[.agg #[.int .i64 a0_0, .slice A0_1 l0_1.length c0_1]] w fun e w' => ∃ v1_ : Value, e = .returned (.agg #[.int .i64 r1, v1_]) ∧ Kd.R k25 25 w' w.heap.size (fun _ => True) v1_ r2 ∧ Below w.heap.size w w' := by
 have hu53 := Try.underlying53
 have HR0_1 := Aside0.mk hr0_1
 have HC0_1 := Aside0.mk hc0_1
 clear hr0_1 hc0_1
 have HB := Aside0.mk (Below.refl w.heap.size w)
 have H : ((fairwayref0_CopyRecs.f k l0_1).bind fun t495 => (some (a0_0, t495))) = some (r1, r2) := h
 clear h
 replace H := Option.bind_eq_some_iff.mp H
 obtain ⟨t495, A20, H⟩ := H
 replace H : (some (a0_0, t495)) = some (r1, r2) := H
 have A2 := Aside0.mk A20
 clear A20
 simp only [Option.some.injEq, Prod.mk.injEq] at H
 obtain ⟨rfl, rfl⟩ := H
 go_enter Try.func42, Try.ntmps42
 go_wp2_with (first | ((with_reducible refine gate_dst (N := 1) rfl ?_); refine box_event ?hg (N := 1) ?hd (cs := #[.int .i64 a0_0, .slice A0_1 l0_1.length c0_1]) (t := 53) ?hr ?_; (case hd => rfl); (case hg => rfl); (case hr => first | (go_simp; done) | (go_simp; rfl)); intro gb492 hg w3 hbox hb; have BK492 := Aside0.mk (hbox); have GW492 := Aside0.mk ((by rw [hg]; exact (below_size bo) : w.heap.size ≤ gb492)); have GE492 := Aside0.mk ((by rw [hg]; exact (below_size bo) : w.heap.size ≤ gb492)); replace HB := Aside0.mk (below_step bo hb); clear hb hbox hg) | ((with_reducible refine gate_dst (N := 2) rfl ?_); refine box_event ?hg (N := 2) ?hd (cs := #[.int .i64 0, .slice none 0 0]) (t := 53) ?hr ?_; (case hd => rfl); (case hg => rfl); (case hr => first | (go_simp; done) | (go_simp; rfl)); intro gb493 hg w4 hbox hb; have BK493 := Aside0.mk (hbox); have GW493 := Aside0.mk ((by rw [hg]; exact (below_size bo) : w.heap.size ≤ gb493)); have GE493 := Aside0.mk ((by rw [hg]; exact (below_size bo) : w.heap.size ≤ gb493)); replace HB := Aside0.mk (below_step bo hb); have NB492_493 := Aside0.mk ((by rw [hg]; exact Nat.ne_of_lt (blk_lt (g := gb492) (o := .cells #[.int .i64 a0_0, .slice A0_1 l0_1.length c0_1] 53 (0, 0)) (bk BK492.out)) : gb492 ≠ gb493)); have NB493_492 := Aside0.mk ((by rw [hg]; exact Nat.ne_of_gt (blk_lt (g := gb492) (o := .cells #[.int .i64 a0_0, .slice A0_1 l0_1.length c0_1] 53 (0, 0)) (bk BK492.out)) : gb493 ≠ gb492)); replace BK492 := Aside0.mk (blk_below (g := gb492) (o := .cells #[.int .i64 a0_0, .slice A0_1 l0_1.length c0_1] 53 (0, 0)) (bk BK492.out) hb); clear hb hbox hg; have hnb5 := NB492_493.out; have hnc5 := NB493_492.out; obtain ⟨hcz6_0, hcz6_1⟩ := cl2 BK492.out; obtain ⟨hfz6_0, hfz6_1⟩ := fz2 BK492.out) | ((with_reducible refine gate_dst (N := 3) rfl ?_); refine box_event ?hg (N := 3) ?hd (cs := #[.int .i64 0, .slice none 0 0]) (t := 53) ?hr ?_; (case hd => rfl); (case hg => rfl); (case hr => first | (go_simp; done) | (go_simp; rfl)); intro gb494 hg w7 hbox hb; have BK494 := Aside0.mk (hbox); have GW494 := Aside0.mk ((by rw [hg]; exact (below_size bo) : w.heap.size ≤ gb494)); have GE494 := Aside0.mk ((by rw [hg]; exact (below_size bo) : w.heap.size ≤ gb494)); replace HB := Aside0.mk (below_step bo hb); have NB492_494 := Aside0.mk ((by rw [hg]; exact Nat.ne_of_lt (blk_lt (g := gb492) (o := .cells #[.int .i64 a0_0, .slice A0_1 l0_1.length c0_1] 53 (0, 0)) (bk BK492.out)) : gb492 ≠ gb494)); have NB494_492 := Aside0.mk ((by rw [hg]; exact Nat.ne_of_gt (blk_lt (g := gb492) (o := .cells #[.int .i64 a0_0, .slice A0_1 l0_1.length c0_1] 53 (0, 0)) (bk BK492.out)) : gb494 ≠ gb492)); replace BK492 := Aside0.mk (blk_below (g := gb492) (o := .cells #[.int .i64 a0_0, .slice A0_1 l0_1.length c0_1] 53 (0, 0)) (bk BK492.out) hb); have NB493_494 := Aside0.mk ((by rw [hg]; exact Nat.ne_of_lt (blk_lt (g := gb493) (o := .cells #[.int .i64 0, .slice none 0 0] 53 (0, 0)) (bk BK493.out)) : gb493 ≠ gb494)); have NB494_493 := Aside0.mk ((by rw [hg]; exact Nat.ne_of_gt (blk_lt (g := gb493) (o := .cells #[.int .i64 0, .slice none 0 0] 53 (0, 0)) (bk BK493.out)) : gb494 ≠ gb493)); replace BK493 := Aside0.mk (blk_below (g := gb493) (o := .cells #[.int .i64 0, .slice none 0 0] 53 (0, 0)) (bk BK493.out) hb); clear hb hbox hg; have hnb8 := NB494_492.out; have hnc8 := NB492_494.out; have hnb9 := NB494_493.out; have hnc9 := NB493_494.out; obtain ⟨hcz10_0, hcz10_1⟩ := cl2 BK494.out; obtain ⟨hfz10_0, hfz10_1⟩ := fz2 BK494.out; obtain ⟨hcz11_0, hcz11_1⟩ := cl2 BK492.out; obtain ⟨hfz11_0, hfz11_1⟩ := fz2 BK492.out) | ((with_reducible refine gate_callee (f := 76) rfl ?_); refine goesL_ (some 7) rfl rfl Try.func76 (by kernel_rfl) rfl #[.slice A0_1 l0_1.length c0_1] rfl aa ?_; (with_reducible refine (fairwayref0_CopyRecs.calls k _ _ l0_1 t495 _ ?side1 ?side2 A2.out).mono ?_); (case side1 => exact Kd.C_below HR0_1.out bo); (case side2 => exact HC0_1.out); rintro e w12 ⟨v496, rfl, ho0, hb⟩; refine ⟨_, rfl, ?_⟩; have HO497 := Aside0.mk (Kd.R_lower ho0 (below_size bo)); replace BK492 := Aside0.mk (blk_below (g := gb492) (o := .cells #[.int .i64 a0_0, .slice A0_1 l0_1.length c0_1] 53 (0, 0)) (bf BK492.out) hb); replace BK493 := Aside0.mk (blk_below (g := gb493) (o := .cells #[.int .i64 0, .slice none 0 0] 53 (0, 0)) (bf BK493.out) hb); replace BK494 := Aside0.mk (blk_below (g := gb494) (o := .cells #[.int .i64 a0_0, .slice A0_1 l0_1.length c0_1] 53 (0, 0)) (by (with_reducible repeat (first | refine blk_drewN ?_ _ | refine blk_drew ?_ | refine blk_alloc ?_ _)); refine blk_put (cs := #[.int .i64 a0_0, .slice none 0 0]) ?_ 1 _ rfl; (with_reducible repeat (first | refine blk_drewN ?_ _ | refine blk_drew ?_ | refine blk_alloc ?_ _)); refine blk_put (cs := #[.int .i64 0, .slice none 0 0]) ?_ 0 _ rfl; (with_reducible repeat (first | refine blk_drewN ?_ _ | refine blk_drew ?_ | refine blk_alloc ?_ _)); exact BK494.out) hb); replace HB := Aside0.mk (below_step bo hb); (try clear hb); (try clear hb2); (try clear hk); (try clear hi); (try clear ho0); obtain ⟨Ao13, co13, eo13⟩ := Kd.R_slice HO497.out; subst eo13; obtain ⟨hcz14_0, hcz14_1⟩ := cl2 BK494.out; obtain ⟨hfz14_0, hfz14_1⟩ := fz2 BK494.out; obtain ⟨hcz15_0, hcz15_1⟩ := cl2 BK493.out; obtain ⟨hfz15_0, hfz15_1⟩ := fz2 BK493.out))
 refine bodyPost_ret (results_cell_row rfl _ _ gb493 53 #[.int .i64 a0_0, .slice Ao13 t495.length co13] (0, 0) _ rfl (by (with_reducible repeat (first | refine blk_drewN ?_ _ | refine blk_drew ?_ | refine blk_alloc ?_ _)); refine blk_put (cs := #[.int .i64 a0_0, .slice none 0 0]) ?_ 1 _ rfl; (with_reducible repeat (first | refine blk_drewN ?_ _ | refine blk_drew ?_ | refine blk_alloc ?_ _)); refine blk_put (cs := #[.int .i64 0, .slice none 0 0]) ?_ 0 _ rfl; (with_reducible repeat (first | refine blk_drewN ?_ _ | refine blk_drew ?_ | refine blk_alloc ?_ _)); refine blk_far ?_ NB493_494.out _; (with_reducible repeat (first | refine blk_drewN ?_ _ | refine blk_drew ?_ | refine blk_alloc ?_ _)); exact BK493.out) Try.underlying53 rfl (by kernel_rfl)) rfl ?_
 exact ⟨_, er, by (with_reducible repeat (first | apply Kd.R_alloc | apply Kd.R_drewN | apply Kd.R_drew)); exact Kd.R_mono (Kd.R_far (p := ⟨gb493, 1, none⟩) (Kd.R_far (p := ⟨gb493, 0, none⟩) (Kd.R_far (p := ⟨gb494, 1, none⟩) (Kd.R_types (Kd.R_types HO497.out BK494.out (by decide)) BK493.out (by decide)) (fun _ hk => hk.1.2) (.slice Ao13 t495.length co13)) (fun _ hk => hk.2) (.int .i64 a0_0)) (fun _ hk => hk.2) (.slice Ao13 t495.length co13)) (fun _ hk => trivial), bo⟩

end Go.Proofs.Ytmabdfdmccbfnaa.P

-- written by a program of the proving session, out of the translation; Lean checks it
namespace Go.Proofs.Ytmabdfdmccbfnaa.P
open Go.RowKit Go.Proofs.Ytmabdfdmccbfnaa.Sq Go.Proofs.YtmabdfdmccbfnaaW.PrintWords Go.Proofs.YtmabdfdmccbfnaaW.PrintLast Go.Proofs.YtmabdfdmccbfnaaW.PrintMore
attribute [local go_sem] max2_int min2_int max_two min_two max_three min_three max_four min_four   -- for this text's walks alone
set_option linter.unusedVariables false
set_option linter.unusedSimpArgs false

/-! ### fairwayref10_With: function 48 -/
def fairwayref10_With.f (k : Nat) (a0_0 : Int) (l0_1 : List (S25)) (a1_0 : Int) (a1_1 : Int) (a1_2 : ByteArray) (a1_3 : ByteArray) (a1_4 : Int) (a1_5 : Bool) : Option (Int × (List (S25))) := (fairwayref0_CopySeg.f k a0_0 l0_1).bind fun bt501 => (if bt501.2.length < 2199023255552 then (some (bt501.1, (bt501.2 ++ [(⟨a1_0, a1_1, a1_2, a1_3, a1_4, a1_5⟩ : S25)]))) else (none))
theorem fairwayref10_With.mono : ∀ a0 a1 a2 a3 a4 a5 a6 a7 k, LeO (fairwayref10_With.f k a0 a1 a2 a3 a4 a5 a6 a7) (fairwayref10_With.f (k + 1) a0 a1 a2 a3 a4 a5 a6 a7) := by
 intro a0 a1 a2 a3 a4 a5 a6 a7 k
 unfold fairwayref10_With.f
 repeat' first
  | (with_reducible exact fairwayref0_CopySeg.mono _ _ _)
  | (with_reducible exact LeO.refl _)
  | (with_reducible exact LeO.none _)
  | (with_reducible refine LeO.ite ?_ ?_)
  | (with_reducible refine LeO.bind ?_ (fun _ => ?_))
  | exact fairwayref0_CopySeg.mono _ _ _
  | exact LeO.none _
  | refine LeO.ite ?_ ?_
  | refine LeO.bind ?_ (fun _ => ?_)
set_option maxHeartbeats 8000000 in
set_option maxRecDepth 100000 in
theorem fairwayref10_With.calls (k : Nat) (a0_0 : Int) (A0_1 : Option Addr) (c0_1 : Nat) (l0_1 : List (S25)) (a1_0 : Int) (a1_1 : Int) (a1_2 : ByteArray) (a1_3 : ByteArray) (a1_4 : Int) (a1_5 : Bool) (r1 : Int) (r2 : List (S25)) (w : World) (hr0_1 : Kd.C k25 w A0_1 l0_1.length l0_1) (hc0_1 : l0_1.length ≤ c0_1) (h : fairwayref10_With.f k a0_0 l0_1 a1_0 a1_1 a1_2 a1_3 a1_4 a1_5 = some (r1, r2)) :
 Calls Try.prog 48 #[.agg #[.int .i64 a0_0, .slice A0_1 l0_1.length c0_1], .agg #[.int .i64 a1_0, .int .i64 a1_1, .string a1_2, .string a1_3, .int .i64 a1_4, .bool a1_5]] w fun e w' => ∃ v1_ : Value, e = .returned (.agg #[.int .i64 r1, v1_]) ∧ Kd.R k25 25 w' w.heap.size (fun _ => True) v1_ r2 ∧ Below w.heap.size w w' := by
 have hu53 := Try.underlying53
 have hu25 := Try.underlying25
 have HR0_1 := Aside0.mk hr0_1
 have HC0_1 := Aside0.mk hc0_1
 clear hr0_1 hc0_1
 have HB := Aside0.mk (Below.refl w.heap.size w)
 have H : ((fairwayref0_CopySeg.f k a0_0 l0_1).bind fun bt501 => (if bt501.2.length < 2199023255552 then (some (bt501.1, (bt501.2 ++ [(⟨a1_0, a1_1, a1_2, a1_3, a1_4, a1_5⟩ : S25)]))) else (none))) = some (r1, r2) := h
 clear h
 replace H := Option.bind_eq_some_iff.mp H
 obtain ⟨⟨t501, t502⟩, A30, H⟩ := H
 replace H : (if t502.length < 2199023255552 then (some (t501, (t502 ++ [(⟨a1_0, a1_1, a1_2, a1_3, a1_4, a1_5⟩ : S25)]))) else (none)) = some (r1, r2) := H
 have A3 := Aside0.mk A30
 clear A30
 by_cases c4 : t502.length < 2199023255552
 ·rw [if_pos c4] at H
  have LMc4 := Aside0.mk c4
  clear c4
  obtain ⟨y506, hy506⟩ : ∃ y_ : List (S25), y_ = (t502 ++ [(⟨a1_0, a1_1, a1_2, a1_3, a1_4, a1_5⟩ : S25)]) := ⟨_, rfl⟩
  replace H : (some (t501, y506)) = some (r1, r2) := by first | (rw [hy506]; with_reducible exact H) | (have H2_ := (Option.bind_some _ _).symm.trans H; rw [hy506]; with_reducible exact H2_) | (have H2_ := (Option.bind_some _ _).symm.trans H; with_reducible exact H2_) | with_reducible exact H | (rw [hy506]; exact H) | exact H
  have Ny506 := Aside0.mk hy506
  clear hy506
  simp only [Option.some.injEq, Prod.mk.injEq] at H
  obtain ⟨rfl, rfl⟩ := H
  go_enter Try.func48, Try.ntmps48
  go_wp2_with (first | ((with_reducible refine gate_dst (N := 2) rfl ?_); refine box_event ?hg (N := 2) ?hd (cs := #[.int .i64 a0_0, .slice A0_1 l0_1.length c0_1]) (t := 53) ?hr ?_; (case hd => rfl); (case hg => rfl); (case hr => first | (go_simp; done) | (go_simp; rfl)); intro gb498 hg w5 hbox hb; have BK498 := Aside0.mk (hbox); have GW498 := Aside0.mk ((by rw [hg]; exact (below_size bo) : w.heap.size ≤ gb498)); have GE498 := Aside0.mk ((by rw [hg]; exact (below_size bo) : w.heap.size ≤ gb498)); replace HB := Aside0.mk (below_step bo hb); clear hb hbox hg) | ((with_reducible refine gate_dst (N := 3) rfl ?_); refine box_event ?hg (N := 3) ?hd (cs := #[.int .i64 a1_0, .int .i64 a1_1, .string a1_2, .string a1_3, .int .i64 a1_4, .bool a1_5]) (t := 25) ?hr ?_; (case hd => rfl); (case hg => rfl); (case hr => first | (go_simp; done) | (go_simp; rfl)); intro gb499 hg w6 hbox hb; have BK499 := Aside0.mk (hbox); have GW499 := Aside0.mk ((by rw [hg]; exact (below_size bo) : w.heap.size ≤ gb499)); have GE499 := Aside0.mk ((by rw [hg]; exact (below_size bo) : w.heap.size ≤ gb499)); replace HB := Aside0.mk (below_step bo hb); have NB498_499 := Aside0.mk ((by rw [hg]; exact Nat.ne_of_lt (blk_lt (g := gb498) (o := .cells #[.int .i64 a0_0, .slice A0_1 l0_1.length c0_1] 53 (0, 0)) (bk BK498.out)) : gb498 ≠ gb499)); have NB499_498 := Aside0.mk ((by rw [hg]; exact Nat.ne_of_gt (blk_lt (g := gb498) (o := .cells #[.int .i64 a0_0, .slice A0_1 l0_1.length c0_1] 53 (0, 0)) (bk BK498.out)) : gb499 ≠ gb498)); replace BK498 := Aside0.mk (blk_below (g := gb498) (o := .cells #[.int .i64 a0_0, .slice A0_1 l0_1.length c0_1] 53 (0, 0)) (bk BK498.out) hb); clear hb hbox hg) | ((with_reducible refine gate_dst (N := 4) rfl ?_); refine box_event ?hg (N := 4) ?hd (cs := #[.int .i64 0, .slice none 0 0]) (t := 53) ?hr ?_; (case hd => rfl); (case hg => rfl); (case hr => first | (go_simp; done) | (go_simp; rfl)); intro gb500 hg w7 hbox hb; have BK500 := Aside0.mk (hbox); have GW500 := Aside0.mk ((by rw [hg]; exact (below_size bo) : w.heap.size ≤ gb500)); have GE500 := Aside0.mk ((by rw [hg]; exact (below_size bo) : w.heap.size ≤ gb500)); replace HB := Aside0.mk (below_step bo hb); have NB498_500 := Aside0.mk ((by rw [hg]; exact Nat.ne_of_lt (blk_lt (g := gb498) (o := .cells #[.int .i64 a0_0, .slice A0_1 l0_1.length c0_1] 53 (0, 0)) (bk BK498.out)) : gb498 ≠ gb500)); have NB500_498 := Aside0.mk ((by rw [hg]; exact Nat.ne_of_gt (blk_lt (g := gb498) (o := .cells #[.int .i64 a0_0, .slice A0_1 l0_1.length c0_1] 53 (0, 0)) (bk BK498.out)) : gb500 ≠ gb498)); replace BK498 := Aside0.mk (blk_below (g := gb498) (o := .cells #[.int .i64 a0_0, .slice A0_1 l0_1.length c0_1] 53 (0, 0)) (bk BK498.out) hb); have NB499_500 := Aside0.mk ((by rw [hg]; exact Nat.ne_of_lt (blk_lt (g := gb499) (o := .cells #[.int .i64 a1_0, .int .i64 a1_1, .string a1_2, .string a1_3, .int .i64 a1_4, .bool a1_5] 25 (0, 0)) (bk BK499.out)) : gb499 ≠ gb500)); have NB500_499 := Aside0.mk ((by rw [hg]; exact Nat.ne_of_gt (blk_lt (g := gb499) (o := .cells #[.int .i64 a1_0, .int .i64 a1_1, .string a1_2, .string a1_3, .int .i64 a1_4, .bool a1_5] 25 (0, 0)) (bk BK499.out)) : gb500 ≠ gb499)); replace BK499 := Aside0.mk (blk_below (g := gb499) (o := .cells #[.int .i64 a1_0, .int .i64 a1_1, .string a1_2, .string a1_3, .int .i64 a1_4, .bool a1_5] 25 (0, 0)) (bk BK499.out) hb); clear hb hbox hg; have hnb8 := NB498_499.out; have hnc8 := NB499_498.out; have hnb9 := NB498_500.out; have hnc9 := NB500_498.out; obtain ⟨hcz10_0, hcz10_1⟩ := cl2 BK498.out; obtain ⟨hfz10_0, hfz10_1⟩ := fz2 BK498.out) | ((with_reducible refine gate_callee (f := 42) rfl ?_); refine goesL_ (some 7) rfl rfl Try.func42 (by kernel_rfl) rfl #[.agg #[.int .i64 a0_0, .slice A0_1 l0_1.length c0_1]] rfl aa ?_; (with_reducible refine (fairwayref0_CopySeg.calls k a0_0 _ _ l0_1 t501 t502 _ ?side1 ?side2 A3.out).mono ?_); (case side1 => repeat (first | exact (Kd.C_below HR0_1.out HB.out) | (with_reducible refine Kd.C_alloc ?_ _) | (with_reducible refine Kd.C_drewN ?_ _) | (with_reducible refine Kd.C_drew ?_))); (case side2 => exact HC0_1.out); rintro e w11 ⟨v503, rfl, ho0, hb⟩; refine ⟨_, rfl, ?_⟩; have HO504 := Aside0.mk (Kd.R_lower (Kd.R_newB ho0 (g := gb499) (o := .cells #[.int .i64 a1_0, .int .i64 a1_1, .string a1_2, .string a1_3, .int .i64 a1_4, .bool a1_5] 25 (0, 0)) (bk BK499.out)) (below_size bo)); replace BK498 := Aside0.mk (blk_below (g := gb498) (o := .cells #[.int .i64 a0_0, .slice A0_1 l0_1.length c0_1] 53 (0, 0)) (bk BK498.out) hb); replace BK499 := Aside0.mk (blk_below (g := gb499) (o := .cells #[.int .i64 a1_0, .int .i64 a1_1, .string a1_2, .string a1_3, .int .i64 a1_4, .bool a1_5] 25 (0, 0)) (bk BK499.out) hb); replace BK500 := Aside0.mk (blk_below (g := gb500) (o := .cells #[.int .i64 0, .slice none 0 0] 53 (0, 0)) (bk BK500.out) hb); replace HB := Aside0.mk (below_step bo hb); (try clear hb); (try clear hb2); (try clear hk); (try clear hi); (try clear ho0)) | ((with_reducible refine gate_dst (N := 5) rfl ?_); refine box_event ?hg (N := 5) ?hd (cs := #[.int .i64 0, .slice none 0 0]) (t := 53) ?hr ?_; (case hd => rfl); (case hg => rfl); (case hr => first | (go_simp; done) | (go_simp; rfl)); intro gb505 hg w12 hbox hb; replace HO504 := Aside0.mk (Kd.R_below (rk HO504.out) hb); have BK505 := Aside0.mk (hbox); have GW505 := Aside0.mk ((by rw [hg]; exact (below_size bo) : w.heap.size ≤ gb505)); have GE505 := Aside0.mk ((by rw [hg]; exact (below_size bo) : w.heap.size ≤ gb505)); replace HB := Aside0.mk (below_step bo hb); have NB498_505 := Aside0.mk ((by rw [hg]; exact Nat.ne_of_lt (blk_lt (g := gb498) (o := .cells #[.int .i64 a0_0, .slice A0_1 l0_1.length c0_1] 53 (0, 0)) (bk BK498.out)) : gb498 ≠ gb505)); have NB505_498 := Aside0.mk ((by rw [hg]; exact Nat.ne_of_gt (blk_lt (g := gb498) (o := .cells #[.int .i64 a0_0, .slice A0_1 l0_1.length c0_1] 53 (0, 0)) (bk BK498.out)) : gb505 ≠ gb498)); replace BK498 := Aside0.mk (blk_below (g := gb498) (o := .cells #[.int .i64 a0_0, .slice A0_1 l0_1.length c0_1] 53 (0, 0)) (bk BK498.out) hb); have NB499_505 := Aside0.mk ((by rw [hg]; exact Nat.ne_of_lt (blk_lt (g := gb499) (o := .cells #[.int .i64 a1_0, .int .i64 a1_1, .string a1_2, .string a1_3, .int .i64 a1_4, .bool a1_5] 25 (0, 0)) (bk BK499.out)) : gb499 ≠ gb505)); have NB505_499 := Aside0.mk ((by rw [hg]; exact Nat.ne_of_gt (blk_lt (g := gb499) (o := .cells #[.int .i64 a1_0, .int .i64 a1_1, .string a1_2, .string a1_3, .int .i64 a1_4, .bool a1_5] 25 (0, 0)) (bk BK499.out)) : gb505 ≠ gb499)); replace BK499 := Aside0.mk (blk_below (g := gb499) (o := .cells #[.int .i64 a1_0, .int .i64 a1_1, .string a1_2, .string a1_3, .int .i64 a1_4, .bool a1_5] 25 (0, 0)) (bk BK499.out) hb); have NB500_505 := Aside0.mk ((by rw [hg]; exact Nat.ne_of_lt (blk_lt (g := gb500) (o := .cells #[.int .i64 0, .slice none 0 0] 53 (0, 0)) (bk BK500.out)) : gb500 ≠ gb505)); have NB505_500 := Aside0.mk ((by rw [hg]; exact Nat.ne_of_gt (blk_lt (g := gb500) (o := .cells #[.int .i64 0, .slice none 0 0] 53 (0, 0)) (bk BK500.out)) : gb505 ≠ gb500)); replace BK500 := Aside0.mk (blk_below (g := gb500) (o := .cells #[.int .i64 0, .slice none 0 0] 53 (0, 0)) (bk BK500.out) hb); clear hb hbox hg; have hnb13 := NB505_498.out; have hnc13 := NB498_505.out; have hnb14 := NB505_499.out; have hnc14 := NB499_505.out; have hnb15 := NB505_500.out; have hnc15 := NB500_505.out; obtain ⟨hcz16_0, hcz16_1⟩ := cl2 BK505.out; obtain ⟨hfz16_0, hfz16_1⟩ := fz2 BK505.out; obtain ⟨Ao17, co17, eo17⟩ := Kd.R_slice HO504.out; subst eo17; have hnb18 := NB499_500.out; have hnc18 := NB500_499.out; obtain ⟨hcz19_0, hcz19_1, hcz19_2, hcz19_3, hcz19_4, hcz19_5⟩ := cl6 BK499.out; obtain ⟨hfz19_0, hfz19_1, hfz19_2, hfz19_3, hfz19_4, hfz19_5⟩ := fz6 BK499.out) | ((with_reducible refine gate_builtin (b := .append) (xs := #[.tmp 9, .tmp 11]) rfl ?_); at_builtin; refine Kd.R_append k25 (w0 := w) w.heap.size rfl (.tmp 9) (.tmp 11) 36 25 (.agg #[(.int .i64 0), (.int .i64 0), (.string ⟨#[]⟩), (.string ⟨#[]⟩), (.int .i64 0), (.bool false)]) 64 rfl Try.underlying36 info25 rfl (by decide) (by omega) (.slice Ao17 t502.length co17) t502 (⟨a1_0, a1_1, a1_2, a1_3, a1_4, a1_5⟩ : S25) [.int .i64 a1_0, .int .i64 a1_1, .string a1_2, .string a1_3, .int .i64 a1_4, .bool a1_5] (fun k_ => k_ ≠ gb499) (fun _ => False) rfl (by first | (go_simp; done) | (go_simp; rfl)) ?aP (fun _ hk => hk.elim) ?aF ?aO ?aB ?aS ?aL ?_; (case aP => exact k25_mkM _ _ _ (⟨a1_0, a1_1, a1_2, a1_3, a1_4, a1_5⟩ : S25)); (case aB => exact bo); (case aF => exact (fun k_ hk => Kd.freshB (g := gb499) (o := .cells #[.int .i64 a1_0, .int .i64 a1_1, .string a1_2, .string a1_3, .int .i64 a1_4, .bool a1_5] 25 (0, 0)) (bf BK499.out) k_ hk)); (case aO => exact (by (with_reducible repeat (first | apply Kd.R_alloc | apply Kd.R_drewN | apply Kd.R_drew)); exact Kd.R_mono (Kd.R_far (p := ⟨gb505, 1, none⟩) (Kd.R_far (p := ⟨gb505, 0, none⟩) (Kd.R_types HO504.out BK505.out (by decide)) (fun _ hk => hk.2) (.int .i64 t501)) (fun _ hk => hk.2) (.slice Ao17 t502.length co17)) (fun _ hk => hk.1.2))); (case aS => exact (below_size bo)); (case aL => have := LMc4.out; omega); intro v507 w20 ho hb hg hat; rw [← Ny506.out] at ho; have n0_ := Aside0.mk (blk_grown (g := gb498) (o := .cells #[.int .i64 a0_0, .slice A0_1 l0_1.length c0_1] 53 (0, 0)) (bf BK498.out) hg (Kd.R_ne HO504.out BK498.out (by decide))); have n1_ := Aside0.mk (blk_grown (g := gb499) (o := .cells #[.int .i64 a1_0, .int .i64 a1_1, .string a1_2, .string a1_3, .int .i64 a1_4, .bool a1_5] 25 (0, 0)) (bf BK499.out) hg (Kd.R_away HO504.out (fun _ hk => hk.2))); have n2_ := Aside0.mk (blk_grown (g := gb500) (o := .cells #[.int .i64 0, .slice none 0 0] 53 (0, 0)) (bf BK500.out) hg (Kd.R_ne HO504.out BK500.out (by decide))); have n3_ := Aside0.mk (blk_grown (g := gb505) (o := .cells #[.int .i64 t501, .slice Ao17 t502.length co17] 53 (0, 0)) (by (with_reducible repeat (first | refine blk_drewN ?_ _ | refine blk_drew ?_ | refine blk_alloc ?_ _)); refine blk_put (cs := #[.int .i64 t501, .slice none 0 0]) ?_ 1 _ rfl; (with_reducible repeat (first | refine blk_drewN ?_ _ | refine blk_drew ?_ | refine blk_alloc ?_ _)); refine blk_put (cs := #[.int .i64 0, .slice none 0 0]) ?_ 0 _ rfl; (with_reducible repeat (first | refine blk_drewN ?_ _ | refine blk_drew ?_ | refine blk_alloc ?_ _)); exact BK505.out) hg (Kd.R_ne HO504.out BK505.out (by decide))); have n4_ := Aside0.mk (hb); have n5_ := Aside0.mk (ho); clear BK498; clear BK499; clear BK500; clear BK505; clear HB; clear HO504; have BK498 := n0_; have BK499 := n1_; have BK500 := n2_; have BK505 := n3_; have HB := n4_; have HO508 := n5_; clear n0_ n1_ n2_ n3_ n4_ n5_; clear ho hb hg hat; obtain ⟨Ao21, co21, eo21⟩ := Kd.R_slice HO508.out; subst eo21; obtain ⟨hcz22_0, hcz22_1⟩ := cl2 BK505.out; obtain ⟨hfz22_0, hfz22_1⟩ := fz2 BK505.out; obtain ⟨hcz23_0, hcz23_1⟩ := cl2 BK500.out; obtain ⟨hfz23_0, hfz23_1⟩ := fz2 BK500.out))
  refine bodyPost_ret (results_cell_row rfl _ _ gb500 53 #[.int .i64 t501, .slice Ao21 y506.length co21] (0, 0) _ rfl (by (with_reducible repeat (first | refine blk_drewN ?_ _ | refine blk_drew ?_ | refine blk_alloc ?_ _)); refine blk_put (cs := #[.int .i64 t501, .slice none 0 0]) ?_ 1 _ rfl; (with_reducible repeat (first | refine blk_drewN ?_ _ | refine blk_drew ?_ | refine blk_alloc ?_ _)); refine blk_put (cs := #[.int .i64 0, .slice none 0 0]) ?_ 0 _ rfl; (with_reducible repeat (first | refine blk_drewN ?_ _ | refine blk_drew ?_ | refine blk_alloc ?_ _)); refine blk_far ?_ NB500_505.out _; (with_reducible repeat (first | refine blk_drewN ?_ _ | refine blk_drew ?_ | refine blk_alloc ?_ _)); exact BK500.out) Try.underlying53 rfl (by kernel_rfl)) rfl ?_
  exact ⟨_, er, by (with_reducible repeat (first | apply Kd.R_alloc | apply Kd.R_drewN | apply Kd.R_drew)); exact Kd.R_mono (Kd.R_far (p := ⟨gb500, 1, none⟩) (Kd.R_far (p := ⟨gb500, 0, none⟩) (Kd.R_far (p := ⟨gb505, 1, none⟩) (Kd.R_types (Kd.R_types HO508.out BK505.out (by decide)) BK500.out (by decide)) (fun _ hk => hk.1.2) (.slice Ao21 y506.length co21)) (fun _ hk => hk.2) (.int .i64 t501)) (fun _ hk => hk.2) (.slice Ao21 y506.length co21)) (fun _ hk => trivial), bo⟩
 ·rw [if_neg c4] at H
  exact absurd H (by simp)

end Go.Proofs.Ytmabdfdmccbfnaa.P

-- written by a program of the proving session, out of the translation; Lean checks it
namespace Go.Proofs.Ytmabdfdmccbfnaa.P
open Go.RowKit Go.Proofs.Ytmabdfdmccbfnaa.Sq Go.Proofs.YtmabdfdmccbfnaaW.PrintWords Go.Proofs.YtmabdfdmccbfnaaW.PrintLast Go.Proofs.YtmabdfdmccbfnaaW.PrintMore
attribute [local go_sem] max2_int min2_int max_two min_two max_three min_three max_four min_four   -- for this text's walks alone
set_option linter.unusedVariables false
set_option linter.unusedSimpArgs false

/-! ### fairwayref10_Seg: function 31 -/
mutual
def fairwayref10_Seg.l0 : Nat → Int → Int → List (S25) → Option (Bool)
 | 0, _, _, _ => none
 | k + 1, x3, x384000, x384001 => if x3 < (x384001.length : Int) then (fairwayref10_Seg.j1 k x3 x384000 x384001) else ((fairwayref0_Num.f x384000 1099511627776).bind fun t384 => (if t384 = true then (some (decide ((x384001.length : Int) ≤ 200))) else (some false)))
def fairwayref10_Seg.j1 : Nat → Int → Int → List (S25) → Option (Bool)
 | 0, _, _, _ => none
 | k + 1, x3, x384000, x384001 => if 0 ≤ x3 then (if x3 < (x384001.length : Int) then ((fairwayref10_Rec.f ((rd_T25 x384001 x3).f0) ((rd_T25 x384001 x3).f1) ((rd_T25 x384001 x3).f2) ((rd_T25 x384001 x3).f3) ((rd_T25 x384001 x3).f4) ((rd_T25 x384001 x3).f5)).bind fun t386 => (if t386 = true then (if ((rd_T25 x384001 x3).f0) < x384000 then (fairwayref10_Seg.j2 k x3 true x384000 x384001) else (if x3 > 0 then (if 0 ≤ (wrap64 (x3 - 1)) then (if (wrap64 (x3 - 1)) < (x384001.length : Int) then (if ((rd_T25 x384001 (wrap64 (x3 - 1))).f0) ≥ ((rd_T25 x384001 x3).f0) then (fairwayref10_Seg.j2 k x3 true x384000 x384001) else (fairwayref10_Seg.j2 k x3 (decide (((rd_T25 x384001 (wrap64 (x3 - 1))).f1) > ((rd_T25 x384001 x3).f1))) x384000 x384001)) else (none)) else (none)) else (fairwayref10_Seg.j2 k x3 false x384000 x384001))) else (fairwayref10_Seg.j2 k x3 true x384000 x384001))) else (none)) else (none)
def fairwayref10_Seg.j2 : Nat → Int → Bool → Int → List (S25) → Option (Bool)
 | 0, _, _, _, _ => none
 | k + 1, x3, x64, x384000, x384001 => if x64 = true then (some false) else (fairwayref10_Seg.l0 k (wrap64 (x3 + 1)) x384000 x384001)
end
def fairwayref10_Seg.f (k : Nat) (a0_0 : Int) (l0_1 : List (S25)) : Option (Bool) := fairwayref10_Seg.l0 k 0 a0_0 l0_1
theorem fairwayref10_Seg.mono_l : ∀ k, (∀ y0 y1 y2, LeO (fairwayref10_Seg.l0 k y0 y1 y2) (fairwayref10_Seg.l0 (k + 1) y0 y1 y2)) ∧ (∀ y0 y1 y2, LeO (fairwayref10_Seg.j1 k y0 y1 y2) (fairwayref10_Seg.j1 (k + 1) y0 y1 y2)) ∧ (∀ y0 y1 y2 y3, LeO (fairwayref10_Seg.j2 k y0 y1 y2 y3) (fairwayref10_Seg.j2 (k + 1) y0 y1 y2 y3))
 | 0 => ⟨fun _ _ _ r h => by simp [fairwayref10_Seg.l0] at h, fun _ _ _ r h => by simp [fairwayref10_Seg.j1] at h, fun _ _ _ _ r h => by simp [fairwayref10_Seg.j2] at h⟩
 | k + 1 => by
  obtain ⟨ih0, ih1, ih2⟩ := fairwayref10_Seg.mono_l k
  refine ⟨?_, ?_, ?_⟩
  ·intro y0 y1 y2
   unfold fairwayref10_Seg.l0
   repeat' first
   | (with_reducible exact ih0 _ _ _)
   | (with_reducible exact ih1 _ _ _)
   | (with_reducible exact ih2 _ _ _ _)
   | (with_reducible exact LeO.refl _)
   | (with_reducible exact LeO.none _)
   | (with_reducible refine LeO.ite ?_ ?_)
   | (with_reducible refine LeO.bind ?_ (fun _ => ?_))
   | exact ih0 _ _ _
   | exact ih1 _ _ _
   | exact ih2 _ _ _ _
   | exact LeO.none _
   | refine LeO.ite ?_ ?_
   | refine LeO.bind ?_ (fun _ => ?_)
  ·intro y0 y1 y2
   unfold fairwayref10_Seg.j1
   repeat' first
   | (with_reducible exact ih0 _ _ _)
   | (with_reducible exact ih1 _ _ _)
   | (with_reducible exact ih2 _ _ _ _)
   | (with_reducible exact LeO.refl _)
   | (with_reducible exact LeO.none _)
   | (with_reducible refine LeO.ite ?_ ?_)
   | (with_reducible refine LeO.bind ?_ (fun _ => ?_))
   | exact ih0 _ _ _
   | exact ih1 _ _ _
   | exact ih2 _ _ _ _
   | exact LeO.none _
   | refine LeO.ite ?_ ?_
   | refine LeO.bind ?_ (fun _ => ?_)
  ·intro y0 y1 y2 y3
   unfold fairwayref10_Seg.j2
   repeat' first
   | (with_reducible exact ih0 _ _ _)
   | (with_reducible exact ih1 _ _ _)
   | (with_reducible exact ih2 _ _ _ _)
   | (with_reducible exact LeO.refl _)
   | (with_reducible exact LeO.none _)
   | (with_reducible refine LeO.ite ?_ ?_)
   | (with_reducible refine LeO.bind ?_ (fun _ => ?_))
   | exact ih0 _ _ _
   | exact ih1 _ _ _
   | exact ih2 _ _ _ _
   | exact LeO.none _
   | refine LeO.ite ?_ ?_
   | refine LeO.bind ?_ (fun _ => ?_)
theorem fairwayref10_Seg.mono : ∀ a0 a1 k, LeO (fairwayref10_Seg.f k a0 a1) (fairwayref10_Seg.f (k + 1) a0 a1) := by
 intro a0 a1 k
 obtain ⟨ih0, ih1, ih2⟩ := fairwayref10_Seg.mono_l k
 unfold fairwayref10_Seg.f
 repeat' first
  | (with_reducible exact ih0 _ _ _)
  | (with_reducible exact ih1 _ _ _)
  | (with_reducible exact ih2 _ _ _ _)
  | (with_reducible exact LeO.refl _)
  | (with_reducible exact LeO.none _)
  | (with_reducible refine LeO.ite ?_ ?_)
  | (with_reducible refine LeO.bind ?_ (fun _ => ?_))
  | exact ih0 _ _ _
  | exact ih1 _ _ _
  | exact ih2 _ _ _ _
  | exact LeO.none _
  | refine LeO.ite ?_ ?_
  | refine LeO.bind ?_ (fun _ => ?_)
def fairwayref10_Seg.T4 : Bool × List (List Nat × List Nat) := (true, [([], []), ([0], [0]), ([], []), ([1, 2], [1, 2]), ([3], [3]), ([4], [4]), ([5], [5]), ([6, 5], [6]), ([7], [7]), ([8, 7], [7, 8]), ([7], [7]), ([9, 10, 7], [7, 9, 10]), ([11, 7], [7, 11]), ([12, 7], [7, 12]), ([7], [7]), ([14, 7], [7, 14]), ([13, 15, 7], [7, 13, 15]), ([7, 16], [7, 16]), ([17, 7], [17]), ([18], [18]), ([19, 18], [18, 19]), ([20, 18, 18], [18, 20]), ([21], [21]), ([22, 21], [21, 22]), ([21], [21]), ([24, 21], [21, 24]), ([23, 25, 21], [21, 23, 25]), ([26, 21], [21, 26]), ([27, 21], [21, 27]), ([21], [21]), ([29, 21], [21, 29]), ([21], [21]), ([30, 31, 21], [21, 30, 31]), ([32, 21], [21, 32]), ([33, 21], [21, 33]), ([28, 34, 21], [21, 28, 34]), ([35, 21, 21], [21, 35]), ([36], [36]), ([37, 36], [36, 37]), ([36], [36]), ([39, 36], [36, 39]), ([38, 40, 36], [36, 38, 40]), ([41, 36], [36, 41]), ([42, 36], [36, 42]), ([36], [36]), ([44, 36], [36, 44]), ([36], [36]), ([45, 46, 36], [36, 45, 46]), ([47, 36], [36, 47]), ([48, 36], [36, 48]), ([43, 49, 36], [36, 43, 49]), ([36, 50, 21], [21, 36, 50]), ([21, 51, 18], [18, 21, 51]), ([18, 52], [18, 52])])
def fairwayref10_Seg.B4 : List Nat := [0, 1, 0, 7, 15, 31, 63, 127, 255, 511, 255, 2047, 4095, 8191, 255, 16639, 65535, 131071, 262143, 524287, 1048575, 2097151, 4194303, 8388607, 4194303, 20971519, 67108863, 134217727, 268435455, 4194303, 541065215, 4194303, 3762290687, 8057257983, 16647192575, 34359738367, 68719476735, 137438953471, 274877906943, 137438953471, 687194767359, 2199023255551, 4398046511103, 8796093022207, 137438953471, 17729624997887, 137438953471, 123282741264383, 264020229619711, 545495206330367, 1125899906842623, 2251799813685247, 4503599627370495, 9007199254740991]
theorem fairwayref10_Seg.tab4 : rtab .any (opsOf Try.f31 4) = fairwayref10_Seg.T4 := by kernel_rfl
theorem fairwayref10_Seg.bits4 : waitsOk fairwayref10_Seg.T4.2 fairwayref10_Seg.B4 = true := by kernel_rfl
set_option maxHeartbeats 8000000 in
set_option maxRecDepth 100000 in
theorem fairwayref10_Seg.calls (k : Nat) (a0_0 : Int) (A0_1 : Option Addr) (c0_1 : Nat) (l0_1 : List (S25)) (r : Bool) (w : World) (hr0_1 : Kd.C k25 w A0_1 l0_1.length l0_1) (hc0_1 : l0_1.length ≤ c0_1) (h : fairwayref10_Seg.f k a0_0 l0_1 = some r) :
 Calls Try.prog 31 #[.agg #[.int .i64 a0_0, .slice A0_1 l0_1.length c0_1]] w fun e w' => e = .returned (.bool r) ∧ Below w.heap.size w w' := by
 have hu53 := Try.underlying53
 have hu25 := Try.underlying25
 have HR0_1 := Aside0.mk hr0_1
 have HC0_1 := Aside0.mk hc0_1
 clear hr0_1 hc0_1
 have HB := Aside0.mk (Below.refl w.heap.size w)
 have H : (fairwayref10_Seg.l0 k 0 a0_0 l0_1) = some r := h
 clear h
 have H' := Aside0.mk H
 clear H
 go_enter Try.func31, Try.ntmps31
 go_wp2_with (first | ((with_reducible refine gate_dst (N := 1) rfl ?_); (try (refine gate_guard (by rfl) ?_; dsimp only)); refine box_event ?hg (N := 1) ?hd (cs := #[.int .i64 a0_0, .slice A0_1 l0_1.length c0_1]) (t := 53) ?hr ?_; (case hd => rfl); (case hg => rfl); (case hr => first | (go_simp; done) | (go_simp; rfl)); intro gb383 hg w2 hbox hb; have BK383 := Aside0.mk (hbox); have GW383 := Aside0.mk ((by rw [hg]; exact (below_size bo) : w.heap.size ≤ gb383)); have GE383 := Aside0.mk ((by rw [hg]; exact (below_size bo) : w.heap.size ≤ gb383)); replace HB := Aside0.mk (below_step bo hb); clear hb hbox hg))
 go_loopg [3] k (fun kq v3 w' => ∃ (x3_1 : Int), v3 = .int .i64 x3_1 ∧ Aside0 (fairwayref10_Seg.l0 kq x3_1 a0_0 l0_1 = some r) ∧ Aside0 (kq ≤ k) ∧ Aside0 (w'.heap[gb383]? = some (.cells #[.int .i64 a0_0, (.slice A0_1 l0_1.length c0_1)] 53 (0, 0))) ∧ Aside0 (Below w.heap.size w w'))
 case atStart => exact ⟨(0), ap, H', ⟨Nat.le_refl _⟩, ⟨by (with_reducible repeat (first | refine blk_drewN ?_ _ | refine blk_drew ?_ | refine blk_alloc ?_ _)); exact BK383.out⟩, ⟨bo⟩⟩
 case round =>
  clear H'
  try clear p2
  obtain ⟨x3_1, rfl, HA, HK1, BK383, HB⟩ := hrel
  cases gk with
  | zero => exact absurd HA.out (by simp [fairwayref10_Seg.l0])
  | succ k1 =>
   have H := HA.out
   clear HA
   simp only [fairwayref10_Seg.l0] at H
   have HC3 := Aside0.mk H
   clear H
   have hcz4_0 : wr.cell? ⟨gb383, 0, none⟩ = some (.int .i64 a0_0) := (blk_cell BK383.out 0).trans rfl
   have hcz4_1 : wr.cell? ⟨gb383, 1, none⟩ = some (.slice A0_1 l0_1.length c0_1) := (blk_cell BK383.out 1).trans rfl
   have hfz4_0 := blk_frozen BK383.out 0
   have hfz4_1 := blk_frozen BK383.out 1
   go_upto_if 8 with (fail)
   go_cut [] (fun wc => ∃ (kq : Nat), Aside0 (fairwayref10_Seg.j1 kq x3_1 a0_0 l0_1 = some r) ∧ Aside0 (kq ≤ k1) ∧ Aside0 (wc.heap[gb383]? = some (.cells #[.int .i64 a0_0, (.slice A0_1 l0_1.length c0_1)] 53 (0, 0))) ∧ Aside0 (Below w.heap.size w wc))
   case first =>
    have H := HC3.out
    clear HC3
    by_cases c5 : x3_1 < (l0_1.length : Int)
    ·rw [if_pos c5] at H
     have c5b0 : decide (x3_1 < (l0_1.length : Int)) = true := decide_eq_true c5
     clear c5
     (first | rw [c5b0] | (simp only [i64_w, i32_w]; rw [c5b0]) | skip)
     have H' := Aside0.mk H
     clear H
     go_wp2
     go_meet
     case rel => exact ⟨_, H', ⟨by have := HK1.out; first | omega | exact Nat.le_refl _⟩, ⟨by (with_reducible repeat (first | refine blk_drewN ?_ _ | refine blk_drew ?_ | refine blk_alloc ?_ _)); exact BK383.out⟩, ⟨bo⟩⟩
    ·rw [if_neg c5] at H
     have c5b0 : decide (x3_1 < (l0_1.length : Int)) = false := decide_eq_false c5
     clear c5
     (first | rw [c5b0] | (simp only [i64_w, i32_w]; rw [c5b0]) | skip)
     replace H := Option.bind_eq_some_iff.mp H
     obtain ⟨t384, A60, H⟩ := H
     replace H : (if t384 = true then (some (decide ((l0_1.length : Int) ≤ 200))) else (some false)) = some r := H
     have A6 := Aside0.mk A60
     clear A60
     by_cases c7 : t384 = true
     ·subst c7
      have H1 : (some (decide ((l0_1.length : Int) ≤ 200))) = some r := by rw [if_pos rfl] at H; exact H
      clear H
      have H := H1
      clear H1
      obtain rfl := Option.some.inj H
      have hcz8_0 : wr.cell? ⟨gb383, 0, none⟩ = some (.int .i64 a0_0) := (blk_cell BK383.out 0).trans rfl
      have hcz8_1 : wr.cell? ⟨gb383, 1, none⟩ = some (.slice A0_1 l0_1.length c0_1) := (blk_cell BK383.out 1).trans rfl
      have hfz8_0 := blk_frozen BK383.out 0
      have hfz8_1 := blk_frozen BK383.out 1
      go_wp2_with (first | ((with_reducible refine gate_callee (f := 39) rfl ?_); refine goesL_ (some 67) rfl rfl Try.func39 (by kernel_rfl) rfl #[.int .i64 a0_0, .int .i64 1099511627776] rfl aa ?_; (with_reducible refine (fairwayref0_Num.calls a0_0 1099511627776 true _ A6.out).mono ?_); rintro e w' ⟨rfl, ⟨nd, rfl⟩⟩; refine ⟨_, rfl, ?_⟩))
      go_ret
      exact ⟨er, bo⟩
     ·replace c7 := Bool.eq_false_iff.mpr c7
      subst c7
      have H1 : (some false) = some r := by rw [if_neg (show ¬ (false = true) by decide)] at H; exact H
      clear H
      have H := H1
      clear H1
      obtain rfl := Option.some.inj H
      have hcz9_0 : wr.cell? ⟨gb383, 0, none⟩ = some (.int .i64 a0_0) := (blk_cell BK383.out 0).trans rfl
      have hcz9_1 : wr.cell? ⟨gb383, 1, none⟩ = some (.slice A0_1 l0_1.length c0_1) := (blk_cell BK383.out 1).trans rfl
      have hfz9_0 := blk_frozen BK383.out 0
      have hfz9_1 := blk_frozen BK383.out 1
      go_wp2_with (first | ((with_reducible refine gate_callee (f := 39) rfl ?_); refine goesL_ (some 67) rfl rfl Try.func39 (by kernel_rfl) rfl #[.int .i64 a0_0, .int .i64 1099511627776] rfl aa ?_; (with_reducible refine (fairwayref0_Num.calls a0_0 1099511627776 false _ A6.out).mono ?_); rintro e w' ⟨rfl, ⟨nd, rfl⟩⟩; refine ⟨_, rfl, ?_⟩))
      go_ret
      exact ⟨er, bo⟩
   case rest =>
    clear HC3
    try clear p2
    try clear c3
    try clear c5
    try clear c5b0
    try clear c7
    try clear hcz4_0
    try clear hcz4_1
    try clear hcz8_0
    try clear hcz8_1
    try clear hcz9_0
    try clear hcz9_1
    try clear hfz4_0
    try clear hfz4_1
    try clear hfz8_0
    try clear hfz8_1
    try clear hfz9_0
    try clear hfz9_1
    try clear p2
    obtain ⟨kq, HA, HJ2, BK383, HB⟩ := hcut
    cases kq with
    | zero => exact absurd HA.out (by simp [fairwayref10_Seg.j1])
    | succ kj2 =>
     have H := HA.out
     clear HA
     simp only [fairwayref10_Seg.j1] at H
     have HC10 := Aside0.mk H
     clear H
     go_upto_region 4 with (fail)
     go_cut [64] (fun v64 wc => ∃ (kq : Nat) (x64_9 : Bool), v64 = .bool x64_9 ∧ Aside0 (fairwayref10_Seg.j2 kq x3_1 x64_9 a0_0 l0_1 = some r) ∧ Aside0 (kq ≤ kj2) ∧ Aside0 (wc.heap[gb383]? = some (.cells #[.int .i64 a0_0, (.slice A0_1 l0_1.length c0_1)] 53 (0, 0))) ∧ Aside0 (Below w.heap.size w wc))
     case first =>
      have H := HC10.out
      clear HC10
      by_cases c11 : 0 ≤ x3_1
      ·rw [if_pos c11] at H
       have c11b0 : decide (0 ≤ x3_1) = true := decide_eq_true c11
       clear c11
       (first | rw [c11b0] | (simp only [i64_w, i32_w]; rw [c11b0]) | skip)
       by_cases c12 : x3_1 < (l0_1.length : Int)
       ·rw [if_pos c12] at H
        have c12b0 : decide (x3_1 < (l0_1.length : Int)) = true := decide_eq_true c12
        clear c12
        replace H := Option.bind_eq_some_iff.mp H
        obtain ⟨t386, A130, H⟩ := H
        replace H : (if t386 = true then (if ((rd_T25 l0_1 x3_1).f0) < a0_0 then (fairwayref10_Seg.j2 kj2 x3_1 true a0_0 l0_1) else (if x3_1 > 0 then (if 0 ≤ (wrap64 (x3_1 - 1)) then (if (wrap64 (x3_1 - 1)) < (l0_1.length : Int) then (if ((rd_T25 l0_1 (wrap64 (x3_1 - 1))).f0) ≥ ((rd_T25 l0_1 x3_1).f0) then (fairwayref10_Seg.j2 kj2 x3_1 true a0_0 l0_1) else (fairwayref10_Seg.j2 kj2 x3_1 (decide (((rd_T25 l0_1 (wrap64 (x3_1 - 1))).f1) > ((rd_T25 l0_1 x3_1).f1))) a0_0 l0_1)) else (none)) else (none)) else (fairwayref10_Seg.j2 kj2 x3_1 false a0_0 l0_1))) else (fairwayref10_Seg.j2 kj2 x3_1 true a0_0 l0_1)) = some r := H
        have A13 := Aside0.mk A130
        clear A130
        by_cases c14 : t386 = true
        ·subst c14
         have H1 : (if ((rd_T25 l0_1 x3_1).f0) < a0_0 then (fairwayref10_Seg.j2 kj2 x3_1 true a0_0 l0_1) else (if x3_1 > 0 then (if 0 ≤ (wrap64 (x3_1 - 1)) then (if (wrap64 (x3_1 - 1)) < (l0_1.length : Int) then (if ((rd_T25 l0_1 (wrap64 (x3_1 - 1))).f0) ≥ ((rd_T25 l0_1 x3_1).f0) then (fairwayref10_Seg.j2 kj2 x3_1 true a0_0 l0_1) else (fairwayref10_Seg.j2 kj2 x3_1 (decide (((rd_T25 l0_1 (wrap64 (x3_1 - 1))).f1) > ((rd_T25 l0_1 x3_1).f1))) a0_0 l0_1)) else (none)) else (none)) else (fairwayref10_Seg.j2 kj2 x3_1 false a0_0 l0_1))) = some r := by rw [if_pos rfl] at H; exact H
         clear H
         have H := H1
         clear H1
         by_cases c15 : ((rd_T25 l0_1 x3_1).f0) < a0_0
         ·rw [if_pos c15] at H
          have c15b0 : decide (((rd_T25 l0_1 x3_1).f0) < a0_0) = true := decide_eq_true c15
          clear c15
          have H' := Aside0.mk H
          clear H
          try go_wp2
          replace BK383 := Aside0.mk (blk_drew BK383.out)
          replace HB := Aside0.mk (below_drew1 HB.out)
          have p385 : 0 ≤ (x3_1 : Int) := od
          have q385 : x3_1 < (l0_1.length : Int) := od
          obtain ⟨ad385, e385, hx385_0, hx385_1, hx385_2, hx385_3, hx385_4, hx385_5⟩ := at_T25 HR0_1.out x3_1 p385 q385
          have hw385_5 := hx385_5
          have hw385_4 := hx385_4
          have hw385_3 := hx385_3
          have hw385_2 := hx385_2
          have hw385_1 := hx385_1
          have hw385_0 := hx385_0
          cases e385
          replace hx385_0 := cx HB.out hx385_0
          replace hx385_1 := cx HB.out hx385_1
          replace hx385_2 := cx HB.out hx385_2
          replace hx385_3 := cx HB.out hx385_3
          replace hx385_4 := cx HB.out hx385_4
          replace hx385_5 := cx HB.out hx385_5
          replace p385 := eq_true p385
          replace q385 := eq_true q385
          have p387 : 0 ≤ (x3_1 : Int) := od
          have q387 : x3_1 < (l0_1.length : Int) := od
          obtain ⟨ad387, e387, hx387_0, hx387_1, hx387_2, hx387_3, hx387_4, hx387_5⟩ := at_T25 HR0_1.out x3_1 p387 q387
          have hw387_5 := hx387_5
          have hw387_4 := hx387_4
          have hw387_3 := hx387_3
          have hw387_2 := hx387_2
          have hw387_1 := hx387_1
          have hw387_0 := hx387_0
          obtain rfl : ad385 = ad387 := (by injection e387)
          replace hx387_0 := cx HB.out hx387_0
          replace hx387_1 := cx HB.out hx387_1
          replace hx387_2 := cx HB.out hx387_2
          replace hx387_3 := cx HB.out hx387_3
          replace hx387_4 := cx HB.out hx387_4
          replace hx387_5 := cx HB.out hx387_5
          replace p387 := eq_true p387
          replace q387 := eq_true q387
          refine start_ (n := 54) (S := fun w' => w'.cell? ⟨gb383, 0, none⟩ = some (.int .i64 a0_0) ∧ w'.cell? ⟨gb383, 1, none⟩ = some (.slice (some ad385) l0_1.length c0_1) ∧ w'.cell? (ad385.add ((x3_1).toNat * 6)) = some (.int .i64 ((rd_T25 l0_1 x3_1).f0)) ∧ w'.cell? ⟨(ad385.add ((x3_1).toNat * 6)).block, (ad385.add ((x3_1).toNat * 6)).off + 1, none⟩ = some (.int .i64 ((rd_T25 l0_1 x3_1).f1)) ∧ w'.cell? ⟨(ad385.add ((x3_1).toNat * 6)).block, (ad385.add ((x3_1).toNat * 6)).off + 2, none⟩ = some (.string ((rd_T25 l0_1 x3_1).f2)) ∧ w'.cell? ⟨(ad385.add ((x3_1).toNat * 6)).block, (ad385.add ((x3_1).toNat * 6)).off + 3, none⟩ = some (.string ((rd_T25 l0_1 x3_1).f3)) ∧ w'.cell? ⟨(ad385.add ((x3_1).toNat * 6)).block, (ad385.add ((x3_1).toNat * 6)).off + 4, none⟩ = some (.int .i64 ((rd_T25 l0_1 x3_1).f4)) ∧ w'.cell? ⟨(ad385.add ((x3_1).toNat * 6)).block, (ad385.add ((x3_1).toNat * 6)).off + 5, none⟩ = some (.bool ((rd_T25 l0_1 x3_1).f5)) ∧ w'.cell? (ad385.add ((x3_1).toNat * 6)) = some (.int .i64 ((rd_T25 l0_1 x3_1).f0)) ∧ w'.cell? ⟨(ad385.add ((x3_1).toNat * 6)).block, (ad385.add ((x3_1).toNat * 6)).off + 1, none⟩ = some (.int .i64 ((rd_T25 l0_1 x3_1).f1)) ∧ w'.cell? ⟨(ad385.add ((x3_1).toNat * 6)).block, (ad385.add ((x3_1).toNat * 6)).off + 2, none⟩ = some (.string ((rd_T25 l0_1 x3_1).f2)) ∧ w'.cell? ⟨(ad385.add ((x3_1).toNat * 6)).block, (ad385.add ((x3_1).toNat * 6)).off + 3, none⟩ = some (.string ((rd_T25 l0_1 x3_1).f3)) ∧ w'.cell? ⟨(ad385.add ((x3_1).toNat * 6)).block, (ad385.add ((x3_1).toNat * 6)).off + 4, none⟩ = some (.int .i64 ((rd_T25 l0_1 x3_1).f4)) ∧ w'.cell? ⟨(ad385.add ((x3_1).toNat * 6)).block, (ad385.add ((x3_1).toNat * 6)).off + 5, none⟩ = some (.bool ((rd_T25 l0_1 x3_1).f5))) (ds := []) #[O,O,O,O,O,O,O,O,O,O,O,O,O,O,O,O,O,O,O,O,O,O,O,O,O,O,O,O,O,O,O,O,O,O,O,O,O,O,O,O,O,O,O,O,O,O,O,O,O,O,O,O,O,O] (by kernel_rfl) rfl rfl ⟨(blk_cell BK383.out 0).trans rfl, (blk_cell BK383.out 1).trans rfl, ((HB.out.cell (World.block_lt_of_cell? w _ hw385_0)).trans hw385_0), ((HB.out.cell (World.block_lt_of_cell? w _ hw385_1)).trans hw385_1), ((HB.out.cell (World.block_lt_of_cell? w _ hw385_2)).trans hw385_2), ((HB.out.cell (World.block_lt_of_cell? w _ hw385_3)).trans hw385_3), ((HB.out.cell (World.block_lt_of_cell? w _ hw385_4)).trans hw385_4), ((HB.out.cell (World.block_lt_of_cell? w _ hw385_5)).trans hw385_5), ((HB.out.cell (World.block_lt_of_cell? w _ hw387_0)).trans hw387_0), ((HB.out.cell (World.block_lt_of_cell? w _ hw387_1)).trans hw387_1), ((HB.out.cell (World.block_lt_of_cell? w _ hw387_2)).trans hw387_2), ((HB.out.cell (World.block_lt_of_cell? w _ hw387_3)).trans hw387_3), ((HB.out.cell (World.block_lt_of_cell? w _ hw387_4)).trans hw387_4), ((HB.out.cell (World.block_lt_of_cell? w _ hw387_5)).trans hw387_5)⟩ (fun hHeld => ?_); refine with_tabW fairwayref10_Seg.tab4 fairwayref10_Seg.bits4 (fun HT_ HW_ => ?_)
          generalize wc.drew = w16 at BK383 HB hx385_0 hx385_1 hx385_2 hx385_3 hx385_4 hx385_5 hx387_0 hx387_1 hx387_2 hx387_3 hx387_4 hx387_5 hHeld ⊢
          refine pz (i := 0) (N := some 11) #[I,O,O,O,O,O,O,O,O,O,O,O,O,O,O,O,O,O,O,O,O,O,O,O,O,O,O,O,O,O,O,O,O,O,O,O,O,O,O,O,O,O,O,O,O,O,O,O,O,O,O,O,O,O] ?_
          refine pz (i := 2) (N := some 13) #[I,O,I,O,O,O,O,O,O,O,O,O,O,O,O,O,O,O,O,O,O,O,O,O,O,O,O,O,O,O,O,O,O,O,O,O,O,O,O,O,O,O,O,O,O,O,O,O,O,O,O,O,O,O] ?_
          refine tz (i := 1) (N := some 12) #[I,I,I,O,O,O,O,O,O,O,O,O,O,O,O,O,O,O,O,O,O,O,O,O,O,O,O,O,O,O,O,O,O,O,O,O,O,O,O,O,O,O,O,O,O,O,O,O,O,O,O,O,O,O] ?_
          refine pz (i := 3) (N := some 14) #[I,I,I,I,O,O,O,O,O,O,O,O,O,O,O,O,O,O,O,O,O,O,O,O,O,O,O,O,O,O,O,O,O,O,O,O,O,O,O,O,O,O,O,O,O,O,O,O,O,O,O,O,O,O] ?_
          refine tz (i := 4) (N := some 15) #[I,I,I,I,I,O,O,O,O,O,O,O,O,O,O,O,O,O,O,O,O,O,O,O,O,O,O,O,O,O,O,O,O,O,O,O,O,O,O,O,O,O,O,O,O,O,O,O,O,O,O,O,O,O] ?_
          refine one_ (i := 5) (N := some 16) #[I,I,I,I,I,I,O,O,O,O,O,O,O,O,O,O,O,O,O,O,O,O,O,O,O,O,O,O,O,O,O,O,O,O,O,O,O,O,O,O,O,O,O,O,O,O,O,O,O,O,O,O,O,O] rfl rfl (one_of HT_.out (by kernel_rfl)) (by decide) (fun K hK => ?_)
          refine goes_ Try.func17 (by kernel_rfl) rfl #[.agg #[.int .i64 ((rd_T25 l0_1 x3_1).f0), .int .i64 ((rd_T25 l0_1 x3_1).f1), .string ((rd_T25 l0_1 x3_1).f2), .string ((rd_T25 l0_1 x3_1).f3), .int .i64 ((rd_T25 l0_1 x3_1).f4), .bool ((rd_T25 l0_1 x3_1).f5)]] (by rfl) rfl rfl aa ?_
          with_reducible refine (fairwayref10_Rec.calls ((rd_T25 l0_1 x3_1).f0) ((rd_T25 l0_1 x3_1).f1) ((rd_T25 l0_1 x3_1).f2) ((rd_T25 l0_1 x3_1).f3) ((rd_T25 l0_1 x3_1).f4) ((rd_T25 l0_1 x3_1).f5) true _ A13.out).mono ?_
          rintro e w17 ⟨rfl, hb⟩
          refine ⟨_, rfl, ?_⟩
          replace BK383 := Aside0.mk (blk_below (g := gb383) (o := .cells #[.int .i64 a0_0, .slice (some ad385) l0_1.length c0_1] 53 (0, 0)) (bk BK383.out) hb)
          replace HB := Aside0.mk (below_step bo hb)
          (try clear hb)
          (try clear hb2)
          (try clear hk)
          (try clear hi)
          refine hK.out _ _ ⟨(blk_cell BK383.out 0).trans rfl, (blk_cell BK383.out 1).trans rfl, ((HB.out.cell (World.block_lt_of_cell? w _ hw385_0)).trans hw385_0), ((HB.out.cell (World.block_lt_of_cell? w _ hw385_1)).trans hw385_1), ((HB.out.cell (World.block_lt_of_cell? w _ hw385_2)).trans hw385_2), ((HB.out.cell (World.block_lt_of_cell? w _ hw385_3)).trans hw385_3), ((HB.out.cell (World.block_lt_of_cell? w _ hw385_4)).trans hw385_4), ((HB.out.cell (World.block_lt_of_cell? w _ hw385_5)).trans hw385_5), ((HB.out.cell (World.block_lt_of_cell? w _ hw387_0)).trans hw387_0), ((HB.out.cell (World.block_lt_of_cell? w _ hw387_1)).trans hw387_1), ((HB.out.cell (World.block_lt_of_cell? w _ hw387_2)).trans hw387_2), ((HB.out.cell (World.block_lt_of_cell? w _ hw387_3)).trans hw387_3), ((HB.out.cell (World.block_lt_of_cell? w _ hw387_4)).trans hw387_4), ((HB.out.cell (World.block_lt_of_cell? w _ hw387_5)).trans hw387_5)⟩ (fun hHeld => ?_)
          clear hK K
          refine norm_ (a' := ?_) ?_ ?_
          rotate_left
          ·show Act.put _ (some 16) _ = _
           simp only [Act.put, List.setIfInBounds_toArray, List.set_cons_zero, List.set_cons_succ, i64_w, i32_w]
           rfl
          refine pz (i := 6) (N := some 17) #[I,I,I,I,I,I,I,O,O,O,O,O,O,O,O,O,O,O,O,O,O,O,O,O,O,O,O,O,O,O,O,O,O,O,O,O,O,O,O,O,O,O,O,O,O,O,O,O,O,O,O,O,O,O] ?_
          refine pz (i := 7) (N := some 18) #[I,I,I,I,I,I,I,I,O,O,O,O,O,O,O,O,O,O,O,O,O,O,O,O,O,O,O,O,O,O,O,O,O,O,O,O,O,O,O,O,O,O,O,O,O,O,O,O,O,O,O,O,O,O] ?_
          refine pz (i := 8) (N := some 19) #[I,I,I,I,I,I,I,I,I,O,O,O,O,O,O,O,O,O,O,O,O,O,O,O,O,O,O,O,O,O,O,O,O,O,O,O,O,O,O,O,O,O,O,O,O,O,O,O,O,O,O,O,O,O] ?_
          refine pz (i := 10) (N := some 21) #[I,I,I,I,I,I,I,I,I,O,I,O,O,O,O,O,O,O,O,O,O,O,O,O,O,O,O,O,O,O,O,O,O,O,O,O,O,O,O,O,O,O,O,O,O,O,O,O,O,O,O,O,O,O] ?_
          refine pz (i := 14) (N := some 25) #[I,I,I,I,I,I,I,I,I,O,I,O,O,O,I,O,O,O,O,O,O,O,O,O,O,O,O,O,O,O,O,O,O,O,O,O,O,O,O,O,O,O,O,O,O,O,O,O,O,O,O,O,O,O] ?_
          refine tz (i := 9) (N := some 20) #[I,I,I,I,I,I,I,I,I,I,I,O,O,O,I,O,O,O,O,O,O,O,O,O,O,O,O,O,O,O,O,O,O,O,O,O,O,O,O,O,O,O,O,O,O,O,O,O,O,O,O,O,O,O] ?_
          refine pz (i := 11) (N := some 22) #[I,I,I,I,I,I,I,I,I,I,I,I,O,O,I,O,O,O,O,O,O,O,O,O,O,O,O,O,O,O,O,O,O,O,O,O,O,O,O,O,O,O,O,O,O,O,O,O,O,O,O,O,O,O] ?_
          refine pz (i := 12) (N := some 23) #[I,I,I,I,I,I,I,I,I,I,I,I,I,O,I,O,O,O,O,O,O,O,O,O,O,O,O,O,O,O,O,O,O,O,O,O,O,O,O,O,O,O,O,O,O,O,O,O,O,O,O,O,O,O] ?_
          refine tz (i := 13) (N := some 24) #[I,I,I,I,I,I,I,I,I,I,I,I,I,I,I,O,O,O,O,O,O,O,O,O,O,O,O,O,O,O,O,O,O,O,O,O,O,O,O,O,O,O,O,O,O,O,O,O,O,O,O,O,O,O] ?_
          refine tz (i := 15) (N := some 26) #[I,I,I,I,I,I,I,I,I,I,I,I,I,I,I,I,O,O,O,O,O,O,O,O,O,O,O,O,O,O,O,O,O,O,O,O,O,O,O,O,O,O,O,O,O,O,O,O,O,O,O,O,O,O] ?_
          refine pz (i := 16) (N := some 27) #[I,I,I,I,I,I,I,I,I,I,I,I,I,I,I,I,I,O,O,O,O,O,O,O,O,O,O,O,O,O,O,O,O,O,O,O,O,O,O,O,O,O,O,O,O,O,O,O,O,O,O,O,O,O] ?_
          refine pz (i := 17) (N := some 28) #[I,I,I,I,I,I,I,I,I,I,I,I,I,I,I,I,I,I,O,O,O,O,O,O,O,O,O,O,O,O,O,O,O,O,O,O,O,O,O,O,O,O,O,O,O,O,O,O,O,O,O,O,O,O] ?_
          refine pz (i := 18) (N := some 29) #[I,I,I,I,I,I,I,I,I,I,I,I,I,I,I,I,I,I,I,O,O,O,O,O,O,O,O,O,O,O,O,O,O,O,O,O,O,O,O,O,O,O,O,O,O,O,O,O,O,O,O,O,O,O] ?_
          refine pu (i := 19) (N := some 30) #[I,I,I,I,I,I,I,I,I,I,I,I,I,I,I,I,I,I,I,I,O,O,O,O,O,O,O,O,O,O,O,O,O,O,O,O,O,O,O,O,O,O,O,O,O,O,O,O,O,O,O,O,O,O] ?_
          refine pu (i := 20) (N := some 31) #[I,I,I,I,I,I,I,I,I,I,I,I,I,I,I,I,I,I,I,I,I,O,O,O,O,O,O,O,O,O,O,O,O,O,O,O,O,O,O,O,O,O,O,O,O,O,O,O,O,O,O,O,O,O] ?_
          refine pu (i := 21) (N := some 32) #[I,I,I,I,I,I,I,I,I,I,I,I,I,I,I,I,I,I,I,I,I,I,O,O,O,O,O,O,O,O,O,O,O,O,O,O,O,O,O,O,O,O,O,O,O,O,O,O,O,O,O,O,O,O] ?_
          refine pu (i := 22) (N := some 33) #[I,I,I,I,I,I,I,I,I,I,I,I,I,I,I,I,I,I,I,I,I,I,I,O,O,O,O,O,O,O,O,O,O,O,O,O,O,O,O,O,O,O,O,O,O,O,O,O,O,O,O,O,O,O] ?_
          refine pu (i := 23) (N := some 34) #[I,I,I,I,I,I,I,I,I,I,I,I,I,I,I,I,I,I,I,I,I,I,I,I,O,O,O,O,O,O,O,O,O,O,O,O,O,O,O,O,O,O,O,O,O,O,O,O,O,O,O,O,O,O] ?_
          refine pu (i := 24) (N := some 35) #[I,I,I,I,I,I,I,I,I,I,I,I,I,I,I,I,I,I,I,I,I,I,I,I,I,O,O,O,O,O,O,O,O,O,O,O,O,O,O,O,O,O,O,O,O,O,O,O,O,O,O,O,O,O] ?_
          refine pu (i := 25) (N := some 36) #[I,I,I,I,I,I,I,I,I,I,I,I,I,I,I,I,I,I,I,I,I,I,I,I,I,I,O,O,O,O,O,O,O,O,O,O,O,O,O,O,O,O,O,O,O,O,O,O,O,O,O,O,O,O] ?_
          refine pu (i := 26) (N := some 37) #[I,I,I,I,I,I,I,I,I,I,I,I,I,I,I,I,I,I,I,I,I,I,I,I,I,I,I,O,O,O,O,O,O,O,O,O,O,O,O,O,O,O,O,O,O,O,O,O,O,O,O,O,O,O] ?_
          refine pu (i := 27) (N := some 38) #[I,I,I,I,I,I,I,I,I,I,I,I,I,I,I,I,I,I,I,I,I,I,I,I,I,I,I,I,O,O,O,O,O,O,O,O,O,O,O,O,O,O,O,O,O,O,O,O,O,O,O,O,O,O] ?_
          refine pu (i := 28) (N := some 39) #[I,I,I,I,I,I,I,I,I,I,I,I,I,I,I,I,I,I,I,I,I,I,I,I,I,I,I,I,I,O,O,O,O,O,O,O,O,O,O,O,O,O,O,O,O,O,O,O,O,O,O,O,O,O] ?_
          refine pu (i := 29) (N := some 40) #[I,I,I,I,I,I,I,I,I,I,I,I,I,I,I,I,I,I,I,I,I,I,I,I,I,I,I,I,I,I,O,O,O,O,O,O,O,O,O,O,O,O,O,O,O,O,O,O,O,O,O,O,O,O] ?_
          refine pu (i := 30) (N := some 41) #[I,I,I,I,I,I,I,I,I,I,I,I,I,I,I,I,I,I,I,I,I,I,I,I,I,I,I,I,I,I,I,O,O,O,O,O,O,O,O,O,O,O,O,O,O,O,O,O,O,O,O,O,O,O] ?_
          refine pu (i := 31) (N := some 42) #[I,I,I,I,I,I,I,I,I,I,I,I,I,I,I,I,I,I,I,I,I,I,I,I,I,I,I,I,I,I,I,I,O,O,O,O,O,O,O,O,O,O,O,O,O,O,O,O,O,O,O,O,O,O] ?_
          refine pu (i := 32) (N := some 43) #[I,I,I,I,I,I,I,I,I,I,I,I,I,I,I,I,I,I,I,I,I,I,I,I,I,I,I,I,I,I,I,I,I,O,O,O,O,O,O,O,O,O,O,O,O,O,O,O,O,O,O,O,O,O] ?_
          refine pu (i := 33) (N := some 44) #[I,I,I,I,I,I,I,I,I,I,I,I,I,I,I,I,I,I,I,I,I,I,I,I,I,I,I,I,I,I,I,I,I,I,O,O,O,O,O,O,O,O,O,O,O,O,O,O,O,O,O,O,O,O] ?_
          refine pu (i := 34) (N := some 45) #[I,I,I,I,I,I,I,I,I,I,I,I,I,I,I,I,I,I,I,I,I,I,I,I,I,I,I,I,I,I,I,I,I,I,I,O,O,O,O,O,O,O,O,O,O,O,O,O,O,O,O,O,O,O] ?_
          refine pu (i := 35) (N := some 46) #[I,I,I,I,I,I,I,I,I,I,I,I,I,I,I,I,I,I,I,I,I,I,I,I,I,I,I,I,I,I,I,I,I,I,I,I,O,O,O,O,O,O,O,O,O,O,O,O,O,O,O,O,O,O] ?_
          refine pu (i := 36) (N := some 47) #[I,I,I,I,I,I,I,I,I,I,I,I,I,I,I,I,I,I,I,I,I,I,I,I,I,I,I,I,I,I,I,I,I,I,I,I,I,O,O,O,O,O,O,O,O,O,O,O,O,O,O,O,O,O] ?_
          refine pu (i := 37) (N := some 48) #[I,I,I,I,I,I,I,I,I,I,I,I,I,I,I,I,I,I,I,I,I,I,I,I,I,I,I,I,I,I,I,I,I,I,I,I,I,I,O,O,O,O,O,O,O,O,O,O,O,O,O,O,O,O] ?_
          refine pu (i := 38) (N := some 49) #[I,I,I,I,I,I,I,I,I,I,I,I,I,I,I,I,I,I,I,I,I,I,I,I,I,I,I,I,I,I,I,I,I,I,I,I,I,I,I,O,O,O,O,O,O,O,O,O,O,O,O,O,O,O] ?_
          refine pu (i := 39) (N := some 50) #[I,I,I,I,I,I,I,I,I,I,I,I,I,I,I,I,I,I,I,I,I,I,I,I,I,I,I,I,I,I,I,I,I,I,I,I,I,I,I,I,O,O,O,O,O,O,O,O,O,O,O,O,O,O] ?_
          refine pu (i := 40) (N := some 51) #[I,I,I,I,I,I,I,I,I,I,I,I,I,I,I,I,I,I,I,I,I,I,I,I,I,I,I,I,I,I,I,I,I,I,I,I,I,I,I,I,I,O,O,O,O,O,O,O,O,O,O,O,O,O] ?_
          refine pu (i := 41) (N := some 52) #[I,I,I,I,I,I,I,I,I,I,I,I,I,I,I,I,I,I,I,I,I,I,I,I,I,I,I,I,I,I,I,I,I,I,I,I,I,I,I,I,I,I,O,O,O,O,O,O,O,O,O,O,O,O] ?_
          refine pu (i := 42) (N := some 53) #[I,I,I,I,I,I,I,I,I,I,I,I,I,I,I,I,I,I,I,I,I,I,I,I,I,I,I,I,I,I,I,I,I,I,I,I,I,I,I,I,I,I,I,O,O,O,O,O,O,O,O,O,O,O] ?_
          refine pu (i := 43) (N := some 54) #[I,I,I,I,I,I,I,I,I,I,I,I,I,I,I,I,I,I,I,I,I,I,I,I,I,I,I,I,I,I,I,I,I,I,I,I,I,I,I,I,I,I,I,I,O,O,O,O,O,O,O,O,O,O] ?_
          refine pu (i := 44) (N := some 55) #[I,I,I,I,I,I,I,I,I,I,I,I,I,I,I,I,I,I,I,I,I,I,I,I,I,I,I,I,I,I,I,I,I,I,I,I,I,I,I,I,I,I,I,I,I,O,O,O,O,O,O,O,O,O] ?_
          refine pu (i := 45) (N := some 56) #[I,I,I,I,I,I,I,I,I,I,I,I,I,I,I,I,I,I,I,I,I,I,I,I,I,I,I,I,I,I,I,I,I,I,I,I,I,I,I,I,I,I,I,I,I,I,O,O,O,O,O,O,O,O] ?_
          refine pu (i := 46) (N := some 57) #[I,I,I,I,I,I,I,I,I,I,I,I,I,I,I,I,I,I,I,I,I,I,I,I,I,I,I,I,I,I,I,I,I,I,I,I,I,I,I,I,I,I,I,I,I,I,I,O,O,O,O,O,O,O] ?_
          refine pu (i := 47) (N := some 58) #[I,I,I,I,I,I,I,I,I,I,I,I,I,I,I,I,I,I,I,I,I,I,I,I,I,I,I,I,I,I,I,I,I,I,I,I,I,I,I,I,I,I,I,I,I,I,I,I,O,O,O,O,O,O] ?_
          refine pu (i := 48) (N := some 59) #[I,I,I,I,I,I,I,I,I,I,I,I,I,I,I,I,I,I,I,I,I,I,I,I,I,I,I,I,I,I,I,I,I,I,I,I,I,I,I,I,I,I,I,I,I,I,I,I,I,O,O,O,O,O] ?_
          refine pu (i := 49) (N := some 60) #[I,I,I,I,I,I,I,I,I,I,I,I,I,I,I,I,I,I,I,I,I,I,I,I,I,I,I,I,I,I,I,I,I,I,I,I,I,I,I,I,I,I,I,I,I,I,I,I,I,I,O,O,O,O] ?_
          refine pu (i := 50) (N := some 61) #[I,I,I,I,I,I,I,I,I,I,I,I,I,I,I,I,I,I,I,I,I,I,I,I,I,I,I,I,I,I,I,I,I,I,I,I,I,I,I,I,I,I,I,I,I,I,I,I,I,I,I,O,O,O] ?_
          refine pu (i := 51) (N := some 62) #[I,I,I,I,I,I,I,I,I,I,I,I,I,I,I,I,I,I,I,I,I,I,I,I,I,I,I,I,I,I,I,I,I,I,I,I,I,I,I,I,I,I,I,I,I,I,I,I,I,I,I,I,O,O] ?_
          refine pu (i := 52) (N := some 63) #[I,I,I,I,I,I,I,I,I,I,I,I,I,I,I,I,I,I,I,I,I,I,I,I,I,I,I,I,I,I,I,I,I,I,I,I,I,I,I,I,I,I,I,I,I,I,I,I,I,I,I,I,I,O] ?_
          refine pz (i := 53) (N := some 64) #[I,I,I,I,I,I,I,I,I,I,I,I,I,I,I,I,I,I,I,I,I,I,I,I,I,I,I,I,I,I,I,I,I,I,I,I,I,I,I,I,I,I,I,I,I,I,I,I,I,I,I,I,I,I] ?_
          refine done_ (done_of HT_.out (by kernel_rfl)) ?_
          try go_wp2
          go_meet
          case rel => exact ⟨_, (true), ap, H', ⟨by have := HK1.out; have := HJ2.out; first | omega | exact Nat.le_refl _⟩, ⟨by (with_reducible repeat (first | refine blk_drewN ?_ _ | refine blk_drew ?_ | refine blk_alloc ?_ _)); exact BK383.out⟩, ⟨bo⟩⟩
         ·rw [if_neg c15] at H
          have c15b0 : decide (((rd_T25 l0_1 x3_1).f0) < a0_0) = false := decide_eq_false c15
          clear c15
          by_cases c18 : x3_1 > 0
          ·rw [if_pos c18] at H
           have c18b0 : decide (0 < x3_1) = true := decide_eq_true c18
           clear c18
           obtain ⟨ji19, hji19⟩ : ∃ j_ : Int, (wrap64 (x3_1 - 1)) = j_ := ⟨_, rfl⟩
           replace H : (if 0 ≤ (ji19) then (if (ji19) < (l0_1.length : Int) then (if ((rd_T25 l0_1 (ji19)).f0) ≥ ((rd_T25 l0_1 x3_1).f0) then (fairwayref10_Seg.j2 kj2 x3_1 true a0_0 l0_1) else (fairwayref10_Seg.j2 kj2 x3_1 (decide (((rd_T25 l0_1 (ji19)).f1) > ((rd_T25 l0_1 x3_1).f1))) a0_0 l0_1)) else (none)) else (none)) = some r := by first | (rw [hji19] at H; exact H) | (simp only [hji19] at H ⊢; exact H)
           (try rw [hji19] at A13)
           have hji19w : (IntKind.i64.wrap (x3_1 - 1)) = ji19 := (i64_w _).trans hji19
           by_cases c20 : 0 ≤ (ji19)
           ·rw [if_pos c20] at H
            have c20b0 : decide (0 ≤ (ji19)) = true := decide_eq_true c20
            clear c20
            by_cases c21 : (ji19) < (l0_1.length : Int)
            ·rw [if_pos c21] at H
             have c21b0 : decide ((ji19) < (l0_1.length : Int)) = true := decide_eq_true c21
             clear c21
             by_cases c22 : ((rd_T25 l0_1 (ji19)).f0) ≥ ((rd_T25 l0_1 x3_1).f0)
             ·rw [if_pos c22] at H
              have c22b0 : decide (((rd_T25 l0_1 x3_1).f0) ≤ ((rd_T25 l0_1 (ji19)).f0)) = true := decide_eq_true c22
              clear c22
              have H' := Aside0.mk H
              clear H
              try go_wp2
              replace BK383 := Aside0.mk (blk_drew BK383.out)
              replace HB := Aside0.mk (below_drew1 HB.out)
              have p385 : 0 ≤ (x3_1 : Int) := od
              have q385 : x3_1 < (l0_1.length : Int) := od
              obtain ⟨ad385, e385, hx385_0, hx385_1, hx385_2, hx385_3, hx385_4, hx385_5⟩ := at_T25 HR0_1.out x3_1 p385 q385
              have hw385_5 := hx385_5
              have hw385_4 := hx385_4
              have hw385_3 := hx385_3
              have hw385_2 := hx385_2
              have hw385_1 := hx385_1
              have hw385_0 := hx385_0
              cases e385
              replace hx385_0 := cx HB.out hx385_0
              replace hx385_1 := cx HB.out hx385_1
              replace hx385_2 := cx HB.out hx385_2
              replace hx385_3 := cx HB.out hx385_3
              replace hx385_4 := cx HB.out hx385_4
              replace hx385_5 := cx HB.out hx385_5
              replace p385 := eq_true p385
              replace q385 := eq_true q385
              have p387 : 0 ≤ (x3_1 : Int) := od
              have q387 : x3_1 < (l0_1.length : Int) := od
              obtain ⟨ad387, e387, hx387_0, hx387_1, hx387_2, hx387_3, hx387_4, hx387_5⟩ := at_T25 HR0_1.out x3_1 p387 q387
              have hw387_5 := hx387_5
              have hw387_4 := hx387_4
              have hw387_3 := hx387_3
              have hw387_2 := hx387_2
              have hw387_1 := hx387_1
              have hw387_0 := hx387_0
              obtain rfl : ad385 = ad387 := (by injection e387)
              replace hx387_0 := cx HB.out hx387_0
              replace hx387_1 := cx HB.out hx387_1
              replace hx387_2 := cx HB.out hx387_2
              replace hx387_3 := cx HB.out hx387_3
              replace hx387_4 := cx HB.out hx387_4
              replace hx387_5 := cx HB.out hx387_5
              replace p387 := eq_true p387
              replace q387 := eq_true q387
              have p388 : 0 ≤ ((ji19) : Int) := od
              have q388 : (ji19) < (l0_1.length : Int) := od
              obtain ⟨ad388, e388, hx388_0, hx388_1, hx388_2, hx388_3, hx388_4, hx388_5⟩ := at_T25 HR0_1.out (ji19) p388 q388
              have hw388_5 := hx388_5
              have hw388_4 := hx388_4
              have hw388_3 := hx388_3
              have hw388_2 := hx388_2
              have hw388_1 := hx388_1
              have hw388_0 := hx388_0
              obtain rfl : ad385 = ad388 := (by injection e388)
              replace hx388_0 := cx HB.out hx388_0
              replace hx388_1 := cx HB.out hx388_1
              replace hx388_2 := cx HB.out hx388_2
              replace hx388_3 := cx HB.out hx388_3
              replace hx388_4 := cx HB.out hx388_4
              replace hx388_5 := cx HB.out hx388_5
              replace p388 := eq_true p388
              replace q388 := eq_true q388
              have p389 : 0 ≤ (x3_1 : Int) := od
              have q389 : x3_1 < (l0_1.length : Int) := od
              obtain ⟨ad389, e389, hx389_0, hx389_1, hx389_2, hx389_3, hx389_4, hx389_5⟩ := at_T25 HR0_1.out x3_1 p389 q389
              have hw389_5 := hx389_5
              have hw389_4 := hx389_4
              have hw389_3 := hx389_3
              have hw389_2 := hx389_2
              have hw389_1 := hx389_1
              have hw389_0 := hx389_0
              obtain rfl : ad385 = ad389 := (by injection e389)
              replace hx389_0 := cx HB.out hx389_0
              replace hx389_1 := cx HB.out hx389_1
              replace hx389_2 := cx HB.out hx389_2
              replace hx389_3 := cx HB.out hx389_3
              replace hx389_4 := cx HB.out hx389_4
              replace hx389_5 := cx HB.out hx389_5
              replace p389 := eq_true p389
              replace q389 := eq_true q389
              refine start_ (n := 54) (S := fun w' => w'.cell? ⟨gb383, 0, none⟩ = some (.int .i64 a0_0) ∧ w'.cell? ⟨gb383, 1, none⟩ = some (.slice (some ad385) l0_1.length c0_1) ∧ w'.cell? (ad385.add ((x3_1).toNat * 6)) = some (.int .i64 ((rd_T25 l0_1 x3_1).f0)) ∧ w'.cell? ⟨(ad385.add ((x3_1).toNat * 6)).block, (ad385.add ((x3_1).toNat * 6)).off + 1, none⟩ = some (.int .i64 ((rd_T25 l0_1 x3_1).f1)) ∧ w'.cell? ⟨(ad385.add ((x3_1).toNat * 6)).block, (ad385.add ((x3_1).toNat * 6)).off + 2, none⟩ = some (.string ((rd_T25 l0_1 x3_1).f2)) ∧ w'.cell? ⟨(ad385.add ((x3_1).toNat * 6)).block, (ad385.add ((x3_1).toNat * 6)).off + 3, none⟩ = some (.string ((rd_T25 l0_1 x3_1).f3)) ∧ w'.cell? ⟨(ad385.add ((x3_1).toNat * 6)).block, (ad385.add ((x3_1).toNat * 6)).off + 4, none⟩ = some (.int .i64 ((rd_T25 l0_1 x3_1).f4)) ∧ w'.cell? ⟨(ad385.add ((x3_1).toNat * 6)).block, (ad385.add ((x3_1).toNat * 6)).off + 5, none⟩ = some (.bool ((rd_T25 l0_1 x3_1).f5)) ∧ w'.cell? (ad385.add ((x3_1).toNat * 6)) = some (.int .i64 ((rd_T25 l0_1 x3_1).f0)) ∧ w'.cell? ⟨(ad385.add ((x3_1).toNat * 6)).block, (ad385.add ((x3_1).toNat * 6)).off + 1, none⟩ = some (.int .i64 ((rd_T25 l0_1 x3_1).f1)) ∧ w'.cell? ⟨(ad385.add ((x3_1).toNat * 6)).block, (ad385.add ((x3_1).toNat * 6)).off + 2, none⟩ = some (.string ((rd_T25 l0_1 x3_1).f2)) ∧ w'.cell? ⟨(ad385.add ((x3_1).toNat * 6)).block, (ad385.add ((x3_1).toNat * 6)).off + 3, none⟩ = some (.string ((rd_T25 l0_1 x3_1).f3)) ∧ w'.cell? ⟨(ad385.add ((x3_1).toNat * 6)).block, (ad385.add ((x3_1).toNat * 6)).off + 4, none⟩ = some (.int .i64 ((rd_T25 l0_1 x3_1).f4)) ∧ w'.cell? ⟨(ad385.add ((x3_1).toNat * 6)).block, (ad385.add ((x3_1).toNat * 6)).off + 5, none⟩ = some (.bool ((rd_T25 l0_1 x3_1).f5)) ∧ w'.cell? (ad385.add (((ji19)).toNat * 6)) = some (.int .i64 ((rd_T25 l0_1 (ji19)).f0)) ∧ w'.cell? ⟨(ad385.add (((ji19)).toNat * 6)).block, (ad385.add (((ji19)).toNat * 6)).off + 1, none⟩ = some (.int .i64 ((rd_T25 l0_1 (ji19)).f1)) ∧ w'.cell? ⟨(ad385.add (((ji19)).toNat * 6)).block, (ad385.add (((ji19)).toNat * 6)).off + 2, none⟩ = some (.string ((rd_T25 l0_1 (ji19)).f2)) ∧ w'.cell? ⟨(ad385.add (((ji19)).toNat * 6)).block, (ad385.add (((ji19)).toNat * 6)).off + 3, none⟩ = some (.string ((rd_T25 l0_1 (ji19)).f3)) ∧ w'.cell? ⟨(ad385.add (((ji19)).toNat * 6)).block, (ad385.add (((ji19)).toNat * 6)).off + 4, none⟩ = some (.int .i64 ((rd_T25 l0_1 (ji19)).f4)) ∧ w'.cell? ⟨(ad385.add (((ji19)).toNat * 6)).block, (ad385.add (((ji19)).toNat * 6)).off + 5, none⟩ = some (.bool ((rd_T25 l0_1 (ji19)).f5)) ∧ w'.cell? (ad385.add ((x3_1).toNat * 6)) = some (.int .i64 ((rd_T25 l0_1 x3_1).f0)) ∧ w'.cell? ⟨(ad385.add ((x3_1).toNat * 6)).block, (ad385.add ((x3_1).toNat * 6)).off + 1, none⟩ = some (.int .i64 ((rd_T25 l0_1 x3_1).f1)) ∧ w'.cell? ⟨(ad385.add ((x3_1).toNat * 6)).block, (ad385.add ((x3_1).toNat * 6)).off + 2, none⟩ = some (.string ((rd_T25 l0_1 x3_1).f2)) ∧ w'.cell? ⟨(ad385.add ((x3_1).toNat * 6)).block, (ad385.add ((x3_1).toNat * 6)).off + 3, none⟩ = some (.string ((rd_T25 l0_1 x3_1).f3)) ∧ w'.cell? ⟨(ad385.add ((x3_1).toNat * 6)).block, (ad385.add ((x3_1).toNat * 6)).off + 4, none⟩ = some (.int .i64 ((rd_T25 l0_1 x3_1).f4)) ∧ w'.cell? ⟨(ad385.add ((x3_1).toNat * 6)).block, (ad385.add ((x3_1).toNat * 6)).off + 5, none⟩ = some (.bool ((rd_T25 l0_1 x3_1).f5))) (ds := []) #[O,O,O,O,O,O,O,O,O,O,O,O,O,O,O,O,O,O,O,O,O,O,O,O,O,O,O,O,O,O,O,O,O,O,O,O,O,O,O,O,O,O,O,O,O,O,O,O,O,O,O,O,O,O] (by kernel_rfl) rfl rfl ⟨(blk_cell BK383.out 0).trans rfl, (blk_cell BK383.out 1).trans rfl, ((HB.out.cell (World.block_lt_of_cell? w _ hw385_0)).trans hw385_0), ((HB.out.cell (World.block_lt_of_cell? w _ hw385_1)).trans hw385_1), ((HB.out.cell (World.block_lt_of_cell? w _ hw385_2)).trans hw385_2), ((HB.out.cell (World.block_lt_of_cell? w _ hw385_3)).trans hw385_3), ((HB.out.cell (World.block_lt_of_cell? w _ hw385_4)).trans hw385_4), ((HB.out.cell (World.block_lt_of_cell? w _ hw385_5)).trans hw385_5), ((HB.out.cell (World.block_lt_of_cell? w _ hw387_0)).trans hw387_0), ((HB.out.cell (World.block_lt_of_cell? w _ hw387_1)).trans hw387_1), ((HB.out.cell (World.block_lt_of_cell? w _ hw387_2)).trans hw387_2), ((HB.out.cell (World.block_lt_of_cell? w _ hw387_3)).trans hw387_3), ((HB.out.cell (World.block_lt_of_cell? w _ hw387_4)).trans hw387_4), ((HB.out.cell (World.block_lt_of_cell? w _ hw387_5)).trans hw387_5), ((HB.out.cell (World.block_lt_of_cell? w _ hw388_0)).trans hw388_0), ((HB.out.cell (World.block_lt_of_cell? w _ hw388_1)).trans hw388_1), ((HB.out.cell (World.block_lt_of_cell? w _ hw388_2)).trans hw388_2), ((HB.out.cell (World.block_lt_of_cell? w _ hw388_3)).trans hw388_3), ((HB.out.cell (World.block_lt_of_cell? w _ hw388_4)).trans hw388_4), ((HB.out.cell (World.block_lt_of_cell? w _ hw388_5)).trans hw388_5), ((HB.out.cell (World.block_lt_of_cell? w _ hw389_0)).trans hw389_0), ((HB.out.cell (World.block_lt_of_cell? w _ hw389_1)).trans hw389_1), ((HB.out.cell (World.block_lt_of_cell? w _ hw389_2)).trans hw389_2), ((HB.out.cell (World.block_lt_of_cell? w _ hw389_3)).trans hw389_3), ((HB.out.cell (World.block_lt_of_cell? w _ hw389_4)).trans hw389_4), ((HB.out.cell (World.block_lt_of_cell? w _ hw389_5)).trans hw389_5)⟩ (fun hHeld => ?_); refine with_tabW fairwayref10_Seg.tab4 fairwayref10_Seg.bits4 (fun HT_ HW_ => ?_)
              generalize wc.drew = w23 at BK383 HB hx385_0 hx385_1 hx385_2 hx385_3 hx385_4 hx385_5 hx387_0 hx387_1 hx387_2 hx387_3 hx387_4 hx387_5 hx388_0 hx388_1 hx388_2 hx388_3 hx388_4 hx388_5 hx389_0 hx389_1 hx389_2 hx389_3 hx389_4 hx389_5 hHeld ⊢
              refine pz (i := 0) (N := some 11) #[I,O,O,O,O,O,O,O,O,O,O,O,O,O,O,O,O,O,O,O,O,O,O,O,O,O,O,O,O,O,O,O,O,O,O,O,O,O,O,O,O,O,O,O,O,O,O,O,O,O,O,O,O,O] ?_
              refine pz (i := 2) (N := some 13) #[I,O,I,O,O,O,O,O,O,O,O,O,O,O,O,O,O,O,O,O,O,O,O,O,O,O,O,O,O,O,O,O,O,O,O,O,O,O,O,O,O,O,O,O,O,O,O,O,O,O,O,O,O,O] ?_
              refine tz (i := 1) (N := some 12) #[I,I,I,O,O,O,O,O,O,O,O,O,O,O,O,O,O,O,O,O,O,O,O,O,O,O,O,O,O,O,O,O,O,O,O,O,O,O,O,O,O,O,O,O,O,O,O,O,O,O,O,O,O,O] ?_
              refine pz (i := 3) (N := some 14) #[I,I,I,I,O,O,O,O,O,O,O,O,O,O,O,O,O,O,O,O,O,O,O,O,O,O,O,O,O,O,O,O,O,O,O,O,O,O,O,O,O,O,O,O,O,O,O,O,O,O,O,O,O,O] ?_
              refine tz (i := 4) (N := some 15) #[I,I,I,I,I,O,O,O,O,O,O,O,O,O,O,O,O,O,O,O,O,O,O,O,O,O,O,O,O,O,O,O,O,O,O,O,O,O,O,O,O,O,O,O,O,O,O,O,O,O,O,O,O,O] ?_
              refine one_ (i := 5) (N := some 16) #[I,I,I,I,I,I,O,O,O,O,O,O,O,O,O,O,O,O,O,O,O,O,O,O,O,O,O,O,O,O,O,O,O,O,O,O,O,O,O,O,O,O,O,O,O,O,O,O,O,O,O,O,O,O] rfl rfl (one_of HT_.out (by kernel_rfl)) (by decide) (fun K hK => ?_)
              refine goes_ Try.func17 (by kernel_rfl) rfl #[.agg #[.int .i64 ((rd_T25 l0_1 x3_1).f0), .int .i64 ((rd_T25 l0_1 x3_1).f1), .string ((rd_T25 l0_1 x3_1).f2), .string ((rd_T25 l0_1 x3_1).f3), .int .i64 ((rd_T25 l0_1 x3_1).f4), .bool ((rd_T25 l0_1 x3_1).f5)]] (by rfl) rfl rfl aa ?_
              with_reducible refine (fairwayref10_Rec.calls ((rd_T25 l0_1 x3_1).f0) ((rd_T25 l0_1 x3_1).f1) ((rd_T25 l0_1 x3_1).f2) ((rd_T25 l0_1 x3_1).f3) ((rd_T25 l0_1 x3_1).f4) ((rd_T25 l0_1 x3_1).f5) true _ A13.out).mono ?_
              rintro e w24 ⟨rfl, hb⟩
              refine ⟨_, rfl, ?_⟩
              replace BK383 := Aside0.mk (blk_below (g := gb383) (o := .cells #[.int .i64 a0_0, .slice (some ad385) l0_1.length c0_1] 53 (0, 0)) (bk BK383.out) hb)
              replace HB := Aside0.mk (below_step bo hb)
              (try clear hb)
              (try clear hb2)
              (try clear hk)
              (try clear hi)
              refine hK.out _ _ ⟨(blk_cell BK383.out 0).trans rfl, (blk_cell BK383.out 1).trans rfl, ((HB.out.cell (World.block_lt_of_cell? w _ hw385_0)).trans hw385_0), ((HB.out.cell (World.block_lt_of_cell? w _ hw385_1)).trans hw385_1), ((HB.out.cell (World.block_lt_of_cell? w _ hw385_2)).trans hw385_2), ((HB.out.cell (World.block_lt_of_cell? w _ hw385_3)).trans hw385_3), ((HB.out.cell (World.block_lt_of_cell? w _ hw385_4)).trans hw385_4), ((HB.out.cell (World.block_lt_of_cell? w _ hw385_5)).trans hw385_5), ((HB.out.cell (World.block_lt_of_cell? w _ hw387_0)).trans hw387_0), ((HB.out.cell (World.block_lt_of_cell? w _ hw387_1)).trans hw387_1), ((HB.out.cell (World.block_lt_of_cell? w _ hw387_2)).trans hw387_2), ((HB.out.cell (World.block_lt_of_cell? w _ hw387_3)).trans hw387_3), ((HB.out.cell (World.block_lt_of_cell? w _ hw387_4)).trans hw387_4), ((HB.out.cell (World.block_lt_of_cell? w _ hw387_5)).trans hw387_5), ((HB.out.cell (World.block_lt_of_cell? w _ hw388_0)).trans hw388_0), ((HB.out.cell (World.block_lt_of_cell? w _ hw388_1)).trans hw388_1), ((HB.out.cell (World.block_lt_of_cell? w _ hw388_2)).trans hw388_2), ((HB.out.cell (World.block_lt_of_cell? w _ hw388_3)).trans hw388_3), ((HB.out.cell (World.block_lt_of_cell? w _ hw388_4)).trans hw388_4), ((HB.out.cell (World.block_lt_of_cell? w _ hw388_5)).trans hw388_5), ((HB.out.cell (World.block_lt_of_cell? w _ hw389_0)).trans hw389_0), ((HB.out.cell (World.block_lt_of_cell? w _ hw389_1)).trans hw389_1), ((HB.out.cell (World.block_lt_of_cell? w _ hw389_2)).trans hw389_2), ((HB.out.cell (World.block_lt_of_cell? w _ hw389_3)).trans hw389_3), ((HB.out.cell (World.block_lt_of_cell? w _ hw389_4)).trans hw389_4), ((HB.out.cell (World.block_lt_of_cell? w _ hw389_5)).trans hw389_5)⟩ (fun hHeld => ?_)
              clear hK K
              refine norm_ (a' := ?_) ?_ ?_
              rotate_left
              ·show Act.put _ (some 16) _ = _
               simp only [Act.put, List.setIfInBounds_toArray, List.set_cons_zero, List.set_cons_succ, i64_w, i32_w]
               rfl
              refine pz (i := 6) (N := some 17) #[I,I,I,I,I,I,I,O,O,O,O,O,O,O,O,O,O,O,O,O,O,O,O,O,O,O,O,O,O,O,O,O,O,O,O,O,O,O,O,O,O,O,O,O,O,O,O,O,O,O,O,O,O,O] ?_
              refine pz (i := 7) (N := some 18) #[I,I,I,I,I,I,I,I,O,O,O,O,O,O,O,O,O,O,O,O,O,O,O,O,O,O,O,O,O,O,O,O,O,O,O,O,O,O,O,O,O,O,O,O,O,O,O,O,O,O,O,O,O,O] ?_
              refine pz (i := 8) (N := some 19) #[I,I,I,I,I,I,I,I,I,O,O,O,O,O,O,O,O,O,O,O,O,O,O,O,O,O,O,O,O,O,O,O,O,O,O,O,O,O,O,O,O,O,O,O,O,O,O,O,O,O,O,O,O,O] ?_
              refine pz (i := 10) (N := some 21) #[I,I,I,I,I,I,I,I,I,O,I,O,O,O,O,O,O,O,O,O,O,O,O,O,O,O,O,O,O,O,O,O,O,O,O,O,O,O,O,O,O,O,O,O,O,O,O,O,O,O,O,O,O,O] ?_
              refine pz (i := 14) (N := some 25) #[I,I,I,I,I,I,I,I,I,O,I,O,O,O,I,O,O,O,O,O,O,O,O,O,O,O,O,O,O,O,O,O,O,O,O,O,O,O,O,O,O,O,O,O,O,O,O,O,O,O,O,O,O,O] ?_
              refine tz (i := 9) (N := some 20) #[I,I,I,I,I,I,I,I,I,I,I,O,O,O,I,O,O,O,O,O,O,O,O,O,O,O,O,O,O,O,O,O,O,O,O,O,O,O,O,O,O,O,O,O,O,O,O,O,O,O,O,O,O,O] ?_
              refine pz (i := 11) (N := some 22) #[I,I,I,I,I,I,I,I,I,I,I,I,O,O,I,O,O,O,O,O,O,O,O,O,O,O,O,O,O,O,O,O,O,O,O,O,O,O,O,O,O,O,O,O,O,O,O,O,O,O,O,O,O,O] ?_
              refine pz (i := 12) (N := some 23) #[I,I,I,I,I,I,I,I,I,I,I,I,I,O,I,O,O,O,O,O,O,O,O,O,O,O,O,O,O,O,O,O,O,O,O,O,O,O,O,O,O,O,O,O,O,O,O,O,O,O,O,O,O,O] ?_
              refine tz (i := 13) (N := some 24) #[I,I,I,I,I,I,I,I,I,I,I,I,I,I,I,O,O,O,O,O,O,O,O,O,O,O,O,O,O,O,O,O,O,O,O,O,O,O,O,O,O,O,O,O,O,O,O,O,O,O,O,O,O,O] ?_
              refine tz (i := 15) (N := some 26) #[I,I,I,I,I,I,I,I,I,I,I,I,I,I,I,I,O,O,O,O,O,O,O,O,O,O,O,O,O,O,O,O,O,O,O,O,O,O,O,O,O,O,O,O,O,O,O,O,O,O,O,O,O,O] ?_
              refine pz (i := 16) (N := some 27) #[I,I,I,I,I,I,I,I,I,I,I,I,I,I,I,I,I,O,O,O,O,O,O,O,O,O,O,O,O,O,O,O,O,O,O,O,O,O,O,O,O,O,O,O,O,O,O,O,O,O,O,O,O,O] ?_
              refine pz (i := 17) (N := some 28) #[I,I,I,I,I,I,I,I,I,I,I,I,I,I,I,I,I,I,O,O,O,O,O,O,O,O,O,O,O,O,O,O,O,O,O,O,O,O,O,O,O,O,O,O,O,O,O,O,O,O,O,O,O,O] ?_
              refine pz (i := 18) (N := some 29) #[I,I,I,I,I,I,I,I,I,I,I,I,I,I,I,I,I,I,I,O,O,O,O,O,O,O,O,O,O,O,O,O,O,O,O,O,O,O,O,O,O,O,O,O,O,O,O,O,O,O,O,O,O,O] ?_
              refine pz (i := 19) (N := some 30) #[I,I,I,I,I,I,I,I,I,I,I,I,I,I,I,I,I,I,I,I,O,O,O,O,O,O,O,O,O,O,O,O,O,O,O,O,O,O,O,O,O,O,O,O,O,O,O,O,O,O,O,O,O,O] ?_
              refine pz (i := 20) (N := some 31) #[I,I,I,I,I,I,I,I,I,I,I,I,I,I,I,I,I,I,I,I,I,O,O,O,O,O,O,O,O,O,O,O,O,O,O,O,O,O,O,O,O,O,O,O,O,O,O,O,O,O,O,O,O,O] ?_
              refine pz (i := 21) (N := some 32) #[I,I,I,I,I,I,I,I,I,I,I,I,I,I,I,I,I,I,I,I,I,I,O,O,O,O,O,O,O,O,O,O,O,O,O,O,O,O,O,O,O,O,O,O,O,O,O,O,O,O,O,O,O,O] ?_
              refine pz (i := 22) (N := some 33) #[I,I,I,I,I,I,I,I,I,I,I,I,I,I,I,I,I,I,I,I,I,I,I,O,O,O,O,O,O,O,O,O,O,O,O,O,O,O,O,O,O,O,O,O,O,O,O,O,O,O,O,O,O,O] ?_
              refine pz (i := 24) (N := some 35) #[I,I,I,I,I,I,I,I,I,I,I,I,I,I,I,I,I,I,I,I,I,I,I,O,I,O,O,O,O,O,O,O,O,O,O,O,O,O,O,O,O,O,O,O,O,O,O,O,O,O,O,O,O,O] ?_
              refine pz (i := 25) (N := some 36) #[I,I,I,I,I,I,I,I,I,I,I,I,I,I,I,I,I,I,I,I,I,I,I,O,I,I,O,O,O,O,O,O,O,O,O,O,O,O,O,O,O,O,O,O,O,O,O,O,O,O,O,O,O,O] ?_
              refine pz (i := 29) (N := some 40) #[I,I,I,I,I,I,I,I,I,I,I,I,I,I,I,I,I,I,I,I,I,I,I,O,I,I,O,O,O,I,O,O,O,O,O,O,O,O,O,O,O,O,O,O,O,O,O,O,O,O,O,O,O,O] ?_
              refine pz (i := 31) (N := some 42) #[I,I,I,I,I,I,I,I,I,I,I,I,I,I,I,I,I,I,I,I,I,I,I,O,I,I,O,O,O,I,O,I,O,O,O,O,O,O,O,O,O,O,O,O,O,O,O,O,O,O,O,O,O,O] ?_
              refine tz (i := 23) (N := some 34) #[I,I,I,I,I,I,I,I,I,I,I,I,I,I,I,I,I,I,I,I,I,I,I,I,I,I,O,O,O,I,O,I,O,O,O,O,O,O,O,O,O,O,O,O,O,O,O,O,O,O,O,O,O,O] ?_
              refine pz (i := 26) (N := some 37) #[I,I,I,I,I,I,I,I,I,I,I,I,I,I,I,I,I,I,I,I,I,I,I,I,I,I,I,O,O,I,O,I,O,O,O,O,O,O,O,O,O,O,O,O,O,O,O,O,O,O,O,O,O,O] ?_
              refine pz (i := 27) (N := some 38) #[I,I,I,I,I,I,I,I,I,I,I,I,I,I,I,I,I,I,I,I,I,I,I,I,I,I,I,I,O,I,O,I,O,O,O,O,O,O,O,O,O,O,O,O,O,O,O,O,O,O,O,O,O,O] ?_
              refine tz (i := 28) (N := some 39) #[I,I,I,I,I,I,I,I,I,I,I,I,I,I,I,I,I,I,I,I,I,I,I,I,I,I,I,I,I,I,O,I,O,O,O,O,O,O,O,O,O,O,O,O,O,O,O,O,O,O,O,O,O,O] ?_
              refine tz (i := 30) (N := some 41) #[I,I,I,I,I,I,I,I,I,I,I,I,I,I,I,I,I,I,I,I,I,I,I,I,I,I,I,I,I,I,I,I,O,O,O,O,O,O,O,O,O,O,O,O,O,O,O,O,O,O,O,O,O,O] ?_
              refine pz (i := 32) (N := some 43) #[I,I,I,I,I,I,I,I,I,I,I,I,I,I,I,I,I,I,I,I,I,I,I,I,I,I,I,I,I,I,I,I,I,O,O,O,O,O,O,O,O,O,O,O,O,O,O,O,O,O,O,O,O,O] ?_
              refine pz (i := 33) (N := some 44) #[I,I,I,I,I,I,I,I,I,I,I,I,I,I,I,I,I,I,I,I,I,I,I,I,I,I,I,I,I,I,I,I,I,I,O,O,O,O,O,O,O,O,O,O,O,O,O,O,O,O,O,O,O,O] ?_
              refine tz (i := 34) (N := some 45) #[I,I,I,I,I,I,I,I,I,I,I,I,I,I,I,I,I,I,I,I,I,I,I,I,I,I,I,I,I,I,I,I,I,I,I,O,O,O,O,O,O,O,O,O,O,O,O,O,O,O,O,O,O,O] ?_
              refine pz (i := 35) (N := some 46) #[I,I,I,I,I,I,I,I,I,I,I,I,I,I,I,I,I,I,I,I,I,I,I,I,I,I,I,I,I,I,I,I,I,I,I,I,O,O,O,O,O,O,O,O,O,O,O,O,O,O,O,O,O,O] ?_
              refine pz (i := 36) (N := some 47) #[I,I,I,I,I,I,I,I,I,I,I,I,I,I,I,I,I,I,I,I,I,I,I,I,I,I,I,I,I,I,I,I,I,I,I,I,I,O,O,O,O,O,O,O,O,O,O,O,O,O,O,O,O,O] ?_
              refine pu (i := 37) (N := some 48) #[I,I,I,I,I,I,I,I,I,I,I,I,I,I,I,I,I,I,I,I,I,I,I,I,I,I,I,I,I,I,I,I,I,I,I,I,I,I,O,O,O,O,O,O,O,O,O,O,O,O,O,O,O,O] ?_
              refine pu (i := 38) (N := some 49) #[I,I,I,I,I,I,I,I,I,I,I,I,I,I,I,I,I,I,I,I,I,I,I,I,I,I,I,I,I,I,I,I,I,I,I,I,I,I,I,O,O,O,O,O,O,O,O,O,O,O,O,O,O,O] ?_
              refine pu (i := 39) (N := some 50) #[I,I,I,I,I,I,I,I,I,I,I,I,I,I,I,I,I,I,I,I,I,I,I,I,I,I,I,I,I,I,I,I,I,I,I,I,I,I,I,I,O,O,O,O,O,O,O,O,O,O,O,O,O,O] ?_
              refine pu (i := 40) (N := some 51) #[I,I,I,I,I,I,I,I,I,I,I,I,I,I,I,I,I,I,I,I,I,I,I,I,I,I,I,I,I,I,I,I,I,I,I,I,I,I,I,I,I,O,O,O,O,O,O,O,O,O,O,O,O,O] ?_
              refine pu (i := 41) (N := some 52) #[I,I,I,I,I,I,I,I,I,I,I,I,I,I,I,I,I,I,I,I,I,I,I,I,I,I,I,I,I,I,I,I,I,I,I,I,I,I,I,I,I,I,O,O,O,O,O,O,O,O,O,O,O,O] ?_
              refine pu (i := 42) (N := some 53) #[I,I,I,I,I,I,I,I,I,I,I,I,I,I,I,I,I,I,I,I,I,I,I,I,I,I,I,I,I,I,I,I,I,I,I,I,I,I,I,I,I,I,I,O,O,O,O,O,O,O,O,O,O,O] ?_
              refine pu (i := 43) (N := some 54) #[I,I,I,I,I,I,I,I,I,I,I,I,I,I,I,I,I,I,I,I,I,I,I,I,I,I,I,I,I,I,I,I,I,I,I,I,I,I,I,I,I,I,I,I,O,O,O,O,O,O,O,O,O,O] ?_
              refine pu (i := 44) (N := some 55) #[I,I,I,I,I,I,I,I,I,I,I,I,I,I,I,I,I,I,I,I,I,I,I,I,I,I,I,I,I,I,I,I,I,I,I,I,I,I,I,I,I,I,I,I,I,O,O,O,O,O,O,O,O,O] ?_
              refine pu (i := 45) (N := some 56) #[I,I,I,I,I,I,I,I,I,I,I,I,I,I,I,I,I,I,I,I,I,I,I,I,I,I,I,I,I,I,I,I,I,I,I,I,I,I,I,I,I,I,I,I,I,I,O,O,O,O,O,O,O,O] ?_
              refine pu (i := 46) (N := some 57) #[I,I,I,I,I,I,I,I,I,I,I,I,I,I,I,I,I,I,I,I,I,I,I,I,I,I,I,I,I,I,I,I,I,I,I,I,I,I,I,I,I,I,I,I,I,I,I,O,O,O,O,O,O,O] ?_
              refine pu (i := 47) (N := some 58) #[I,I,I,I,I,I,I,I,I,I,I,I,I,I,I,I,I,I,I,I,I,I,I,I,I,I,I,I,I,I,I,I,I,I,I,I,I,I,I,I,I,I,I,I,I,I,I,I,O,O,O,O,O,O] ?_
              refine pu (i := 48) (N := some 59) #[I,I,I,I,I,I,I,I,I,I,I,I,I,I,I,I,I,I,I,I,I,I,I,I,I,I,I,I,I,I,I,I,I,I,I,I,I,I,I,I,I,I,I,I,I,I,I,I,I,O,O,O,O,O] ?_
              refine pu (i := 49) (N := some 60) #[I,I,I,I,I,I,I,I,I,I,I,I,I,I,I,I,I,I,I,I,I,I,I,I,I,I,I,I,I,I,I,I,I,I,I,I,I,I,I,I,I,I,I,I,I,I,I,I,I,I,O,O,O,O] ?_
              refine pu (i := 50) (N := some 61) #[I,I,I,I,I,I,I,I,I,I,I,I,I,I,I,I,I,I,I,I,I,I,I,I,I,I,I,I,I,I,I,I,I,I,I,I,I,I,I,I,I,I,I,I,I,I,I,I,I,I,I,O,O,O] ?_
              refine pz (i := 51) (N := some 62) #[I,I,I,I,I,I,I,I,I,I,I,I,I,I,I,I,I,I,I,I,I,I,I,I,I,I,I,I,I,I,I,I,I,I,I,I,I,I,I,I,I,I,I,I,I,I,I,I,I,I,I,I,O,O] ?_
              refine pz (i := 52) (N := some 63) #[I,I,I,I,I,I,I,I,I,I,I,I,I,I,I,I,I,I,I,I,I,I,I,I,I,I,I,I,I,I,I,I,I,I,I,I,I,I,I,I,I,I,I,I,I,I,I,I,I,I,I,I,I,O] ?_
              refine pz (i := 53) (N := some 64) #[I,I,I,I,I,I,I,I,I,I,I,I,I,I,I,I,I,I,I,I,I,I,I,I,I,I,I,I,I,I,I,I,I,I,I,I,I,I,I,I,I,I,I,I,I,I,I,I,I,I,I,I,I,I] ?_
              refine done_ (done_of HT_.out (by kernel_rfl)) ?_
              try go_wp2
              go_meet
              case rel => exact ⟨_, (true), ap, H', ⟨by have := HK1.out; have := HJ2.out; first | omega | exact Nat.le_refl _⟩, ⟨by (with_reducible repeat (first | refine blk_drewN ?_ _ | refine blk_drew ?_ | refine blk_alloc ?_ _)); exact BK383.out⟩, ⟨bo⟩⟩
             ·rw [if_neg c22] at H
              have c22b0 : decide (((rd_T25 l0_1 x3_1).f0) ≤ ((rd_T25 l0_1 (ji19)).f0)) = false := decide_eq_false c22
              clear c22
              have H' := Aside0.mk H
              clear H
              try go_wp2
              replace BK383 := Aside0.mk (blk_drew BK383.out)
              replace HB := Aside0.mk (below_drew1 HB.out)
              have p385 : 0 ≤ (x3_1 : Int) := od
              have q385 : x3_1 < (l0_1.length : Int) := od
              obtain ⟨ad385, e385, hx385_0, hx385_1, hx385_2, hx385_3, hx385_4, hx385_5⟩ := at_T25 HR0_1.out x3_1 p385 q385
              have hw385_5 := hx385_5
              have hw385_4 := hx385_4
              have hw385_3 := hx385_3
              have hw385_2 := hx385_2
              have hw385_1 := hx385_1
              have hw385_0 := hx385_0
              cases e385
              replace hx385_0 := cx HB.out hx385_0
              replace hx385_1 := cx HB.out hx385_1
              replace hx385_2 := cx HB.out hx385_2
              replace hx385_3 := cx HB.out hx385_3
              replace hx385_4 := cx HB.out hx385_4
              replace hx385_5 := cx HB.out hx385_5
              replace p385 := eq_true p385
              replace q385 := eq_true q385
              have p387 : 0 ≤ (x3_1 : Int) := od
              have q387 : x3_1 < (l0_1.length : Int) := od
              obtain ⟨ad387, e387, hx387_0, hx387_1, hx387_2, hx387_3, hx387_4, hx387_5⟩ := at_T25 HR0_1.out x3_1 p387 q387
              have hw387_5 := hx387_5
              have hw387_4 := hx387_4
              have hw387_3 := hx387_3
              have hw387_2 := hx387_2
              have hw387_1 := hx387_1
              have hw387_0 := hx387_0
              obtain rfl : ad385 = ad387 := (by injection e387)
              replace hx387_0 := cx HB.out hx387_0
              replace hx387_1 := cx HB.out hx387_1
              replace hx387_2 := cx HB.out hx387_2
              replace hx387_3 := cx HB.out hx387_3
              replace hx387_4 := cx HB.out hx387_4
              replace hx387_5 := cx HB.out hx387_5
              replace p387 := eq_true p387
              replace q387 := eq_true q387
              have p388 : 0 ≤ ((ji19) : Int) := od
              have q388 : (ji19) < (l0_1.length : Int) := od
              obtain ⟨ad388, e388, hx388_0, hx388_1, hx388_2, hx388_3, hx388_4, hx388_5⟩ := at_T25 HR0_1.out (ji19) p388 q388
              have hw388_5 := hx388_5
              have hw388_4 := hx388_4
              have hw388_3 := hx388_3
              have hw388_2 := hx388_2
              have hw388_1 := hx388_1
              have hw388_0 := hx388_0
              obtain rfl : ad385 = ad388 := (by injection e388)
              replace hx388_0 := cx HB.out hx388_0
              replace hx388_1 := cx HB.out hx388_1
              replace hx388_2 := cx HB.out hx388_2
              replace hx388_3 := cx HB.out hx388_3
              replace hx388_4 := cx HB.out hx388_4
              replace hx388_5 := cx HB.out hx388_5
              replace p388 := eq_true p388
              replace q388 := eq_true q388
              have p389 : 0 ≤ (x3_1 : Int) := od
              have q389 : x3_1 < (l0_1.length : Int) := od
              obtain ⟨ad389, e389, hx389_0, hx389_1, hx389_2, hx389_3, hx389_4, hx389_5⟩ := at_T25 HR0_1.out x3_1 p389 q389
              have hw389_5 := hx389_5
              have hw389_4 := hx389_4
              have hw389_3 := hx389_3
              have hw389_2 := hx389_2
              have hw389_1 := hx389_1
              have hw389_0 := hx389_0
              obtain rfl : ad385 = ad389 := (by injection e389)
              replace hx389_0 := cx HB.out hx389_0
              replace hx389_1 := cx HB.out hx389_1
              replace hx389_2 := cx HB.out hx389_2
              replace hx389_3 := cx HB.out hx389_3
              replace hx389_4 := cx HB.out hx389_4
              replace hx389_5 := cx HB.out hx389_5
              replace p389 := eq_true p389
              replace q389 := eq_true q389
              have p390 : 0 ≤ ((ji19) : Int) := od
              have q390 : (ji19) < (l0_1.length : Int) := od
              obtain ⟨ad390, e390, hx390_0, hx390_1, hx390_2, hx390_3, hx390_4, hx390_5⟩ := at_T25 HR0_1.out (ji19) p390 q390
              have hw390_5 := hx390_5
              have hw390_4 := hx390_4
              have hw390_3 := hx390_3
              have hw390_2 := hx390_2
              have hw390_1 := hx390_1
              have hw390_0 := hx390_0
              obtain rfl : ad385 = ad390 := (by injection e390)
              replace hx390_0 := cx HB.out hx390_0
              replace hx390_1 := cx HB.out hx390_1
              replace hx390_2 := cx HB.out hx390_2
              replace hx390_3 := cx HB.out hx390_3
              replace hx390_4 := cx HB.out hx390_4
              replace hx390_5 := cx HB.out hx390_5
              replace p390 := eq_true p390
              replace q390 := eq_true q390
              have p391 : 0 ≤ (x3_1 : Int) := od
              have q391 : x3_1 < (l0_1.length : Int) := od
              obtain ⟨ad391, e391, hx391_0, hx391_1, hx391_2, hx391_3, hx391_4, hx391_5⟩ := at_T25 HR0_1.out x3_1 p391 q391
              have hw391_5 := hx391_5
              have hw391_4 := hx391_4
              have hw391_3 := hx391_3
              have hw391_2 := hx391_2
              have hw391_1 := hx391_1
              have hw391_0 := hx391_0
              obtain rfl : ad385 = ad391 := (by injection e391)
              replace hx391_0 := cx HB.out hx391_0
              replace hx391_1 := cx HB.out hx391_1
              replace hx391_2 := cx HB.out hx391_2
              replace hx391_3 := cx HB.out hx391_3
              replace hx391_4 := cx HB.out hx391_4
              replace hx391_5 := cx HB.out hx391_5
              replace p391 := eq_true p391
              replace q391 := eq_true q391
              refine start_ (n := 54) (S := fun w' => w'.cell? ⟨gb383, 0, none⟩ = some (.int .i64 a0_0) ∧ w'.cell? ⟨gb383, 1, none⟩ = some (.slice (some ad385) l0_1.length c0_1) ∧ w'.cell? (ad385.add ((x3_1).toNat * 6)) = some (.int .i64 ((rd_T25 l0_1 x3_1).f0)) ∧ w'.cell? ⟨(ad385.add ((x3_1).toNat * 6)).block, (ad385.add ((x3_1).toNat * 6)).off + 1, none⟩ = some (.int .i64 ((rd_T25 l0_1 x3_1).f1)) ∧ w'.cell? ⟨(ad385.add ((x3_1).toNat * 6)).block, (ad385.add ((x3_1).toNat * 6)).off + 2, none⟩ = some (.string ((rd_T25 l0_1 x3_1).f2)) ∧ w'.cell? ⟨(ad385.add ((x3_1).toNat * 6)).block, (ad385.add ((x3_1).toNat * 6)).off + 3, none⟩ = some (.string ((rd_T25 l0_1 x3_1).f3)) ∧ w'.cell? ⟨(ad385.add ((x3_1).toNat * 6)).block, (ad385.add ((x3_1).toNat * 6)).off + 4, none⟩ = some (.int .i64 ((rd_T25 l0_1 x3_1).f4)) ∧ w'.cell? ⟨(ad385.add ((x3_1).toNat * 6)).block, (ad385.add ((x3_1).toNat * 6)).off + 5, none⟩ = some (.bool ((rd_T25 l0_1 x3_1).f5)) ∧ w'.cell? (ad385.add ((x3_1).toNat * 6)) = some (.int .i64 ((rd_T25 l0_1 x3_1).f0)) ∧ w'.cell? ⟨(ad385.add ((x3_1).toNat * 6)).block, (ad385.add ((x3_1).toNat * 6)).off + 1, none⟩ = some (.int .i64 ((rd_T25 l0_1 x3_1).f1)) ∧ w'.cell? ⟨(ad385.add ((x3_1).toNat * 6)).block, (ad385.add ((x3_1).toNat * 6)).off + 2, none⟩ = some (.string ((rd_T25 l0_1 x3_1).f2)) ∧ w'.cell? ⟨(ad385.add ((x3_1).toNat * 6)).block, (ad385.add ((x3_1).toNat * 6)).off + 3, none⟩ = some (.string ((rd_T25 l0_1 x3_1).f3)) ∧ w'.cell? ⟨(ad385.add ((x3_1).toNat * 6)).block, (ad385.add ((x3_1).toNat * 6)).off + 4, none⟩ = some (.int .i64 ((rd_T25 l0_1 x3_1).f4)) ∧ w'.cell? ⟨(ad385.add ((x3_1).toNat * 6)).block, (ad385.add ((x3_1).toNat * 6)).off + 5, none⟩ = some (.bool ((rd_T25 l0_1 x3_1).f5)) ∧ w'.cell? (ad385.add (((ji19)).toNat * 6)) = some (.int .i64 ((rd_T25 l0_1 (ji19)).f0)) ∧ w'.cell? ⟨(ad385.add (((ji19)).toNat * 6)).block, (ad385.add (((ji19)).toNat * 6)).off + 1, none⟩ = some (.int .i64 ((rd_T25 l0_1 (ji19)).f1)) ∧ w'.cell? ⟨(ad385.add (((ji19)).toNat * 6)).block, (ad385.add (((ji19)).toNat * 6)).off + 2, none⟩ = some (.string ((rd_T25 l0_1 (ji19)).f2)) ∧ w'.cell? ⟨(ad385.add (((ji19)).toNat * 6)).block, (ad385.add (((ji19)).toNat * 6)).off + 3, none⟩ = some (.string ((rd_T25 l0_1 (ji19)).f3)) ∧ w'.cell? ⟨(ad385.add (((ji19)).toNat * 6)).block, (ad385.add (((ji19)).toNat * 6)).off + 4, none⟩ = some (.int .i64 ((rd_T25 l0_1 (ji19)).f4)) ∧ w'.cell? ⟨(ad385.add (((ji19)).toNat * 6)).block, (ad385.add (((ji19)).toNat * 6)).off + 5, none⟩ = some (.bool ((rd_T25 l0_1 (ji19)).f5)) ∧ w'.cell? (ad385.add ((x3_1).toNat * 6)) = some (.int .i64 ((rd_T25 l0_1 x3_1).f0)) ∧ w'.cell? ⟨(ad385.add ((x3_1).toNat * 6)).block, (ad385.add ((x3_1).toNat * 6)).off + 1, none⟩ = some (.int .i64 ((rd_T25 l0_1 x3_1).f1)) ∧ w'.cell? ⟨(ad385.add ((x3_1).toNat * 6)).block, (ad385.add ((x3_1).toNat * 6)).off + 2, none⟩ = some (.string ((rd_T25 l0_1 x3_1).f2)) ∧ w'.cell? ⟨(ad385.add ((x3_1).toNat * 6)).block, (ad385.add ((x3_1).toNat * 6)).off + 3, none⟩ = some (.string ((rd_T25 l0_1 x3_1).f3)) ∧ w'.cell? ⟨(ad385.add ((x3_1).toNat * 6)).block, (ad385.add ((x3_1).toNat * 6)).off + 4, none⟩ = some (.int .i64 ((rd_T25 l0_1 x3_1).f4)) ∧ w'.cell? ⟨(ad385.add ((x3_1).toNat * 6)).block, (ad385.add ((x3_1).toNat * 6)).off + 5, none⟩ = some (.bool ((rd_T25 l0_1 x3_1).f5)) ∧ w'.cell? (ad385.add (((ji19)).toNat * 6)) = some (.int .i64 ((rd_T25 l0_1 (ji19)).f0)) ∧ w'.cell? ⟨(ad385.add (((ji19)).toNat * 6)).block, (ad385.add (((ji19)).toNat * 6)).off + 1, none⟩ = some (.int .i64 ((rd_T25 l0_1 (ji19)).f1)) ∧ w'.cell? ⟨(ad385.add (((ji19)).toNat * 6)).block, (ad385.add (((ji19)).toNat * 6)).off + 2, none⟩ = some (.string ((rd_T25 l0_1 (ji19)).f2)) ∧ w'.cell? ⟨(ad385.add (((ji19)).toNat * 6)).block, (ad385.add (((ji19)).toNat * 6)).off + 3, none⟩ = some (.string ((rd_T25 l0_1 (ji19)).f3)) ∧ w'.cell? ⟨(ad385.add (((ji19)).toNat * 6)).block, (ad385.add (((ji19)).toNat * 6)).off + 4, none⟩ = some (.int .i64 ((rd_T25 l0_1 (ji19)).f4)) ∧ w'.cell? ⟨(ad385.add (((ji19)).toNat * 6)).block, (ad385.add (((ji19)).toNat * 6)).off + 5, none⟩ = some (.bool ((rd_T25 l0_1 (ji19)).f5)) ∧ w'.cell? (ad385.add ((x3_1).toNat * 6)) = some (.int .i64 ((rd_T25 l0_1 x3_1).f0)) ∧ w'.cell? ⟨(ad385.add ((x3_1).toNat * 6)).block, (ad385.add ((x3_1).toNat * 6)).off + 1, none⟩ = some (.int .i64 ((rd_T25 l0_1 x3_1).f1)) ∧ w'.cell? ⟨(ad385.add ((x3_1).toNat * 6)).block, (ad385.add ((x3_1).toNat * 6)).off + 2, none⟩ = some (.string ((rd_T25 l0_1 x3_1).f2)) ∧ w'.cell? ⟨(ad385.add ((x3_1).toNat * 6)).block, (ad385.add ((x3_1).toNat * 6)).off + 3, none⟩ = some (.string ((rd_T25 l0_1 x3_1).f3)) ∧ w'.cell? ⟨(ad385.add ((x3_1).toNat * 6)).block, (ad385.add ((x3_1).toNat * 6)).off + 4, none⟩ = some (.int .i64 ((rd_T25 l0_1 x3_1).f4)) ∧ w'.cell? ⟨(ad385.add ((x3_1).toNat * 6)).block, (ad385.add ((x3_1).toNat * 6)).off + 5, none⟩ = some (.bool ((rd_T25 l0_1 x3_1).f5))) (ds := []) #[O,O,O,O,O,O,O,O,O,O,O,O,O,O,O,O,O,O,O,O,O,O,O,O,O,O,O,O,O,O,O,O,O,O,O,O,O,O,O,O,O,O,O,O,O,O,O,O,O,O,O,O,O,O] (by kernel_rfl) rfl rfl ⟨(blk_cell BK383.out 0).trans rfl, (blk_cell BK383.out 1).trans rfl, ((HB.out.cell (World.block_lt_of_cell? w _ hw385_0)).trans hw385_0), ((HB.out.cell (World.block_lt_of_cell? w _ hw385_1)).trans hw385_1), ((HB.out.cell (World.block_lt_of_cell? w _ hw385_2)).trans hw385_2), ((HB.out.cell (World.block_lt_of_cell? w _ hw385_3)).trans hw385_3), ((HB.out.cell (World.block_lt_of_cell? w _ hw385_4)).trans hw385_4), ((HB.out.cell (World.block_lt_of_cell? w _ hw385_5)).trans hw385_5), ((HB.out.cell (World.block_lt_of_cell? w _ hw387_0)).trans hw387_0), ((HB.out.cell (World.block_lt_of_cell? w _ hw387_1)).trans hw387_1), ((HB.out.cell (World.block_lt_of_cell? w _ hw387_2)).trans hw387_2), ((HB.out.cell (World.block_lt_of_cell? w _ hw387_3)).trans hw387_3), ((HB.out.cell (World.block_lt_of_cell? w _ hw387_4)).trans hw387_4), ((HB.out.cell (World.block_lt_of_cell? w _ hw387_5)).trans hw387_5), ((HB.out.cell (World.block_lt_of_cell? w _ hw388_0)).trans hw388_0), ((HB.out.cell (World.block_lt_of_cell? w _ hw388_1)).trans hw388_1), ((HB.out.cell (World.block_lt_of_cell? w _ hw388_2)).trans hw388_2), ((HB.out.cell (World.block_lt_of_cell? w _ hw388_3)).trans hw388_3), ((HB.out.cell (World.block_lt_of_cell? w _ hw388_4)).trans hw388_4), ((HB.out.cell (World.block_lt_of_cell? w _ hw388_5)).trans hw388_5), ((HB.out.cell (World.block_lt_of_cell? w _ hw389_0)).trans hw389_0), ((HB.out.cell (World.block_lt_of_cell? w _ hw389_1)).trans hw389_1), ((HB.out.cell (World.block_lt_of_cell? w _ hw389_2)).trans hw389_2), ((HB.out.cell (World.block_lt_of_cell? w _ hw389_3)).trans hw389_3), ((HB.out.cell (World.block_lt_of_cell? w _ hw389_4)).trans hw389_4), ((HB.out.cell (World.block_lt_of_cell? w _ hw389_5)).trans hw389_5), ((HB.out.cell (World.block_lt_of_cell? w _ hw390_0)).trans hw390_0), ((HB.out.cell (World.block_lt_of_cell? w _ hw390_1)).trans hw390_1), ((HB.out.cell (World.block_lt_of_cell? w _ hw390_2)).trans hw390_2), ((HB.out.cell (World.block_lt_of_cell? w _ hw390_3)).trans hw390_3), ((HB.out.cell (World.block_lt_of_cell? w _ hw390_4)).trans hw390_4), ((HB.out.cell (World.block_lt_of_cell? w _ hw390_5)).trans hw390_5), ((HB.out.cell (World.block_lt_of_cell? w _ hw391_0)).trans hw391_0), ((HB.out.cell (World.block_lt_of_cell? w _ hw391_1)).trans hw391_1), ((HB.out.cell (World.block_lt_of_cell? w _ hw391_2)).trans hw391_2), ((HB.out.cell (World.block_lt_of_cell? w _ hw391_3)).trans hw391_3), ((HB.out.cell (World.block_lt_of_cell? w _ hw391_4)).trans hw391_4), ((HB.out.cell (World.block_lt_of_cell? w _ hw391_5)).trans hw391_5)⟩ (fun hHeld => ?_); refine with_tabW fairwayref10_Seg.tab4 fairwayref10_Seg.bits4 (fun HT_ HW_ => ?_)
              generalize wc.drew = w25 at BK383 HB hx385_0 hx385_1 hx385_2 hx385_3 hx385_4 hx385_5 hx387_0 hx387_1 hx387_2 hx387_3 hx387_4 hx387_5 hx388_0 hx388_1 hx388_2 hx388_3 hx388_4 hx388_5 hx389_0 hx389_1 hx389_2 hx389_3 hx389_4 hx389_5 hx390_0 hx390_1 hx390_2 hx390_3 hx390_4 hx390_5 hx391_0 hx391_1 hx391_2 hx391_3 hx391_4 hx391_5 hHeld ⊢
              refine pz (i := 0) (N := some 11) #[I,O,O,O,O,O,O,O,O,O,O,O,O,O,O,O,O,O,O,O,O,O,O,O,O,O,O,O,O,O,O,O,O,O,O,O,O,O,O,O,O,O,O,O,O,O,O,O,O,O,O,O,O,O] ?_
              refine pz (i := 2) (N := some 13) #[I,O,I,O,O,O,O,O,O,O,O,O,O,O,O,O,O,O,O,O,O,O,O,O,O,O,O,O,O,O,O,O,O,O,O,O,O,O,O,O,O,O,O,O,O,O,O,O,O,O,O,O,O,O] ?_
              refine tz (i := 1) (N := some 12) #[I,I,I,O,O,O,O,O,O,O,O,O,O,O,O,O,O,O,O,O,O,O,O,O,O,O,O,O,O,O,O,O,O,O,O,O,O,O,O,O,O,O,O,O,O,O,O,O,O,O,O,O,O,O] ?_
              refine pz (i := 3) (N := some 14) #[I,I,I,I,O,O,O,O,O,O,O,O,O,O,O,O,O,O,O,O,O,O,O,O,O,O,O,O,O,O,O,O,O,O,O,O,O,O,O,O,O,O,O,O,O,O,O,O,O,O,O,O,O,O] ?_
              refine tz (i := 4) (N := some 15) #[I,I,I,I,I,O,O,O,O,O,O,O,O,O,O,O,O,O,O,O,O,O,O,O,O,O,O,O,O,O,O,O,O,O,O,O,O,O,O,O,O,O,O,O,O,O,O,O,O,O,O,O,O,O] ?_
              refine one_ (i := 5) (N := some 16) #[I,I,I,I,I,I,O,O,O,O,O,O,O,O,O,O,O,O,O,O,O,O,O,O,O,O,O,O,O,O,O,O,O,O,O,O,O,O,O,O,O,O,O,O,O,O,O,O,O,O,O,O,O,O] rfl rfl (one_of HT_.out (by kernel_rfl)) (by decide) (fun K hK => ?_)
              refine goes_ Try.func17 (by kernel_rfl) rfl #[.agg #[.int .i64 ((rd_T25 l0_1 x3_1).f0), .int .i64 ((rd_T25 l0_1 x3_1).f1), .string ((rd_T25 l0_1 x3_1).f2), .string ((rd_T25 l0_1 x3_1).f3), .int .i64 ((rd_T25 l0_1 x3_1).f4), .bool ((rd_T25 l0_1 x3_1).f5)]] (by rfl) rfl rfl aa ?_
              with_reducible refine (fairwayref10_Rec.calls ((rd_T25 l0_1 x3_1).f0) ((rd_T25 l0_1 x3_1).f1) ((rd_T25 l0_1 x3_1).f2) ((rd_T25 l0_1 x3_1).f3) ((rd_T25 l0_1 x3_1).f4) ((rd_T25 l0_1 x3_1).f5) true _ A13.out).mono ?_
              rintro e w26 ⟨rfl, hb⟩
              refine ⟨_, rfl, ?_⟩
              replace BK383 := Aside0.mk (blk_below (g := gb383) (o := .cells #[.int .i64 a0_0, .slice (some ad385) l0_1.length c0_1] 53 (0, 0)) (bk BK383.out) hb)
              replace HB := Aside0.mk (below_step bo hb)
              (try clear hb)
              (try clear hb2)
              (try clear hk)
              (try clear hi)
              refine hK.out _ _ ⟨(blk_cell BK383.out 0).trans rfl, (blk_cell BK383.out 1).trans rfl, ((HB.out.cell (World.block_lt_of_cell? w _ hw385_0)).trans hw385_0), ((HB.out.cell (World.block_lt_of_cell? w _ hw385_1)).trans hw385_1), ((HB.out.cell (World.block_lt_of_cell? w _ hw385_2)).trans hw385_2), ((HB.out.cell (World.block_lt_of_cell? w _ hw385_3)).trans hw385_3), ((HB.out.cell (World.block_lt_of_cell? w _ hw385_4)).trans hw385_4), ((HB.out.cell (World.block_lt_of_cell? w _ hw385_5)).trans hw385_5), ((HB.out.cell (World.block_lt_of_cell? w _ hw387_0)).trans hw387_0), ((HB.out.cell (World.block_lt_of_cell? w _ hw387_1)).trans hw387_1), ((HB.out.cell (World.block_lt_of_cell? w _ hw387_2)).trans hw387_2), ((HB.out.cell (World.block_lt_of_cell? w _ hw387_3)).trans hw387_3), ((HB.out.cell (World.block_lt_of_cell? w _ hw387_4)).trans hw387_4), ((HB.out.cell (World.block_lt_of_cell? w _ hw387_5)).trans hw387_5), ((HB.out.cell (World.block_lt_of_cell? w _ hw388_0)).trans hw388_0), ((HB.out.cell (World.block_lt_of_cell? w _ hw388_1)).trans hw388_1), ((HB.out.cell (World.block_lt_of_cell? w _ hw388_2)).trans hw388_2), ((HB.out.cell (World.block_lt_of_cell? w _ hw388_3)).trans hw388_3), ((HB.out.cell (World.block_lt_of_cell? w _ hw388_4)).trans hw388_4), ((HB.out.cell (World.block_lt_of_cell? w _ hw388_5)).trans hw388_5), ((HB.out.cell (World.block_lt_of_cell? w _ hw389_0)).trans hw389_0), ((HB.out.cell (World.block_lt_of_cell? w _ hw389_1)).trans hw389_1), ((HB.out.cell (World.block_lt_of_cell? w _ hw389_2)).trans hw389_2), ((HB.out.cell (World.block_lt_of_cell? w _ hw389_3)).trans hw389_3), ((HB.out.cell (World.block_lt_of_cell? w _ hw389_4)).trans hw389_4), ((HB.out.cell (World.block_lt_of_cell? w _ hw389_5)).trans hw389_5), ((HB.out.cell (World.block_lt_of_cell? w _ hw390_0)).trans hw390_0), ((HB.out.cell (World.block_lt_of_cell? w _ hw390_1)).trans hw390_1), ((HB.out.cell (World.block_lt_of_cell? w _ hw390_2)).trans hw390_2), ((HB.out.cell (World.block_lt_of_cell? w _ hw390_3)).trans hw390_3), ((HB.out.cell (World.block_lt_of_cell? w _ hw390_4)).trans hw390_4), ((HB.out.cell (World.block_lt_of_cell? w _ hw390_5)).trans hw390_5), ((HB.out.cell (World.block_lt_of_cell? w _ hw391_0)).trans hw391_0), ((HB.out.cell (World.block_lt_of_cell? w _ hw391_1)).trans hw391_1), ((HB.out.cell (World.block_lt_of_cell? w _ hw391_2)).trans hw391_2), ((HB.out.cell (World.block_lt_of_cell? w _ hw391_3)).trans hw391_3), ((HB.out.cell (World.block_lt_of_cell? w _ hw391_4)).trans hw391_4), ((HB.out.cell (World.block_lt_of_cell? w _ hw391_5)).trans hw391_5)⟩ (fun hHeld => ?_)
              clear hK K
              refine norm_ (a' := ?_) ?_ ?_
              rotate_left
              ·show Act.put _ (some 16) _ = _
               simp only [Act.put, List.setIfInBounds_toArray, List.set_cons_zero, List.set_cons_succ, i64_w, i32_w]
               rfl
              refine pz (i := 6) (N := some 17) #[I,I,I,I,I,I,I,O,O,O,O,O,O,O,O,O,O,O,O,O,O,O,O,O,O,O,O,O,O,O,O,O,O,O,O,O,O,O,O,O,O,O,O,O,O,O,O,O,O,O,O,O,O,O] ?_
              refine pz (i := 7) (N := some 18) #[I,I,I,I,I,I,I,I,O,O,O,O,O,O,O,O,O,O,O,O,O,O,O,O,O,O,O,O,O,O,O,O,O,O,O,O,O,O,O,O,O,O,O,O,O,O,O,O,O,O,O,O,O,O] ?_
              refine pz (i := 8) (N := some 19) #[I,I,I,I,I,I,I,I,I,O,O,O,O,O,O,O,O,O,O,O,O,O,O,O,O,O,O,O,O,O,O,O,O,O,O,O,O,O,O,O,O,O,O,O,O,O,O,O,O,O,O,O,O,O] ?_
              refine pz (i := 10) (N := some 21) #[I,I,I,I,I,I,I,I,I,O,I,O,O,O,O,O,O,O,O,O,O,O,O,O,O,O,O,O,O,O,O,O,O,O,O,O,O,O,O,O,O,O,O,O,O,O,O,O,O,O,O,O,O,O] ?_
              refine pz (i := 14) (N := some 25) #[I,I,I,I,I,I,I,I,I,O,I,O,O,O,I,O,O,O,O,O,O,O,O,O,O,O,O,O,O,O,O,O,O,O,O,O,O,O,O,O,O,O,O,O,O,O,O,O,O,O,O,O,O,O] ?_
              refine tz (i := 9) (N := some 20) #[I,I,I,I,I,I,I,I,I,I,I,O,O,O,I,O,O,O,O,O,O,O,O,O,O,O,O,O,O,O,O,O,O,O,O,O,O,O,O,O,O,O,O,O,O,O,O,O,O,O,O,O,O,O] ?_
              refine pz (i := 11) (N := some 22) #[I,I,I,I,I,I,I,I,I,I,I,I,O,O,I,O,O,O,O,O,O,O,O,O,O,O,O,O,O,O,O,O,O,O,O,O,O,O,O,O,O,O,O,O,O,O,O,O,O,O,O,O,O,O] ?_
              refine pz (i := 12) (N := some 23) #[I,I,I,I,I,I,I,I,I,I,I,I,I,O,I,O,O,O,O,O,O,O,O,O,O,O,O,O,O,O,O,O,O,O,O,O,O,O,O,O,O,O,O,O,O,O,O,O,O,O,O,O,O,O] ?_
              refine tz (i := 13) (N := some 24) #[I,I,I,I,I,I,I,I,I,I,I,I,I,I,I,O,O,O,O,O,O,O,O,O,O,O,O,O,O,O,O,O,O,O,O,O,O,O,O,O,O,O,O,O,O,O,O,O,O,O,O,O,O,O] ?_
              refine tz (i := 15) (N := some 26) #[I,I,I,I,I,I,I,I,I,I,I,I,I,I,I,I,O,O,O,O,O,O,O,O,O,O,O,O,O,O,O,O,O,O,O,O,O,O,O,O,O,O,O,O,O,O,O,O,O,O,O,O,O,O] ?_
              refine pz (i := 16) (N := some 27) #[I,I,I,I,I,I,I,I,I,I,I,I,I,I,I,I,I,O,O,O,O,O,O,O,O,O,O,O,O,O,O,O,O,O,O,O,O,O,O,O,O,O,O,O,O,O,O,O,O,O,O,O,O,O] ?_
              refine pz (i := 17) (N := some 28) #[I,I,I,I,I,I,I,I,I,I,I,I,I,I,I,I,I,I,O,O,O,O,O,O,O,O,O,O,O,O,O,O,O,O,O,O,O,O,O,O,O,O,O,O,O,O,O,O,O,O,O,O,O,O] ?_
              refine pz (i := 18) (N := some 29) #[I,I,I,I,I,I,I,I,I,I,I,I,I,I,I,I,I,I,I,O,O,O,O,O,O,O,O,O,O,O,O,O,O,O,O,O,O,O,O,O,O,O,O,O,O,O,O,O,O,O,O,O,O,O] ?_
              refine pz (i := 19) (N := some 30) #[I,I,I,I,I,I,I,I,I,I,I,I,I,I,I,I,I,I,I,I,O,O,O,O,O,O,O,O,O,O,O,O,O,O,O,O,O,O,O,O,O,O,O,O,O,O,O,O,O,O,O,O,O,O] ?_
              refine pz (i := 20) (N := some 31) #[I,I,I,I,I,I,I,I,I,I,I,I,I,I,I,I,I,I,I,I,I,O,O,O,O,O,O,O,O,O,O,O,O,O,O,O,O,O,O,O,O,O,O,O,O,O,O,O,O,O,O,O,O,O] ?_
              refine pz (i := 21) (N := some 32) #[I,I,I,I,I,I,I,I,I,I,I,I,I,I,I,I,I,I,I,I,I,I,O,O,O,O,O,O,O,O,O,O,O,O,O,O,O,O,O,O,O,O,O,O,O,O,O,O,O,O,O,O,O,O] ?_
              refine pz (i := 22) (N := some 33) #[I,I,I,I,I,I,I,I,I,I,I,I,I,I,I,I,I,I,I,I,I,I,I,O,O,O,O,O,O,O,O,O,O,O,O,O,O,O,O,O,O,O,O,O,O,O,O,O,O,O,O,O,O,O] ?_
              refine pz (i := 24) (N := some 35) #[I,I,I,I,I,I,I,I,I,I,I,I,I,I,I,I,I,I,I,I,I,I,I,O,I,O,O,O,O,O,O,O,O,O,O,O,O,O,O,O,O,O,O,O,O,O,O,O,O,O,O,O,O,O] ?_
              refine pz (i := 25) (N := some 36) #[I,I,I,I,I,I,I,I,I,I,I,I,I,I,I,I,I,I,I,I,I,I,I,O,I,I,O,O,O,O,O,O,O,O,O,O,O,O,O,O,O,O,O,O,O,O,O,O,O,O,O,O,O,O] ?_
              refine pz (i := 29) (N := some 40) #[I,I,I,I,I,I,I,I,I,I,I,I,I,I,I,I,I,I,I,I,I,I,I,O,I,I,O,O,O,I,O,O,O,O,O,O,O,O,O,O,O,O,O,O,O,O,O,O,O,O,O,O,O,O] ?_
              refine pz (i := 31) (N := some 42) #[I,I,I,I,I,I,I,I,I,I,I,I,I,I,I,I,I,I,I,I,I,I,I,O,I,I,O,O,O,I,O,I,O,O,O,O,O,O,O,O,O,O,O,O,O,O,O,O,O,O,O,O,O,O] ?_
              refine tz (i := 23) (N := some 34) #[I,I,I,I,I,I,I,I,I,I,I,I,I,I,I,I,I,I,I,I,I,I,I,I,I,I,O,O,O,I,O,I,O,O,O,O,O,O,O,O,O,O,O,O,O,O,O,O,O,O,O,O,O,O] ?_
              refine pz (i := 26) (N := some 37) #[I,I,I,I,I,I,I,I,I,I,I,I,I,I,I,I,I,I,I,I,I,I,I,I,I,I,I,O,O,I,O,I,O,O,O,O,O,O,O,O,O,O,O,O,O,O,O,O,O,O,O,O,O,O] ?_
              refine pz (i := 27) (N := some 38) #[I,I,I,I,I,I,I,I,I,I,I,I,I,I,I,I,I,I,I,I,I,I,I,I,I,I,I,I,O,I,O,I,O,O,O,O,O,O,O,O,O,O,O,O,O,O,O,O,O,O,O,O,O,O] ?_
              refine tz (i := 28) (N := some 39) #[I,I,I,I,I,I,I,I,I,I,I,I,I,I,I,I,I,I,I,I,I,I,I,I,I,I,I,I,I,I,O,I,O,O,O,O,O,O,O,O,O,O,O,O,O,O,O,O,O,O,O,O,O,O] ?_
              refine tz (i := 30) (N := some 41) #[I,I,I,I,I,I,I,I,I,I,I,I,I,I,I,I,I,I,I,I,I,I,I,I,I,I,I,I,I,I,I,I,O,O,O,O,O,O,O,O,O,O,O,O,O,O,O,O,O,O,O,O,O,O] ?_
              refine pz (i := 32) (N := some 43) #[I,I,I,I,I,I,I,I,I,I,I,I,I,I,I,I,I,I,I,I,I,I,I,I,I,I,I,I,I,I,I,I,I,O,O,O,O,O,O,O,O,O,O,O,O,O,O,O,O,O,O,O,O,O] ?_
              refine pz (i := 33) (N := some 44) #[I,I,I,I,I,I,I,I,I,I,I,I,I,I,I,I,I,I,I,I,I,I,I,I,I,I,I,I,I,I,I,I,I,I,O,O,O,O,O,O,O,O,O,O,O,O,O,O,O,O,O,O,O,O] ?_
              refine tz (i := 34) (N := some 45) #[I,I,I,I,I,I,I,I,I,I,I,I,I,I,I,I,I,I,I,I,I,I,I,I,I,I,I,I,I,I,I,I,I,I,I,O,O,O,O,O,O,O,O,O,O,O,O,O,O,O,O,O,O,O] ?_
              refine pz (i := 35) (N := some 46) #[I,I,I,I,I,I,I,I,I,I,I,I,I,I,I,I,I,I,I,I,I,I,I,I,I,I,I,I,I,I,I,I,I,I,I,I,O,O,O,O,O,O,O,O,O,O,O,O,O,O,O,O,O,O] ?_
              refine pz (i := 36) (N := some 47) #[I,I,I,I,I,I,I,I,I,I,I,I,I,I,I,I,I,I,I,I,I,I,I,I,I,I,I,I,I,I,I,I,I,I,I,I,I,O,O,O,O,O,O,O,O,O,O,O,O,O,O,O,O,O] ?_
              refine pz (i := 37) (N := some 48) #[I,I,I,I,I,I,I,I,I,I,I,I,I,I,I,I,I,I,I,I,I,I,I,I,I,I,I,I,I,I,I,I,I,I,I,I,I,I,O,O,O,O,O,O,O,O,O,O,O,O,O,O,O,O] ?_
              refine pz (i := 39) (N := some 50) #[I,I,I,I,I,I,I,I,I,I,I,I,I,I,I,I,I,I,I,I,I,I,I,I,I,I,I,I,I,I,I,I,I,I,I,I,I,I,O,I,O,O,O,O,O,O,O,O,O,O,O,O,O,O] ?_
              refine pz (i := 40) (N := some 51) #[I,I,I,I,I,I,I,I,I,I,I,I,I,I,I,I,I,I,I,I,I,I,I,I,I,I,I,I,I,I,I,I,I,I,I,I,I,I,O,I,I,O,O,O,O,O,O,O,O,O,O,O,O,O] ?_
              refine pz (i := 44) (N := some 55) #[I,I,I,I,I,I,I,I,I,I,I,I,I,I,I,I,I,I,I,I,I,I,I,I,I,I,I,I,I,I,I,I,I,I,I,I,I,I,O,I,I,O,O,O,I,O,O,O,O,O,O,O,O,O] ?_
              refine pz (i := 46) (N := some 57) #[I,I,I,I,I,I,I,I,I,I,I,I,I,I,I,I,I,I,I,I,I,I,I,I,I,I,I,I,I,I,I,I,I,I,I,I,I,I,O,I,I,O,O,O,I,O,I,O,O,O,O,O,O,O] ?_
              refine tz (i := 38) (N := some 49) #[I,I,I,I,I,I,I,I,I,I,I,I,I,I,I,I,I,I,I,I,I,I,I,I,I,I,I,I,I,I,I,I,I,I,I,I,I,I,I,I,I,O,O,O,I,O,I,O,O,O,O,O,O,O] ?_
              refine pz (i := 41) (N := some 52) #[I,I,I,I,I,I,I,I,I,I,I,I,I,I,I,I,I,I,I,I,I,I,I,I,I,I,I,I,I,I,I,I,I,I,I,I,I,I,I,I,I,I,O,O,I,O,I,O,O,O,O,O,O,O] ?_
              refine pz (i := 42) (N := some 53) #[I,I,I,I,I,I,I,I,I,I,I,I,I,I,I,I,I,I,I,I,I,I,I,I,I,I,I,I,I,I,I,I,I,I,I,I,I,I,I,I,I,I,I,O,I,O,I,O,O,O,O,O,O,O] ?_
              refine tz (i := 43) (N := some 54) #[I,I,I,I,I,I,I,I,I,I,I,I,I,I,I,I,I,I,I,I,I,I,I,I,I,I,I,I,I,I,I,I,I,I,I,I,I,I,I,I,I,I,I,I,I,O,I,O,O,O,O,O,O,O] ?_
              refine tz (i := 45) (N := some 56) #[I,I,I,I,I,I,I,I,I,I,I,I,I,I,I,I,I,I,I,I,I,I,I,I,I,I,I,I,I,I,I,I,I,I,I,I,I,I,I,I,I,I,I,I,I,I,I,O,O,O,O,O,O,O] ?_
              refine pz (i := 47) (N := some 58) #[I,I,I,I,I,I,I,I,I,I,I,I,I,I,I,I,I,I,I,I,I,I,I,I,I,I,I,I,I,I,I,I,I,I,I,I,I,I,I,I,I,I,I,I,I,I,I,I,O,O,O,O,O,O] ?_
              refine pz (i := 48) (N := some 59) #[I,I,I,I,I,I,I,I,I,I,I,I,I,I,I,I,I,I,I,I,I,I,I,I,I,I,I,I,I,I,I,I,I,I,I,I,I,I,I,I,I,I,I,I,I,I,I,I,I,O,O,O,O,O] ?_
              refine tz (i := 49) (N := some 60) #[I,I,I,I,I,I,I,I,I,I,I,I,I,I,I,I,I,I,I,I,I,I,I,I,I,I,I,I,I,I,I,I,I,I,I,I,I,I,I,I,I,I,I,I,I,I,I,I,I,I,O,O,O,O] ?_
              refine pz (i := 50) (N := some 61) #[I,I,I,I,I,I,I,I,I,I,I,I,I,I,I,I,I,I,I,I,I,I,I,I,I,I,I,I,I,I,I,I,I,I,I,I,I,I,I,I,I,I,I,I,I,I,I,I,I,I,I,O,O,O] ?_
              refine pz (i := 51) (N := some 62) #[I,I,I,I,I,I,I,I,I,I,I,I,I,I,I,I,I,I,I,I,I,I,I,I,I,I,I,I,I,I,I,I,I,I,I,I,I,I,I,I,I,I,I,I,I,I,I,I,I,I,I,I,O,O] ?_
              refine pz (i := 52) (N := some 63) #[I,I,I,I,I,I,I,I,I,I,I,I,I,I,I,I,I,I,I,I,I,I,I,I,I,I,I,I,I,I,I,I,I,I,I,I,I,I,I,I,I,I,I,I,I,I,I,I,I,I,I,I,I,O] ?_
              refine pz (i := 53) (N := some 64) #[I,I,I,I,I,I,I,I,I,I,I,I,I,I,I,I,I,I,I,I,I,I,I,I,I,I,I,I,I,I,I,I,I,I,I,I,I,I,I,I,I,I,I,I,I,I,I,I,I,I,I,I,I,I] ?_
              refine done_ (done_of HT_.out (by kernel_rfl)) ?_
              try go_wp2
              go_meet
              case rel => exact ⟨_, (decide (((rd_T25 l0_1 (ji19)).f1) > ((rd_T25 l0_1 x3_1).f1))), (by first | rfl | (simp; done) | (simp only [← hji19] <;> (first | rfl | simp)) | (simp [*]; done)), H', ⟨by have := HK1.out; have := HJ2.out; first | omega | exact Nat.le_refl _⟩, ⟨by (with_reducible repeat (first | refine blk_drewN ?_ _ | refine blk_drew ?_ | refine blk_alloc ?_ _)); exact BK383.out⟩, ⟨bo⟩⟩
            ·rw [if_neg c21] at H
             exact absurd H (by simp)
           ·rw [if_neg c20] at H
            exact absurd H (by simp)
          ·rw [if_neg c18] at H
           have c18b0 : decide (0 < x3_1) = false := decide_eq_false c18
           clear c18
           have H' := Aside0.mk H
           clear H
           try go_wp2
           replace BK383 := Aside0.mk (blk_drew BK383.out)
           replace HB := Aside0.mk (below_drew1 HB.out)
           have p385 : 0 ≤ (x3_1 : Int) := od
           have q385 : x3_1 < (l0_1.length : Int) := od
           obtain ⟨ad385, e385, hx385_0, hx385_1, hx385_2, hx385_3, hx385_4, hx385_5⟩ := at_T25 HR0_1.out x3_1 p385 q385
           have hw385_5 := hx385_5
           have hw385_4 := hx385_4
           have hw385_3 := hx385_3
           have hw385_2 := hx385_2
           have hw385_1 := hx385_1
           have hw385_0 := hx385_0
           cases e385
           replace hx385_0 := cx HB.out hx385_0
           replace hx385_1 := cx HB.out hx385_1
           replace hx385_2 := cx HB.out hx385_2
           replace hx385_3 := cx HB.out hx385_3
           replace hx385_4 := cx HB.out hx385_4
           replace hx385_5 := cx HB.out hx385_5
           replace p385 := eq_true p385
           replace q385 := eq_true q385
           have p387 : 0 ≤ (x3_1 : Int) := od
           have q387 : x3_1 < (l0_1.length : Int) := od
           obtain ⟨ad387, e387, hx387_0, hx387_1, hx387_2, hx387_3, hx387_4, hx387_5⟩ := at_T25 HR0_1.out x3_1 p387 q387
           have hw387_5 := hx387_5
           have hw387_4 := hx387_4
           have hw387_3 := hx387_3
           have hw387_2 := hx387_2
           have hw387_1 := hx387_1
           have hw387_0 := hx387_0
           obtain rfl : ad385 = ad387 := (by injection e387)
           replace hx387_0 := cx HB.out hx387_0
           replace hx387_1 := cx HB.out hx387_1
           replace hx387_2 := cx HB.out hx387_2
           replace hx387_3 := cx HB.out hx387_3
           replace hx387_4 := cx HB.out hx387_4
           replace hx387_5 := cx HB.out hx387_5
           replace p387 := eq_true p387
           replace q387 := eq_true q387
           refine start_ (n := 54) (S := fun w' => w'.cell? ⟨gb383, 0, none⟩ = some (.int .i64 a0_0) ∧ w'.cell? ⟨gb383, 1, none⟩ = some (.slice (some ad385) l0_1.length c0_1) ∧ w'.cell? (ad385.add ((x3_1).toNat * 6)) = some (.int .i64 ((rd_T25 l0_1 x3_1).f0)) ∧ w'.cell? ⟨(ad385.add ((x3_1).toNat * 6)).block, (ad385.add ((x3_1).toNat * 6)).off + 1, none⟩ = some (.int .i64 ((rd_T25 l0_1 x3_1).f1)) ∧ w'.cell? ⟨(ad385.add ((x3_1).toNat * 6)).block, (ad385.add ((x3_1).toNat * 6)).off + 2, none⟩ = some (.string ((rd_T25 l0_1 x3_1).f2)) ∧ w'.cell? ⟨(ad385.add ((x3_1).toNat * 6)).block, (ad385.add ((x3_1).toNat * 6)).off + 3, none⟩ = some (.string ((rd_T25 l0_1 x3_1).f3)) ∧ w'.cell? ⟨(ad385.add ((x3_1).toNat * 6)).block, (ad385.add ((x3_1).toNat * 6)).off + 4, none⟩ = some (.int .i64 ((rd_T25 l0_1 x3_1).f4)) ∧ w'.cell? ⟨(ad385.add ((x3_1).toNat * 6)).block, (ad385.add ((x3_1).toNat * 6)).off + 5, none⟩ = some (.bool ((rd_T25 l0_1 x3_1).f5)) ∧ w'.cell? (ad385.add ((x3_1).toNat * 6)) = some (.int .i64 ((rd_T25 l0_1 x3_1).f0)) ∧ w'.cell? ⟨(ad385.add ((x3_1).toNat * 6)).block, (ad385.add ((x3_1).toNat * 6)).off + 1, none⟩ = some (.int .i64 ((rd_T25 l0_1 x3_1).f1)) ∧ w'.cell? ⟨(ad385.add ((x3_1).toNat * 6)).block, (ad385.add ((x3_1).toNat * 6)).off + 2, none⟩ = some (.string ((rd_T25 l0_1 x3_1).f2)) ∧ w'.cell? ⟨(ad385.add ((x3_1).toNat * 6)).block, (ad385.add ((x3_1).toNat * 6)).off + 3, none⟩ = some (.string ((rd_T25 l0_1 x3_1).f3)) ∧ w'.cell? ⟨(ad385.add ((x3_1).toNat * 6)).block, (ad385.add ((x3_1).toNat * 6)).off + 4, none⟩ = some (.int .i64 ((rd_T25 l0_1 x3_1).f4)) ∧ w'.cell? ⟨(ad385.add ((x3_1).toNat * 6)).block, (ad385.add ((x3_1).toNat * 6)).off + 5, none⟩ = some (.bool ((rd_T25 l0_1 x3_1).f5))) (ds := []) #[O,O,O,O,O,O,O,O,O,O,O,O,O,O,O,O,O,O,O,O,O,O,O,O,O,O,O,O,O,O,O,O,O,O,O,O,O,O,O,O,O,O,O,O,O,O,O,O,O,O,O,O,O,O] (by kernel_rfl) rfl rfl ⟨(blk_cell BK383.out 0).trans rfl, (blk_cell BK383.out 1).trans rfl, ((HB.out.cell (World.block_lt_of_cell? w _ hw385_0)).trans hw385_0), ((HB.out.cell (World.block_lt_of_cell? w _ hw385_1)).trans hw385_1), ((HB.out.cell (World.block_lt_of_cell? w _ hw385_2)).trans hw385_2), ((HB.out.cell (World.block_lt_of_cell? w _ hw385_3)).trans hw385_3), ((HB.out.cell (World.block_lt_of_cell? w _ hw385_4)).trans hw385_4), ((HB.out.cell (World.block_lt_of_cell? w _ hw385_5)).trans hw385_5), ((HB.out.cell (World.block_lt_of_cell? w _ hw387_0)).trans hw387_0), ((HB.out.cell (World.block_lt_of_cell? w _ hw387_1)).trans hw387_1), ((HB.out.cell (World.block_lt_of_cell? w _ hw387_2)).trans hw387_2), ((HB.out.cell (World.block_lt_of_cell? w _ hw387_3)).trans hw387_3), ((HB.out.cell (World.block_lt_of_cell? w _ hw387_4)).trans hw387_4), ((HB.out.cell (World.block_lt_of_cell? w _ hw387_5)).trans hw387_5)⟩ (fun hHeld => ?_); refine with_tabW fairwayref10_Seg.tab4 fairwayref10_Seg.bits4 (fun HT_ HW_ => ?_)
           generalize wc.drew = w27 at BK383 HB hx385_0 hx385_1 hx385_2 hx385_3 hx385_4 hx385_5 hx387_0 hx387_1 hx387_2 hx387_3 hx387_4 hx387_5 hHeld ⊢
           refine pz (i := 0) (N := some 11) #[I,O,O,O,O,O,O,O,O,O,O,O,O,O,O,O,O,O,O,O,O,O,O,O,O,O,O,O,O,O,O,O,O,O,O,O,O,O,O,O,O,O,O,O,O,O,O,O,O,O,O,O,O,O] ?_
           refine pz (i := 2) (N := some 13) #[I,O,I,O,O,O,O,O,O,O,O,O,O,O,O,O,O,O,O,O,O,O,O,O,O,O,O,O,O,O,O,O,O,O,O,O,O,O,O,O,O,O,O,O,O,O,O,O,O,O,O,O,O,O] ?_
           refine tz (i := 1) (N := some 12) #[I,I,I,O,O,O,O,O,O,O,O,O,O,O,O,O,O,O,O,O,O,O,O,O,O,O,O,O,O,O,O,O,O,O,O,O,O,O,O,O,O,O,O,O,O,O,O,O,O,O,O,O,O,O] ?_
           refine pz (i := 3) (N := some 14) #[I,I,I,I,O,O,O,O,O,O,O,O,O,O,O,O,O,O,O,O,O,O,O,O,O,O,O,O,O,O,O,O,O,O,O,O,O,O,O,O,O,O,O,O,O,O,O,O,O,O,O,O,O,O] ?_
           refine tz (i := 4) (N := some 15) #[I,I,I,I,I,O,O,O,O,O,O,O,O,O,O,O,O,O,O,O,O,O,O,O,O,O,O,O,O,O,O,O,O,O,O,O,O,O,O,O,O,O,O,O,O,O,O,O,O,O,O,O,O,O] ?_
           refine one_ (i := 5) (N := some 16) #[I,I,I,I,I,I,O,O,O,O,O,O,O,O,O,O,O,O,O,O,O,O,O,O,O,O,O,O,O,O,O,O,O,O,O,O,O,O,O,O,O,O,O,O,O,O,O,O,O,O,O,O,O,O] rfl rfl (one_of HT_.out (by kernel_rfl)) (by decide) (fun K hK => ?_)
           refine goes_ Try.func17 (by kernel_rfl) rfl #[.agg #[.int .i64 ((rd_T25 l0_1 x3_1).f0), .int .i64 ((rd_T25 l0_1 x3_1).f1), .string ((rd_T25 l0_1 x3_1).f2), .string ((rd_T25 l0_1 x3_1).f3), .int .i64 ((rd_T25 l0_1 x3_1).f4), .bool ((rd_T25 l0_1 x3_1).f5)]] (by rfl) rfl rfl aa ?_
           with_reducible refine (fairwayref10_Rec.calls ((rd_T25 l0_1 x3_1).f0) ((rd_T25 l0_1 x3_1).f1) ((rd_T25 l0_1 x3_1).f2) ((rd_T25 l0_1 x3_1).f3) ((rd_T25 l0_1 x3_1).f4) ((rd_T25 l0_1 x3_1).f5) true _ A13.out).mono ?_
           rintro e w28 ⟨rfl, hb⟩
           refine ⟨_, rfl, ?_⟩
           replace BK383 := Aside0.mk (blk_below (g := gb383) (o := .cells #[.int .i64 a0_0, .slice (some ad385) l0_1.length c0_1] 53 (0, 0)) (bk BK383.out) hb)
           replace HB := Aside0.mk (below_step bo hb)
           (try clear hb)
           (try clear hb2)
           (try clear hk)
           (try clear hi)
           refine hK.out _ _ ⟨(blk_cell BK383.out 0).trans rfl, (blk_cell BK383.out 1).trans rfl, ((HB.out.cell (World.block_lt_of_cell? w _ hw385_0)).trans hw385_0), ((HB.out.cell (World.block_lt_of_cell? w _ hw385_1)).trans hw385_1), ((HB.out.cell (World.block_lt_of_cell? w _ hw385_2)).trans hw385_2), ((HB.out.cell (World.block_lt_of_cell? w _ hw385_3)).trans hw385_3), ((HB.out.cell (World.block_lt_of_cell? w _ hw385_4)).trans hw385_4), ((HB.out.cell (World.block_lt_of_cell? w _ hw385_5)).trans hw385_5), ((HB.out.cell (World.block_lt_of_cell? w _ hw387_0)).trans hw387_0), ((HB.out.cell (World.block_lt_of_cell? w _ hw387_1)).trans hw387_1), ((HB.out.cell (World.block_lt_of_cell? w _ hw387_2)).trans hw387_2), ((HB.out.cell (World.block_lt_of_cell? w _ hw387_3)).trans hw387_3), ((HB.out.cell (World.block_lt_of_cell? w _ hw387_4)).trans hw387_4), ((HB.out.cell (World.block_lt_of_cell? w _ hw387_5)).trans hw387_5)⟩ (fun hHeld => ?_)
           clear hK K
           refine norm_ (a' := ?_) ?_ ?_
           rotate_left
           ·show Act.put _ (some 16) _ = _
            simp only [Act.put, List.setIfInBounds_toArray, List.set_cons_zero, List.set_cons_succ, i64_w, i32_w]
            rfl
           refine pz (i := 6) (N := some 17) #[I,I,I,I,I,I,I,O,O,O,O,O,O,O,O,O,O,O,O,O,O,O,O,O,O,O,O,O,O,O,O,O,O,O,O,O,O,O,O,O,O,O,O,O,O,O,O,O,O,O,O,O,O,O] ?_
           refine pz (i := 7) (N := some 18) #[I,I,I,I,I,I,I,I,O,O,O,O,O,O,O,O,O,O,O,O,O,O,O,O,O,O,O,O,O,O,O,O,O,O,O,O,O,O,O,O,O,O,O,O,O,O,O,O,O,O,O,O,O,O] ?_
           refine pz (i := 8) (N := some 19) #[I,I,I,I,I,I,I,I,I,O,O,O,O,O,O,O,O,O,O,O,O,O,O,O,O,O,O,O,O,O,O,O,O,O,O,O,O,O,O,O,O,O,O,O,O,O,O,O,O,O,O,O,O,O] ?_
           refine pz (i := 10) (N := some 21) #[I,I,I,I,I,I,I,I,I,O,I,O,O,O,O,O,O,O,O,O,O,O,O,O,O,O,O,O,O,O,O,O,O,O,O,O,O,O,O,O,O,O,O,O,O,O,O,O,O,O,O,O,O,O] ?_
           refine pz (i := 14) (N := some 25) #[I,I,I,I,I,I,I,I,I,O,I,O,O,O,I,O,O,O,O,O,O,O,O,O,O,O,O,O,O,O,O,O,O,O,O,O,O,O,O,O,O,O,O,O,O,O,O,O,O,O,O,O,O,O] ?_
           refine tz (i := 9) (N := some 20) #[I,I,I,I,I,I,I,I,I,I,I,O,O,O,I,O,O,O,O,O,O,O,O,O,O,O,O,O,O,O,O,O,O,O,O,O,O,O,O,O,O,O,O,O,O,O,O,O,O,O,O,O,O,O] ?_
           refine pz (i := 11) (N := some 22) #[I,I,I,I,I,I,I,I,I,I,I,I,O,O,I,O,O,O,O,O,O,O,O,O,O,O,O,O,O,O,O,O,O,O,O,O,O,O,O,O,O,O,O,O,O,O,O,O,O,O,O,O,O,O] ?_
           refine pz (i := 12) (N := some 23) #[I,I,I,I,I,I,I,I,I,I,I,I,I,O,I,O,O,O,O,O,O,O,O,O,O,O,O,O,O,O,O,O,O,O,O,O,O,O,O,O,O,O,O,O,O,O,O,O,O,O,O,O,O,O] ?_
           refine tz (i := 13) (N := some 24) #[I,I,I,I,I,I,I,I,I,I,I,I,I,I,I,O,O,O,O,O,O,O,O,O,O,O,O,O,O,O,O,O,O,O,O,O,O,O,O,O,O,O,O,O,O,O,O,O,O,O,O,O,O,O] ?_
           refine tz (i := 15) (N := some 26) #[I,I,I,I,I,I,I,I,I,I,I,I,I,I,I,I,O,O,O,O,O,O,O,O,O,O,O,O,O,O,O,O,O,O,O,O,O,O,O,O,O,O,O,O,O,O,O,O,O,O,O,O,O,O] ?_
           refine pz (i := 16) (N := some 27) #[I,I,I,I,I,I,I,I,I,I,I,I,I,I,I,I,I,O,O,O,O,O,O,O,O,O,O,O,O,O,O,O,O,O,O,O,O,O,O,O,O,O,O,O,O,O,O,O,O,O,O,O,O,O] ?_
           refine pz (i := 17) (N := some 28) #[I,I,I,I,I,I,I,I,I,I,I,I,I,I,I,I,I,I,O,O,O,O,O,O,O,O,O,O,O,O,O,O,O,O,O,O,O,O,O,O,O,O,O,O,O,O,O,O,O,O,O,O,O,O] ?_
           refine pz (i := 18) (N := some 29) #[I,I,I,I,I,I,I,I,I,I,I,I,I,I,I,I,I,I,I,O,O,O,O,O,O,O,O,O,O,O,O,O,O,O,O,O,O,O,O,O,O,O,O,O,O,O,O,O,O,O,O,O,O,O] ?_
           refine pz (i := 19) (N := some 30) #[I,I,I,I,I,I,I,I,I,I,I,I,I,I,I,I,I,I,I,I,O,O,O,O,O,O,O,O,O,O,O,O,O,O,O,O,O,O,O,O,O,O,O,O,O,O,O,O,O,O,O,O,O,O] ?_
           refine pz (i := 20) (N := some 31) #[I,I,I,I,I,I,I,I,I,I,I,I,I,I,I,I,I,I,I,I,I,O,O,O,O,O,O,O,O,O,O,O,O,O,O,O,O,O,O,O,O,O,O,O,O,O,O,O,O,O,O,O,O,O] ?_
           refine pz (i := 21) (N := some 32) #[I,I,I,I,I,I,I,I,I,I,I,I,I,I,I,I,I,I,I,I,I,I,O,O,O,O,O,O,O,O,O,O,O,O,O,O,O,O,O,O,O,O,O,O,O,O,O,O,O,O,O,O,O,O] ?_
           refine pu (i := 22) (N := some 33) #[I,I,I,I,I,I,I,I,I,I,I,I,I,I,I,I,I,I,I,I,I,I,I,O,O,O,O,O,O,O,O,O,O,O,O,O,O,O,O,O,O,O,O,O,O,O,O,O,O,O,O,O,O,O] ?_
           refine pu (i := 23) (N := some 34) #[I,I,I,I,I,I,I,I,I,I,I,I,I,I,I,I,I,I,I,I,I,I,I,I,O,O,O,O,O,O,O,O,O,O,O,O,O,O,O,O,O,O,O,O,O,O,O,O,O,O,O,O,O,O] ?_
           refine pu (i := 24) (N := some 35) #[I,I,I,I,I,I,I,I,I,I,I,I,I,I,I,I,I,I,I,I,I,I,I,I,I,O,O,O,O,O,O,O,O,O,O,O,O,O,O,O,O,O,O,O,O,O,O,O,O,O,O,O,O,O] ?_
           refine pu (i := 25) (N := some 36) #[I,I,I,I,I,I,I,I,I,I,I,I,I,I,I,I,I,I,I,I,I,I,I,I,I,I,O,O,O,O,O,O,O,O,O,O,O,O,O,O,O,O,O,O,O,O,O,O,O,O,O,O,O,O] ?_
           refine pu (i := 26) (N := some 37) #[I,I,I,I,I,I,I,I,I,I,I,I,I,I,I,I,I,I,I,I,I,I,I,I,I,I,I,O,O,O,O,O,O,O,O,O,O,O,O,O,O,O,O,O,O,O,O,O,O,O,O,O,O,O] ?_
           refine pu (i := 27) (N := some 38) #[I,I,I,I,I,I,I,I,I,I,I,I,I,I,I,I,I,I,I,I,I,I,I,I,I,I,I,I,O,O,O,O,O,O,O,O,O,O,O,O,O,O,O,O,O,O,O,O,O,O,O,O,O,O] ?_
           refine pu (i := 28) (N := some 39) #[I,I,I,I,I,I,I,I,I,I,I,I,I,I,I,I,I,I,I,I,I,I,I,I,I,I,I,I,I,O,O,O,O,O,O,O,O,O,O,O,O,O,O,O,O,O,O,O,O,O,O,O,O,O] ?_
           refine pu (i := 29) (N := some 40) #[I,I,I,I,I,I,I,I,I,I,I,I,I,I,I,I,I,I,I,I,I,I,I,I,I,I,I,I,I,I,O,O,O,O,O,O,O,O,O,O,O,O,O,O,O,O,O,O,O,O,O,O,O,O] ?_
           refine pu (i := 30) (N := some 41) #[I,I,I,I,I,I,I,I,I,I,I,I,I,I,I,I,I,I,I,I,I,I,I,I,I,I,I,I,I,I,I,O,O,O,O,O,O,O,O,O,O,O,O,O,O,O,O,O,O,O,O,O,O,O] ?_
           refine pu (i := 31) (N := some 42) #[I,I,I,I,I,I,I,I,I,I,I,I,I,I,I,I,I,I,I,I,I,I,I,I,I,I,I,I,I,I,I,I,O,O,O,O,O,O,O,O,O,O,O,O,O,O,O,O,O,O,O,O,O,O] ?_
           refine pu (i := 32) (N := some 43) #[I,I,I,I,I,I,I,I,I,I,I,I,I,I,I,I,I,I,I,I,I,I,I,I,I,I,I,I,I,I,I,I,I,O,O,O,O,O,O,O,O,O,O,O,O,O,O,O,O,O,O,O,O,O] ?_
           refine pu (i := 33) (N := some 44) #[I,I,I,I,I,I,I,I,I,I,I,I,I,I,I,I,I,I,I,I,I,I,I,I,I,I,I,I,I,I,I,I,I,I,O,O,O,O,O,O,O,O,O,O,O,O,O,O,O,O,O,O,O,O] ?_
           refine pu (i := 34) (N := some 45) #[I,I,I,I,I,I,I,I,I,I,I,I,I,I,I,I,I,I,I,I,I,I,I,I,I,I,I,I,I,I,I,I,I,I,I,O,O,O,O,O,O,O,O,O,O,O,O,O,O,O,O,O,O,O] ?_
           refine pu (i := 35) (N := some 46) #[I,I,I,I,I,I,I,I,I,I,I,I,I,I,I,I,I,I,I,I,I,I,I,I,I,I,I,I,I,I,I,I,I,I,I,I,O,O,O,O,O,O,O,O,O,O,O,O,O,O,O,O,O,O] ?_
           refine pu (i := 36) (N := some 47) #[I,I,I,I,I,I,I,I,I,I,I,I,I,I,I,I,I,I,I,I,I,I,I,I,I,I,I,I,I,I,I,I,I,I,I,I,I,O,O,O,O,O,O,O,O,O,O,O,O,O,O,O,O,O] ?_
           refine pu (i := 37) (N := some 48) #[I,I,I,I,I,I,I,I,I,I,I,I,I,I,I,I,I,I,I,I,I,I,I,I,I,I,I,I,I,I,I,I,I,I,I,I,I,I,O,O,O,O,O,O,O,O,O,O,O,O,O,O,O,O] ?_
           refine pu (i := 38) (N := some 49) #[I,I,I,I,I,I,I,I,I,I,I,I,I,I,I,I,I,I,I,I,I,I,I,I,I,I,I,I,I,I,I,I,I,I,I,I,I,I,I,O,O,O,O,O,O,O,O,O,O,O,O,O,O,O] ?_
           refine pu (i := 39) (N := some 50) #[I,I,I,I,I,I,I,I,I,I,I,I,I,I,I,I,I,I,I,I,I,I,I,I,I,I,I,I,I,I,I,I,I,I,I,I,I,I,I,I,O,O,O,O,O,O,O,O,O,O,O,O,O,O] ?_
           refine pu (i := 40) (N := some 51) #[I,I,I,I,I,I,I,I,I,I,I,I,I,I,I,I,I,I,I,I,I,I,I,I,I,I,I,I,I,I,I,I,I,I,I,I,I,I,I,I,I,O,O,O,O,O,O,O,O,O,O,O,O,O] ?_
           refine pu (i := 41) (N := some 52) #[I,I,I,I,I,I,I,I,I,I,I,I,I,I,I,I,I,I,I,I,I,I,I,I,I,I,I,I,I,I,I,I,I,I,I,I,I,I,I,I,I,I,O,O,O,O,O,O,O,O,O,O,O,O] ?_
           refine pu (i := 42) (N := some 53) #[I,I,I,I,I,I,I,I,I,I,I,I,I,I,I,I,I,I,I,I,I,I,I,I,I,I,I,I,I,I,I,I,I,I,I,I,I,I,I,I,I,I,I,O,O,O,O,O,O,O,O,O,O,O] ?_
           refine pu (i := 43) (N := some 54) #[I,I,I,I,I,I,I,I,I,I,I,I,I,I,I,I,I,I,I,I,I,I,I,I,I,I,I,I,I,I,I,I,I,I,I,I,I,I,I,I,I,I,I,I,O,O,O,O,O,O,O,O,O,O] ?_
           refine pu (i := 44) (N := some 55) #[I,I,I,I,I,I,I,I,I,I,I,I,I,I,I,I,I,I,I,I,I,I,I,I,I,I,I,I,I,I,I,I,I,I,I,I,I,I,I,I,I,I,I,I,I,O,O,O,O,O,O,O,O,O] ?_
           refine pu (i := 45) (N := some 56) #[I,I,I,I,I,I,I,I,I,I,I,I,I,I,I,I,I,I,I,I,I,I,I,I,I,I,I,I,I,I,I,I,I,I,I,I,I,I,I,I,I,I,I,I,I,I,O,O,O,O,O,O,O,O] ?_
           refine pu (i := 46) (N := some 57) #[I,I,I,I,I,I,I,I,I,I,I,I,I,I,I,I,I,I,I,I,I,I,I,I,I,I,I,I,I,I,I,I,I,I,I,I,I,I,I,I,I,I,I,I,I,I,I,O,O,O,O,O,O,O] ?_
           refine pu (i := 47) (N := some 58) #[I,I,I,I,I,I,I,I,I,I,I,I,I,I,I,I,I,I,I,I,I,I,I,I,I,I,I,I,I,I,I,I,I,I,I,I,I,I,I,I,I,I,I,I,I,I,I,I,O,O,O,O,O,O] ?_
           refine pu (i := 48) (N := some 59) #[I,I,I,I,I,I,I,I,I,I,I,I,I,I,I,I,I,I,I,I,I,I,I,I,I,I,I,I,I,I,I,I,I,I,I,I,I,I,I,I,I,I,I,I,I,I,I,I,I,O,O,O,O,O] ?_
           refine pu (i := 49) (N := some 60) #[I,I,I,I,I,I,I,I,I,I,I,I,I,I,I,I,I,I,I,I,I,I,I,I,I,I,I,I,I,I,I,I,I,I,I,I,I,I,I,I,I,I,I,I,I,I,I,I,I,I,O,O,O,O] ?_
           refine pu (i := 50) (N := some 61) #[I,I,I,I,I,I,I,I,I,I,I,I,I,I,I,I,I,I,I,I,I,I,I,I,I,I,I,I,I,I,I,I,I,I,I,I,I,I,I,I,I,I,I,I,I,I,I,I,I,I,I,O,O,O] ?_
           refine pu (i := 51) (N := some 62) #[I,I,I,I,I,I,I,I,I,I,I,I,I,I,I,I,I,I,I,I,I,I,I,I,I,I,I,I,I,I,I,I,I,I,I,I,I,I,I,I,I,I,I,I,I,I,I,I,I,I,I,I,O,O] ?_
           refine pz (i := 52) (N := some 63) #[I,I,I,I,I,I,I,I,I,I,I,I,I,I,I,I,I,I,I,I,I,I,I,I,I,I,I,I,I,I,I,I,I,I,I,I,I,I,I,I,I,I,I,I,I,I,I,I,I,I,I,I,I,O] ?_
           refine pz (i := 53) (N := some 64) #[I,I,I,I,I,I,I,I,I,I,I,I,I,I,I,I,I,I,I,I,I,I,I,I,I,I,I,I,I,I,I,I,I,I,I,I,I,I,I,I,I,I,I,I,I,I,I,I,I,I,I,I,I,I] ?_
           refine done_ (done_of HT_.out (by kernel_rfl)) ?_
           try go_wp2
           go_meet
           case rel => exact ⟨_, (false), ap, H', ⟨by have := HK1.out; have := HJ2.out; first | omega | exact Nat.le_refl _⟩, ⟨by (with_reducible repeat (first | refine blk_drewN ?_ _ | refine blk_drew ?_ | refine blk_alloc ?_ _)); exact BK383.out⟩, ⟨bo⟩⟩
        ·replace c14 := Bool.eq_false_iff.mpr c14
         subst c14
         have H1 : (fairwayref10_Seg.j2 kj2 x3_1 true a0_0 l0_1) = some r := by rw [if_neg (show ¬ (false = true) by decide)] at H; exact H
         clear H
         have H := H1
         clear H1
         have H' := Aside0.mk H
         clear H
         try go_wp2
         replace BK383 := Aside0.mk (blk_drew BK383.out)
         replace HB := Aside0.mk (below_drew1 HB.out)
         have p385 : 0 ≤ (x3_1 : Int) := od
         have q385 : x3_1 < (l0_1.length : Int) := od
         obtain ⟨ad385, e385, hx385_0, hx385_1, hx385_2, hx385_3, hx385_4, hx385_5⟩ := at_T25 HR0_1.out x3_1 p385 q385
         have hw385_5 := hx385_5
         have hw385_4 := hx385_4
         have hw385_3 := hx385_3
         have hw385_2 := hx385_2
         have hw385_1 := hx385_1
         have hw385_0 := hx385_0
         cases e385
         replace hx385_0 := cx HB.out hx385_0
         replace hx385_1 := cx HB.out hx385_1
         replace hx385_2 := cx HB.out hx385_2
         replace hx385_3 := cx HB.out hx385_3
         replace hx385_4 := cx HB.out hx385_4
         replace hx385_5 := cx HB.out hx385_5
         replace p385 := eq_true p385
         replace q385 := eq_true q385
         refine start_ (n := 54) (S := fun w' => w'.cell? ⟨gb383, 0, none⟩ = some (.int .i64 a0_0) ∧ w'.cell? ⟨gb383, 1, none⟩ = some (.slice (some ad385) l0_1.length c0_1) ∧ w'.cell? (ad385.add ((x3_1).toNat * 6)) = some (.int .i64 ((rd_T25 l0_1 x3_1).f0)) ∧ w'.cell? ⟨(ad385.add ((x3_1).toNat * 6)).block, (ad385.add ((x3_1).toNat * 6)).off + 1, none⟩ = some (.int .i64 ((rd_T25 l0_1 x3_1).f1)) ∧ w'.cell? ⟨(ad385.add ((x3_1).toNat * 6)).block, (ad385.add ((x3_1).toNat * 6)).off + 2, none⟩ = some (.string ((rd_T25 l0_1 x3_1).f2)) ∧ w'.cell? ⟨(ad385.add ((x3_1).toNat * 6)).block, (ad385.add ((x3_1).toNat * 6)).off + 3, none⟩ = some (.string ((rd_T25 l0_1 x3_1).f3)) ∧ w'.cell? ⟨(ad385.add ((x3_1).toNat * 6)).block, (ad385.add ((x3_1).toNat * 6)).off + 4, none⟩ = some (.int .i64 ((rd_T25 l0_1 x3_1).f4)) ∧ w'.cell? ⟨(ad385.add ((x3_1).toNat * 6)).block, (ad385.add ((x3_1).toNat * 6)).off + 5, none⟩ = some (.bool ((rd_T25 l0_1 x3_1).f5))) (ds := []) #[O,O,O,O,O,O,O,O,O,O,O,O,O,O,O,O,O,O,O,O,O,O,O,O,O,O,O,O,O,O,O,O,O,O,O,O,O,O,O,O,O,O,O,O,O,O,O,O,O,O,O,O,O,O] (by kernel_rfl) rfl rfl ⟨(blk_cell BK383.out 0).trans rfl, (blk_cell BK383.out 1).trans rfl, ((HB.out.cell (World.block_lt_of_cell? w _ hw385_0)).trans hw385_0), ((HB.out.cell (World.block_lt_of_cell? w _ hw385_1)).trans hw385_1), ((HB.out.cell (World.block_lt_of_cell? w _ hw385_2)).trans hw385_2), ((HB.out.cell (World.block_lt_of_cell? w _ hw385_3)).trans hw385_3), ((HB.out.cell (World.block_lt_of_cell? w _ hw385_4)).trans hw385_4), ((HB.out.cell (World.block_lt_of_cell? w _ hw385_5)).trans hw385_5)⟩ (fun hHeld => ?_); refine with_tabW fairwayref10_Seg.tab4 fairwayref10_Seg.bits4 (fun HT_ HW_ => ?_)
         generalize wc.drew = w29 at BK383 HB hx385_0 hx385_1 hx385_2 hx385_3 hx385_4 hx385_5 hHeld ⊢
         refine pz (i := 0) (N := some 11) #[I,O,O,O,O,O,O,O,O,O,O,O,O,O,O,O,O,O,O,O,O,O,O,O,O,O,O,O,O,O,O,O,O,O,O,O,O,O,O,O,O,O,O,O,O,O,O,O,O,O,O,O,O,O] ?_
         refine pz (i := 2) (N := some 13) #[I,O,I,O,O,O,O,O,O,O,O,O,O,O,O,O,O,O,O,O,O,O,O,O,O,O,O,O,O,O,O,O,O,O,O,O,O,O,O,O,O,O,O,O,O,O,O,O,O,O,O,O,O,O] ?_
         refine tz (i := 1) (N := some 12) #[I,I,I,O,O,O,O,O,O,O,O,O,O,O,O,O,O,O,O,O,O,O,O,O,O,O,O,O,O,O,O,O,O,O,O,O,O,O,O,O,O,O,O,O,O,O,O,O,O,O,O,O,O,O] ?_
         refine pz (i := 3) (N := some 14) #[I,I,I,I,O,O,O,O,O,O,O,O,O,O,O,O,O,O,O,O,O,O,O,O,O,O,O,O,O,O,O,O,O,O,O,O,O,O,O,O,O,O,O,O,O,O,O,O,O,O,O,O,O,O] ?_
         refine tz (i := 4) (N := some 15) #[I,I,I,I,I,O,O,O,O,O,O,O,O,O,O,O,O,O,O,O,O,O,O,O,O,O,O,O,O,O,O,O,O,O,O,O,O,O,O,O,O,O,O,O,O,O,O,O,O,O,O,O,O,O] ?_
         refine one_ (i := 5) (N := some 16) #[I,I,I,I,I,I,O,O,O,O,O,O,O,O,O,O,O,O,O,O,O,O,O,O,O,O,O,O,O,O,O,O,O,O,O,O,O,O,O,O,O,O,O,O,O,O,O,O,O,O,O,O,O,O] rfl rfl (one_of HT_.out (by kernel_rfl)) (by decide) (fun K hK => ?_)
         refine goes_ Try.func17 (by kernel_rfl) rfl #[.agg #[.int .i64 ((rd_T25 l0_1 x3_1).f0), .int .i64 ((rd_T25 l0_1 x3_1).f1), .string ((rd_T25 l0_1 x3_1).f2), .string ((rd_T25 l0_1 x3_1).f3), .int .i64 ((rd_T25 l0_1 x3_1).f4), .bool ((rd_T25 l0_1 x3_1).f5)]] (by rfl) rfl rfl aa ?_
         with_reducible refine (fairwayref10_Rec.calls ((rd_T25 l0_1 x3_1).f0) ((rd_T25 l0_1 x3_1).f1) ((rd_T25 l0_1 x3_1).f2) ((rd_T25 l0_1 x3_1).f3) ((rd_T25 l0_1 x3_1).f4) ((rd_T25 l0_1 x3_1).f5) false _ A13.out).mono ?_
         rintro e w30 ⟨rfl, hb⟩
         refine ⟨_, rfl, ?_⟩
         replace BK383 := Aside0.mk (blk_below (g := gb383) (o := .cells #[.int .i64 a0_0, .slice (some ad385) l0_1.length c0_1] 53 (0, 0)) (bk BK383.out) hb)
         replace HB := Aside0.mk (below_step bo hb)
         (try clear hb)
         (try clear hb2)
         (try clear hk)
         (try clear hi)
         refine hK.out _ _ ⟨(blk_cell BK383.out 0).trans rfl, (blk_cell BK383.out 1).trans rfl, ((HB.out.cell (World.block_lt_of_cell? w _ hw385_0)).trans hw385_0), ((HB.out.cell (World.block_lt_of_cell? w _ hw385_1)).trans hw385_1), ((HB.out.cell (World.block_lt_of_cell? w _ hw385_2)).trans hw385_2), ((HB.out.cell (World.block_lt_of_cell? w _ hw385_3)).trans hw385_3), ((HB.out.cell (World.block_lt_of_cell? w _ hw385_4)).trans hw385_4), ((HB.out.cell (World.block_lt_of_cell? w _ hw385_5)).trans hw385_5)⟩ (fun hHeld => ?_)
         clear hK K
         refine norm_ (a' := ?_) ?_ ?_
         rotate_left
         ·show Act.put _ (some 16) _ = _
          simp only [Act.put, List.setIfInBounds_toArray, List.set_cons_zero, List.set_cons_succ, i64_w, i32_w]
          rfl
         refine pz (i := 6) (N := some 17) #[I,I,I,I,I,I,I,O,O,O,O,O,O,O,O,O,O,O,O,O,O,O,O,O,O,O,O,O,O,O,O,O,O,O,O,O,O,O,O,O,O,O,O,O,O,O,O,O,O,O,O,O,O,O] ?_
         refine pz (i := 7) (N := some 18) #[I,I,I,I,I,I,I,I,O,O,O,O,O,O,O,O,O,O,O,O,O,O,O,O,O,O,O,O,O,O,O,O,O,O,O,O,O,O,O,O,O,O,O,O,O,O,O,O,O,O,O,O,O,O] ?_
         refine pu (i := 8) (N := some 19) #[I,I,I,I,I,I,I,I,I,O,O,O,O,O,O,O,O,O,O,O,O,O,O,O,O,O,O,O,O,O,O,O,O,O,O,O,O,O,O,O,O,O,O,O,O,O,O,O,O,O,O,O,O,O] ?_
         refine pu (i := 9) (N := some 20) #[I,I,I,I,I,I,I,I,I,I,O,O,O,O,O,O,O,O,O,O,O,O,O,O,O,O,O,O,O,O,O,O,O,O,O,O,O,O,O,O,O,O,O,O,O,O,O,O,O,O,O,O,O,O] ?_
         refine pu (i := 10) (N := some 21) #[I,I,I,I,I,I,I,I,I,I,I,O,O,O,O,O,O,O,O,O,O,O,O,O,O,O,O,O,O,O,O,O,O,O,O,O,O,O,O,O,O,O,O,O,O,O,O,O,O,O,O,O,O,O] ?_
         refine pu (i := 11) (N := some 22) #[I,I,I,I,I,I,I,I,I,I,I,I,O,O,O,O,O,O,O,O,O,O,O,O,O,O,O,O,O,O,O,O,O,O,O,O,O,O,O,O,O,O,O,O,O,O,O,O,O,O,O,O,O,O] ?_
         refine pu (i := 12) (N := some 23) #[I,I,I,I,I,I,I,I,I,I,I,I,I,O,O,O,O,O,O,O,O,O,O,O,O,O,O,O,O,O,O,O,O,O,O,O,O,O,O,O,O,O,O,O,O,O,O,O,O,O,O,O,O,O] ?_
         refine pu (i := 13) (N := some 24) #[I,I,I,I,I,I,I,I,I,I,I,I,I,I,O,O,O,O,O,O,O,O,O,O,O,O,O,O,O,O,O,O,O,O,O,O,O,O,O,O,O,O,O,O,O,O,O,O,O,O,O,O,O,O] ?_
         refine pu (i := 14) (N := some 25) #[I,I,I,I,I,I,I,I,I,I,I,I,I,I,I,O,O,O,O,O,O,O,O,O,O,O,O,O,O,O,O,O,O,O,O,O,O,O,O,O,O,O,O,O,O,O,O,O,O,O,O,O,O,O] ?_
         refine pu (i := 15) (N := some 26) #[I,I,I,I,I,I,I,I,I,I,I,I,I,I,I,I,O,O,O,O,O,O,O,O,O,O,O,O,O,O,O,O,O,O,O,O,O,O,O,O,O,O,O,O,O,O,O,O,O,O,O,O,O,O] ?_
         refine pu (i := 16) (N := some 27) #[I,I,I,I,I,I,I,I,I,I,I,I,I,I,I,I,I,O,O,O,O,O,O,O,O,O,O,O,O,O,O,O,O,O,O,O,O,O,O,O,O,O,O,O,O,O,O,O,O,O,O,O,O,O] ?_
         refine pz (i := 17) (N := some 28) #[I,I,I,I,I,I,I,I,I,I,I,I,I,I,I,I,I,I,O,O,O,O,O,O,O,O,O,O,O,O,O,O,O,O,O,O,O,O,O,O,O,O,O,O,O,O,O,O,O,O,O,O,O,O] ?_
         refine pz (i := 18) (N := some 29) #[I,I,I,I,I,I,I,I,I,I,I,I,I,I,I,I,I,I,I,O,O,O,O,O,O,O,O,O,O,O,O,O,O,O,O,O,O,O,O,O,O,O,O,O,O,O,O,O,O,O,O,O,O,O] ?_
         refine pu (i := 19) (N := some 30) #[I,I,I,I,I,I,I,I,I,I,I,I,I,I,I,I,I,I,I,I,O,O,O,O,O,O,O,O,O,O,O,O,O,O,O,O,O,O,O,O,O,O,O,O,O,O,O,O,O,O,O,O,O,O] ?_
         refine pu (i := 20) (N := some 31) #[I,I,I,I,I,I,I,I,I,I,I,I,I,I,I,I,I,I,I,I,I,O,O,O,O,O,O,O,O,O,O,O,O,O,O,O,O,O,O,O,O,O,O,O,O,O,O,O,O,O,O,O,O,O] ?_
         refine pu (i := 21) (N := some 32) #[I,I,I,I,I,I,I,I,I,I,I,I,I,I,I,I,I,I,I,I,I,I,O,O,O,O,O,O,O,O,O,O,O,O,O,O,O,O,O,O,O,O,O,O,O,O,O,O,O,O,O,O,O,O] ?_
         refine pu (i := 22) (N := some 33) #[I,I,I,I,I,I,I,I,I,I,I,I,I,I,I,I,I,I,I,I,I,I,I,O,O,O,O,O,O,O,O,O,O,O,O,O,O,O,O,O,O,O,O,O,O,O,O,O,O,O,O,O,O,O] ?_
         refine pu (i := 23) (N := some 34) #[I,I,I,I,I,I,I,I,I,I,I,I,I,I,I,I,I,I,I,I,I,I,I,I,O,O,O,O,O,O,O,O,O,O,O,O,O,O,O,O,O,O,O,O,O,O,O,O,O,O,O,O,O,O] ?_
         refine pu (i := 24) (N := some 35) #[I,I,I,I,I,I,I,I,I,I,I,I,I,I,I,I,I,I,I,I,I,I,I,I,I,O,O,O,O,O,O,O,O,O,O,O,O,O,O,O,O,O,O,O,O,O,O,O,O,O,O,O,O,O] ?_
         refine pu (i := 25) (N := some 36) #[I,I,I,I,I,I,I,I,I,I,I,I,I,I,I,I,I,I,I,I,I,I,I,I,I,I,O,O,O,O,O,O,O,O,O,O,O,O,O,O,O,O,O,O,O,O,O,O,O,O,O,O,O,O] ?_
         refine pu (i := 26) (N := some 37) #[I,I,I,I,I,I,I,I,I,I,I,I,I,I,I,I,I,I,I,I,I,I,I,I,I,I,I,O,O,O,O,O,O,O,O,O,O,O,O,O,O,O,O,O,O,O,O,O,O,O,O,O,O,O] ?_
         refine pu (i := 27) (N := some 38) #[I,I,I,I,I,I,I,I,I,I,I,I,I,I,I,I,I,I,I,I,I,I,I,I,I,I,I,I,O,O,O,O,O,O,O,O,O,O,O,O,O,O,O,O,O,O,O,O,O,O,O,O,O,O] ?_
         refine pu (i := 28) (N := some 39) #[I,I,I,I,I,I,I,I,I,I,I,I,I,I,I,I,I,I,I,I,I,I,I,I,I,I,I,I,I,O,O,O,O,O,O,O,O,O,O,O,O,O,O,O,O,O,O,O,O,O,O,O,O,O] ?_
         refine pu (i := 29) (N := some 40) #[I,I,I,I,I,I,I,I,I,I,I,I,I,I,I,I,I,I,I,I,I,I,I,I,I,I,I,I,I,I,O,O,O,O,O,O,O,O,O,O,O,O,O,O,O,O,O,O,O,O,O,O,O,O] ?_
         refine pu (i := 30) (N := some 41) #[I,I,I,I,I,I,I,I,I,I,I,I,I,I,I,I,I,I,I,I,I,I,I,I,I,I,I,I,I,I,I,O,O,O,O,O,O,O,O,O,O,O,O,O,O,O,O,O,O,O,O,O,O,O] ?_
         refine pu (i := 31) (N := some 42) #[I,I,I,I,I,I,I,I,I,I,I,I,I,I,I,I,I,I,I,I,I,I,I,I,I,I,I,I,I,I,I,I,O,O,O,O,O,O,O,O,O,O,O,O,O,O,O,O,O,O,O,O,O,O] ?_
         refine pu (i := 32) (N := some 43) #[I,I,I,I,I,I,I,I,I,I,I,I,I,I,I,I,I,I,I,I,I,I,I,I,I,I,I,I,I,I,I,I,I,O,O,O,O,O,O,O,O,O,O,O,O,O,O,O,O,O,O,O,O,O] ?_
         refine pu (i := 33) (N := some 44) #[I,I,I,I,I,I,I,I,I,I,I,I,I,I,I,I,I,I,I,I,I,I,I,I,I,I,I,I,I,I,I,I,I,I,O,O,O,O,O,O,O,O,O,O,O,O,O,O,O,O,O,O,O,O] ?_
         refine pu (i := 34) (N := some 45) #[I,I,I,I,I,I,I,I,I,I,I,I,I,I,I,I,I,I,I,I,I,I,I,I,I,I,I,I,I,I,I,I,I,I,I,O,O,O,O,O,O,O,O,O,O,O,O,O,O,O,O,O,O,O] ?_
         refine pu (i := 35) (N := some 46) #[I,I,I,I,I,I,I,I,I,I,I,I,I,I,I,I,I,I,I,I,I,I,I,I,I,I,I,I,I,I,I,I,I,I,I,I,O,O,O,O,O,O,O,O,O,O,O,O,O,O,O,O,O,O] ?_
         refine pu (i := 36) (N := some 47) #[I,I,I,I,I,I,I,I,I,I,I,I,I,I,I,I,I,I,I,I,I,I,I,I,I,I,I,I,I,I,I,I,I,I,I,I,I,O,O,O,O,O,O,O,O,O,O,O,O,O,O,O,O,O] ?_
         refine pu (i := 37) (N := some 48) #[I,I,I,I,I,I,I,I,I,I,I,I,I,I,I,I,I,I,I,I,I,I,I,I,I,I,I,I,I,I,I,I,I,I,I,I,I,I,O,O,O,O,O,O,O,O,O,O,O,O,O,O,O,O] ?_
         refine pu (i := 38) (N := some 49) #[I,I,I,I,I,I,I,I,I,I,I,I,I,I,I,I,I,I,I,I,I,I,I,I,I,I,I,I,I,I,I,I,I,I,I,I,I,I,I,O,O,O,O,O,O,O,O,O,O,O,O,O,O,O] ?_
         refine pu (i := 39) (N := some 50) #[I,I,I,I,I,I,I,I,I,I,I,I,I,I,I,I,I,I,I,I,I,I,I,I,I,I,I,I,I,I,I,I,I,I,I,I,I,I,I,I,O,O,O,O,O,O,O,O,O,O,O,O,O,O] ?_
         refine pu (i := 40) (N := some 51) #[I,I,I,I,I,I,I,I,I,I,I,I,I,I,I,I,I,I,I,I,I,I,I,I,I,I,I,I,I,I,I,I,I,I,I,I,I,I,I,I,I,O,O,O,O,O,O,O,O,O,O,O,O,O] ?_
         refine pu (i := 41) (N := some 52) #[I,I,I,I,I,I,I,I,I,I,I,I,I,I,I,I,I,I,I,I,I,I,I,I,I,I,I,I,I,I,I,I,I,I,I,I,I,I,I,I,I,I,O,O,O,O,O,O,O,O,O,O,O,O] ?_
         refine pu (i := 42) (N := some 53) #[I,I,I,I,I,I,I,I,I,I,I,I,I,I,I,I,I,I,I,I,I,I,I,I,I,I,I,I,I,I,I,I,I,I,I,I,I,I,I,I,I,I,I,O,O,O,O,O,O,O,O,O,O,O] ?_
         refine pu (i := 43) (N := some 54) #[I,I,I,I,I,I,I,I,I,I,I,I,I,I,I,I,I,I,I,I,I,I,I,I,I,I,I,I,I,I,I,I,I,I,I,I,I,I,I,I,I,I,I,I,O,O,O,O,O,O,O,O,O,O] ?_
         refine pu (i := 44) (N := some 55) #[I,I,I,I,I,I,I,I,I,I,I,I,I,I,I,I,I,I,I,I,I,I,I,I,I,I,I,I,I,I,I,I,I,I,I,I,I,I,I,I,I,I,I,I,I,O,O,O,O,O,O,O,O,O] ?_
         refine pu (i := 45) (N := some 56) #[I,I,I,I,I,I,I,I,I,I,I,I,I,I,I,I,I,I,I,I,I,I,I,I,I,I,I,I,I,I,I,I,I,I,I,I,I,I,I,I,I,I,I,I,I,I,O,O,O,O,O,O,O,O] ?_
         refine pu (i := 46) (N := some 57) #[I,I,I,I,I,I,I,I,I,I,I,I,I,I,I,I,I,I,I,I,I,I,I,I,I,I,I,I,I,I,I,I,I,I,I,I,I,I,I,I,I,I,I,I,I,I,I,O,O,O,O,O,O,O] ?_
         refine pu (i := 47) (N := some 58) #[I,I,I,I,I,I,I,I,I,I,I,I,I,I,I,I,I,I,I,I,I,I,I,I,I,I,I,I,I,I,I,I,I,I,I,I,I,I,I,I,I,I,I,I,I,I,I,I,O,O,O,O,O,O] ?_
         refine pu (i := 48) (N := some 59) #[I,I,I,I,I,I,I,I,I,I,I,I,I,I,I,I,I,I,I,I,I,I,I,I,I,I,I,I,I,I,I,I,I,I,I,I,I,I,I,I,I,I,I,I,I,I,I,I,I,O,O,O,O,O] ?_
         refine pu (i := 49) (N := some 60) #[I,I,I,I,I,I,I,I,I,I,I,I,I,I,I,I,I,I,I,I,I,I,I,I,I,I,I,I,I,I,I,I,I,I,I,I,I,I,I,I,I,I,I,I,I,I,I,I,I,I,O,O,O,O] ?_
         refine pu (i := 50) (N := some 61) #[I,I,I,I,I,I,I,I,I,I,I,I,I,I,I,I,I,I,I,I,I,I,I,I,I,I,I,I,I,I,I,I,I,I,I,I,I,I,I,I,I,I,I,I,I,I,I,I,I,I,I,O,O,O] ?_
         refine pu (i := 51) (N := some 62) #[I,I,I,I,I,I,I,I,I,I,I,I,I,I,I,I,I,I,I,I,I,I,I,I,I,I,I,I,I,I,I,I,I,I,I,I,I,I,I,I,I,I,I,I,I,I,I,I,I,I,I,I,O,O] ?_
         refine pu (i := 52) (N := some 63) #[I,I,I,I,I,I,I,I,I,I,I,I,I,I,I,I,I,I,I,I,I,I,I,I,I,I,I,I,I,I,I,I,I,I,I,I,I,I,I,I,I,I,I,I,I,I,I,I,I,I,I,I,I,O] ?_
         refine pz (i := 53) (N := some 64) #[I,I,I,I,I,I,I,I,I,I,I,I,I,I,I,I,I,I,I,I,I,I,I,I,I,I,I,I,I,I,I,I,I,I,I,I,I,I,I,I,I,I,I,I,I,I,I,I,I,I,I,I,I,I] ?_
         refine done_ (done_of HT_.out (by kernel_rfl)) ?_
         try go_wp2
         go_meet
         case rel => exact ⟨_, (true), ap, H', ⟨by have := HK1.out; have := HJ2.out; first | omega | exact Nat.le_refl _⟩, ⟨by (with_reducible repeat (first | refine blk_drewN ?_ _ | refine blk_drew ?_ | refine blk_alloc ?_ _)); exact BK383.out⟩, ⟨bo⟩⟩
       ·rw [if_neg c12] at H
        exact absurd H (by simp)
      ·rw [if_neg c11] at H
       exact absurd H (by simp)
     case rest =>
      clear HC10
      try clear c1
      try clear p2
      try clear p3
      try clear q3
      try clear hx3
      try clear c11
      try clear c12
      try clear c14
      try clear c17
      try clear hx385_0
      try clear hx385_1
      try clear hx385_2
      try clear hx385_3
      try clear hx385_4
      try clear hx385_5
      try clear p385
      try clear q385
      obtain ⟨kq, x64_9, rfl, HA, HJ9, BK383, HB⟩ := hcut
      cases kq with
      | zero => exact absurd HA.out (by simp [fairwayref10_Seg.j2])
      | succ kj9 =>
       have H := HA.out
       clear HA
       simp only [fairwayref10_Seg.j2] at H
       by_cases c31 : x64_9 = true
       ·subst c31
        have H1 : (some false) = some r := by rw [if_pos rfl] at H; exact H
        clear H
        have H := H1
        clear H1
        obtain rfl := Option.some.inj H
        go_wp2
        go_ret
        exact ⟨er, bo⟩
       ·replace c31 := Bool.eq_false_iff.mpr c31
        subst c31
        have H1 : (fairwayref10_Seg.l0 kj9 (wrap64 (x3_1 + 1)) a0_0 l0_1) = some r := by rw [if_neg (show ¬ (false = true) by decide)] at H; exact H
        clear H
        have H := H1
        clear H1
        have H' := Aside0.mk H
        clear H
        go_wp2
        go_roundg kj9
        case measure => have := HK1.out; have := HJ2.out; have := HJ9.out; omega
        case rel => exact ⟨(wrap64 (x3_1 + 1)), ap, H', ⟨by have := HK1.out; have := HJ2.out; have := HJ9.out; omega⟩, ⟨by (with_reducible repeat (first | refine blk_drewN ?_ _ | refine blk_drew ?_ | refine blk_alloc ?_ _)); exact BK383.out⟩, ⟨bo⟩⟩

end Go.Proofs.Ytmabdfdmccbfnaa.P

/- Segments: which may be: the program's answer and the page's are one. -/
namespace Go.Proofs.Ytmabdfdmccbfnaa.USeg
open Go Go.RowKit Go.Proofs.Ytmabdfdmccbfnaa.P Go.Proofs.Ytmabdfdmccbfnaa.URec Go.Proofs.YtmabdfdmccbfnaaW.PrintWords Go.Proofs.YtmabdfdmccbfnaaW.PrintLast
set_option linter.unusedVariables false
set_option linter.unusedSimpArgs false

/-- The record at a place may stand there. -/
def okAt (base : Int) (l : List R) (i : Nat) : Prop :=
  recOk (rd_T25 l i) ∧ base ≤ (rd_T25 l i).f0 ∧ (0 < i → (rd_T25 l (i - 1 : Nat)).f0 < (rd_T25 l i).f0 ∧ (rd_T25 l (i - 1 : Nat)).f1 ≤ (rd_T25 l i).f1)
/-- A segment that may be. -/
def segOk (base : Int) (l : List R) : Prop := 0 ≤ base ∧ base ≤ 1099511627776 ∧ l.length ≤ 200 ∧ ∀ i, i < l.length → okAt base l i

theorem segOk_rec {base : Int} {l : List R} (h : segOk base l) {i : Nat} (hi : i < l.length) : recOk (rd_T25 l i) := (h.2.2.2 i hi).1

theorem behind_yes (base : Int) (l : List R) (r : R) (h : recOk r) (hb : base ≤ r.f0) (hn : l.length < 200)
    (hp : 0 < l.length → (rd_T25 l (l.length - 1 : Nat)).f0 < r.f0 ∧ (rd_T25 l (l.length - 1 : Nat)).f1 ≤ r.f1) :
    Ev (fun k => seg_behind.f k base l r.f0 r.f1 r.f2 r.f3 r.f4 r.f5) true := by
  refine Ev.bind (check_yes r h) (Ev.congr (f := fun _ => some true) (fun k => ?_) (Ev.now _))
  rw [if_pos rfl, if_neg (by omega), if_neg (by omega)]
  by_cases h0 : (l.length : Int) = 0
  · rw [if_pos h0]
  · have hw : wrap64 ((l.length : Int) - 1) = ((l.length - 1 : Nat) : Int) := by rw [wrap_in (by omega) (by omega)]; omega
    obtain ⟨p0, p1⟩ := hp (by omega)
    rw [if_neg h0, hw, if_pos (by omega), if_pos (by omega), if_pos p0]
    simpa using p1
theorem behind_no (base : Int) (l : List R) (r : R) (hl : l.length ≤ 200) (h : ¬ (recOk r ∧ base ≤ r.f0 ∧ l.length < 200 ∧
    (0 < l.length → (rd_T25 l (l.length - 1 : Nat)).f0 < r.f0 ∧ (rd_T25 l (l.length - 1 : Nat)).f1 ≤ r.f1))) :
    Ev (fun k => seg_behind.f k base l r.f0 r.f1 r.f2 r.f3 r.f4 r.f5) false := by
  by_cases hr : recOk r
  · refine Ev.bind (check_yes r hr) (Ev.congr (f := fun _ => some false) (fun k => ?_) (Ev.now _))
    rw [if_pos rfl]
    by_cases hb : r.f0 < base
    · rw [if_pos hb]
    rw [if_neg hb]
    by_cases hn : (l.length : Int) ≥ 200
    · rw [if_pos hn]
    rw [if_neg hn]
    by_cases h0 : (l.length : Int) = 0
    · exact absurd ⟨hr, by omega, by omega, fun g => by omega⟩ h
    have hw : wrap64 ((l.length : Int) - 1) = ((l.length - 1 : Nat) : Int) := by rw [wrap_in (by omega) (by omega)]; omega
    rw [if_neg h0, hw, if_pos (by omega), if_pos (by omega)]
    by_cases p0 : (rd_T25 l (l.length - 1 : Nat)).f0 < r.f0
    · rw [if_pos p0]
      by_cases p1 : (rd_T25 l (l.length - 1 : Nat)).f1 ≤ r.f1
      · exact absurd ⟨hr, by omega, by omega, fun g => ⟨p0, p1⟩⟩ h
      · simpa using p1
    · rw [if_neg p0]
  · refine Ev.bind (check_no r hr) (Ev.congr (f := fun _ => some false) (fun k => ?_) (Ev.now _))
    rw [if_neg (by decide)]

theorem take_last (l : List R) (i : Nat) (h : i ≤ l.length) (h0 : 0 < i) : rd_T25 (l.take i) ((l.take i).length - 1 : Nat) = rd_T25 l (i - 1 : Nat) := by
  rw [List.length_take, Nat.min_eq_left h]
  exact rd_take l i (i - 1) (by omega)

theorem check_loop_yes (base : Int) (l : List R) (hl : l.length ≤ 200) (hok : ∀ i, i < l.length → okAt base l i) : ∀ (d i : Nat), l.length = i + d →
    Ev (fun k => seg_Check.l0 k l (l.length : Int) i base l) 0
  | 0, i, h => by
    refine Ev.step (f := fun _ => some 0) (fun k => ?_) (Ev.now _)
    simp only [seg_Check.l0]
    rw [if_neg (by omega)]
  | d + 1, i, h => by
    have hi : i < l.length := by omega
    obtain ⟨h1, h2, h3⟩ := hok i hi
    refine Ev.step (f := fun k => (seg_behind.f k base (l.take i) ((rd_T25 l i).f0) ((rd_T25 l i).f1) ((rd_T25 l i).f2) ((rd_T25 l i).f3) ((rd_T25 l i).f4) ((rd_T25 l i).f5)).bind fun t => if t = true then seg_Check.l0 k l (l.length : Int) (wrap64 (i + 1)) base l else some 1) (fun k => ?_) ?_
    · simp only [seg_Check.l0]
      rw [if_pos (by omega), if_pos (by omega), if_pos (by omega), if_pos (by omega), Int.toNat_natCast]
    · refine Ev.bind (behind_yes base (l.take i) (rd_T25 l i) h1 h2 (by rw [List.length_take]; omega) (fun g => ?_)) (Ev.congr (fun k => if_pos rfl) ?_)
      · have hi0 : 0 < i := by rw [List.length_take] at g; omega
        rw [take_last l i (by omega) hi0]
        exact h3 hi0
      · rw [wrap_in (by omega) (by omega)]
        exact check_loop_yes base l hl hok d (i + 1) (by omega)
theorem check_loop_no (base : Int) (l : List R) (j : Nat) (hj : j < l.length) (hj2 : j ≤ 200) (hbad : ¬ (okAt base l j ∧ j < 200)) (hok : ∀ i, i < j → okAt base l i) : ∀ (d i : Nat), j = i + d →
    Ev (fun k => seg_Check.l0 k l (l.length : Int) i base l) 1
  | 0, i, h => by
    obtain rfl : j = i := by omega
    refine Ev.step (f := fun k => (seg_behind.f k base (l.take j) ((rd_T25 l j).f0) ((rd_T25 l j).f1) ((rd_T25 l j).f2) ((rd_T25 l j).f3) ((rd_T25 l j).f4) ((rd_T25 l j).f5)).bind fun t => if t = true then seg_Check.l0 k l (l.length : Int) (wrap64 (j + 1)) base l else some 1) (fun k => ?_) ?_
    · simp only [seg_Check.l0]
      rw [if_pos (by omega), if_pos (by omega), if_pos (by omega), if_pos (by omega), Int.toNat_natCast]
    · refine Ev.bind (behind_no base (l.take j) (rd_T25 l j) (by rw [List.length_take]; omega) (fun g => hbad ?_)) (Ev.congr (f := fun _ => some 1) (fun k => if_neg (by decide)) (Ev.now _))
      obtain ⟨g1, g2, g3, g4⟩ := g
      rw [List.length_take, Nat.min_eq_left (by omega)] at g3
      refine ⟨⟨g1, g2, fun h0 => ?_⟩, g3⟩
      have := g4 (by rw [List.length_take]; omega)
      rw [take_last l j (by omega) h0] at this
      exact this
  | d + 1, i, h => by
    have hi : i < l.length := by omega
    obtain ⟨h1, h2, h3⟩ := hok i (by omega)
    refine Ev.step (f := fun k => (seg_behind.f k base (l.take i) ((rd_T25 l i).f0) ((rd_T25 l i).f1) ((rd_T25 l i).f2) ((rd_T25 l i).f3) ((rd_T25 l i).f4) ((rd_T25 l i).f5)).bind fun t => if t = true then seg_Check.l0 k l (l.length : Int) (wrap64 (i + 1)) base l else some 1) (fun k => ?_) ?_
    · simp only [seg_Check.l0]
      rw [if_pos (by omega), if_pos (by omega), if_pos (by omega), if_pos (by omega), Int.toNat_natCast]
    · refine Ev.bind (behind_yes base (l.take i) (rd_T25 l i) h1 h2 (by rw [List.length_take]; omega) (fun g => ?_)) (Ev.congr (fun k => if_pos rfl) ?_)
      · have hi0 : 0 < i := by rw [List.length_take] at g; omega
        rw [take_last l i (by omega) hi0]
        exact h3 hi0
      · rw [wrap_in (by omega) (by omega)]
        exact check_loop_no base l j hj hj2 hbad hok d (i + 1) (by omega)

theorem least {p : Nat → Prop} : ∀ n, (∃ i, i < n ∧ ¬ p i) → ∃ j, j < n ∧ ¬ p j ∧ ∀ i, i < j → p i
  | 0, ⟨i, h, _⟩ => by omega
  | n + 1, ⟨i, h, hp⟩ => by
    by_cases e : ∃ i, i < n ∧ ¬ p i
    · obtain ⟨j, h1, h2, h3⟩ := least n e
      exact ⟨j, by omega, h2, h3⟩
    · have e' : ∀ i, i < n → p i := fun i hi => Classical.byContradiction fun hn => e ⟨i, hi, hn⟩
      have : i = n := by
        by_cases hin : i < n
        · exact absurd (e' i hin) hp
        · omega
      subst this
      exact ⟨i, by omega, hp, e'⟩

theorem segcheck_yes (base : Int) (l : List R) (h : segOk base l) : Ev (fun k => seg_Check.f k base l) 0 := by
  obtain ⟨h0, h1, h2, h3⟩ := h
  refine Ev.step (f := fun k => seg_Check.l0 k l (l.length : Int) 0 base l) (fun k => ?_) (check_loop_yes base l h2 h3 l.length 0 (by omega))
  simp only [seg_Check.f, seg_Check.j0]
  rw [if_neg (by omega), if_neg (by simp; omega)]
theorem segcheck_no (base : Int) (l : List R) (h : ¬ segOk base l) : Ev (fun k => seg_Check.f k base l) 1 := by
  by_cases h0 : base < 0
  · refine Ev.step (f := fun _ => some 1) (fun k => ?_) (Ev.now _)
    simp only [seg_Check.f, seg_Check.j0]
    rw [if_pos h0]; rfl
  by_cases h1 : base > 1099511627776
  · refine Ev.step (f := fun _ => some 1) (fun k => ?_) (Ev.now _)
    simp only [seg_Check.f, seg_Check.j0]
    rw [if_neg h0, if_pos (by simpa using h1)]
  have hb : ∃ i, i < l.length ∧ ¬ (okAt base l i ∧ i < 200) := by
    refine Classical.byContradiction fun hn => h ⟨by omega, by omega, ?_, ?_⟩
    · by_cases hl : l.length ≤ 200
      · exact hl
      · exact absurd ⟨200, by omega, fun g => by omega⟩ hn
    · intro i hi
      exact Classical.byContradiction fun hc => hn ⟨i, hi, fun g => hc g.1⟩
  obtain ⟨j, hj, hbad, hok⟩ := least l.length hb
  have hj2 : j ≤ 200 := by
    by_cases e : j ≤ 200
    · exact e
    · have := (hok 200 (by omega)).2
      omega
  refine Ev.step (f := fun k => seg_Check.l0 k l (l.length : Int) 0 base l) (fun k => ?_) (check_loop_no base l j hj hj2 hbad (fun i hi => (hok i hi).1) j 0 (by omega))
  simp only [seg_Check.f, seg_Check.j0]
  rw [if_neg (by omega), if_neg (by simp; omega)]

/-! ### the page's own -/
theorem j2_no (base : Int) (l : List R) (i : Int) : Ev (fun k => fairwayref10_Seg.j2 k i true base l) false := by
  refine Ev.step (f := fun _ => some false) (fun k => ?_) (Ev.now _)
  simp only [fairwayref10_Seg.j2]
  rw [if_pos trivial]
theorem ref_step (base : Int) (l : List R) (hm : l.length ≤ 9223372036854775806) (i : Nat) (hi : i < l.length) (h : okAt base l i) {r : Bool} (hr : Ev (fun k => fairwayref10_Seg.l0 k ((i + 1 : Nat) : Int) base l) r) :
    Ev (fun k => fairwayref10_Seg.l0 k i base l) r := by
  obtain ⟨h1, h2, h3⟩ := h
  refine Ev.step (f := fun k => fairwayref10_Seg.j1 k i base l) (fun k => ?_) ?_
  · simp only [fairwayref10_Seg.l0]
    rw [if_pos (by omega)]
  · refine Ev.step (f := fun k => fairwayref10_Seg.j2 k i false base l) (fun k => ?_) ?_
    · simp only [fairwayref10_Seg.j1]
      rw [if_pos (by omega), if_pos (by omega), rec_yes _ h1]
      simp only [Option.bind_some]
      rw [if_pos trivial, if_neg (by omega)]
      by_cases h0 : (i : Int) > 0
      · obtain ⟨p0, p1⟩ := h3 (by omega)
        have hw : wrap64 ((i : Int) - 1) = ((i - 1 : Nat) : Int) := by rw [wrap_in (by omega) (by omega)]; omega
        rw [if_pos h0, hw, if_pos (by omega), if_pos (by omega), if_neg (by omega), decide_eq_false (by omega)]
      · rw [if_neg h0]
    · refine Ev.step (f := fun k => fairwayref10_Seg.l0 k ((i + 1 : Nat) : Int) base l) (fun k => ?_) hr
      simp only [fairwayref10_Seg.j2]
      rw [if_neg (by decide), wrap_in (by omega) (by omega)]
      rfl
theorem ref_stop (base : Int) (l : List R) (hm : l.length ≤ 9223372036854775806) (i : Nat) (hi : i < l.length) (h : ¬ okAt base l i) : Ev (fun k => fairwayref10_Seg.l0 k i base l) false := by
  refine Ev.step (f := fun k => fairwayref10_Seg.j1 k i base l) (fun k => ?_) ?_
  · simp only [fairwayref10_Seg.l0]
    rw [if_pos (by omega)]
  · refine Ev.step (f := fun k => fairwayref10_Seg.j2 k i true base l) (fun k => ?_) (j2_no base l i)
    simp only [fairwayref10_Seg.j1]
    rw [if_pos (by omega), if_pos (by omega)]
    by_cases h1 : recOk (rd_T25 l i)
    · rw [rec_yes _ h1]
      simp only [Option.bind_some]
      rw [if_pos trivial]
      by_cases h2 : (rd_T25 l i).f0 < base
      · rw [if_pos h2]
      rw [if_neg h2]
      by_cases h0 : (i : Int) > 0
      · have hw : wrap64 ((i : Int) - 1) = ((i - 1 : Nat) : Int) := by rw [wrap_in (by omega) (by omega)]; omega
        rw [if_pos h0, hw, if_pos (by omega), if_pos (by omega)]
        by_cases p0 : (rd_T25 l (i - 1 : Nat)).f0 ≥ (rd_T25 l i).f0
        · rw [if_pos p0]
        · rw [if_neg p0]
          by_cases p1 : (rd_T25 l (i - 1 : Nat)).f1 > (rd_T25 l i).f1
          · rw [decide_eq_true p1]
          · exact absurd ⟨h1, by omega, fun _ => ⟨by omega, by omega⟩⟩ h
      · exact absurd ⟨h1, by omega, fun g => by omega⟩ h
    · rw [rec_no _ h1]
      simp only [Option.bind_some]
      rw [if_neg (by decide)]
theorem ref_loop (base : Int) (l : List R) (hm : l.length ≤ 9223372036854775806) (n : Nat) (hn : n ≤ l.length) (hok : ∀ i, i < n → okAt base l i) {r : Bool} (hr : Ev (fun k => fairwayref10_Seg.l0 k n base l) r) : ∀ (d i : Nat), n = i + d →
    Ev (fun k => fairwayref10_Seg.l0 k i base l) r
  | 0, i, h => by
    obtain rfl : n = i := by omega
    exact hr
  | d + 1, i, h => ref_step base l hm i (by omega) (hok i (by omega)) (ref_loop base l hm n hn hok hr d (i + 1) (by omega))
theorem ref_end (base : Int) (l : List R) : Ev (fun k => fairwayref10_Seg.l0 k l.length base l) (decide (0 ≤ base ∧ base ≤ 1099511627776) && decide (l.length ≤ 200)) := by
  refine Ev.step (f := fun _ => some _) (fun k => ?_) (Ev.now _)
  simp only [fairwayref10_Seg.l0]
  rw [if_neg (by omega), num_f]
  simp only [Option.bind_some]
  by_cases h : 0 ≤ base ∧ base ≤ 1099511627776
  · rw [if_pos (by simpa using h), decide_eq_true h]
    simp only [Bool.true_and, Option.some.injEq, decide_eq_decide]
    omega
  · rw [if_neg (by simpa using h), decide_eq_false h]
    rfl
theorem refseg_yes (base : Int) (l : List R) (h : segOk base l) : Ev (fun k => fairwayref10_Seg.f k base l) true := by
  obtain ⟨h0, h1, h2, h3⟩ := h
  have e := ref_end base l
  rw [decide_eq_true ⟨h0, h1⟩, decide_eq_true h2] at e
  exact ref_loop base l (by omega) l.length (Nat.le_refl _) h3 e l.length 0 (by omega)
theorem refseg_no (base : Int) (l : List R) (hm : l.length ≤ 9223372036854775806) (h : ¬ segOk base l) : Ev (fun k => fairwayref10_Seg.f k base l) false := by
  by_cases e : ∃ i, i < l.length ∧ ¬ okAt base l i
  · obtain ⟨j, hj, hbad, hok⟩ := least l.length e
    exact ref_loop base l hm j (by omega) hok (ref_stop base l hm j hj hbad) j 0 (by omega)
  · have e' : ∀ i, i < l.length → okAt base l i := fun i hi => Classical.byContradiction fun hn => e ⟨i, hi, hn⟩
    have z := ref_end base l
    have : (decide (0 ≤ base ∧ base ≤ 1099511627776) && decide (l.length ≤ 200)) = false := by
      rw [Bool.and_eq_false_iff]
      by_cases hb : 0 ≤ base ∧ base ≤ 1099511627776
      · right
        exact decide_eq_false fun hl => h ⟨hb.1, hb.2, hl, e'⟩
      · left
        exact decide_eq_false hb
    rw [this] at z
    exact ref_loop base l hm l.length (Nat.le_refl _) e' z l.length 0 (by omega)
end Go.Proofs.Ytmabdfdmccbfnaa.USeg

/- Segments with one record more; records copied; the segment that records begin with: the program's and the page's. -/
namespace Go.Proofs.Ytmabdfdmccbfnaa.UWith
open Go Go.RowKit Go.Proofs.Ytmabdfdmccbfnaa.P Go.Proofs.Ytmabdfdmccbfnaa.URec Go.Proofs.Ytmabdfdmccbfnaa.USeg Go.Proofs.YtmabdfdmccbfnaaW.PrintWords Go.Proofs.YtmabdfdmccbfnaaW.PrintLast
set_option linter.unusedVariables false
set_option linter.unusedSimpArgs false

theorem take_snoc (l : List R) (i : Nat) (hi : i < l.length) : l.take (i + 1) = l.take i ++ [rd_T25 l i] := by
  rw [rd_get hi]; exact List.take_succ_eq_append_getElem hi
theorem copyrecs_loop (l : List R) (hm : l.length < 2199023255552) : ∀ (d i : Nat), l.length = i + d → Ev (fun k => fairwayref0_CopyRecs.l0 k l (l.take i) i) l
  | 0, i, h => by
    refine Ev.step (fun k => by rw [fairwayref0_CopyRecs.l0, if_neg (by omega), List.take_of_length_le (by omega)]) (Ev.now _)
  | d + 1, i, h => by
    have ih := copyrecs_loop l hm d (i + 1) (by omega)
    have hw : wrap64 ((i : Int) + 1) = ((i + 1 : Nat) : Int) := by rw [wrap_in (by omega) (by omega)]; omega
    rw [take_snoc l i (by omega)] at ih
    exact Ev.step (fun k => by rw [fairwayref0_CopyRecs.l0, if_pos (by omega), if_pos (by omega), if_pos (by rw [List.length_take]; omega), hw]) ih
theorem copyrecs_ev (l : List R) (hm : l.length < 2199023255552) : Ev (fun k => fairwayref0_CopyRecs.f k l) l := copyrecs_loop l hm l.length 0 (by omega)
theorem copyseg_ev (b : Int) (l : List R) (hm : l.length < 2199023255552) : Ev (fun k => fairwayref0_CopySeg.f k b l) (b, l) := Ev.bind (copyrecs_ev l hm) (Ev.now _)
theorem with_ev (b : Int) (l : List R) (r : R) (hm : l.length < 2199023255552) : Ev (fun k => fairwayref10_With.f k b l r.f0 r.f1 r.f2 r.f3 r.f4 r.f5) (b, l ++ [r]) :=
  Ev.bind (copyseg_ev b l hm) (Ev.congr (fun k => if_pos hm) (Ev.now _))

theorem rd_left (l m : List R) (i : Nat) (h : i < l.length) : rd_T25 (l ++ m) i = rd_T25 l i := by
  rw [rd_get h, rd_get (by rw [List.length_append]; omega), List.getElem_append_left h]
theorem rd_last (l : List R) (r : R) : rd_T25 (l ++ [r]) (l.length : Nat) = r := by
  rw [rd_get (by simp)]; simp
theorem okAt_left (b : Int) (l m : List R) (i : Nat) (h : i < l.length) : okAt b (l ++ m) i ↔ okAt b l i := by
  unfold okAt
  rw [rd_left l m i h, rd_left l m (i - 1) (by omega)]
/-- What may stand behind records. -/
def canAdd (b : Int) (l : List R) (r : R) : Prop := recOk r ∧ b ≤ r.f0 ∧ l.length < 200 ∧ (0 < l.length → (rd_T25 l (l.length - 1 : Nat)).f0 < r.f0 ∧ (rd_T25 l (l.length - 1 : Nat)).f1 ≤ r.f1)
theorem segOk_snoc (b : Int) (l : List R) (r : R) : segOk b (l ++ [r]) ↔ segOk b l ∧ canAdd b l r := by
  constructor
  · rintro ⟨h0, h1, h2, h3⟩
    have hl : l.length < 200 := by rw [List.length_append] at h2; simp at h2; omega
    refine ⟨⟨h0, h1, by omega, fun i hi => (okAt_left b l [r] i hi).1 (h3 i (by rw [List.length_append]; omega))⟩, ?_⟩
    obtain ⟨a1, a2, a3⟩ := h3 l.length (by rw [List.length_append]; simp)
    rw [rd_last] at a1 a2 a3
    refine ⟨a1, a2, hl, fun hp => ?_⟩
    rw [rd_left l [r] (l.length - 1) (by omega)] at a3
    exact a3 hp
  · rintro ⟨⟨h0, h1, h2, h3⟩, a1, a2, a3, a4⟩
    refine ⟨h0, h1, by rw [List.length_append]; simp; omega, fun i hi => ?_⟩
    by_cases hil : i < l.length
    · exact (okAt_left b l [r] i hil).2 (h3 i hil)
    · have : i = l.length := by rw [List.length_append] at hi; simp at hi; omega
      subst this
      refine ⟨by rw [rd_last]; exact a1, by rw [rd_last]; exact a2, fun hp => ?_⟩
      rw [rd_last, rd_left l [r] (l.length - 1) (by omega)]
      exact a4 hp
theorem segOk_nil (b : Int) (h0 : 0 ≤ b) (h1 : b ≤ 1099511627776) : segOk b [] := ⟨h0, h1, by simp, fun i hi => by simp at hi⟩
theorem segOk_take (b : Int) (l : List R) (h : segOk b l) (n : Nat) : segOk b (l.take n) := by
  refine ⟨h.1, h.2.1, by have := h.2.2.1; rw [List.length_take]; omega, fun i hi => ?_⟩
  rw [List.length_take] at hi
  have := h.2.2.2 i (by omega)
  rw [← List.take_append_drop n l] at this
  exact (okAt_left b (l.take n) (l.drop n) i (by rw [List.length_take]; omega)).1 this
theorem recLen_in (r : R) (h : recOk r) : recLen r ≤ 3000 := by obtain ⟨_, _, _, _, h4, h5, _⟩ := h; unfold recLen; omega
end Go.Proofs.Ytmabdfdmccbfnaa.UWith

/- A segment's bytes, and how many: the program's and the page's. -/
namespace Go.Proofs.Ytmabdfdmccbfnaa.UText
open Go Go.RowKit Go.Proofs.Ytmabdfdmccbfnaa.P Go.Proofs.Ytmabdfdmccbfnaa.URec Go.Proofs.Ytmabdfdmccbfnaa.USeg Go.Proofs.Ytmabdfdmccbfnaa.UBytes Go.Proofs.Ytmabdfdmccbfnaa.UWith Go.Proofs.YtmabdfdmccbfnaaW.PrintWords Go.Proofs.YtmabdfdmccbfnaaW.PrintLast
set_option linter.unusedVariables false
set_option linter.unusedSimpArgs false
/-- Records' bytes behind others. -/
def cat : ByteArray → List R → ByteArray
  | s, [] => s
  | s, r :: l => cat (s ++ recBytes r) l
def lens : List R → Nat
  | [] => 0
  | r :: l => recLen r + lens l
theorem cat_size : ∀ (l : List R) (s : ByteArray), (cat s l).size = s.size + lens l
  | [], s => rfl
  | r :: l, s => by rw [cat, cat_size l, lens, ByteArray.size_append, recBytes_size, Nat.add_assoc]
theorem lens_in (l : List R) (h : ∀ r ∈ l, recOk r) : lens l ≤ l.length * 3000 := by
  induction l with
  | nil => simp [lens]
  | cons r l ih =>
    have h1 := recLen_in r (h r (by simp))
    have h2 := ih (fun x hx => h x (by simp [hx]))
    simp only [lens, List.length_cons]; omega
theorem segOk_all {b : Int} {l : List R} (h : segOk b l) : ∀ r ∈ l, recOk r := by
  intro r hr
  obtain ⟨i, hi, rfl⟩ := List.mem_iff_getElem.1 hr
  have := segOk_rec h hi
  rwa [rd_get hi] at this
theorem drop_all {l : List R} (h : ∀ r ∈ l, recOk r) (i : Nat) : ∀ r ∈ l.drop i, recOk r := fun r hr => h r (List.mem_of_mem_drop hr)
theorem ar_t (a b n : Nat) (h : a + (b + n) ≤ 1000000000) : a + b + n ≤ 1000000000 ∧ a + b ≤ 9223372036854775807 ∧ a + b ≤ 140737488355328 ∧ wrap64 ((a : Int) + (b : Int)) = ((a + b : Nat) : Int) := by
  refine ⟨by omega, by omega, by omega, ?_⟩
  rw [wrap_in (by omega) (by omega)]; omega
theorem ar_i (n i : Nat) (hn : n ≤ 200) (hi : i < n) : wrap64 ((i : Int) + 1) = ((i + 1 : Nat) : Int) := by
  rw [wrap_in (by omega) (by omega)]; omega
theorem acc_ev : ∀ (l : List R) (s : ByteArray), (∀ r ∈ l, recOk r) → s.size + lens l ≤ 1000000000 → Ev (fun k => seg_Text.acc k l s) (cat s l)
  | [], s, _, _ => by
    simp only [seg_Text.acc, cat]
    exact Ev.now _
  | r :: l, s, h, hs => by
    simp only [seg_Text.acc, cat]
    obtain ⟨a1, a2, a3, a4⟩ := ar_t s.size (recLen r) (lens l) hs
    refine Ev.bind (bytes_yes r (h r (by simp))) (Ev.congr (fun k => if_pos ?_) (acc_ev l _ (fun x hx => h x (by simp [hx])) ?_))
    · rw [recBytes_size]; exact a3
    · rw [ByteArray.size_append, recBytes_size]; exact a1
theorem text_yes (b : Int) (l : List R) (h : segOk b l) (hs : lens l ≤ 1000000000) : Ev (fun k => seg_Text.f k b l) (cat ⟨#[]⟩ l, 0) :=
  Ev.bind (segcheck_yes b l h) (Ev.congr (fun k => if_pos rfl) (Ev.bind (acc_ev l ⟨#[]⟩ (segOk_all h) (by show 0 + lens l ≤ 1000000000; omega)) (Ev.now _)))
theorem text_no (b : Int) (l : List R) (h : ¬ segOk b l) : Ev (fun k => seg_Text.f k b l) (⟨#[]⟩, 1) :=
  Ev.bind (segcheck_no b l h) (Ev.congr (fun k => if_neg (by decide)) (Ev.now _))
theorem reftext_loop (b : Int) (l : List R) (hl : l.length ≤ 200) (hall : ∀ r ∈ l, recOk r) : ∀ (d i : Nat) (s : ByteArray), l.length = i + d → s.size + lens (l.drop i) ≤ 1000000000 → Ev (fun k => fairwayref10_Text.l0 k s i b l) (cat s (l.drop i))
  | 0, i, s, h, hs => by
    rw [List.drop_eq_nil_of_le (by omega), cat]
    exact Ev.step (fun k => by rw [fairwayref10_Text.l0, if_neg (by omega)]) (Ev.now _)
  | d + 1, i, s, h, hs => by
    have hi : i < l.length := by omega
    have hw := ar_i l.length i hl hi
    have hd : l.drop i = rd_T25 l i :: l.drop (i + 1) := by rw [rd_get hi]; exact List.drop_eq_getElem_cons hi
    rw [hd] at hs ⊢
    rw [lens] at hs
    rw [cat]
    obtain ⟨a1, a2, a3, a4⟩ := ar_t s.size (recLen (rd_T25 l i)) (lens (l.drop (i + 1))) hs
    have hr : recOk (rd_T25 l i) := hall _ (rd_mem hi)
    have p1 : (i : Int) < (l.length : Int) := by omega
    have p2 : 0 ≤ (i : Int) := by omega
    refine Ev.step (fun k => by rw [fairwayref10_Text.l0, if_pos p1, if_pos p2]) (Ev.bind (refbytes_ev _ hr) (Ev.congr (fun k => by rw [if_pos (by rw [recBytes_size]; exact a2), hw]) (reftext_loop b l hl hall d (i + 1) _ (by omega) ?_)))
    rw [ByteArray.size_append, recBytes_size]; exact a1
theorem reftext_ev (b : Int) (l : List R) (h : segOk b l) (hs : lens l ≤ 1000000000) : Ev (fun k => fairwayref10_Text.f k b l) (cat ⟨#[]⟩ l) :=
  reftext_loop b l h.2.2.1 (segOk_all h) l.length 0 ⟨#[]⟩ (by omega) (by show 0 + lens l ≤ 1000000000; omega)
theorem size_loop (l : List R) (hl : l.length ≤ 200) (hall : ∀ r ∈ l, recOk r) : ∀ (d i n : Nat), l.length = i + d → n + lens (l.drop i) ≤ 1000000000 → Ev (fun k => seg_Size.l0 k n l (l.length : Int) i) (((n + lens (l.drop i) : Nat) : Int), 0)
  | 0, i, n, h, hs => by
    rw [List.drop_eq_nil_of_le (by omega), lens, Nat.add_zero]
    exact Ev.step (fun k => by rw [seg_Size.l0, if_neg (by omega)]) (Ev.now _)
  | d + 1, i, n, h, hs => by
    have hi : i < l.length := by omega
    have hw := ar_i l.length i hl hi
    have hd : l.drop i = rd_T25 l i :: l.drop (i + 1) := by rw [rd_get hi]; exact List.drop_eq_getElem_cons hi
    rw [hd, lens] at hs ⊢
    obtain ⟨a1, a2, a3, a4⟩ := ar_t n (recLen (rd_T25 l i)) (lens (l.drop (i + 1))) hs
    have hr : recOk (rd_T25 l i) := hall _ (rd_mem hi)
    have p1 : (i : Int) < (l.length : Int) := by omega
    have p2 : 0 ≤ (i : Int) := by omega
    have ih := size_loop l hl hall d (i + 1) (n + recLen (rd_T25 l i)) (by omega) a1
    rw [Nat.add_assoc] at ih
    exact Ev.step (fun k => by rw [seg_Size.l0, if_pos p1, if_pos p2, if_pos p1]) (Ev.bind (size_yes _ hr) (Ev.congr (fun k => by rw [hw, a4]) ih))
theorem segsize_yes (b : Int) (l : List R) (h : segOk b l) (hs : lens l ≤ 1000000000) : Ev (fun k => seg_Size.f k b l) (((lens l : Nat) : Int), 0) := by
  have := size_loop l h.2.2.1 (segOk_all h) l.length 0 0 (by omega) (by simpa using hs)
  rw [Nat.zero_add] at this
  exact Ev.bind (segcheck_yes b l h) (Ev.congr (fun k => if_pos rfl) this)
theorem segsize_no (b : Int) (l : List R) (h : ¬ segOk b l) : Ev (fun k => seg_Size.f k b l) (0, 1) :=
  Ev.bind (segcheck_no b l h) (Ev.congr (fun k => if_neg (by decide)) (Ev.now _))
theorem lens_ok {b : Int} {l : List R} (h : segOk b l) : lens l ≤ 1000000000 := by
  have h1 := lens_in l (segOk_all h)
  have h2 := h.2.2.1
  generalize lens l = a at *
  generalize l.length = c at *
  omega
end Go.Proofs.Ytmabdfdmccbfnaa.UText

/- Records as bytes, cut off anywhere: those that are whole are read back. -/
namespace Go.Proofs.Ytmabdfdmccbfnaa.UCut
open Go Go.RowKit Go.Proofs.Ytmabdfdmccbfnaa.P Go.Proofs.Ytmabdfdmccbfnaa.URec Go.Proofs.Ytmabdfdmccbfnaa.UBytes Go.Proofs.Ytmabdfdmccbfnaa.USum Go.Proofs.Ytmabdfdmccbfnaa.UTake Go.Proofs.Ytmabdfdmccbfnaa.UTk Go.Proofs.Ytmabdfdmccbfnaa.UBack Go.Proofs.Ytmabdfdmccbfnaa.UWith Go.Proofs.Ytmabdfdmccbfnaa.UText Go.Proofs.YtmabdfdmccbfnaaW.PrintWords Go.Proofs.YtmabdfdmccbfnaaW.PrintLast
set_option linter.unusedVariables false
set_option linter.unusedSimpArgs false

theorem tl_ext (s : ByteArray) (a b : Nat) : (s.extract a b).data.toList = (s.data.toList.drop a).take (b - a) := by
  simp only [ByteArray.data_extract, Array.toList_extract, List.extract_eq_take_drop]
theorem tl_app (a b : ByteArray) : (a ++ b).data.toList = a.data.toList ++ b.data.toList := by simp [ByteArray.data_append]
theorem tl_len (a : ByteArray) : a.data.toList.length = a.size := by rw [Array.length_toList]; rfl
theorem tl_eq {a b : ByteArray} (h : a.data.toList = b.data.toList) : a = b := ByteArray.ext (Array.ext' h)
theorem ext_ext (x : ByteArray) (a n m : Nat) (hm : (x.extract a x.size).size = m) : x.extract (a + n) x.size = (x.extract a x.size).extract n m := by
  refine tl_eq ?_
  have e : m = x.size - a := by
    have h1 := tl_len (x.extract a x.size)
    rw [tl_ext, List.length_take, List.length_drop, tl_len, hm] at h1
    rw [← h1]; exact Nat.min_self _
  rw [tl_ext, tl_ext, tl_ext, List.drop_take, List.drop_drop, List.take_take, e]
  congr 1
  generalize x.size = z
  omega
theorem pre_left (A T : ByteArray) (m : Nat) (h : A.size ≤ m) : (A ++ T).extract 0 m = A ++ T.extract 0 (m - A.size) := by
  refine tl_eq ?_
  rw [tl_ext, tl_app, tl_app, tl_ext, List.drop_zero, List.drop_zero, Nat.sub_zero, Nat.sub_zero, List.take_append, tl_len, List.take_of_length_le (by rw [tl_len]; exact h)]
theorem ext_right (A T : ByteArray) (n : Nat) (hn : n = A.size + T.size) : (A ++ T).extract A.size n = T := by
  refine tl_eq ?_
  have e : n - A.size = T.size := by rw [hn, Nat.add_sub_cancel_left]
  rw [tl_ext, tl_app, e, List.drop_append, tl_len, Nat.sub_self, List.drop_zero, List.drop_of_length_le (by rw [tl_len]; exact Nat.le_refl _), List.nil_append, List.take_of_length_le (by rw [tl_len]; exact Nat.le_refl _)]
theorem V_same (s t : ByteArray) : ∀ n, (∀ i : Nat, i < n → bt s i = bt t i) → V s n = V t n
  | 0, _ => rfl
  | n + 1, h => by
    simp only [V]
    rw [V_same s t n (fun i hi => h i (Nat.lt_succ_of_lt hi)), h n (Nat.lt_succ_self n)]
theorem V_pre (A T : ByteArray) (m : Nat) (hA : 2 ≤ A.size) (hm : 2 ≤ m) (hmt : m ≤ (A ++ T).size) : V ((A ++ T).extract 0 m) 2 = V A 2 := by
  refine V_same _ _ 2 (fun i hi => ?_)
  have := bt_ext (A ++ T) 0 m i hmt (by rw [Nat.zero_add]; exact Nat.lt_of_lt_of_le hi hm)
  rw [Nat.zero_add] at this
  rw [this, bt_left A T i (Nat.lt_of_lt_of_le hi hA)]
theorem V_rec (r : R) (hr : recOk r) : V (recBytes r) 2 = (bodyOf r).size := by
  obtain ⟨h0, h1, h2, h3, h4, h5, h6, h7, h8⟩ := hr
  have hb := bodyOf_size r
  have e : recBytes r = headOf r ++ (fixed (sumOf (headOf r) (bodyOf r)) 4 ++ bodyOf r) := by simp only [recBytes, ByteArray.append_assoc]
  have hs : (bodyOf r).size < 256 ^ 2 := by rw [hb]; omega
  rw [e, V_left _ _ 2 (by rw [show (headOf r).size = 2 from fixed_size _ _]; exact Nat.le_refl _)]
  exact V_fixed _ 2 hs
theorem cat_app : ∀ (l : List R) (s : ByteArray), cat s l = s ++ cat ⟨#[]⟩ l
  | [], s => by
    simp only [cat]
    exact (ByteArray.append_empty).symm
  | r :: l, s => by
    have e : (⟨#[]⟩ : ByteArray) ++ recBytes r = recBytes r := ByteArray.empty_append
    simp only [cat]
    rw [cat_app l (s ++ recBytes r), e, cat_app l (recBytes r), ByteArray.append_assoc]
theorem cat_cons (r : R) (l : List R) : cat ⟨#[]⟩ (r :: l) = recBytes r ++ cat ⟨#[]⟩ l := by
  have e : (⟨#[]⟩ : ByteArray) ++ recBytes r = recBytes r := ByteArray.empty_append
  simp only [cat]
  rw [e, cat_app]
theorem cat0_size (l : List R) : (cat ⟨#[]⟩ l).size = lens l := by rw [cat_size]; show 0 + lens l = lens l; rw [Nat.zero_add]
attribute [local irreducible] bt V ByteArray.extract keyLen rcOf bodyAt sumAt takeOk cat recBytes
theorem ar1 (a m z n c : Nat) (h : a + m = z) (hz : z ≤ 1000000) (hm : 0 < m) (hn : n ≤ m) (hc : c ≤ 10000) : (a : Int) < (z : Int) ∧ 0 ≤ (a : Int) ∧ (a : Int) ≤ (z : Int) ∧ wrap64 ((a : Int) + (n : Int)) = ((a + n : Nat) : Int) ∧ c < 2199023255552 ∧ a + n + (m - n) = z ∧ z - a = m := by
  refine ⟨by omega, by omega, by omega, ?_, by omega, by omega, by omega⟩
  rw [wrap_in (by omega) (by omega)]; omega
/-- What stands in records' bytes, cut off anywhere. -/
theorem scan_pre (x : ByteArray) (hx : x.size ≤ 1000000) : ∀ (l : List R), (∀ r ∈ l, recOk r) → ∀ (acc : List R) (a m : Nat), a + m = x.size → x.extract a x.size = (cat ⟨#[]⟩ l).extract 0 m → m ≤ lens l → acc.length + l.length ≤ 10000 →
    ∃ (j : Nat) (all : Bool), j ≤ l.length ∧ lens (l.take j) ≤ m ∧ (m = lens l → j = l.length) ∧ (j < l.length → m < lens (l.take (j + 1))) ∧ (all = true ↔ lens (l.take j) = m) ∧
      Ev (fun k => rec_Scan.l0 k x acc a) (acc ++ l.take j, ((a + lens (l.take j) : Nat) : Int), all)
  | [], _, acc, a, m, ham, hex, hm, hc => by
    simp only [lens] at hm
    have e : ¬ (a : Int) < (x.size : Int) := by generalize x.size = z at *; omega
    refine ⟨0, true, Nat.le_refl _, Nat.zero_le _, fun _ => rfl, fun h => absurd h (Nat.not_lt_zero _), ⟨fun _ => ?_, fun _ => rfl⟩, ?_⟩
    · simp only [List.take_nil, lens]; omega
    · simp only [List.take_nil, List.append_nil, lens, Nat.add_zero]
      exact Ev.step (fun k => by rw [rec_Scan.l0, if_neg e]) (Ev.now _)
  | r :: l, hall, acc, a, m, ham, hex, hm, hc => by
    have hr := hall r (by simp)
    have hlen : 25 ≤ recLen r := by unfold recLen; omega
    rw [List.length_cons] at hc
    have stay : ∀ b : Bool, (b = true ↔ m = 0) → m < recLen r → Ev (fun k => rec_Scan.l0 k x acc a) (acc, (a : Int), b) →
        ∃ (j : Nat) (all : Bool), j ≤ (r :: l).length ∧ lens ((r :: l).take j) ≤ m ∧ (m = lens (r :: l) → j = (r :: l).length) ∧ (j < (r :: l).length → m < lens ((r :: l).take (j + 1))) ∧ (all = true ↔ lens ((r :: l).take j) = m) ∧
        Ev (fun k => rec_Scan.l0 k x acc a) (acc ++ (r :: l).take j, ((a + lens ((r :: l).take j) : Nat) : Int), all) := by
      intro b hb hlt h
      refine ⟨0, b, Nat.zero_le _, by simp only [List.take_zero, lens]; exact Nat.zero_le _, fun e => ?_, fun _ => ?_, ?_, ?_⟩
      · simp only [lens] at e; omega
      · simp only [Nat.zero_add, List.take_succ_cons, List.take_zero, lens]; omega
      · simp only [List.take_zero, lens]; exact hb.trans ⟨fun e => e.symm, fun e => e.symm⟩
      · simp only [List.take_zero, List.append_nil, lens, Nat.add_zero]; exact h
    by_cases h0 : m = 0
    · refine stay true ⟨fun _ => h0, fun _ => rfl⟩ (by omega) ?_
      have e : ¬ (a : Int) < (x.size : Int) := by generalize x.size = z at *; omega
      exact Ev.step (fun k => by rw [rec_Scan.l0, if_neg e]) (Ev.now _)
    have hT : (cat ⟨#[]⟩ l).size = lens l := cat0_size l
    have hR : (recBytes r).size = recLen r := recBytes_size r
    have hsz : (x.extract a x.size).size = m := by rw [ext_size x a (by generalize x.size = z at *; omega)]; generalize x.size = z at *; omega
    rw [cat_cons] at hex
    by_cases hw : recLen r ≤ m
    · obtain ⟨e1, e2, e3, e4, e5, e6, e7⟩ := ar1 a m x.size (recLen r) acc.length ham hx (Nat.pos_of_ne_zero h0) hw (by omega)
      have hy : x.extract a x.size = recBytes r ++ (cat ⟨#[]⟩ l).extract 0 (m - recLen r) := by rw [hex, pre_left _ _ _ (by rw [hR]; exact hw), hR]
      simp only [lens] at hm
      have hTs : ((cat ⟨#[]⟩ l).extract 0 (m - recLen r)).size = m - recLen r := by
        rw [ByteArray.size_extract, hT]
        generalize lens l = q at *
        omega
      have tb := take_back r hr ((cat ⟨#[]⟩ l).extract 0 (m - recLen r)) (by rw [hTs]; generalize x.size = z at *; omega)
      rw [← hy] at tb
      have hnext : x.extract (a + recLen r) x.size = (cat ⟨#[]⟩ l).extract 0 (m - recLen r) := by
        rw [ext_ext x a (recLen r) m hsz, hy, ← hR]
        exact ext_right _ _ _ (by rw [hR, hTs]; omega)
      obtain ⟨j, all, j1, j2, j3, j5, j6, j4⟩ := scan_pre x hx l (fun y hy => hall y (by simp [hy])) (acc ++ [r]) (a + recLen r) (m - recLen r) e6 hnext (by omega) (by rw [List.length_append, List.length_singleton]; omega)
      refine ⟨j + 1, all, by rw [List.length_cons]; omega, by rw [List.take_succ_cons, lens]; omega, fun e => ?_, fun h => ?_, ?_, ?_⟩
      · simp only [lens] at e
        rw [List.length_cons, j3 (by omega)]
      · rw [List.length_cons] at h
        have := j5 (by omega)
        rw [List.take_succ_cons, lens]; omega
      · rw [List.take_succ_cons, lens]
        exact j6.trans ⟨fun e => by omega, fun e => by omega⟩
      · have ea : acc ++ (r :: l).take (j + 1) = acc ++ [r] ++ l.take j := by rw [List.take_succ_cons, List.append_assoc, List.singleton_append]
        have eb : a + lens ((r :: l).take (j + 1)) = a + recLen r + lens (l.take j) := by rw [List.take_succ_cons, lens, Nat.add_assoc]
        rw [ea, eb]
        refine Ev.step (fun k => by rw [rec_Scan.l0, if_pos e1, if_pos e2, if_pos e3, Int.toNat_natCast]) (Ev.bind tb ?_)
        exact Ev.congr (fun k => by rw [if_pos rfl, if_pos e5, e4]) j4
    · obtain ⟨e1, e2, e3, e4, e5, e6, e7⟩ := ar1 a m x.size 0 acc.length ham hx (Nat.pos_of_ne_zero h0) (Nat.zero_le _) (by omega)
      refine stay false ⟨fun e => absurd e Bool.false_ne_true, fun e => absurd e h0⟩ (Nat.lt_of_not_le hw) ?_
      have hcut : (x.extract a x.size).size < 6 ∨ (x.extract a x.size).size - 6 < V (x.extract a x.size) 2 := by
        rw [hsz]
        by_cases h6 : m < 6
        · exact Or.inl h6
        · right
          rw [hex, V_pre _ _ _ (by rw [hR]; omega) (by omega) (by rw [ByteArray.size_append, hR, hT]; omega), V_rec r hr, bodyOf_size]
          unfold recLen at hw
          omega
      have tc := (take_cut (x.extract a x.size) (by rw [hsz]; generalize x.size = z at *; omega) hcut).1
      exact Ev.step (fun k => by rw [rec_Scan.l0, if_pos e1, if_pos e2, if_pos e3, Int.toNat_natCast]) (Ev.bind tc (Ev.congr (fun k => if_neg (show ¬ (7 : Int) = 0 by decide)) (Ev.now _)))
theorem scan_cut (l : List R) (hall : ∀ r ∈ l, recOk r) (hl : l.length ≤ 10000) (n : Nat) (hn : n ≤ lens l) (hs : lens l ≤ 1000000) :
    ∃ (j : Nat) (all : Bool), j ≤ l.length ∧ lens (l.take j) ≤ n ∧ (n = lens l → j = l.length) ∧ (j < l.length → n < lens (l.take (j + 1))) ∧ (all = true ↔ lens (l.take j) = n) ∧ Ev (fun k => rec_Scan.f k ((cat ⟨#[]⟩ l).extract 0 n)) (l.take j, ((lens (l.take j) : Nat) : Int), all) := by
  have hsz : ((cat ⟨#[]⟩ l).extract 0 n).size = n := by
    rw [ByteArray.size_extract, cat0_size]
    generalize lens l = q at *
    omega
  obtain ⟨j, all, j1, j2, j3, j5, j6, j4⟩ := scan_pre ((cat ⟨#[]⟩ l).extract 0 n) (by rw [hsz]; omega) l hall [] 0 n (by rw [hsz]; omega) (by
    refine tl_eq ?_
    rw [tl_ext, List.drop_zero, List.take_of_length_le (by rw [tl_len]; omega)]) hn (by simp only [List.length_nil]; omega)
  rw [List.nil_append, Nat.zero_add] at j4
  exact ⟨j, all, j1, j2, j3, j5, j6, j4⟩
theorem lens_app : ∀ (a b : List R), lens (a ++ b) = lens a + lens b
  | [], b => by simp [lens]
  | r :: a, b => by simp only [List.cons_append, lens, lens_app a b, Nat.add_assoc]
end Go.Proofs.Ytmabdfdmccbfnaa.UCut

/- The check sum's step is linear and loses nothing: one byte that is another changes the sum, and a turned bit does whatever the byte behind it is. -/
namespace Go.Proofs.Ytmabdfdmccbfnaa.UFlip
open Go Go.RowKit Go.Proofs.Ytmabdfdmccbfnaa.USum
set_option linter.unusedVariables false
theorem and_xor (a b : BitVec 32) : (a ^^^ b) &&& 1#32 = (a &&& 1#32) ^^^ (b &&& 1#32) := by
  apply BitVec.eq_of_getLsbD_eq
  intro i hi
  simp only [BitVec.getLsbD_and, BitVec.getLsbD_xor]
  cases a.getLsbD i <;> cases b.getLsbD i <;> cases (1#32).getLsbD i <;> rfl
theorem shr_xor (a b : BitVec 32) : (a ^^^ b) >>> 1 = (a >>> 1) ^^^ (b >>> 1) := by
  apply BitVec.eq_of_getLsbD_eq
  intro i hi
  simp only [BitVec.getLsbD_ushiftRight, BitVec.getLsbD_xor]
theorem x1 (a b c : BitVec 32) : (a ^^^ c) ^^^ b = (a ^^^ b) ^^^ c := by
  rw [BitVec.xor_assoc, BitVec.xor_comm c b, BitVec.xor_assoc]
theorem cstep_xor (a b : BitVec 32) : cstep (a ^^^ b) = cstep a ^^^ cstep b := by
  unfold cstep
  rw [and_xor, shr_xor]
  rcases low a with ha | ha <;> rcases low b with hb | hb <;> rw [ha, hb]
  · rw [if_neg (by decide), if_neg (by decide), if_neg (by decide)]
  · rw [if_pos (by decide), if_neg (by decide), if_pos rfl, BitVec.xor_assoc]
  · rw [if_pos (by decide), if_pos rfl, if_neg (by decide), x1]
  · rw [if_neg (by decide), if_pos rfl, if_pos rfl, x1, BitVec.xor_assoc, BitVec.xor_assoc, BitVec.xor_self, BitVec.xor_zero]
theorem shr0 (a : BitVec 32) (h : a >>> 1 = 0#32) (h0 : a &&& 1#32 = 0#32) : a = 0#32 := by
  have e1 : (a >>> 1).toNat = 0 := by rw [h]; rfl
  have e2 : (a &&& 1#32).toNat = 0 := by rw [h0]; rfl
  have : (a &&& 1#32).toNat = a.toNat % 2 := by simp [BitVec.toNat_and, Nat.and_one_is_mod]
  rw [BitVec.toNat_ushiftRight, Nat.shiftRight_eq_div_pow] at e1
  apply BitVec.eq_of_toNat_eq
  show a.toNat = 0
  omega
theorem cstep0 (a : BitVec 32) (h : cstep a = 0#32) : a = 0#32 := by
  unfold cstep at h
  rcases low a with ha | ha
  · rw [if_neg (by rw [ha]; decide)] at h
    exact shr0 a h ha
  · rw [if_pos ha] at h
    have hb := congrArg (fun z : BitVec 32 => z.getLsbD 31) h
    simp only [BitVec.getLsbD_xor, BitVec.getLsbD_ushiftRight] at hb
    rw [BitVec.getLsbD_of_ge a (1 + 31) (by decide)] at hb
    exact absurd hb (by decide)
theorem xor0 {a b : BitVec 32} (h : a ^^^ b = 0#32) : a = b := by
  have : (a ^^^ b) ^^^ b = 0#32 ^^^ b := by rw [h]
  rwa [BitVec.xor_assoc, BitVec.xor_self, BitVec.xor_zero, BitVec.zero_xor] at this
def c8 (s : BitVec 32) : BitVec 32 := cstep (cstep (cstep (cstep (cstep (cstep (cstep (cstep s)))))))
theorem c8_xor (a b : BitVec 32) : c8 (a ^^^ b) = c8 a ^^^ c8 b := by simp only [c8, cstep_xor]
theorem c80 (a : BitVec 32) (h : c8 a = 0#32) : a = 0#32 := cstep0 _ (cstep0 _ (cstep0 _ (cstep0 _ (cstep0 _ (cstep0 _ (cstep0 _ (cstep0 _ h)))))))
def by_ (b : UInt8) : BitVec 32 := BitVec.ofNat 32 b.toNat
theorem bstep_eq (s : BitVec 32) (b : UInt8) : bstep s b = c8 (s ^^^ by_ b) := rfl
theorem x4 (a b c d : BitVec 32) : (a ^^^ b) ^^^ (c ^^^ d) = (a ^^^ c) ^^^ (b ^^^ d) := by
  rw [BitVec.xor_assoc, BitVec.xor_assoc, ← BitVec.xor_assoc b c d, BitVec.xor_comm b c, BitVec.xor_assoc]
theorem bstep_dif (s s' : BitVec 32) (b b' : UInt8) : bstep s b ^^^ bstep s' b' = c8 ((s ^^^ s') ^^^ (by_ b ^^^ by_ b')) := by
  rw [bstep_eq, bstep_eq, ← c8_xor, x4]
theorem run_inj (l : List UInt8) : ∀ s s' : BitVec 32, run s l = run s' l → s = s' := by
  induction l with
  | nil => exact fun _ _ h => h
  | cons b l ih =>
    intro s s' h
    have h2 : bstep s b ^^^ bstep s' b = 0#32 := by rw [show bstep s b = bstep s' b from ih _ _ h, BitVec.xor_self]
    rw [bstep_dif, BitVec.xor_self, BitVec.xor_zero] at h2
    exact xor0 (c80 _ h2)
theorem run_append (s : BitVec 32) (a b : List UInt8) : run s (a ++ b) = run (run s a) b := List.foldl_append ..
/-- One byte that is another. -/
theorem run_one (s : BitVec 32) (a b : List UInt8) (x y : UInt8) (h : by_ x ≠ by_ y) : run s (a ++ x :: b) ≠ run s (a ++ y :: b) := by
  intro e
  rw [run_append, run_append] at e
  have e1 := run_inj b _ _ e
  have h2 : bstep (run s a) x ^^^ bstep (run s a) y = 0#32 := by rw [e1, BitVec.xor_self]
  rw [bstep_dif, BitVec.xor_self, BitVec.zero_xor] at h2
  exact h (xor0 (c80 _ h2))
/-- A turned bit, and the byte behind it. -/
theorem high : ∀ j : Fin 8, (c8 (1#32 <<< j.val)) >>> 8 ≠ 0#32 := by decide +kernel
theorem run_two (s : BitVec 32) (a b : List UInt8) (x y x' y' : UInt8) (j : Nat) (hj : j < 8) (h : by_ x ^^^ by_ x' = 1#32 <<< j) : run s (a ++ x :: y :: b) ≠ run s (a ++ x' :: y' :: b) := by
  intro e
  rw [run_append, run_append] at e
  have e1 : bstep (bstep (run s a) x) y = bstep (bstep (run s a) x') y' := run_inj b _ _ e
  have h2 : bstep (bstep (run s a) x) y ^^^ bstep (bstep (run s a) x') y' = 0#32 := by rw [e1, BitVec.xor_self]
  rw [bstep_dif, bstep_dif, BitVec.xor_self, BitVec.zero_xor, h] at h2
  have h3 := c80 _ h2
  have h4 : (c8 (1#32 <<< j) ^^^ (by_ y ^^^ by_ y')) >>> 8 = 0#32 >>> 8 := by rw [h3]
  have small : ∀ z : UInt8, by_ z >>> 8 = 0#32 := by
    intro z
    apply BitVec.eq_of_toNat_eq
    have := z.toNat_lt
    rw [BitVec.toNat_ushiftRight, Nat.shiftRight_eq_div_pow, by_, BitVec.toNat_ofNat]
    show z.toNat % 2 ^ 32 / 2 ^ 8 = 0
    omega
  have dist : ∀ p q : BitVec 32, (p ^^^ q) >>> 8 = (p >>> 8) ^^^ (q >>> 8) := by
    intro p q
    apply BitVec.eq_of_getLsbD_eq
    intro i hi
    simp only [BitVec.getLsbD_ushiftRight, BitVec.getLsbD_xor]
  rw [dist, dist, small, small, BitVec.xor_self, BitVec.xor_zero] at h4
  exact high ⟨j, hj⟩ h4
theorem by_inj {x y : UInt8} (h : by_ x = by_ y) : x = y := by
  have := congrArg BitVec.toNat h
  rw [by_, by_, BitVec.toNat_ofNat, BitVec.toNat_ofNat] at this
  have := x.toNat_lt; have := y.toNat_lt
  exact UInt8.toNat_inj.1 (by omega)
end Go.Proofs.Ytmabdfdmccbfnaa.UFlip

/- A record's bytes with one of them another, behind its length: they are no record. -/
namespace Go.Proofs.Ytmabdfdmccbfnaa.UTurn
open Go Go.RowKit Go.Proofs.Ytmabdfdmccbfnaa.P Go.Proofs.Ytmabdfdmccbfnaa.Sq Go.Proofs.Ytmabdfdmccbfnaa.URec Go.Proofs.Ytmabdfdmccbfnaa.UBytes Go.Proofs.Ytmabdfdmccbfnaa.USum Go.Proofs.Ytmabdfdmccbfnaa.UFlip Go.Proofs.Ytmabdfdmccbfnaa.UTake Go.Proofs.Ytmabdfdmccbfnaa.UTk Go.Proofs.Ytmabdfdmccbfnaa.UBack Go.Proofs.Ytmabdfdmccbfnaa.UCut Go.Proofs.YtmabdfdmccbfnaaW.PrintWords Go.Proofs.YtmabdfdmccbfnaaW.PrintLast
set_option linter.unusedVariables false
set_option linter.unusedSimpArgs false
theorem V_congr (s s' : ByteArray) : ∀ n, (∀ i : Nat, i < n → bt s i = bt s' i) → V s n = V s' n
  | 0, _ => rfl
  | n + 1, h => by
    have ih := V_congr s s' n (fun i hi => h i (Nat.lt_succ_of_lt hi))
    show V s n * 256 + (bt s n).toNat = V s' n * 256 + (bt s' n).toNat
    rw [ih, h n (Nat.lt_succ_self n)]
theorem V_inj (s s' : ByteArray) : ∀ n, V s n = V s' n → ∀ i : Nat, i < n → bt s i = bt s' i
  | 0, _, i, hi => absurd hi (Nat.not_lt_zero _)
  | n + 1, h, i, hi => by
    have h1 : V s n * 256 + (bt s n).toNat = V s' n * 256 + (bt s' n).toNat := h
    obtain ⟨b1, b2⟩ := bt_lt s n
    obtain ⟨b3, b4⟩ := bt_lt s' n
    have e1 : V s n = V s' n := by omega
    have e2 : (bt s n).toNat = (bt s' n).toNat := by omega
    rcases Nat.lt_succ_iff_lt_or_eq.1 hi with hlt | rfl
    · exact V_inj s s' n e1 i hlt
    · rw [← b2, ← b4, e2]
theorem bt_list (s : ByteArray) (i : Nat) (h : i < s.data.toList.length) : bt s i = ((s.data.toList[i]).toNat : Int) := bt_get s i (by rwa [tl_len] at h)
theorem bt_off (s s' : ByteArray) (i : Nat) (hl : s'.data.toList.length = s.data.toList.length) (h : i < s.data.toList.length) (he : s'.data.toList[i]? = s.data.toList[i]?) : bt s' i = bt s i := by
  rw [bt_list s i h, bt_list s' i (by rw [hl]; exact h)]
  rw [List.getElem?_eq_getElem h, List.getElem?_eq_getElem (by rw [hl]; exact h)] at he
  rw [Option.some.inj he]
/-- What the record's own bytes hold: its sum stands in them. -/
theorem own_parts (r : R) (hr : recOk r) : V (recBytes r) 2 = (bodyOf r).size ∧ (bodyAt (recBytes r)) = bodyOf r ∧ sumOf ((recBytes r).extract 0 2) (bodyAt (recBytes r)) = (sumAt (recBytes r) : Int) := by
  obtain ⟨h0, h1, h2, h3, h4, h5, h6, h7, h8⟩ := hr
  have hb := bodyOf_size r
  have hh : (headOf r).size = 2 := fixed_size _ _
  have hsum := sumOf_in (headOf r) (bodyOf r)
  have e1 : recBytes r = headOf r ++ (fixed (sumOf (headOf r) (bodyOf r)) 4 ++ bodyOf r) := by simp only [recBytes, ByteArray.append_assoc]
  have v1 : V (recBytes r) 2 = (bodyOf r).size := by
    rw [e1, V_left _ _ 2 (by omega)]
    exact V_fixed _ 2 (by omega)
  have hs6 : (headOf r ++ fixed (sumOf (headOf r) (bodyOf r)) 4).size = 6 := by rw [ByteArray.size_append, fixed_size, hh]
  have x6 : bodyAt (recBytes r) = bodyOf r := by
    unfold bodyAt
    rw [v1]
    exact ByteArray.extract_append_eq_right hs6.symm (by rw [hs6])
  have x0 : (recBytes r).extract 0 2 = headOf r := by rw [e1]; exact ByteArray.extract_append_eq_left hh.symm
  have x2 : (recBytes r).extract 2 (recBytes r).size = fixed (sumOf (headOf r) (bodyOf r)) 4 ++ bodyOf r := by
    rw [e1]
    exact ByteArray.extract_append_eq_right (by omega) (by rw [ByteArray.size_append])
  have v2 : V (fixed (sumOf (headOf r) (bodyOf r)) 4 ++ bodyOf r) 4 = (sumOf (headOf r) (bodyOf r)).toNat := by
    rw [V_left _ _ 4 (by rw [fixed_size]; omega), fixed_nat _ hsum.1]
    exact V_fixed _ 4 (by omega)
  refine ⟨v1, x6, ?_⟩
  unfold sumAt
  rw [x0, x6, x2, v2, Int.toNat_of_nonneg hsum.1]
theorem sum_lists {h b h' b' : ByteArray} (e : sumOf h b = sumOf h' b') : run (~~~ (0#32)) (h.data.toList ++ b.data.toList) = run (~~~ (0#32)) (h'.data.toList ++ b'.data.toList) := by
  unfold sumOf at e
  have h1 : ~~~ (run (~~~ (0#32)) (h ++ b).data.toList) = ~~~ (run (~~~ (0#32)) (h' ++ b').data.toList) := BitVec.eq_of_toNat_eq (by omega)
  have h2 : ~~~ ~~~ (run (~~~ (0#32)) (h ++ b).data.toList) = ~~~ ~~~ (run (~~~ (0#32)) (h' ++ b').data.toList) := by rw [h1]
  rw [BitVec.not_not, BitVec.not_not, tl_app, tl_app] at h2
  exact h2
attribute [local irreducible] bt V sumOf bodyAt recBytes bodyOf headOf fixed run
theorem set_at {α : Type} (l : List α) (p : Nat) (c : α) (h : p < l.length) : l.set p c = l.take p ++ c :: l.drop (p + 1) := by
  rw [List.set_eq_take_append_cons_drop, if_pos h]
theorem cut_at {α : Type} (l : List α) (p : Nat) (h : p < l.length) : l = l.take p ++ l[p] :: l.drop (p + 1) := by
  rw [← List.drop_eq_getElem_cons h, List.take_append_drop]
theorem get_off {α : Type} (l : List α) (p i : Nat) (c : α) (h : i ≠ p) : (l.set p c)[i]? = l[i]? := List.getElem?_set_ne (Ne.symm h)
theorem small (v n : Nat) (h : n = 6 + v) (hv : v < 65536) : n ≤ 140737488351232 ∧ 6 ≤ n ∧ v ≤ n - 6 ∧ 2 ≤ n ∧ n - 2 = 4 + v := ⟨by omega, by omega, by omega, by omega, by omega⟩
/-- One byte behind the length is another: no record. -/
theorem turned (r : R) (hr : recOk r) (b' : ByteArray) (p : Nat) (c : UInt8) (h2 : 2 ≤ p) (hp : p < (recBytes r).data.toList.length) (hc : by_ ((recBytes r).data.toList[p]) ≠ by_ c) (hb' : b'.data.toList = (recBytes r).data.toList.set p c) :
    Ev (fun k => rec_Take.f k b') (0, 0, ⟨#[]⟩, ⟨#[]⟩, 0, false, 0, 8) := by
  obtain ⟨v1, x6, hown⟩ := own_parts r hr
  have hsz : (recBytes r).size = 6 + V (recBytes r) 2 := by
    rw [recBytes_size, v1, bodyOf_size]; unfold recLen; omega
  generalize hbe : recBytes r = b at *
  have hl : b'.data.toList.length = b.data.toList.length := by rw [hb', List.length_set]
  have hs : b'.size = b.size := by rw [← tl_len, ← tl_len, hl]
  have hlen : b.data.toList.length = b.size := tl_len b
  have hvl := V2_lt b
  obtain ⟨k1, k2, k3, k4, k5⟩ := small (V b 2) b.size hsz hvl
  have same : ∀ i : Nat, i < b.data.toList.length → i ≠ p → bt b' i = bt b i := fun i hi hne => bt_off b b' i hl hi (by rw [hb']; exact get_off _ _ _ _ hne)
  have hV : V b' 2 = V b 2 := V_congr b' b 2 (fun i hi => same i (by rw [hlen]; omega) (by omega))
  refine (take_prog b' (by rw [hs]; exact k1) (by rw [hs]; exact k2) (by rw [hs, hV]; exact k3)).2 (fun hk => ?_)
  have hsum' := hk.2
  have e6 : (bodyAt b').data.toList = b'.data.toList.drop 6 := by
    unfold bodyAt
    rw [tl_ext, hV, Nat.add_sub_cancel_left, List.take_of_length_le (by rw [List.length_drop, tl_len, hs]; omega)]
  have e6' : (bodyAt b).data.toList = b.data.toList.drop 6 := by
    unfold bodyAt
    rw [tl_ext, Nat.add_sub_cancel_left, List.take_of_length_le (by rw [List.length_drop, tl_len]; omega)]
  have e0 : (b'.extract 0 2).data.toList = b.data.toList.take 2 := by
    rw [tl_ext, List.drop_zero, Nat.sub_zero, hb', List.take_set_of_le h2]
  have e0' : (b.extract 0 2).data.toList = b.data.toList.take 2 := by
    rw [tl_ext, List.drop_zero, Nat.sub_zero]
  have x2' : (b'.extract 2 b'.size).size = b'.size - 2 := ext_size b' 2 (by rw [hs]; exact k4)
  by_cases h6 : 6 ≤ p
  · -- the sum stands as it was; the body's is another
    have hsa : sumAt b' = sumAt b := by
      unfold sumAt
      refine V_congr _ _ 4 (fun i hi => ?_)
      rw [bt_ext b' 2 b'.size i (Nat.le_refl _) (by rw [hs]; omega), bt_ext b 2 b.size i (Nat.le_refl _) (by omega)]
      exact same (2 + i) (by rw [hlen]; omega) (by omega)
    rw [hsa, ← hown] at hsum'
    have h3 := sum_lists hsum'
    rw [e0, e0', e6, e6', hb', List.drop_set, if_neg (Nat.not_lt.2 h6)] at h3
    have hp6 : p - 6 < (b.data.toList.drop 6).length := by rw [List.length_drop]; omega
    rw [set_at _ _ _ hp6] at h3
    conv at h3 => rhs; rw [cut_at (b.data.toList.drop 6) (p - 6) hp6]
    rw [← List.append_assoc, ← List.append_assoc] at h3
    refine run_one _ _ _ _ _ ?_ h3
    intro e
    refine hc ?_
    rw [List.getElem_drop] at e
    have : 6 + (p - 6) = p := by omega
    simp only [this] at e
    exact e.symm
  · -- the body is as it was; the sum that stands there is another
    rw [show sumOf (b'.extract 0 2) (bodyAt b') = sumOf (b.extract 0 2) (bodyAt b) from ?_] at hsum'
    · rw [hown] at hsum'
      have hsa : V (b'.extract 2 b'.size) 4 = V (b.extract 2 b.size) 4 := by
        unfold sumAt at hsum'
        exact (Int.ofNat_inj.1 hsum').symm
      have h4 := V_inj _ _ 4 hsa (p - 2) (by omega)
      rw [bt_ext b' 2 b'.size (p - 2) (Nat.le_refl _) (by rw [hs]; omega), bt_ext b 2 b.size (p - 2) (Nat.le_refl _) (by omega)] at h4
      have : 2 + (p - 2) = p := by omega
      rw [this, bt_list b p hp, bt_list b' p (by rw [hl]; exact hp)] at h4
      simp only [hb', List.getElem_set_self] at h4
      refine hc ?_
      have : c.toNat = (b.data.toList[p]).toNat := by omega
      rw [UInt8.toNat_inj.1 this]
    · have q1 : b'.extract 0 2 = b.extract 0 2 := tl_eq (by rw [e0, e0'])
      have q2 : bodyAt b' = bodyAt b := tl_eq (by rw [e6, e6', hb', List.drop_set_of_lt (by omega)])
      rw [q1, q2]
end Go.Proofs.Ytmabdfdmccbfnaa.UTurn

/- The pure law RecBack: records as bytes are read back, cut off anywhere those that are whole are, and with one bit turned behind its length no record is one any more. -/
namespace Go.Proofs.Ytmabdfdmccbfnaa.Pure
open Go Go.RowKit Go.Proofs.Ytmabdfdmccbfnaa.P Go.Proofs.Ytmabdfdmccbfnaa.Sq Go.Proofs.Ytmabdfdmccbfnaa.URec Go.Proofs.Ytmabdfdmccbfnaa.URec10 Go.Proofs.Ytmabdfdmccbfnaa.UBytes Go.Proofs.Ytmabdfdmccbfnaa.USum Go.Proofs.Ytmabdfdmccbfnaa.UFlip Go.Proofs.Ytmabdfdmccbfnaa.UTake Go.Proofs.Ytmabdfdmccbfnaa.UTk Go.Proofs.Ytmabdfdmccbfnaa.UScan Go.Proofs.Ytmabdfdmccbfnaa.UWith Go.Proofs.Ytmabdfdmccbfnaa.UText Go.Proofs.Ytmabdfdmccbfnaa.UCut Go.Proofs.Ytmabdfdmccbfnaa.UTurn Go.Proofs.YtmabdfdmccbfnaaW.PrintWords Go.Proofs.YtmabdfdmccbfnaaW.PrintLast
set_option linter.unusedVariables false
set_option linter.unusedSimpArgs false

/-! ### numbers -/
theorem wrapU (x : Int) : IntKind.wrap .u64 x = x % 18446744073709551616 := by simp [IntKind.wrap, IntKind.bits, IntKind.signed]
theorem within (n m : Int) (h0 : 0 < m) (h1 : m < 9223372036854775807) : ∃ t : Nat, (t : Int) < m ∧ fairwaylaw0_Within.f n m = some (t : Int) := by
  have hm : IntKind.wrap .u64 m = m := by rw [wrapU]; omega
  have hn : 0 ≤ IntKind.wrap .u64 n := by rw [wrapU]; omega
  have ht : Int.tmod (IntKind.wrap .u64 n) m = (IntKind.wrap .u64 n) % m := Int.tmod_eq_emod_of_nonneg hn
  have hp := Int.emod_nonneg (IntKind.wrap .u64 n) (show m ≠ 0 by omega)
  have hq := Int.emod_lt_of_pos (IntKind.wrap .u64 n) h0
  refine ⟨((IntKind.wrap .u64 n) % m).toNat, by omega, ?_⟩
  unfold fairwaylaw0_Within.f
  rw [hm, if_neg (by omega), ht]
  congr 1
  rw [Int.toNat_of_nonneg hp]
  unfold wrap64
  omega
theorem flip_tab : ∀ x : Fin 256, ∀ j : Fin 8, BitVec.ofNat 32 x.val ^^^ BitVec.ofNat 32 (UInt8.ofNat (Go.bits .xor .u8 (x.val : Int) (shl .u8 1 (j.val : Int))).toNat).toNat = 1#32 <<< j.val := by decide +kernel
theorem flip (x : UInt8) (j : Nat) (hj : j < 8) : by_ x ^^^ by_ (UInt8.ofNat (Go.bits .xor .u8 (x.toNat : Int) (shl .u8 1 (j : Int))).toNat) = 1#32 <<< j := flip_tab ⟨x.toNat, x.toNat_lt⟩ ⟨j, hj⟩
theorem one_ne (j : Nat) (hj : j < 8) : (1#32 <<< j) ≠ 0#32 := by
  have : ∀ j : Fin 8, (1#32 <<< j.val) ≠ 0#32 := by decide
  exact this ⟨j, hj⟩
theorem flip_ne (x y : UInt8) (j : Nat) (hj : j < 8) (h : by_ x ^^^ by_ y = 1#32 <<< j) : by_ x ≠ by_ y := by
  intro e
  rw [e, BitVec.xor_self] at h
  exact one_ne j hj h.symm
theorem str_back (xs : List UInt8) : (strOfNums (xs.map (fun b => (b.toNat : Int)))).data.toList = xs := by
  rw [strOfNums_data, List.map_map]
  conv => rhs; rw [← List.map_id xs]
  apply List.map_congr_left
  intro b _
  simp
theorem str_set (xs : List Int) (t : Nat) (v : Int) : (strOfNums (xs.set t v)).data.toList = (strOfNums xs).data.toList.set t (UInt8.ofNat v.toNat) := by
  rw [strOfNums_data, strOfNums_data, List.map_set]
theorem str_bytes (s : ByteArray) : (strOfNums (fbytes s)).data.toList = s.data.toList := str_back _
theorem rd_bytes (s : ByteArray) (t : Nat) (h : t < s.data.toList.length) : rd (fbytes s) (t : Int) = ((s.data.toList[t]).toNat : Int) := by
  simp only [rd, fbytes, Int.toNat_natCast, List.getD_eq_getElem?_getD, List.getElem?_map, List.getElem?_eq_getElem h, Option.map_some, Option.getD_some]
/-- A record's bytes with a turned bit behind the length. -/
theorem bit_turned (r : R) (hr : recOk r) (p j : Nat) (h2 : 2 ≤ p) (hp : p < (recBytes r).size) (hj : j < 8) :
    Ev (fun k => rec_Take.f k (strOfNums ((fbytes (recBytes r)).set p (Go.bits .xor .u8 (rd (fbytes (recBytes r)) (p : Int)) (shl .u8 1 (j : Int)))))) (0, 0, ⟨#[]⟩, ⟨#[]⟩, 0, false, 0, 8) := by
  have hl : p < (recBytes r).data.toList.length := by rw [tl_len]; exact hp
  refine turned r hr _ p _ h2 hl ?_ (by rw [str_set, str_bytes])
  rw [rd_bytes _ p hl]
  exact flip_ne _ _ j hj (flip _ j hj)

/-! ### the records' ends -/
def endsOf (gl : List R) : List Int := (List.range gl.length).map (fun i => ((lens (gl.take (i + 1)) : Nat) : Int))
theorem endsOf_len (gl : List R) : (endsOf gl).length = gl.length := by simp [endsOf]
theorem endsOf_snoc (gl : List R) (r : R) : endsOf (gl ++ [r]) = endsOf gl ++ [((lens (gl ++ [r]) : Nat) : Int)] := by
  unfold endsOf
  rw [List.length_append, List.length_singleton, List.range_succ, List.map_append, List.map_singleton]
  congr 1
  · apply List.map_congr_left
    intro i hi
    have := List.mem_range.1 hi
    rw [List.take_append_of_le_length (by omega)]
  · rw [List.take_of_length_le (by rw [List.length_append, List.length_singleton]; exact Nat.le_refl _)]
theorem endsOf_get (gl : List R) (i : Nat) (h : i < gl.length) : rd (endsOf gl) (i : Int) = ((lens (gl.take (i + 1)) : Nat) : Int) := by
  simp only [rd, endsOf, Int.toNat_natCast, List.getD_eq_getElem?_getD, List.getElem?_map, List.getElem?_range h, Option.map_some, Option.getD_some]
theorem lens_take_le (l : List R) (a : Nat) : lens (l.take a) ≤ lens l := by
  conv => rhs; rw [← List.take_append_drop a l]
  rw [lens_app]
  exact Nat.le_add_right _ _
theorem lens_mono (l : List R) (a b : Nat) (h : a ≤ b) : lens (l.take a) ≤ lens (l.take b) := by
  have := lens_take_le (l.take b) a
  rwa [List.take_take, Nat.min_eq_left h] at this
theorem lens_small (l : List R) (h : ∀ r ∈ l, recOk r) (hl : l.length ≤ 6) : lens l ≤ 18000 := by
  have := lens_in l h
  omega
theorem cat_snoc (l : List R) (r : R) : cat ⟨#[]⟩ (l ++ [r]) = cat ⟨#[]⟩ l ++ recBytes r := by
  have : ∀ (l : List R) (s : ByteArray), cat s (l ++ [r]) = cat s l ++ recBytes r := by
    intro l
    induction l with
    | nil => intro s; rfl
    | cons x l ih => intro s; exact ih _
  exact this l _
theorem lens_snoc (l : List R) (r : R) : lens (l ++ [r]) = lens l + recLen r := by
  rw [lens_app]
  rfl
attribute [local irreducible] bt V ByteArray.extract cat recBytes endsOf lens fbytes Go.bits shl

/-- What is asked behind the counting of ends. -/
def tail (k : Nat) (l : List S38) (i : Int) (x4 : ByteArray) (x5 : List R) (x6 : List Int) (x16 : Int) (x17 : List R) (x18 : Int) (x19 : Bool) (x20 x21 : Int) : Option Bool :=
  if 0 ≤ x20 then (if x20 ≤ (x5.length : Int) then ((fairwayref0_EqRecs.f k x17 (x5.take (x20 : Int).toNat)).bind fun t379 => (if t379 = true then (if x18 = x21 then (if (x19 != (x21 == x16)) = true then (some false) else (fairwaylaw10_RecBack.l3 k l i x4 x5 x6 (wrap64 ((wrap64 (x16 + 1)) + (wrap64 ((x4.size : Int) / 40)))))) else (some false)) else (some false))) else (none)) else (none)
theorem tail_ev (l : List S38) (i : Int) (x4 : ByteArray) (gl : List R) (x6 : List Int) (n j : Nat) (all : Bool) (hj : j ≤ gl.length) (hg : gl.length ≤ 6) (h3 : all = true ↔ lens (gl.take j) = n)
    (next : Ev (fun k => fairwaylaw10_RecBack.l3 k l i x4 gl x6 (wrap64 ((wrap64 ((n : Int) + 1)) + (wrap64 ((x4.size : Int) / 40))))) true) :
    Ev (fun k => tail k l i x4 gl x6 n (gl.take j) ((lens (gl.take j) : Nat) : Int) all j ((lens (gl.take j) : Nat) : Int)) true := by
  have e := eqrecs_same (gl.take j) (by rw [List.length_take]; omega)
  have ha : (all != (((lens (gl.take j) : Nat) : Int) == (n : Int))) = false := by
    have hb : (((lens (gl.take j) : Nat) : Int) == (n : Int)) = all := by
      cases all with
      | true => exact beq_iff_eq.2 (by rw [h3.1 rfl])
      | false => exact beq_eq_false_iff_ne.2 (fun h => Bool.false_ne_true (h3.2 (Int.ofNat_inj.1 h)))
    rw [hb]; simp
  unfold tail
  refine Ev.congr (fun k => by rw [if_pos (Int.natCast_nonneg j), if_pos (Int.ofNat_le.2 hj), Int.toNat_natCast]) ?_
  refine Ev.bind e ?_
  exact Ev.congr (fun k => by rw [if_pos rfl, if_pos rfl, ha, if_neg Bool.false_ne_true]) next
theorem l4_ev (l : List S38) (i : Int) (x4 : ByteArray) (gl : List R) (n j : Nat) (all : Bool) (hj : j ≤ gl.length) (hg : gl.length ≤ 6) (h1 : lens (gl.take j) ≤ n) (h2 : j < gl.length → n < lens (gl.take (j + 1))) (h3 : all = true ↔ lens (gl.take j) = n)
    (next : Ev (fun k => fairwaylaw10_RecBack.l3 k l i x4 gl (endsOf gl) (wrap64 ((wrap64 ((n : Int) + 1)) + (wrap64 ((x4.size : Int) / 40))))) true) : ∀ d q : Nat, j = q + d →
    Ev (fun k => fairwaylaw10_RecBack.l4 k l i x4 gl (endsOf gl) n (gl.take j) ((lens (gl.take j) : Nat) : Int) all q ((lens (gl.take q) : Nat) : Int) q) true
  | 0, q, hq => by
    obtain rfl : j = q := by omega
    have ht := tail_ev l i x4 gl (endsOf gl) n j all hj hg h3 next
    unfold tail at ht
    by_cases c : j < gl.length
    · have e1 : (j : Int) < ((endsOf gl).length : Int) := by rw [endsOf_len]; omega
      have e2 : ¬ rd (endsOf gl) (j : Int) ≤ (n : Int) := by rw [endsOf_get gl j c]; have := h2 c; omega
      refine Ev.step (fun k => ?_) ht
      rw [fairwaylaw10_RecBack.l4, if_pos e1, if_pos (Int.natCast_nonneg j), if_neg e2]
    · have e1 : ¬ (j : Int) < ((endsOf gl).length : Int) := by rw [endsOf_len]; omega
      refine Ev.step (fun k => ?_) ht
      rw [fairwaylaw10_RecBack.l4, if_neg e1]
  | d + 1, q, hq => by
    have ih := l4_ev l i x4 gl n j all hj hg h1 h2 h3 next d (q + 1) (by omega)
    have e1 : (q : Int) < ((endsOf gl).length : Int) := by rw [endsOf_len]; omega
    have hm := lens_mono gl (q + 1) j (by omega)
    have hr := endsOf_get gl q (by omega)
    have e2 : rd (endsOf gl) (q : Int) ≤ (n : Int) := by rw [hr]; omega
    have hw : wrap64 ((q : Int) + 1) = ((q + 1 : Nat) : Int) := by rw [wrap_in (by omega) (by omega)]; rfl
    refine Ev.step (fun k => ?_) ih
    rw [fairwaylaw10_RecBack.l4, if_pos e1, if_pos (Int.natCast_nonneg q), if_pos e2, hw, hr]
theorem next_in (n z : Nat) (hn : n ≤ z) (hz : z ≤ 18000) : wrap64 ((wrap64 ((n : Int) + 1)) + (wrap64 ((z : Int) / 40))) = ((n + 1 + z / 40 : Nat) : Int) := by
  rw [wrap_in (x := (n : Int) + 1) (by omega) (by omega), wrap_in (x := (z : Int) / 40) (by omega) (by omega), wrap_in (by omega) (by omega)]
  omega
theorem l3_ev (l : List S38) (i : Int) (gl : List R) (hok : ∀ r ∈ gl, recOk r) (hg : gl.length ≤ 6) (next : Ev (fun k => fairwaylaw10_RecBack.l0 k l (wrap64 (i + 1))) true) : ∀ d n : Nat, lens gl + 1 ≤ n + d →
    Ev (fun k => fairwaylaw10_RecBack.l3 k l i (cat ⟨#[]⟩ gl) gl (endsOf gl) n) true
  | 0, n, h => by
    have e : ¬ (n : Int) ≤ ((cat ⟨#[]⟩ gl).size : Int) := by rw [cat0_size]; omega
    exact Ev.step (fun k => by rw [fairwaylaw10_RecBack.l3, if_neg e]) next
  | d + 1, n, h => by
    by_cases c : n ≤ lens gl
    · have hs := lens_small gl hok hg
      have e : (n : Int) ≤ ((cat ⟨#[]⟩ gl).size : Int) := by rw [cat0_size]; omega
      obtain ⟨j, all, j1, j2, j3, j4, j5, j6⟩ := scan_cut gl hok (by omega) n c (by omega)
      have ih := l3_ev l i gl hok hg next d (n + 1 + lens gl / 40) (by omega)
      rw [← next_in n (lens gl) c hs, ← cat0_size gl] at ih
      have h4 := l4_ev l i (cat ⟨#[]⟩ gl) gl n j all j1 hg j2 j4 j5 ih j 0 (by omega)
      rw [List.take_zero] at h4
      have hl0 : ((lens ([] : List R) : Nat) : Int) = 0 := by simp [lens]
      rw [hl0] at h4
      refine Ev.step (fun k => by rw [fairwaylaw10_RecBack.l3, if_pos e, if_pos (Int.natCast_nonneg n), Int.toNat_natCast]) ?_
      exact Ev.bind j6 h4
    · have e : ¬ (n : Int) ≤ ((cat ⟨#[]⟩ gl).size : Int) := by rw [cat0_size]; omega
      exact Ev.step (fun k => by rw [fairwaylaw10_RecBack.l3, if_neg e]) next

/-! ### eight turned bits -/
theorem mod8 (j : Nat) (h : j < 8) : Int.tmod (j : Int) 8 = (j : Int) := by
  rw [Int.tmod_eq_emod_of_nonneg (by omega)]; omega
theorem l2_ev (l : List S38) (i q : Nat) (x4 : ByteArray) (x5 : List R) (x6 : List Int) (r : R) (hr : recOk r) (hsz : 25 ≤ (recBytes r).size ∧ (recBytes r).size ≤ 3000)
    (out : ∀ j : Nat, ¬ j < 8 → Ev (fun k => fairwaylaw10_RecBack.l2 k l i x4 x5 x6 q (recBytes r) j) true) : ∀ d j : Nat, 8 = j + d →
    Ev (fun k => fairwaylaw10_RecBack.l2 k l i x4 x5 x6 q (recBytes r) j) true
  | 0, j, h => out j (by omega)
  | d + 1, j, h => by
    have ih := l2_ev l i q x4 x5 x6 r hr hsz out d (j + 1) (by omega)
    have hz2 : wrap64 (((recBytes r).size : Int) - 2) = (((recBytes r).size - 2 : Nat) : Int) := by rw [wrap_in (by omega) (by omega)]; omega
    obtain ⟨t, ht, hW⟩ := within (wrap64 ((wrap64 (Int.tdiv (wrap64 ((j : Int) * ((recBytes r).size : Int))) 8)) + (i : Int))) (((recBytes r).size - 2 : Nat) : Int) (by omega) (by omega)
    have hp : wrap64 (2 + (t : Int)) = ((2 + t : Nat) : Int) := by rw [wrap_in (by omega) (by omega)]; omega
    have hl := fbytes_length (recBytes r)
    have p1 : (j : Int) < 8 := by omega
    have p2 : (0 : Int) ≤ ((2 + t : Nat) : Int) := Int.natCast_nonneg _
    have p3 : ((2 + t : Nat) : Int) < ((fbytes (recBytes r)).length : Int) := by rw [hl]; omega
    have p4 : (0 : Int) ≤ (j : Int) := Int.natCast_nonneg _
    have hb := bit_turned r hr (2 + t) j (by omega) (by omega) (by omega)
    have hm := mod8 j (by omega)
    have hj : wrap64 ((j : Int) + 1) = ((j + 1 : Nat) : Int) := by rw [wrap_in (by omega) (by omega)]; rfl
    refine Ev.step (fun k => by rw [fairwaylaw10_RecBack.l2, if_pos p1, Option.bind_some, hz2, hW, Option.bind_some, hp, if_pos p2, if_pos p3, hm, if_pos p4, Int.toNat_natCast]) ?_
    refine Ev.bind hb ?_
    refine Ev.congr (fun k => by rw [num10, Option.bind_some, if_pos rfl, hj]) ?_
    exact ih

/-! ### an ask's records -/
theorem l1_ev (l : List S38) (i : Nat) (hi : i < l.length) (hl : (rd_T38 l i).f0.length ≤ 8000) (next : Ev (fun k => fairwaylaw10_RecBack.l0 k l (wrap64 ((i : Int) + 1))) true) : ∀ (d q : Nat) (gl : List R), 6 = q + d → gl.length ≤ q → (∀ r ∈ gl, recOk r) →
    Ev (fun k => fairwaylaw10_RecBack.l1 k l i (cat ⟨#[]⟩ gl) gl (endsOf gl) q) true := by
  have p1 : (0 : Int) ≤ (i : Int) := Int.natCast_nonneg i
  have p2 : (i : Int) < (l.length : Int) := Int.ofNat_lt.2 hi
  have stop : ∀ (q : Int) (gl : List R), gl.length ≤ 6 → (∀ r ∈ gl, recOk r) → Ev (fun k => fairwaylaw10_RecBack.j3 k l i (cat ⟨#[]⟩ gl) gl (endsOf gl) q false) true := fun q gl hg hok =>
    Ev.step (fun k => by rw [fairwaylaw10_RecBack.j3, if_neg Bool.false_ne_true]) (by have h0 := l3_ev l i gl hok hg next (lens gl + 1) 0 (by omega); rw [Int.natCast_zero] at h0; exact h0)
  intro d
  induction d with
  | zero =>
    intro q gl hq hg hok
    have e : decide ((q : Int) < 6) = false := decide_eq_false (by omega)
    by_cases c : (q : Int) < ((rd_T38 l i).f0.length : Int)
    · exact Ev.step (fun k => by rw [fairwaylaw10_RecBack.l1, if_pos p1, if_pos p2, if_pos c, e]) (stop q gl (by omega) hok)
    · exact Ev.step (fun k => by rw [fairwaylaw10_RecBack.l1, if_pos p1, if_pos p2, if_neg c]) (stop q gl (by omega) hok)
  | succ d ih =>
    intro q gl hq hg hok
    have e : decide ((q : Int) < 6) = true := decide_eq_true (by omega)
    by_cases c : (q : Int) < ((rd_T38 l i).f0.length : Int)
    · have p3 : (0 : Int) ≤ (q : Int) := Int.natCast_nonneg q
      have hw : wrap64 ((q : Int) + 1) = ((q + 1 : Nat) : Int) := by rw [wrap_in (by omega) (by omega)]; rfl
      refine Ev.step (fun k => by rw [fairwaylaw10_RecBack.l1, if_pos p1, if_pos p2, if_pos c, e]) ?_
      by_cases hr : recOk (rd_T25 (rd_T38 l i).f0 q)
      · have hb := bytes_yes _ hr
        have hz := recLen_in _ hr
        have hsz : 25 ≤ (recBytes (rd_T25 (rd_T38 l i).f0 q)).size ∧ (recBytes (rd_T25 (rd_T38 l i).f0 q)).size ≤ 3000 := by
          rw [recBytes_size]
          refine ⟨?_, by omega⟩
          unfold recLen; omega
        have ih' := ih (q + 1) (gl ++ [rd_T25 (rd_T38 l i).f0 q]) (by omega) (by rw [List.length_append, List.length_singleton]; omega) (fun x hx => by
          rcases List.mem_append.1 hx with h | h
          · exact hok x h
          · rw [List.mem_singleton.1 h]; exact hr)
        have hcs : (cat ⟨#[]⟩ gl ++ recBytes (rd_T25 (rd_T38 l i).f0 q)).size = lens (gl ++ [rd_T25 (rd_T38 l i).f0 q]) := by
          rw [← cat_snoc, cat0_size]
        rw [endsOf_snoc, ← hcs, cat_snoc] at ih'
        have hs := lens_small gl hok (by omega)
        have q1 : (cat ⟨#[]⟩ gl).size + (recBytes (rd_T25 (rd_T38 l i).f0 q)).size ≤ 9223372036854775807 := by rw [cat0_size]; omega
        have q2 : gl.length < 2199023255552 := by omega
        have q3 : (endsOf gl).length < 17592186044416 := by rw [endsOf_len]; omega
        have q4 : ¬ ((recBytes (rd_T25 (rd_T38 l i).f0 q)).size : Int) < 25 := by omega
        refine Ev.step (fun k => by rw [fairwaylaw10_RecBack.j3, if_pos rfl, if_pos p1, if_pos p2, if_pos p3, if_pos c]) ?_
        refine Ev.bind hb ?_
        refine Ev.congr (fun k => by rw [num10, Option.bind_some, if_pos rfl, if_neg q4]) ?_
        refine l2_ev l i q (cat ⟨#[]⟩ gl) gl (endsOf gl) _ hr hsz (fun j hj => ?_) 8 0 (by omega)
        have hj' : ¬ (j : Int) < 8 := by omega
        refine Ev.step (fun k => by rw [fairwaylaw10_RecBack.l2, if_neg hj', if_pos q1, if_pos p1, if_pos p2, if_pos p3, if_pos c, if_pos q2, if_pos q3, hw]) ?_
        exact ih'
      · have hb := bytes_no _ hr
        have ih' := ih (q + 1) gl (by omega) (by omega) hok
        refine Ev.step (fun k => by rw [fairwaylaw10_RecBack.j3, if_pos rfl, if_pos p1, if_pos p2, if_pos p3, if_pos c]) ?_
        refine Ev.bind hb ?_
        refine Ev.congr (fun k => by rw [num10, Option.bind_some, if_neg (show ¬ (1 : Int) = 0 by decide), hw]) ?_
        exact ih'
    · exact Ev.step (fun k => by rw [fairwaylaw10_RecBack.l1, if_pos p1, if_pos p2, if_neg c]) (stop q gl (by omega) hok)
theorem rb_loop (l : List S38) (hg : ∀ x ∈ l, good38 x) : ∀ (d i : Nat), 10 = i + d → Ev (fun k => fairwaylaw10_RecBack.l0 k l i) true := by
  have stop : ∀ i : Int, Ev (fun k => fairwaylaw10_RecBack.j1 k l i false) true := fun i =>
    Ev.step (f := fun k => (fairwaylaw10_wakes.f k).bind fun t => some t) (fun k => by rw [fairwaylaw10_RecBack.j1, if_neg (by decide)]) (Ev.bind wakes10_ev (Ev.now _))
  intro d
  induction d with
  | zero =>
    intro i hi
    refine Ev.step (f := fun k => fairwaylaw10_RecBack.j1 k l i false) (fun k => ?_) (stop i)
    rw [fairwaylaw10_RecBack.l0, decide_eq_false (show ¬ (i : Int) < 10 by omega)]
    split <;> rfl
  | succ d ih =>
    intro i hi
    by_cases hil : i < l.length
    · have hw : wrap64 ((i : Int) + 1) = ((i + 1 : Nat) : Int) := by rw [wrap_in (by omega) (by omega)]; omega
      have p1 : (0 : Int) ≤ (i : Int) := Int.natCast_nonneg i
      have p2 : (i : Int) < (l.length : Int) := Int.ofNat_lt.2 hil
      refine Ev.step (f := fun k => fairwaylaw10_RecBack.j1 k l i true) (fun k => ?_) ?_
      · rw [fairwaylaw10_RecBack.l0, if_pos p2, decide_eq_true (show (i : Int) < 10 by omega)]
      · obtain ⟨⟨g0, g1⟩, g2⟩ := hg _ (ask_mem hil)
        obtain ⟨b, hb, hb2⟩ := heavy10_ev _ (rd_T38 l i).f1 g0 g1
        refine Ev.step (fun k => by rw [fairwaylaw10_RecBack.j1, if_pos rfl, if_pos p1, if_pos p2]) ?_
        refine Ev.bind hb ?_
        cases b with
        | true => exact Ev.congr (fun k => if_pos rfl) (Ev.now _)
        | false =>
          have h8 := (hb2 rfl).1
          have hn := ih (i + 1) (by omega)
          rw [← hw] at hn
          have h1 := l1_ev l i hil (by omega) hn 6 0 [] (by omega) (Nat.le_refl _) (fun r hr => absurd hr (by simp))
          have hc0 : cat ⟨#[]⟩ ([] : List R) = ⟨#[]⟩ := by simp [cat]
          have he0 : endsOf ([] : List R) = [] := by simp [endsOf]
          rw [hc0, he0] at h1
          exact Ev.congr (fun k => if_neg (by decide)) h1
    · refine Ev.step (f := fun k => fairwaylaw10_RecBack.j1 k l i false) (fun k => ?_) (stop i)
      rw [fairwaylaw10_RecBack.l0, if_neg (show ¬ (i : Int) < (l.length : Int) by omega)]
theorem RecBack (l0 : List (S38)) (hl : l0.length * 40 ≤ 140737488351232) (hg : ∀ x ∈ l0, good38 x) : ∃ k, fairwaylaw10_RecBack.f k l0 = some true :=
  (rb_loop l0 hg 10 0 (by omega)).rounds
end Go.Proofs.Ytmabdfdmccbfnaa.Pure

/- RecBack: for every input of the row the law returns true, and the input reads afterwards as before. Conditions: none beside the row's own. -/
namespace Go.Proofs.Ytmabdfdmccbfnaa.recBack
open Go.ChangeShapes Go.WideShapes Go.ChangeAt Go.RowKit Go.Proofs.YtmabdfdmccbfnaaW.PrintWords Go.Proofs.Ytmabdfdmccbfnaa.Open Go.Proofs.Ytmabdfdmccbfnaa.P
set_option linter.unusedVariables false
theorem own : ownKnob Try.prog.godebug = none := by kernel_rfl
theorem laidOut : laidOutB Try.prog = true := by kernel_rfl
theorem purely (l0 : List (S38)) (hl : l0.length * 40 ≤ 140737488351232) (hg : ∀ x ∈ l0, good38 x) : ∃ k, fairwaylaw10_RecBack.f k l0 = some true := Pure.RecBack l0 hl hg
set_option maxRecDepth 100000 in
theorem lifted (os : Os) (started : os.Started) (H : Type) (enc : TypeId × Value → H) :
    ReturnsInHanded {} Try.checked os 6 .any (Rows.recBackSpec.pre6 enc Try.prog Try.f6 Rows.recBackRow.domain false) (Rows.recBackSpec.post enc Try.prog Try.f6 false true false false) := by
  refine returnsInHanded_of_change_sized (C := Try.checked) own started (by kernel_rfl) Try.func6
    (ChangeSpec.witness6 (enc := enc) (C := Try.checked) false ⟨#[], #[.slice none 0 0], []⟩ 8 (by kernel_rfl) (by kernel_rfl) (by kernel_rfl) (by kernel_rfl)) ?_
  intro W base args ds gs before hval0 hW hcnd hsz0 _
  have hsz : (DataW.weightsEach Try.prog (Try.f6.params.toList ++ Rows.recBackSpec.plain.varTypes Try.prog) (ds ++ gs)).all (· ≤ reachBytes) = true := hsz0
  have hval : ∀ (j : Nat) t v, Try.f6.params[j]? = some t → args[j]? = some v → Value.okWide Try.prog W .any base t v := hval0
  have hW' := hW
  obtain ⟨p_, q_, hA0, hV, rfl, hfz, hnd⟩ := hW
  have hA : DataW.TrodAll enc Try.prog W 0 (fun _ => true) true Try.f6.params.toList args.toList ds p_ := hA0
  rw [Try.params6] at hA hval hsz
  obtain ⟨v0, vs0, d0, ds0, p0, q0, hargs, rfl, rfl, h0, r0⟩ := trodAll_cons hA
  obtain ⟨rfl, rfl, rfl⟩ := trodAll_nil r0
  obtain rfl : args = #[v0] := by cases args; simp_all
  obtain ⟨rfl, rfl⟩ := trodVars_none hV
  obtain ⟨a0, len0, cap0, rfl⟩ := okWide_slice Try.underlying22 (hval 0 22 v0 rfl rfl)
  have k0 := h0
  have lt0 : ∀ x ∈ p0, x.block < W.heap.size := by obtain ⟨m, hm⟩ := k0; exact DataW.trod_lt m _ _ _ hm
  obtain ⟨l0, rfl, hr0, hc0, hg0, hl0⟩ : ∃ l : List (S38), len0 = l.length ∧ Kd.C k38 W a0 l.length l ∧ l.length ≤ cap0 ∧ (∀ x ∈ l, good38 x) ∧ l.length * 40 ≤ 140737488351232 := by
    obtain ⟨fuel, hf⟩ := h0
    obtain ⟨x, ⟨A, c, hcs, hl, hC⟩, hg, hb⟩ := (rd_slice 40 Try.underlying22 (by kernel_rfl) (by kernel_rfl) rd38).rd enc W fuel _ _ _ hf (fun m hm => of_decide_eq_true (List.all_eq_true.1 hsz m (DataW.weights_mem_each (j := 0) rfl rfl m hm)))
    simp [Value.cells] at hcs
    obtain ⟨rfl, rfl, rfl⟩ := hcs
    exact ⟨x, rfl, hC, hl, hg, hb⟩
  clear hA0 hval0 hsz0 hsz
  obtain ⟨k, h⟩ := purely l0 hl0 hg0
  refine (fairwaylaw10_RecBack.calls k _ _ l0 true W hr0 hc0 h).mono fun e W' ⟨he, bel0⟩ => ?_
  have bel : Below W.heap.size W W' := bel0
  subst he
  exact ⟨_, rfl, _, _, _, [], _, [], hW', trodAll_mk1 (shut_bool Try.underlying4 _), (trodAll_cons_mk (Below.trod laidOut (by kernel_rfl) (of_decide_eq_true (by kernel_rfl)) k0 bel lt0) trodAll_mk0), rfl, bel.frame _, fun h => by cases h⟩
theorem over : Rows.recBackRow.holds Try.pinned (OpenSpec.ofChange Rows.recBackSpec) :=
  OpenClaim.holds_of_wide 6 Try.f6 rfl rfl rfl rfl rfl rfl rfl ⟨rfl, rfl, rfl, rfl, rfl⟩ rfl rfl rfl rfl rfl (by kernel_rfl) Try.func6 (by kernel_rfl)
    (of_decide_eq_true (by kernel_rfl)) (by unfold Func.isWrapper; first | (rw [if_pos (by decide +kernel)]; kernel_rfl) | (rw [if_neg (by decide +kernel)]; exact ⟨rfl, rfl⟩))
    (fun os started H enc _ => lifted os started H enc)
theorem proved : Rows.RecBackSaid := over
#print axioms proved
end Go.Proofs.Ytmabdfdmccbfnaa.recBack
namespace Go.Proofs.Ytmabdfdmccbfnaa
theorem recBack_holds : Rows.RecBackSaid := recBack.proved
end Go.Proofs.Ytmabdfdmccbfnaa

