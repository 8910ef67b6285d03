/- SegBack: for every input of the row the law returns true, and the input reads afterwards as before. Conditions: none beside the row's own. -/
import Derived.Test.YtmabdfdmccbfnaaKSegBack2
import Derived.Test.YtmabdfdmccbfnaaKSegBack4
import Derived.Test.YtmabdfdmccbfnaaKSegBack7
import Derived.Test.YtmabdfdmccbfnaaKSegBack6
import Derived.Test.YtmabdfdmccbfnaaKSegBack5
import Derived.Test.YtmabdfdmccbfnaaRows
import Derived.WalkKit
import Derived.ProofKit
import Derived.OpenShut
import Derived.ShutString
import Derived.ChangeOld
import Derived.Below
import Derived.SizedLaws
-- written by a program of the proving session, out of the translation; Lean checks it
namespace Go.Proofs.Ytmabdfdmccbfnaa.P
open Go.RowKit Go.Proofs.Ytmabdfdmccbfnaa.Sq Go.Proofs.YtmabdfdmccbfnaaW.PrintWords Go.Proofs.YtmabdfdmccbfnaaW.PrintLast Go.Proofs.YtmabdfdmccbfnaaW.PrintMore
attribute [local go_sem] max2_int min2_int max_two min_two max_three min_three max_four min_four   -- for this text's walks alone
set_option linter.unusedVariables false
set_option linter.unusedSimpArgs false

/-! ### fairwayref10_Text: function 43 -/
def fairwayref10_Text.l0 : Nat → ByteArray → Int → Int → List (S25) → Option (ByteArray)
 | 0, _, _, _, _ => none
 | k + 1, x3, x4, x529000, x529001 => if x4 < (x529001.length : Int) then (if 0 ≤ x4 then ((fairwayref10_Bytes.f k ((rd_T25 x529001 x4).f0) ((rd_T25 x529001 x4).f1) ((rd_T25 x529001 x4).f2) ((rd_T25 x529001 x4).f3) ((rd_T25 x529001 x4).f4) ((rd_T25 x529001 x4).f5)).bind fun t530 => (if x3.size + t530.size ≤ 9223372036854775807 then (fairwayref10_Text.l0 k (x3 ++ t530) (wrap64 (x4 + 1)) x529000 x529001) else (none))) else (none)) else (some x3)
def fairwayref10_Text.f (k : Nat) (a0_0 : Int) (l0_1 : List (S25)) : Option (ByteArray) := fairwayref10_Text.l0 k (⟨#[]⟩ : ByteArray) 0 a0_0 l0_1
theorem fairwayref10_Text.mono_l : ∀ k, (∀ y0 y1 y2 y3, LeO (fairwayref10_Text.l0 k y0 y1 y2 y3) (fairwayref10_Text.l0 (k + 1) y0 y1 y2 y3))
 | 0 => fun _ _ _ _ r h => by simp [fairwayref10_Text.l0] at h
 | k + 1 => by
  have ih0 := fairwayref10_Text.mono_l k
  ·intro y0 y1 y2 y3
   unfold fairwayref10_Text.l0
   repeat' first
   | (with_reducible exact ih0 _ _ _ _)
   | (with_reducible exact fairwayref10_Bytes.mono _ _ _ _ _ _ _)
   | (with_reducible exact LeO.refl _)
   | (with_reducible exact LeO.none _)
   | (with_reducible refine LeO.ite ?_ ?_)
   | (with_reducible refine LeO.bind ?_ (fun _ => ?_))
   | exact ih0 _ _ _ _
   | exact fairwayref10_Bytes.mono _ _ _ _ _ _ _
   | exact LeO.none _
   | refine LeO.ite ?_ ?_
   | refine LeO.bind ?_ (fun _ => ?_)
theorem fairwayref10_Text.mono : ∀ a0 a1 k, LeO (fairwayref10_Text.f k a0 a1) (fairwayref10_Text.f (k + 1) a0 a1) := by
 intro a0 a1 k
 have ih0 := fairwayref10_Text.mono_l k
 unfold fairwayref10_Text.f
 repeat' first
  | (with_reducible exact ih0 _ _ _ _)
  | (with_reducible exact fairwayref10_Bytes.mono _ _ _ _ _ _ _)
  | (with_reducible exact LeO.refl _)
  | (with_reducible exact LeO.none _)
  | (with_reducible refine LeO.ite ?_ ?_)
  | (with_reducible refine LeO.bind ?_ (fun _ => ?_))
  | exact ih0 _ _ _ _
  | exact fairwayref10_Bytes.mono _ _ _ _ _ _ _
  | exact LeO.none _
  | refine LeO.ite ?_ ?_
  | refine LeO.bind ?_ (fun _ => ?_)
set_option maxHeartbeats 8000000 in
set_option maxRecDepth 100000 in
theorem fairwayref10_Text.calls (k : Nat) (a0_0 : Int) (A0_1 : Option Addr) (c0_1 : Nat) (l0_1 : List (S25)) (r : ByteArray) (w : World) (hr0_1 : Kd.C k25 w A0_1 l0_1.length l0_1) (hc0_1 : l0_1.length ≤ c0_1) (h : fairwayref10_Text.f k a0_0 l0_1 = some r) :
 Calls Try.prog 43 #[.agg #[.int .i64 a0_0, .slice A0_1 l0_1.length c0_1]] w fun e w' => e = .returned (.string r) ∧ Below w.heap.size w w' := by
 have hu53 := Try.underlying53
 have hu25 := Try.underlying25
 have HR0_1 := Aside0.mk hr0_1
 have HC0_1 := Aside0.mk hc0_1
 clear hr0_1 hc0_1
 have HB := Aside0.mk (Below.refl w.heap.size w)
 have H : (fairwayref10_Text.l0 k (⟨#[]⟩ : ByteArray) 0 a0_0 l0_1) = some r := h
 clear h
 have H' := Aside0.mk H
 clear H
 go_enter Try.func43, Try.ntmps43
 go_wp2_with (first | ((with_reducible refine gate_dst (N := 1) rfl ?_); refine box_event ?hg (N := 1) ?hd (cs := #[.int .i64 a0_0, .slice A0_1 l0_1.length c0_1]) (t := 53) ?hr ?_; (case hd => rfl); (case hg => rfl); (case hr => first | (go_simp; done) | (go_simp; rfl)); intro gb528 hg w2 hbox hb; have BK528 := Aside0.mk (hbox); have GW528 := Aside0.mk ((by rw [hg]; exact (below_size bo) : w.heap.size ≤ gb528)); have GE528 := Aside0.mk ((by rw [hg]; exact (below_size bo) : w.heap.size ≤ gb528)); replace HB := Aside0.mk (below_step bo hb); clear hb hbox hg))
 go_loopg [3, 4] k (fun kq v3 v4 w' => ∃ (x3_1 : ByteArray) (x4_1 : Int), v3 = .string x3_1 ∧ v4 = .int .i64 x4_1 ∧ Aside0 (fairwayref10_Text.l0 kq x3_1 x4_1 a0_0 l0_1 = some r) ∧ Aside0 (kq ≤ k) ∧ Aside0 (w'.heap[gb528]? = some (.cells #[.int .i64 a0_0, (.slice A0_1 l0_1.length c0_1)] 53 (0, 0))) ∧ Aside0 (Below w.heap.size w w'))
 case atStart => exact ⟨((⟨#[]⟩ : ByteArray)), (0), ap, ap, H', ⟨Nat.le_refl _⟩, ⟨by (with_reducible repeat (first | refine blk_drewN ?_ _ | refine blk_drew ?_ | refine blk_alloc ?_ _)); exact BK528.out⟩, ⟨bo⟩⟩
 case round =>
  clear H'
  try clear p2
  obtain ⟨x3_1, x4_1, rfl, rfl, HA, HK1, BK528, HB⟩ := hrel
  cases gk with
  | zero => exact absurd HA.out (by simp [fairwayref10_Text.l0])
  | succ k1 =>
   have H := HA.out
   clear HA
   simp only [fairwayref10_Text.l0] at H
   by_cases c3 : x4_1 < (l0_1.length : Int)
   ·rw [if_pos c3] at H
    have c3b0 : decide (x4_1 < (l0_1.length : Int)) = true := decide_eq_true c3
    clear c3
    by_cases c4 : 0 ≤ x4_1
    ·rw [if_pos c4] at H
     have c4b0 : decide (0 ≤ x4_1) = true := decide_eq_true c4
     clear c4
     replace H := Option.bind_eq_some_iff.mp H
     obtain ⟨t530, A50, H⟩ := H
     try dsimp only at H
     have A5 := Aside0.mk A50
     clear A50
     by_cases c6 : x3_1.size + t530.size ≤ 9223372036854775807
     ·rw [if_pos c6] at H
      have c6b0 := eq_true c6
      have c6b1 : decide (x3_1.size + t530.size ≤ 9223372036854775807) = true := decide_eq_true c6
      try have c6b2 : (9223372036854775807 < x3_1.size + t530.size) = False := eq_false (Nat.not_lt.2 c6)
      have H' := Aside0.mk H
      clear H
      have hcz7_0 : wr.cell? ⟨gb528, 0, none⟩ = some (.int .i64 a0_0) := (blk_cell BK528.out 0).trans rfl
      have hcz7_1 : wr.cell? ⟨gb528, 1, none⟩ = some (.slice A0_1 l0_1.length c0_1) := (blk_cell BK528.out 1).trans rfl
      have hfz7_0 := blk_frozen BK528.out 0
      have hfz7_1 := blk_frozen BK528.out 1
      have p529 : 0 ≤ (x4_1 : Int) := od
      have q529 : x4_1 < (l0_1.length : Int) := od
      obtain ⟨ad529, e529, hx529_0, hx529_1, hx529_2, hx529_3, hx529_4, hx529_5⟩ := at_T25 HR0_1.out x4_1 p529 q529
      cases e529
      replace hx529_0 := cx HB.out hx529_0
      replace hx529_1 := cx HB.out hx529_1
      replace hx529_2 := cx HB.out hx529_2
      replace hx529_3 := cx HB.out hx529_3
      replace hx529_4 := cx HB.out hx529_4
      replace hx529_5 := cx HB.out hx529_5
      replace p529 := eq_true p529
      replace q529 := eq_true q529
      go_wp2_with (first | ((with_reducible refine gate_callee (f := 20) rfl ?_); refine goesL_ (some 18) rfl rfl Try.func20 (by kernel_rfl) rfl #[.agg #[.int .i64 ((rd_T25 l0_1 x4_1).f0), .int .i64 ((rd_T25 l0_1 x4_1).f1), .string ((rd_T25 l0_1 x4_1).f2), .string ((rd_T25 l0_1 x4_1).f3), .int .i64 ((rd_T25 l0_1 x4_1).f4), .bool ((rd_T25 l0_1 x4_1).f5)]] rfl aa ?_; (with_reducible refine (fairwayref10_Bytes.calls k1 ((rd_T25 l0_1 x4_1).f0) ((rd_T25 l0_1 x4_1).f1) ((rd_T25 l0_1 x4_1).f2) ((rd_T25 l0_1 x4_1).f3) ((rd_T25 l0_1 x4_1).f4) ((rd_T25 l0_1 x4_1).f5) t530 _ A5.out).mono ?_); rintro e w8 ⟨rfl, hb⟩; refine ⟨_, rfl, ?_⟩; replace BK528 := Aside0.mk (bb BK528.out hb); replace HB := Aside0.mk (below_step bo hb); (try clear hb); (try clear hb2); (try clear hk); (try clear hi)))
      go_roundg k1
      case measure => have := HK1.out; omega
      case rel => exact ⟨(x3_1 ++ t530), (wrap64 (x4_1 + 1)), ap, ap, H', ⟨by have := HK1.out; omega⟩, ⟨by (with_reducible repeat (first | refine blk_drewN ?_ _ | refine blk_drew ?_ | refine blk_alloc ?_ _)); exact BK528.out⟩, ⟨bo⟩⟩
     ·rw [if_neg c6] at H
      exact absurd H (by simp)
    ·rw [if_neg c4] at H
     exact absurd H (by simp)
   ·rw [if_neg c3] at H
    have c3b0 : decide (x4_1 < (l0_1.length : Int)) = false := decide_eq_false c3
    clear c3
    obtain rfl := Option.some.inj H
    have hcz9_0 : wr.cell? ⟨gb528, 0, none⟩ = some (.int .i64 a0_0) := (blk_cell BK528.out 0).trans rfl
    have hcz9_1 : wr.cell? ⟨gb528, 1, none⟩ = some (.slice A0_1 l0_1.length c0_1) := (blk_cell BK528.out 1).trans rfl
    have hfz9_0 := blk_frozen BK528.out 0
    have hfz9_1 := blk_frozen BK528.out 1
    go_wp2
    go_ret
    exact ⟨er, bo⟩

end Go.Proofs.Ytmabdfdmccbfnaa.P

-- written by a program of the proving session, out of the translation; Lean checks it
namespace Go.Proofs.Ytmabdfdmccbfnaa.P
open Go.RowKit Go.Proofs.Ytmabdfdmccbfnaa.Sq Go.Proofs.YtmabdfdmccbfnaaW.PrintWords Go.Proofs.YtmabdfdmccbfnaaW.PrintLast Go.Proofs.YtmabdfdmccbfnaaW.PrintMore
attribute [local go_sem] max2_int min2_int max_two min_two max_three min_three max_four min_four   -- for this text's walks alone
set_option linter.unusedVariables false
set_option linter.unusedSimpArgs false

/-! ### fairwayref0_CopyRecs: function 76 -/
def fairwayref0_CopyRecs.l0 : Nat → List (S25) → List (S25) → Int → Option ((List (S25)))
 | 0, _, _, _ => none
 | k + 1, x0, x3, x4 => if x4 < (x0.length : Int) then (if 0 ≤ x4 then (if x3.length < 2199023255552 then (fairwayref0_CopyRecs.l0 k x0 (x3 ++ [(⟨(rd_T25 x0 x4).f0, (rd_T25 x0 x4).f1, (rd_T25 x0 x4).f2, (rd_T25 x0 x4).f3, (rd_T25 x0 x4).f4, (rd_T25 x0 x4).f5⟩ : S25)]) (wrap64 (x4 + 1))) else (none)) else (none)) else (some x3)
def fairwayref0_CopyRecs.f (k : Nat) (l0 : List (S25)) : Option ((List (S25))) := fairwayref0_CopyRecs.l0 k l0 ([] : List (S25)) 0
theorem fairwayref0_CopyRecs.mono_l : ∀ k, (∀ y0 y1 y2, LeO (fairwayref0_CopyRecs.l0 k y0 y1 y2) (fairwayref0_CopyRecs.l0 (k + 1) y0 y1 y2))
 | 0 => fun _ _ _ r h => by simp [fairwayref0_CopyRecs.l0] at h
 | k + 1 => by
  have ih0 := fairwayref0_CopyRecs.mono_l k
  ·intro y0 y1 y2
   unfold fairwayref0_CopyRecs.l0
   repeat' first
   | (with_reducible exact ih0 _ _ _)
   | (with_reducible exact LeO.refl _)
   | (with_reducible exact LeO.none _)
   | (with_reducible refine LeO.ite ?_ ?_)
   | (with_reducible refine LeO.bind ?_ (fun _ => ?_))
   | exact ih0 _ _ _
   | exact LeO.none _
   | refine LeO.ite ?_ ?_
   | refine LeO.bind ?_ (fun _ => ?_)
theorem fairwayref0_CopyRecs.mono : ∀ a0 k, LeO (fairwayref0_CopyRecs.f k a0) (fairwayref0_CopyRecs.f (k + 1) a0) := by
 intro a0 k
 have ih0 := fairwayref0_CopyRecs.mono_l k
 unfold fairwayref0_CopyRecs.f
 repeat' first
  | (with_reducible exact ih0 _ _ _)
  | (with_reducible exact LeO.refl _)
  | (with_reducible exact LeO.none _)
  | (with_reducible refine LeO.ite ?_ ?_)
  | (with_reducible refine LeO.bind ?_ (fun _ => ?_))
  | exact ih0 _ _ _
  | exact LeO.none _
  | refine LeO.ite ?_ ?_
  | refine LeO.bind ?_ (fun _ => ?_)
set_option maxHeartbeats 8000000 in
set_option maxRecDepth 100000 in
theorem fairwayref0_CopyRecs.calls (k : Nat) (A0 : Option Addr) (c0 : Nat) (l0 : List (S25)) (r : List (S25)) (w : World) (hr0 : Kd.C k25 w A0 l0.length l0) (hc0 : l0.length ≤ c0) (h : fairwayref0_CopyRecs.f k l0 = some r) :
 Calls Try.prog 76 #[.slice A0 l0.length c0] w fun e w' => ∃ v0_ : Value, e = .returned (v0_) ∧ Kd.R k25 25 w' w.heap.size (fun _ => True) v0_ r ∧ Below w.heap.size w w' := by
 have hu25 := Try.underlying25
 have HR0 := Aside0.mk hr0
 have HC0 := Aside0.mk hc0
 clear hr0 hc0
 have HB := Aside0.mk (Below.refl w.heap.size w)
 have H : (fairwayref0_CopyRecs.l0 k l0 ([] : List (S25)) 0) = some r := h
 clear h
 have H' := Aside0.mk H
 clear H
 go_enter Try.func76, Try.ntmps76
 go_wp2
 go_loopg [3, 4] k (fun kq v3 v4 w' => ∃ (x3_1 : List (S25)) (x4_1 : Int), v4 = .int .i64 x4_1 ∧ Aside0 (fairwayref0_CopyRecs.l0 kq l0 x3_1 x4_1 = some r) ∧ Aside0 (kq ≤ k) ∧ Aside0 (Kd.R k25 25 w' w.heap.size (fun _ => True) v3 x3_1) ∧ Aside0 (Below w.heap.size w w'))
 case atStart => exact ⟨(([] : List (S25))), (0), ap, H', ⟨Nat.le_refl _⟩, ⟨by first | exact Kd.R_nil _ _ _ _ _ | exact Kd.N_nil _ _ _ _ _ | exact Kd.V_nil _ _ _ _ _ | exact Kd.Q_nil _ _ _ _ _ | exact Kd.S_nil _ _ _ _ _⟩, ⟨bo⟩⟩
 case round =>
  clear H'
  obtain ⟨x3_1, x4_1, rfl, HA, HK1, HO_3, HB⟩ := hrel
  cases gk with
  | zero => exact absurd HA.out (by simp [fairwayref0_CopyRecs.l0])
  | succ k1 =>
   have H := HA.out
   clear HA
   simp only [fairwayref0_CopyRecs.l0] at H
   by_cases c2 : x4_1 < (l0.length : Int)
   ·rw [if_pos c2] at H
    have c2b0 : decide (x4_1 < (l0.length : Int)) = true := decide_eq_true c2
    clear c2
    by_cases c3 : 0 ≤ x4_1
    ·rw [if_pos c3] at H
     have c3b0 : decide (0 ≤ x4_1) = true := decide_eq_true c3
     clear c3
     by_cases c4 : x3_1.length < 2199023255552
     ·rw [if_pos c4] at H
      have LMc4 := Aside0.mk c4
      clear c4
      obtain ⟨y456, hy456⟩ : ∃ y_ : List (S25), y_ = (x3_1 ++ [(⟨(rd_T25 l0 x4_1).f0, (rd_T25 l0 x4_1).f1, (rd_T25 l0 x4_1).f2, (rd_T25 l0 x4_1).f3, (rd_T25 l0 x4_1).f4, (rd_T25 l0 x4_1).f5⟩ : S25)]) := ⟨_, rfl⟩
      replace H : (fairwayref0_CopyRecs.l0 k1 l0 y456 (wrap64 (x4_1 + 1))) = some r := by first | (rw [hy456]; with_reducible exact H) | (have H2_ := (Option.bind_some _ _).symm.trans H; rw [hy456]; with_reducible exact H2_) | (have H2_ := (Option.bind_some _ _).symm.trans H; with_reducible exact H2_) | with_reducible exact H | (rw [hy456]; exact H) | exact H
      have Ny456 := Aside0.mk hy456
      clear hy456
      have H' := Aside0.mk H
      clear H
      have p455 : 0 ≤ (x4_1 : Int) := od
      have q455 : x4_1 < (l0.length : Int) := od
      obtain ⟨ad455, e455, hx455_0, hx455_1, hx455_2, hx455_3, hx455_4, hx455_5⟩ := at_T25 HR0.out x4_1 p455 q455
      cases e455
      replace hx455_0 := cx HB.out hx455_0
      replace hx455_1 := cx HB.out hx455_1
      replace hx455_2 := cx HB.out hx455_2
      replace hx455_3 := cx HB.out hx455_3
      replace hx455_4 := cx HB.out hx455_4
      replace hx455_5 := cx HB.out hx455_5
      replace p455 := eq_true p455
      replace q455 := eq_true q455
      go_wp2_with (first | ((with_reducible refine gate_builtin (b := .append) (xs := #[.tmp 11, .tmp 16]) rfl ?_); at_builtin; refine Kd.R_append k25 (w0 := w) w.heap.size rfl (.tmp 11) (.tmp 16) 36 25 (.agg #[(.int .i64 0), (.int .i64 0), (.string ⟨#[]⟩), (.string ⟨#[]⟩), (.int .i64 0), (.bool false)]) 64 rfl Try.underlying36 info25 rfl (by decide) (by omega) u3 x3_1 (⟨(rd_T25 l0 x4_1).f0, (rd_T25 l0 x4_1).f1, (rd_T25 l0 x4_1).f2, (rd_T25 l0 x4_1).f3, (rd_T25 l0 x4_1).f4, (rd_T25 l0 x4_1).f5⟩ : S25) [.int .i64 ((rd_T25 l0 x4_1).f0), .int .i64 ((rd_T25 l0 x4_1).f1), .string ((rd_T25 l0 x4_1).f2), .string ((rd_T25 l0 x4_1).f3), .int .i64 ((rd_T25 l0 x4_1).f4), .bool ((rd_T25 l0 x4_1).f5)] (fun _ => True) (fun _ => False) rfl rfl ?aP (fun _ hk => hk.elim) ?aF ?aO ?aB ?aS ?aL ?_; (case aP => exact k25_mkM _ _ _ (⟨(rd_T25 l0 x4_1).f0, (rd_T25 l0 x4_1).f1, (rd_T25 l0 x4_1).f2, (rd_T25 l0 x4_1).f3, (rd_T25 l0 x4_1).f4, (rd_T25 l0 x4_1).f5⟩ : S25)); (case aB => exact bo); (case aF => exact (fun _ _ => trivial)); (case aO => exact (rk HO_3.out)); (case aS => exact (below_size bo)); (case aL => have := LMc4.out; omega); intro v457 w5 ho hb hg hat; rw [← Ny456.out] at ho; have n0_ := Aside0.mk (hb); have n1_ := Aside0.mk (ho); clear HB; clear HO_3; have HB := n0_; have HO458 := n1_; clear n0_ n1_; clear ho hb hg hat))
      go_roundg k1
      case measure => have := HK1.out; omega
      case rel => exact ⟨(y456), (wrap64 (x4_1 + 1)), ap, H', ⟨by have := HK1.out; omega⟩, ⟨by (with_reducible repeat (first | apply Kd.R_alloc | apply Kd.R_drewN | apply Kd.R_drew)); exact HO458.out⟩, ⟨bo⟩⟩
     ·rw [if_neg c4] at H
      exact absurd H (by simp)
    ·rw [if_neg c3] at H
     exact absurd H (by simp)
   ·rw [if_neg c2] at H
    have c2b0 : decide (x4_1 < (l0.length : Int)) = false := decide_eq_false c2
    clear c2
    obtain rfl := Option.some.inj H
    go_wp2
    go_ret
    exact ⟨_, er, by (with_reducible repeat (first | apply Kd.R_alloc | apply Kd.R_drewN | apply Kd.R_drew)); exact HO_3.out, bo⟩

end Go.Proofs.Ytmabdfdmccbfnaa.P

-- written by a program of the proving session, out of the translation; Lean checks it
namespace Go.Proofs.Ytmabdfdmccbfnaa.P
open Go.RowKit Go.Proofs.Ytmabdfdmccbfnaa.Sq Go.Proofs.YtmabdfdmccbfnaaW.PrintWords Go.Proofs.YtmabdfdmccbfnaaW.PrintLast Go.Proofs.YtmabdfdmccbfnaaW.PrintMore
attribute [local go_sem] max2_int min2_int max_two min_two max_three min_three max_four min_four   -- for this text's walks alone
set_option linter.unusedVariables false
set_option linter.unusedSimpArgs false

/-! ### fairwayref0_CopySeg: function 42 -/
def fairwayref0_CopySeg.f (k : Nat) (a0_0 : Int) (l0_1 : List (S25)) : Option (Int × (List (S25))) := (fairwayref0_CopyRecs.f k l0_1).bind fun t462 => (some (a0_0, t462))
theorem fairwayref0_CopySeg.mono : ∀ a0 a1 k, LeO (fairwayref0_CopySeg.f k a0 a1) (fairwayref0_CopySeg.f (k + 1) a0 a1) := by
 intro a0 a1 k
 unfold fairwayref0_CopySeg.f
 repeat' first
  | (with_reducible exact fairwayref0_CopyRecs.mono _ _)
  | (with_reducible exact LeO.refl _)
  | (with_reducible exact LeO.none _)
  | (with_reducible refine LeO.ite ?_ ?_)
  | (with_reducible refine LeO.bind ?_ (fun _ => ?_))
  | exact fairwayref0_CopyRecs.mono _ _
  | exact LeO.none _
  | refine LeO.ite ?_ ?_
  | refine LeO.bind ?_ (fun _ => ?_)
set_option maxHeartbeats 8000000 in
set_option maxRecDepth 100000 in
theorem fairwayref0_CopySeg.calls (k : Nat) (a0_0 : Int) (A0_1 : Option Addr) (c0_1 : Nat) (l0_1 : List (S25)) (r1 : Int) (r2 : List (S25)) (w : World) (hr0_1 : Kd.C k25 w A0_1 l0_1.length l0_1) (hc0_1 : l0_1.length ≤ c0_1) (h : fairwayref0_CopySeg.f k a0_0 l0_1 = some (r1, r2)) :
 Calls Try.prog 42 #[.agg #[.int .i64 a0_0, .slice A0_1 l0_1.length c0_1]] w fun e w' => ∃ v1_ : Value, e = .returned (.agg #[.int .i64 r1, v1_]) ∧ Kd.R k25 25 w' w.heap.size (fun _ => True) v1_ r2 ∧ Below w.heap.size w w' := by
 have hu53 := Try.underlying53
 have HR0_1 := Aside0.mk hr0_1
 have HC0_1 := Aside0.mk hc0_1
 clear hr0_1 hc0_1
 have HB := Aside0.mk (Below.refl w.heap.size w)
 have H : ((fairwayref0_CopyRecs.f k l0_1).bind fun t462 => (some (a0_0, t462))) = some (r1, r2) := h
 clear h
 replace H := Option.bind_eq_some_iff.mp H
 obtain ⟨t462, A20, H⟩ := H
 try dsimp only at H
 have A2 := Aside0.mk A20
 clear A20
 simp only [Option.some.injEq, Prod.mk.injEq] at H
 obtain ⟨rfl, rfl⟩ := H
 go_enter Try.func42, Try.ntmps42
 go_wp2_with (first | ((with_reducible refine gate_dst (N := 1) rfl ?_); refine box_event ?hg (N := 1) ?hd (cs := #[.int .i64 a0_0, .slice A0_1 l0_1.length c0_1]) (t := 53) ?hr ?_; (case hd => rfl); (case hg => rfl); (case hr => first | (go_simp; done) | (go_simp; rfl)); intro gb459 hg w3 hbox hb; have BK459 := Aside0.mk (hbox); have GW459 := Aside0.mk ((by rw [hg]; exact (below_size bo) : w.heap.size ≤ gb459)); have GE459 := Aside0.mk ((by rw [hg]; exact (below_size bo) : w.heap.size ≤ gb459)); replace HB := Aside0.mk (below_step bo hb); clear hb hbox hg) | ((with_reducible refine gate_dst (N := 2) rfl ?_); refine box_event ?hg (N := 2) ?hd (cs := #[.int .i64 0, .slice none 0 0]) (t := 53) ?hr ?_; (case hd => rfl); (case hg => rfl); (case hr => first | (go_simp; done) | (go_simp; rfl)); intro gb460 hg w4 hbox hb; have BK460 := Aside0.mk (hbox); have GW460 := Aside0.mk ((by rw [hg]; exact (below_size bo) : w.heap.size ≤ gb460)); have GE460 := Aside0.mk ((by rw [hg]; exact (below_size bo) : w.heap.size ≤ gb460)); replace HB := Aside0.mk (below_step bo hb); have NB459_460 := Aside0.mk (nl BK459.out hg); have NB460_459 := Aside0.mk (ng BK459.out hg); replace BK459 := Aside0.mk (bb BK459.out hb); clear hb hbox hg; have hnb5 := NB459_460.out; have hnc5 := NB460_459.out; obtain ⟨hcz6_0, hcz6_1⟩ := cl2 BK459.out; obtain ⟨hfz6_0, hfz6_1⟩ := fz2 BK459.out) | ((with_reducible refine gate_dst (N := 3) rfl ?_); refine box_event ?hg (N := 3) ?hd (cs := #[.int .i64 0, .slice none 0 0]) (t := 53) ?hr ?_; (case hd => rfl); (case hg => rfl); (case hr => first | (go_simp; done) | (go_simp; rfl)); intro gb461 hg w7 hbox hb; have BK461 := Aside0.mk (hbox); have GW461 := Aside0.mk ((by rw [hg]; exact (below_size bo) : w.heap.size ≤ gb461)); have GE461 := Aside0.mk ((by rw [hg]; exact (below_size bo) : w.heap.size ≤ gb461)); replace HB := Aside0.mk (below_step bo hb); have NB459_461 := Aside0.mk (nl BK459.out hg); have NB461_459 := Aside0.mk (ng BK459.out hg); replace BK459 := Aside0.mk (bb BK459.out hb); have NB460_461 := Aside0.mk (nl BK460.out hg); have NB461_460 := Aside0.mk (ng BK460.out hg); replace BK460 := Aside0.mk (bb BK460.out hb); clear hb hbox hg; have hnb8 := NB461_459.out; have hnc8 := NB459_461.out; have hnb9 := NB461_460.out; have hnc9 := NB460_461.out; obtain ⟨hcz10_0, hcz10_1⟩ := cl2 BK461.out; obtain ⟨hfz10_0, hfz10_1⟩ := fz2 BK461.out; obtain ⟨hcz11_0, hcz11_1⟩ := cl2 BK459.out; obtain ⟨hfz11_0, hfz11_1⟩ := fz2 BK459.out) | ((with_reducible refine gate_callee (f := 76) rfl ?_); refine goesL_ (some 7) rfl rfl Try.func76 (by kernel_rfl) rfl #[.slice A0_1 l0_1.length c0_1] rfl aa ?_; (with_reducible refine (fairwayref0_CopyRecs.calls k _ _ l0_1 t462 _ ?side1 ?side2 A2.out).mono ?_); (case side1 => exact Kd.C_below HR0_1.out bo); (case side2 => exact HC0_1.out); rintro e w12 ⟨v463, rfl, ho0, hb⟩; refine ⟨_, rfl, ?_⟩; have HO464 := Aside0.mk (Kd.R_lower ho0 (below_size bo)); replace BK459 := Aside0.mk (bB BK459.out hb); replace BK460 := Aside0.mk (bB BK460.out hb); replace BK461 := Aside0.mk (blk_below (g := gb461) (o := .cells #[.int .i64 a0_0, .slice A0_1 l0_1.length c0_1] 53 (0, 0)) (by (with_reducible repeat (first | refine blk_drewN ?_ _ | refine blk_drew ?_ | refine blk_alloc ?_ _)); refine blk_put (cs := #[.int .i64 a0_0, .slice none 0 0]) ?_ 1 _ rfl; (with_reducible repeat (first | refine blk_drewN ?_ _ | refine blk_drew ?_ | refine blk_alloc ?_ _)); refine blk_put (cs := #[.int .i64 0, .slice none 0 0]) ?_ 0 _ rfl; (with_reducible repeat (first | refine blk_drewN ?_ _ | refine blk_drew ?_ | refine blk_alloc ?_ _)); exact BK461.out) hb); replace HB := Aside0.mk (below_step bo hb); (try clear hb); (try clear hb2); (try clear hk); (try clear hi); (try clear ho0); obtain ⟨Ao13, co13, eo13⟩ := Kd.R_slice HO464.out; subst eo13; obtain ⟨hcz14_0, hcz14_1⟩ := cl2 BK461.out; obtain ⟨hfz14_0, hfz14_1⟩ := fz2 BK461.out; obtain ⟨hcz15_0, hcz15_1⟩ := cl2 BK460.out; obtain ⟨hfz15_0, hfz15_1⟩ := fz2 BK460.out))
 refine bodyPost_ret (results_cell_row rfl _ _ gb460 53 #[.int .i64 a0_0, .slice Ao13 t462.length co13] (0, 0) _ rfl (by (with_reducible repeat (first | refine blk_drewN ?_ _ | refine blk_drew ?_ | refine blk_alloc ?_ _)); refine blk_put (cs := #[.int .i64 a0_0, .slice none 0 0]) ?_ 1 _ rfl; (with_reducible repeat (first | refine blk_drewN ?_ _ | refine blk_drew ?_ | refine blk_alloc ?_ _)); refine blk_put (cs := #[.int .i64 0, .slice none 0 0]) ?_ 0 _ rfl; (with_reducible repeat (first | refine blk_drewN ?_ _ | refine blk_drew ?_ | refine blk_alloc ?_ _)); refine blk_far ?_ NB460_461.out _; (with_reducible repeat (first | refine blk_drewN ?_ _ | refine blk_drew ?_ | refine blk_alloc ?_ _)); exact BK460.out) Try.underlying53 rfl (by kernel_rfl)) rfl ?_
 exact ⟨_, er, by (with_reducible repeat (first | apply Kd.R_alloc | apply Kd.R_drewN | apply Kd.R_drew)); exact Kd.R_mono (Kd.R_far (p := ⟨gb460, 1, none⟩) (Kd.R_far (p := ⟨gb460, 0, none⟩) (Kd.R_far (p := ⟨gb461, 1, none⟩) (Kd.R_types (Kd.R_types HO464.out BK461.out (by decide)) BK460.out (by decide)) (fun _ hk => hk.1.2) (.slice Ao13 t462.length co13)) (fun _ hk => hk.2) (.int .i64 a0_0)) (fun _ hk => hk.2) (.slice Ao13 t462.length co13)) (fun _ hk => trivial), bo⟩

end Go.Proofs.Ytmabdfdmccbfnaa.P

-- written by a program of the proving session, out of the translation; Lean checks it
namespace Go.Proofs.Ytmabdfdmccbfnaa.P
open Go.RowKit Go.Proofs.Ytmabdfdmccbfnaa.Sq Go.Proofs.YtmabdfdmccbfnaaW.PrintWords Go.Proofs.YtmabdfdmccbfnaaW.PrintLast Go.Proofs.YtmabdfdmccbfnaaW.PrintMore
attribute [local go_sem] max2_int min2_int max_two min_two max_three min_three max_four min_four   -- for this text's walks alone
set_option linter.unusedVariables false
set_option linter.unusedSimpArgs false

/-! ### fairwayref10_With: function 48 -/
def fairwayref10_With.f (k : Nat) (a0_0 : Int) (l0_1 : List (S25)) (a1_0 : Int) (a1_1 : Int) (a1_2 : ByteArray) (a1_3 : ByteArray) (a1_4 : Int) (a1_5 : Bool) : Option (Int × (List (S25))) := (fairwayref0_CopySeg.f k a0_0 l0_1).bind fun bt468 => (if bt468.2.length < 2199023255552 then (some (bt468.1, (bt468.2 ++ [(⟨a1_0, a1_1, a1_2, a1_3, a1_4, a1_5⟩ : S25)]))) else (none))
theorem fairwayref10_With.mono : ∀ a0 a1 a2 a3 a4 a5 a6 a7 k, LeO (fairwayref10_With.f k a0 a1 a2 a3 a4 a5 a6 a7) (fairwayref10_With.f (k + 1) a0 a1 a2 a3 a4 a5 a6 a7) := by
 intro a0 a1 a2 a3 a4 a5 a6 a7 k
 unfold fairwayref10_With.f
 repeat' first
  | (with_reducible exact fairwayref0_CopySeg.mono _ _ _)
  | (with_reducible exact LeO.refl _)
  | (with_reducible exact LeO.none _)
  | (with_reducible refine LeO.ite ?_ ?_)
  | (with_reducible refine LeO.bind ?_ (fun _ => ?_))
  | exact fairwayref0_CopySeg.mono _ _ _
  | exact LeO.none _
  | refine LeO.ite ?_ ?_
  | refine LeO.bind ?_ (fun _ => ?_)
set_option maxHeartbeats 8000000 in
set_option maxRecDepth 100000 in
theorem fairwayref10_With.calls (k : Nat) (a0_0 : Int) (A0_1 : Option Addr) (c0_1 : Nat) (l0_1 : List (S25)) (a1_0 : Int) (a1_1 : Int) (a1_2 : ByteArray) (a1_3 : ByteArray) (a1_4 : Int) (a1_5 : Bool) (r1 : Int) (r2 : List (S25)) (w : World) (hr0_1 : Kd.C k25 w A0_1 l0_1.length l0_1) (hc0_1 : l0_1.length ≤ c0_1) (h : fairwayref10_With.f k a0_0 l0_1 a1_0 a1_1 a1_2 a1_3 a1_4 a1_5 = some (r1, r2)) :
 Calls Try.prog 48 #[.agg #[.int .i64 a0_0, .slice A0_1 l0_1.length c0_1], .agg #[.int .i64 a1_0, .int .i64 a1_1, .string a1_2, .string a1_3, .int .i64 a1_4, .bool a1_5]] w fun e w' => ∃ v1_ : Value, e = .returned (.agg #[.int .i64 r1, v1_]) ∧ Kd.R k25 25 w' w.heap.size (fun _ => True) v1_ r2 ∧ Below w.heap.size w w' := by
 have hu53 := Try.underlying53
 have hu25 := Try.underlying25
 have HR0_1 := Aside0.mk hr0_1
 have HC0_1 := Aside0.mk hc0_1
 clear hr0_1 hc0_1
 have HB := Aside0.mk (Below.refl w.heap.size w)
 have H : ((fairwayref0_CopySeg.f k a0_0 l0_1).bind fun bt468 => (if bt468.2.length < 2199023255552 then (some (bt468.1, (bt468.2 ++ [(⟨a1_0, a1_1, a1_2, a1_3, a1_4, a1_5⟩ : S25)]))) else (none))) = some (r1, r2) := h
 clear h
 replace H := Option.bind_eq_some_iff.mp H
 obtain ⟨⟨t468, t469⟩, A30, H⟩ := H
 replace H : (if t469.length < 2199023255552 then (some (t468, (t469 ++ [(⟨a1_0, a1_1, a1_2, a1_3, a1_4, a1_5⟩ : S25)]))) else (none)) = some (r1, r2) := H
 have A3 := Aside0.mk A30
 clear A30
 by_cases c4 : t469.length < 2199023255552
 ·rw [if_pos c4] at H
  have LMc4 := Aside0.mk c4
  clear c4
  obtain ⟨y473, hy473⟩ : ∃ y_ : List (S25), y_ = (t469 ++ [(⟨a1_0, a1_1, a1_2, a1_3, a1_4, a1_5⟩ : S25)]) := ⟨_, rfl⟩
  replace H : (some (t468, y473)) = some (r1, r2) := by first | (rw [hy473]; with_reducible exact H) | (have H2_ := (Option.bind_some _ _).symm.trans H; rw [hy473]; with_reducible exact H2_) | (have H2_ := (Option.bind_some _ _).symm.trans H; with_reducible exact H2_) | with_reducible exact H | (rw [hy473]; exact H) | exact H
  have Ny473 := Aside0.mk hy473
  clear hy473
  simp only [Option.some.injEq, Prod.mk.injEq] at H
  obtain ⟨rfl, rfl⟩ := H
  go_enter Try.func48, Try.ntmps48
  go_wp2_with (first | ((with_reducible refine gate_dst (N := 2) rfl ?_); refine box_event ?hg (N := 2) ?hd (cs := #[.int .i64 a0_0, .slice A0_1 l0_1.length c0_1]) (t := 53) ?hr ?_; (case hd => rfl); (case hg => rfl); (case hr => first | (go_simp; done) | (go_simp; rfl)); intro gb465 hg w5 hbox hb; have BK465 := Aside0.mk (hbox); have GW465 := Aside0.mk ((by rw [hg]; exact (below_size bo) : w.heap.size ≤ gb465)); have GE465 := Aside0.mk ((by rw [hg]; exact (below_size bo) : w.heap.size ≤ gb465)); replace HB := Aside0.mk (below_step bo hb); clear hb hbox hg) | ((with_reducible refine gate_dst (N := 3) rfl ?_); refine box_event ?hg (N := 3) ?hd (cs := #[.int .i64 a1_0, .int .i64 a1_1, .string a1_2, .string a1_3, .int .i64 a1_4, .bool a1_5]) (t := 25) ?hr ?_; (case hd => rfl); (case hg => rfl); (case hr => first | (go_simp; done) | (go_simp; rfl)); intro gb466 hg w6 hbox hb; have BK466 := Aside0.mk (hbox); have GW466 := Aside0.mk ((by rw [hg]; exact (below_size bo) : w.heap.size ≤ gb466)); have GE466 := Aside0.mk ((by rw [hg]; exact (below_size bo) : w.heap.size ≤ gb466)); replace HB := Aside0.mk (below_step bo hb); have NB465_466 := Aside0.mk (nl BK465.out hg); have NB466_465 := Aside0.mk (ng BK465.out hg); replace BK465 := Aside0.mk (bb BK465.out hb); clear hb hbox hg) | ((with_reducible refine gate_dst (N := 4) rfl ?_); refine box_event ?hg (N := 4) ?hd (cs := #[.int .i64 0, .slice none 0 0]) (t := 53) ?hr ?_; (case hd => rfl); (case hg => rfl); (case hr => first | (go_simp; done) | (go_simp; rfl)); intro gb467 hg w7 hbox hb; have BK467 := Aside0.mk (hbox); have GW467 := Aside0.mk ((by rw [hg]; exact (below_size bo) : w.heap.size ≤ gb467)); have GE467 := Aside0.mk ((by rw [hg]; exact (below_size bo) : w.heap.size ≤ gb467)); replace HB := Aside0.mk (below_step bo hb); have NB465_467 := Aside0.mk (nl BK465.out hg); have NB467_465 := Aside0.mk (ng BK465.out hg); replace BK465 := Aside0.mk (bb BK465.out hb); have NB466_467 := Aside0.mk (nl BK466.out hg); have NB467_466 := Aside0.mk (ng BK466.out hg); replace BK466 := Aside0.mk (bb BK466.out hb); clear hb hbox hg; have hnb8 := NB465_466.out; have hnc8 := NB466_465.out; have hnb9 := NB465_467.out; have hnc9 := NB467_465.out; obtain ⟨hcz10_0, hcz10_1⟩ := cl2 BK465.out; obtain ⟨hfz10_0, hfz10_1⟩ := fz2 BK465.out) | ((with_reducible refine gate_callee (f := 42) rfl ?_); refine goesL_ (some 7) rfl rfl Try.func42 (by kernel_rfl) rfl #[.agg #[.int .i64 a0_0, .slice A0_1 l0_1.length c0_1]] rfl aa ?_; (with_reducible refine (fairwayref0_CopySeg.calls k a0_0 _ _ l0_1 t468 t469 _ ?side1 ?side2 A3.out).mono ?_); (case side1 => repeat (first | exact (Kd.C_below HR0_1.out HB.out) | (with_reducible refine Kd.C_alloc ?_ _) | (with_reducible refine Kd.C_drewN ?_ _) | (with_reducible refine Kd.C_drew ?_))); (case side2 => exact HC0_1.out); rintro e w11 ⟨v470, rfl, ho0, hb⟩; refine ⟨_, rfl, ?_⟩; have HO471 := Aside0.mk (Kd.R_lower (Kd.R_newB ho0 (g := gb466) (o := .cells #[.int .i64 a1_0, .int .i64 a1_1, .string a1_2, .string a1_3, .int .i64 a1_4, .bool a1_5] 25 (0, 0)) (bk BK466.out)) (below_size bo)); replace BK465 := Aside0.mk (bb BK465.out hb); replace BK466 := Aside0.mk (bb BK466.out hb); replace BK467 := Aside0.mk (bb BK467.out hb); replace HB := Aside0.mk (below_step bo hb); (try clear hb); (try clear hb2); (try clear hk); (try clear hi); (try clear ho0)) | ((with_reducible refine gate_dst (N := 5) rfl ?_); refine box_event ?hg (N := 5) ?hd (cs := #[.int .i64 0, .slice none 0 0]) (t := 53) ?hr ?_; (case hd => rfl); (case hg => rfl); (case hr => first | (go_simp; done) | (go_simp; rfl)); intro gb472 hg w12 hbox hb; replace HO471 := Aside0.mk (Kd.R_below (rk HO471.out) hb); have BK472 := Aside0.mk (hbox); have GW472 := Aside0.mk ((by rw [hg]; exact (below_size bo) : w.heap.size ≤ gb472)); have GE472 := Aside0.mk ((by rw [hg]; exact (below_size bo) : w.heap.size ≤ gb472)); replace HB := Aside0.mk (below_step bo hb); have NB465_472 := Aside0.mk (nl BK465.out hg); have NB472_465 := Aside0.mk (ng BK465.out hg); replace BK465 := Aside0.mk (bb BK465.out hb); have NB466_472 := Aside0.mk (nl BK466.out hg); have NB472_466 := Aside0.mk (ng BK466.out hg); replace BK466 := Aside0.mk (bb BK466.out hb); have NB467_472 := Aside0.mk (nl BK467.out hg); have NB472_467 := Aside0.mk (ng BK467.out hg); replace BK467 := Aside0.mk (bb BK467.out hb); clear hb hbox hg; have hnb13 := NB472_465.out; have hnc13 := NB465_472.out; have hnb14 := NB472_466.out; have hnc14 := NB466_472.out; have hnb15 := NB472_467.out; have hnc15 := NB467_472.out; obtain ⟨hcz16_0, hcz16_1⟩ := cl2 BK472.out; obtain ⟨hfz16_0, hfz16_1⟩ := fz2 BK472.out; obtain ⟨Ao17, co17, eo17⟩ := Kd.R_slice HO471.out; subst eo17; have hnb18 := NB466_467.out; have hnc18 := NB467_466.out; obtain ⟨hcz19_0, hcz19_1, hcz19_2, hcz19_3, hcz19_4, hcz19_5⟩ := cl6 BK466.out; obtain ⟨hfz19_0, hfz19_1, hfz19_2, hfz19_3, hfz19_4, hfz19_5⟩ := fz6 BK466.out) | ((with_reducible refine gate_builtin (b := .append) (xs := #[.tmp 9, .tmp 11]) rfl ?_); at_builtin; refine Kd.R_append k25 (w0 := w) w.heap.size rfl (.tmp 9) (.tmp 11) 36 25 (.agg #[(.int .i64 0), (.int .i64 0), (.string ⟨#[]⟩), (.string ⟨#[]⟩), (.int .i64 0), (.bool false)]) 64 rfl Try.underlying36 info25 rfl (by decide) (by omega) (.slice Ao17 t469.length co17) t469 (⟨a1_0, a1_1, a1_2, a1_3, a1_4, a1_5⟩ : S25) [.int .i64 a1_0, .int .i64 a1_1, .string a1_2, .string a1_3, .int .i64 a1_4, .bool a1_5] (fun k_ => k_ ≠ gb466) (fun _ => False) rfl (by first | (go_simp; done) | (go_simp; rfl)) ?aP (fun _ hk => hk.elim) ?aF ?aO ?aB ?aS ?aL ?_; (case aP => exact k25_mkM _ _ _ (⟨a1_0, a1_1, a1_2, a1_3, a1_4, a1_5⟩ : S25)); (case aB => exact bo); (case aF => exact (fun k_ hk => Kd.freshB (g := gb466) (o := .cells #[.int .i64 a1_0, .int .i64 a1_1, .string a1_2, .string a1_3, .int .i64 a1_4, .bool a1_5] 25 (0, 0)) (bf BK466.out) k_ hk)); (case aO => exact (by (with_reducible repeat (first | apply Kd.R_alloc | apply Kd.R_drewN | apply Kd.R_drew)); exact Kd.R_mono (Kd.R_far (p := ⟨gb472, 1, none⟩) (Kd.R_far (p := ⟨gb472, 0, none⟩) (Kd.R_types HO471.out BK472.out (by decide)) (fun _ hk => hk.2) (.int .i64 t468)) (fun _ hk => hk.2) (.slice Ao17 t469.length co17)) (fun _ hk => hk.1.2))); (case aS => exact (below_size bo)); (case aL => have := LMc4.out; omega); intro v474 w20 ho hb hg hat; rw [← Ny473.out] at ho; have n0_ := Aside0.mk (blk_grown (g := gb465) (o := .cells #[.int .i64 a0_0, .slice A0_1 l0_1.length c0_1] 53 (0, 0)) (bf BK465.out) hg (Kd.R_ne HO471.out BK465.out (by decide))); have n1_ := Aside0.mk (blk_grown (g := gb466) (o := .cells #[.int .i64 a1_0, .int .i64 a1_1, .string a1_2, .string a1_3, .int .i64 a1_4, .bool a1_5] 25 (0, 0)) (bf BK466.out) hg (Kd.R_away HO471.out (fun _ hk => hk.2))); have n2_ := Aside0.mk (blk_grown (g := gb467) (o := .cells #[.int .i64 0, .slice none 0 0] 53 (0, 0)) (bf BK467.out) hg (Kd.R_ne HO471.out BK467.out (by decide))); have n3_ := Aside0.mk (blk_grown (g := gb472) (o := .cells #[.int .i64 t468, .slice Ao17 t469.length co17] 53 (0, 0)) (by (with_reducible repeat (first | refine blk_drewN ?_ _ | refine blk_drew ?_ | refine blk_alloc ?_ _)); refine blk_put (cs := #[.int .i64 t468, .slice none 0 0]) ?_ 1 _ rfl; (with_reducible repeat (first | refine blk_drewN ?_ _ | refine blk_drew ?_ | refine blk_alloc ?_ _)); refine blk_put (cs := #[.int .i64 0, .slice none 0 0]) ?_ 0 _ rfl; (with_reducible repeat (first | refine blk_drewN ?_ _ | refine blk_drew ?_ | refine blk_alloc ?_ _)); exact BK472.out) hg (Kd.R_ne HO471.out BK472.out (by decide))); have n4_ := Aside0.mk (hb); have n5_ := Aside0.mk (ho); clear BK465; clear BK466; clear BK467; clear BK472; clear HB; clear HO471; have BK465 := n0_; have BK466 := n1_; have BK467 := n2_; have BK472 := n3_; have HB := n4_; have HO475 := n5_; clear n0_ n1_ n2_ n3_ n4_ n5_; clear ho hb hg hat; obtain ⟨Ao21, co21, eo21⟩ := Kd.R_slice HO475.out; subst eo21; obtain ⟨hcz22_0, hcz22_1⟩ := cl2 BK472.out; obtain ⟨hfz22_0, hfz22_1⟩ := fz2 BK472.out; obtain ⟨hcz23_0, hcz23_1⟩ := cl2 BK467.out; obtain ⟨hfz23_0, hfz23_1⟩ := fz2 BK467.out))
  refine bodyPost_ret (results_cell_row rfl _ _ gb467 53 #[.int .i64 t468, .slice Ao21 y473.length co21] (0, 0) _ rfl (by (with_reducible repeat (first | refine blk_drewN ?_ _ | refine blk_drew ?_ | refine blk_alloc ?_ _)); refine blk_put (cs := #[.int .i64 t468, .slice none 0 0]) ?_ 1 _ rfl; (with_reducible repeat (first | refine blk_drewN ?_ _ | refine blk_drew ?_ | refine blk_alloc ?_ _)); refine blk_put (cs := #[.int .i64 0, .slice none 0 0]) ?_ 0 _ rfl; (with_reducible repeat (first | refine blk_drewN ?_ _ | refine blk_drew ?_ | refine blk_alloc ?_ _)); refine blk_far ?_ NB467_472.out _; (with_reducible repeat (first | refine blk_drewN ?_ _ | refine blk_drew ?_ | refine blk_alloc ?_ _)); exact BK467.out) Try.underlying53 rfl (by kernel_rfl)) rfl ?_
  exact ⟨_, er, by (with_reducible repeat (first | apply Kd.R_alloc | apply Kd.R_drewN | apply Kd.R_drew)); exact Kd.R_mono (Kd.R_far (p := ⟨gb467, 1, none⟩) (Kd.R_far (p := ⟨gb467, 0, none⟩) (Kd.R_far (p := ⟨gb472, 1, none⟩) (Kd.R_types (Kd.R_types HO475.out BK472.out (by decide)) BK467.out (by decide)) (fun _ hk => hk.1.2) (.slice Ao21 y473.length co21)) (fun _ hk => hk.2) (.int .i64 t468)) (fun _ hk => hk.2) (.slice Ao21 y473.length co21)) (fun _ hk => trivial), bo⟩
 ·rw [if_neg c4] at H
  exact absurd H (by simp)

end Go.Proofs.Ytmabdfdmccbfnaa.P

-- written by a program of the proving session, out of the translation; Lean checks it
namespace Go.Proofs.Ytmabdfdmccbfnaa.P
open Go.RowKit Go.Proofs.Ytmabdfdmccbfnaa.Sq Go.Proofs.YtmabdfdmccbfnaaW.PrintWords Go.Proofs.YtmabdfdmccbfnaaW.PrintLast Go.Proofs.YtmabdfdmccbfnaaW.PrintMore
attribute [local go_sem] max2_int min2_int max_two min_two max_three min_three max_four min_four   -- for this text's walks alone
set_option linter.unusedVariables false
set_option linter.unusedSimpArgs false

/-! ### fairwayref10_Seg: function 31 -/
mutual
def fairwayref10_Seg.l0 : Nat → Int → Int → List (S25) → Option (Bool)
 | 0, _, _, _ => none
 | k + 1, x3, x351000, x351001 => if x3 < (x351001.length : Int) then (fairwayref10_Seg.j1 k x3 x351000 x351001) else ((fairwayref0_Num.f x351000 1099511627776).bind fun t351 => (if t351 = true then (some (decide ((x351001.length : Int) ≤ 200))) else (some false)))
def fairwayref10_Seg.j1 : Nat → Int → Int → List (S25) → Option (Bool)
 | 0, _, _, _ => none
 | k + 1, x3, x351000, x351001 => if 0 ≤ x3 then (if x3 < (x351001.length : Int) then ((fairwayref10_Rec.f ((rd_T25 x351001 x3).f0) ((rd_T25 x351001 x3).f1) ((rd_T25 x351001 x3).f2) ((rd_T25 x351001 x3).f3) ((rd_T25 x351001 x3).f4) ((rd_T25 x351001 x3).f5)).bind fun t353 => (if t353 = true then (if ((rd_T25 x351001 x3).f0) < x351000 then (fairwayref10_Seg.j2 k x3 true x351000 x351001) else (if x3 > 0 then (if 0 ≤ (wrap64 (x3 - 1)) then (if (wrap64 (x3 - 1)) < (x351001.length : Int) then (if ((rd_T25 x351001 (wrap64 (x3 - 1))).f0) ≥ ((rd_T25 x351001 x3).f0) then (fairwayref10_Seg.j2 k x3 true x351000 x351001) else (fairwayref10_Seg.j2 k x3 (decide (((rd_T25 x351001 (wrap64 (x3 - 1))).f1) > ((rd_T25 x351001 x3).f1))) x351000 x351001)) else (none)) else (none)) else (fairwayref10_Seg.j2 k x3 false x351000 x351001))) else (fairwayref10_Seg.j2 k x3 true x351000 x351001))) else (none)) else (none)
def fairwayref10_Seg.j2 : Nat → Int → Bool → Int → List (S25) → Option (Bool)
 | 0, _, _, _, _ => none
 | k + 1, x3, x64, x351000, x351001 => if x64 = true then (some false) else (fairwayref10_Seg.l0 k (wrap64 (x3 + 1)) x351000 x351001)
end
def fairwayref10_Seg.f (k : Nat) (a0_0 : Int) (l0_1 : List (S25)) : Option (Bool) := fairwayref10_Seg.l0 k 0 a0_0 l0_1
theorem fairwayref10_Seg.mono_l : ∀ k, (∀ y0 y1 y2, LeO (fairwayref10_Seg.l0 k y0 y1 y2) (fairwayref10_Seg.l0 (k + 1) y0 y1 y2)) ∧ (∀ y0 y1 y2, LeO (fairwayref10_Seg.j1 k y0 y1 y2) (fairwayref10_Seg.j1 (k + 1) y0 y1 y2)) ∧ (∀ y0 y1 y2 y3, LeO (fairwayref10_Seg.j2 k y0 y1 y2 y3) (fairwayref10_Seg.j2 (k + 1) y0 y1 y2 y3))
 | 0 => ⟨fun _ _ _ r h => by simp [fairwayref10_Seg.l0] at h, fun _ _ _ r h => by simp [fairwayref10_Seg.j1] at h, fun _ _ _ _ r h => by simp [fairwayref10_Seg.j2] at h⟩
 | k + 1 => by
  obtain ⟨ih0, ih1, ih2⟩ := fairwayref10_Seg.mono_l k
  refine ⟨?_, ?_, ?_⟩
  ·intro y0 y1 y2
   unfold fairwayref10_Seg.l0
   repeat' first
   | (with_reducible exact ih0 _ _ _)
   | (with_reducible exact ih1 _ _ _)
   | (with_reducible exact ih2 _ _ _ _)
   | (with_reducible exact LeO.refl _)
   | (with_reducible exact LeO.none _)
   | (with_reducible refine LeO.ite ?_ ?_)
   | (with_reducible refine LeO.bind ?_ (fun _ => ?_))
   | exact ih0 _ _ _
   | exact ih1 _ _ _
   | exact ih2 _ _ _ _
   | exact LeO.none _
   | refine LeO.ite ?_ ?_
   | refine LeO.bind ?_ (fun _ => ?_)
  ·intro y0 y1 y2
   unfold fairwayref10_Seg.j1
   repeat' first
   | (with_reducible exact ih0 _ _ _)
   | (with_reducible exact ih1 _ _ _)
   | (with_reducible exact ih2 _ _ _ _)
   | (with_reducible exact LeO.refl _)
   | (with_reducible exact LeO.none _)
   | (with_reducible refine LeO.ite ?_ ?_)
   | (with_reducible refine LeO.bind ?_ (fun _ => ?_))
   | exact ih0 _ _ _
   | exact ih1 _ _ _
   | exact ih2 _ _ _ _
   | exact LeO.none _
   | refine LeO.ite ?_ ?_
   | refine LeO.bind ?_ (fun _ => ?_)
  ·intro y0 y1 y2 y3
   unfold fairwayref10_Seg.j2
   repeat' first
   | (with_reducible exact ih0 _ _ _)
   | (with_reducible exact ih1 _ _ _)
   | (with_reducible exact ih2 _ _ _ _)
   | (with_reducible exact LeO.refl _)
   | (with_reducible exact LeO.none _)
   | (with_reducible refine LeO.ite ?_ ?_)
   | (with_reducible refine LeO.bind ?_ (fun _ => ?_))
   | exact ih0 _ _ _
   | exact ih1 _ _ _
   | exact ih2 _ _ _ _
   | exact LeO.none _
   | refine LeO.ite ?_ ?_
   | refine LeO.bind ?_ (fun _ => ?_)
theorem fairwayref10_Seg.mono : ∀ a0 a1 k, LeO (fairwayref10_Seg.f k a0 a1) (fairwayref10_Seg.f (k + 1) a0 a1) := by
 intro a0 a1 k
 obtain ⟨ih0, ih1, ih2⟩ := fairwayref10_Seg.mono_l k
 unfold fairwayref10_Seg.f
 repeat' first
  | (with_reducible exact ih0 _ _ _)
  | (with_reducible exact ih1 _ _ _)
  | (with_reducible exact ih2 _ _ _ _)
  | (with_reducible exact LeO.refl _)
  | (with_reducible exact LeO.none _)
  | (with_reducible refine LeO.ite ?_ ?_)
  | (with_reducible refine LeO.bind ?_ (fun _ => ?_))
  | exact ih0 _ _ _
  | exact ih1 _ _ _
  | exact ih2 _ _ _ _
  | exact LeO.none _
  | refine LeO.ite ?_ ?_
  | refine LeO.bind ?_ (fun _ => ?_)
def fairwayref10_Seg.T4 : Bool × List (List Nat × List Nat) := (true, [([], []), ([0], [0]), ([], []), ([1, 2], [1, 2]), ([3], [3]), ([4], [4]), ([5], [5]), ([6, 5], [6]), ([7], [7]), ([8, 7], [7, 8]), ([7], [7]), ([9, 10, 7], [7, 9, 10]), ([11, 7], [7, 11]), ([12, 7], [7, 12]), ([7], [7]), ([14, 7], [7, 14]), ([13, 15, 7], [7, 13, 15]), ([7, 16], [7, 16]), ([17, 7], [17]), ([18], [18]), ([19, 18], [18, 19]), ([20, 18, 18], [18, 20]), ([21], [21]), ([22, 21], [21, 22]), ([21], [21]), ([24, 21], [21, 24]), ([23, 25, 21], [21, 23, 25]), ([26, 21], [21, 26]), ([27, 21], [21, 27]), ([21], [21]), ([29, 21], [21, 29]), ([21], [21]), ([30, 31, 21], [21, 30, 31]), ([32, 21], [21, 32]), ([33, 21], [21, 33]), ([28, 34, 21], [21, 28, 34]), ([35, 21, 21], [21, 35]), ([36], [36]), ([37, 36], [36, 37]), ([36], [36]), ([39, 36], [36, 39]), ([38, 40, 36], [36, 38, 40]), ([41, 36], [36, 41]), ([42, 36], [36, 42]), ([36], [36]), ([44, 36], [36, 44]), ([36], [36]), ([45, 46, 36], [36, 45, 46]), ([47, 36], [36, 47]), ([48, 36], [36, 48]), ([43, 49, 36], [36, 43, 49]), ([36, 50, 21], [21, 36, 50]), ([21, 51, 18], [18, 21, 51]), ([18, 52], [18, 52])])
def fairwayref10_Seg.B4 : List Nat := [0, 1, 0, 7, 15, 31, 63, 127, 255, 511, 255, 2047, 4095, 8191, 255, 16639, 65535, 131071, 262143, 524287, 1048575, 2097151, 4194303, 8388607, 4194303, 20971519, 67108863, 134217727, 268435455, 4194303, 541065215, 4194303, 3762290687, 8057257983, 16647192575, 34359738367, 68719476735, 137438953471, 274877906943, 137438953471, 687194767359, 2199023255551, 4398046511103, 8796093022207, 137438953471, 17729624997887, 137438953471, 123282741264383, 264020229619711, 545495206330367, 1125899906842623, 2251799813685247, 4503599627370495, 9007199254740991]
theorem fairwayref10_Seg.tab4 : rtab .any (opsOf Try.f31 4) = fairwayref10_Seg.T4 := by kernel_rfl
theorem fairwayref10_Seg.bits4 : waitsOk fairwayref10_Seg.T4.2 fairwayref10_Seg.B4 = true := by kernel_rfl
set_option maxHeartbeats 8000000 in
set_option maxRecDepth 100000 in
theorem fairwayref10_Seg.calls (k : Nat) (a0_0 : Int) (A0_1 : Option Addr) (c0_1 : Nat) (l0_1 : List (S25)) (r : Bool) (w : World) (hr0_1 : Kd.C k25 w A0_1 l0_1.length l0_1) (hc0_1 : l0_1.length ≤ c0_1) (h : fairwayref10_Seg.f k a0_0 l0_1 = some r) :
 Calls Try.prog 31 #[.agg #[.int .i64 a0_0, .slice A0_1 l0_1.length c0_1]] w fun e w' => e = .returned (.bool r) ∧ Below w.heap.size w w' := by
 have hu53 := Try.underlying53
 have hu25 := Try.underlying25
 have HR0_1 := Aside0.mk hr0_1
 have HC0_1 := Aside0.mk hc0_1
 clear hr0_1 hc0_1
 have HB := Aside0.mk (Below.refl w.heap.size w)
 have H : (fairwayref10_Seg.l0 k 0 a0_0 l0_1) = some r := h
 clear h
 have H' := Aside0.mk H
 clear H
 go_enter Try.func31, Try.ntmps31
 go_wp2_with (first | ((with_reducible refine gate_dst (N := 1) rfl ?_); (try (refine gate_guard (by rfl) ?_; dsimp only)); refine box_event ?hg (N := 1) ?hd (cs := #[.int .i64 a0_0, .slice A0_1 l0_1.length c0_1]) (t := 53) ?hr ?_; (case hd => rfl); (case hg => rfl); (case hr => first | (go_simp; done) | (go_simp; rfl)); intro gb350 hg w2 hbox hb; have BK350 := Aside0.mk (hbox); have GW350 := Aside0.mk ((by rw [hg]; exact (below_size bo) : w.heap.size ≤ gb350)); have GE350 := Aside0.mk ((by rw [hg]; exact (below_size bo) : w.heap.size ≤ gb350)); replace HB := Aside0.mk (below_step bo hb); clear hb hbox hg))
 go_loopg [3] k (fun kq v3 w' => ∃ (x3_1 : Int), v3 = .int .i64 x3_1 ∧ Aside0 (fairwayref10_Seg.l0 kq x3_1 a0_0 l0_1 = some r) ∧ Aside0 (kq ≤ k) ∧ Aside0 (w'.heap[gb350]? = some (.cells #[.int .i64 a0_0, (.slice A0_1 l0_1.length c0_1)] 53 (0, 0))) ∧ Aside0 (Below w.heap.size w w'))
 case atStart => exact ⟨(0), ap, H', ⟨Nat.le_refl _⟩, ⟨by (with_reducible repeat (first | refine blk_drewN ?_ _ | refine blk_drew ?_ | refine blk_alloc ?_ _)); exact BK350.out⟩, ⟨bo⟩⟩
 case round =>
  clear H'
  try clear p2
  obtain ⟨x3_1, rfl, HA, HK1, BK350, HB⟩ := hrel
  cases gk with
  | zero => exact absurd HA.out (by simp [fairwayref10_Seg.l0])
  | succ k1 =>
   have H := HA.out
   clear HA
   simp only [fairwayref10_Seg.l0] at H
   have HC3 := Aside0.mk H
   clear H
   have hcz4_0 : wr.cell? ⟨gb350, 0, none⟩ = some (.int .i64 a0_0) := (blk_cell BK350.out 0).trans rfl
   have hcz4_1 : wr.cell? ⟨gb350, 1, none⟩ = some (.slice A0_1 l0_1.length c0_1) := (blk_cell BK350.out 1).trans rfl
   have hfz4_0 := blk_frozen BK350.out 0
   have hfz4_1 := blk_frozen BK350.out 1
   go_upto_if 8 with (fail)
   go_cut [] (fun wc => ∃ (kq : Nat), Aside0 (fairwayref10_Seg.j1 kq x3_1 a0_0 l0_1 = some r) ∧ Aside0 (kq ≤ k1) ∧ Aside0 (wc.heap[gb350]? = some (.cells #[.int .i64 a0_0, (.slice A0_1 l0_1.length c0_1)] 53 (0, 0))) ∧ Aside0 (Below w.heap.size w wc))
   case first =>
    have H := HC3.out
    clear HC3
    by_cases c5 : x3_1 < (l0_1.length : Int)
    ·rw [if_pos c5] at H
     have c5b0 : decide (x3_1 < (l0_1.length : Int)) = true := decide_eq_true c5
     clear c5
     (first | rw [c5b0] | (simp only [i64_w, i32_w]; rw [c5b0]) | skip)
     have H' := Aside0.mk H
     clear H
     go_wp2
     go_meet
     case rel => exact ⟨_, H', ⟨by have := HK1.out; first | omega | exact Nat.le_refl _⟩, ⟨by (with_reducible repeat (first | refine blk_drewN ?_ _ | refine blk_drew ?_ | refine blk_alloc ?_ _)); exact BK350.out⟩, ⟨bo⟩⟩
    ·rw [if_neg c5] at H
     have c5b0 : decide (x3_1 < (l0_1.length : Int)) = false := decide_eq_false c5
     clear c5
     (first | rw [c5b0] | (simp only [i64_w, i32_w]; rw [c5b0]) | skip)
     replace H := Option.bind_eq_some_iff.mp H
     obtain ⟨t351, A60, H⟩ := H
     try dsimp only at H
     have A6 := Aside0.mk A60
     clear A60
     by_cases c7 : t351 = true
     ·subst c7
      have H1 : (some (decide ((l0_1.length : Int) ≤ 200))) = some r := by rw [if_pos rfl] at H; exact H
      clear H
      have H := H1
      clear H1
      obtain rfl := Option.some.inj H
      have hcz8_0 : wr.cell? ⟨gb350, 0, none⟩ = some (.int .i64 a0_0) := (blk_cell BK350.out 0).trans rfl
      have hcz8_1 : wr.cell? ⟨gb350, 1, none⟩ = some (.slice A0_1 l0_1.length c0_1) := (blk_cell BK350.out 1).trans rfl
      have hfz8_0 := blk_frozen BK350.out 0
      have hfz8_1 := blk_frozen BK350.out 1
      go_wp2_with (first | ((with_reducible refine gate_callee (f := 39) rfl ?_); refine goesL_ (some 67) rfl rfl Try.func39 (by kernel_rfl) rfl #[.int .i64 a0_0, .int .i64 1099511627776] rfl aa ?_; (with_reducible refine (fairwayref0_Num.calls a0_0 1099511627776 true _ A6.out).mono ?_); rintro e w' ⟨rfl, ⟨nd, rfl⟩⟩; refine ⟨_, rfl, ?_⟩))
      go_ret
      exact ⟨er, bo⟩
     ·replace c7 := Bool.eq_false_iff.mpr c7
      subst c7
      have H1 : (some false) = some r := by rw [if_neg (show ¬ (false = true) by decide)] at H; exact H
      clear H
      have H := H1
      clear H1
      obtain rfl := Option.some.inj H
      have hcz9_0 : wr.cell? ⟨gb350, 0, none⟩ = some (.int .i64 a0_0) := (blk_cell BK350.out 0).trans rfl
      have hcz9_1 : wr.cell? ⟨gb350, 1, none⟩ = some (.slice A0_1 l0_1.length c0_1) := (blk_cell BK350.out 1).trans rfl
      have hfz9_0 := blk_frozen BK350.out 0
      have hfz9_1 := blk_frozen BK350.out 1
      go_wp2_with (first | ((with_reducible refine gate_callee (f := 39) rfl ?_); refine goesL_ (some 67) rfl rfl Try.func39 (by kernel_rfl) rfl #[.int .i64 a0_0, .int .i64 1099511627776] rfl aa ?_; (with_reducible refine (fairwayref0_Num.calls a0_0 1099511627776 false _ A6.out).mono ?_); rintro e w' ⟨rfl, ⟨nd, rfl⟩⟩; refine ⟨_, rfl, ?_⟩))
      go_ret
      exact ⟨er, bo⟩
   case rest =>
    clear HC3
    (try clear p2); (try clear c3); (try clear c5); (try clear c5b0); (try clear c7); (try clear hcz4_0); (try clear hcz4_1); (try clear hcz8_0); (try clear hcz8_1); (try clear hcz9_0); (try clear hcz9_1); (try clear hfz4_0); (try clear hfz4_1); (try clear hfz8_0); (try clear hfz8_1); (try clear hfz9_0); (try clear hfz9_1); (try clear p2)
    obtain ⟨kq, HA, HJ2, BK350, HB⟩ := hcut
    cases kq with
    | zero => exact absurd HA.out (by simp [fairwayref10_Seg.j1])
    | succ kj2 =>
     have H := HA.out
     clear HA
     simp only [fairwayref10_Seg.j1] at H
     have HC10 := Aside0.mk H
     clear H
     go_upto_region 4 with (fail)
     go_cut [64] (fun v64 wc => ∃ (kq : Nat) (x64_9 : Bool), v64 = .bool x64_9 ∧ Aside0 (fairwayref10_Seg.j2 kq x3_1 x64_9 a0_0 l0_1 = some r) ∧ Aside0 (kq ≤ kj2) ∧ Aside0 (wc.heap[gb350]? = some (.cells #[.int .i64 a0_0, (.slice A0_1 l0_1.length c0_1)] 53 (0, 0))) ∧ Aside0 (Below w.heap.size w wc))
     case first =>
      have H := HC10.out
      clear HC10
      by_cases c11 : 0 ≤ x3_1
      ·rw [if_pos c11] at H
       have c11b0 : decide (0 ≤ x3_1) = true := decide_eq_true c11
       clear c11
       (first | rw [c11b0] | (simp only [i64_w, i32_w]; rw [c11b0]) | skip)
       by_cases c12 : x3_1 < (l0_1.length : Int)
       ·rw [if_pos c12] at H
        have c12b0 : decide (x3_1 < (l0_1.length : Int)) = true := decide_eq_true c12
        clear c12
        replace H := Option.bind_eq_some_iff.mp H
        obtain ⟨t353, A130, H⟩ := H
        try dsimp only at H
        have A13 := Aside0.mk A130
        clear A130
        by_cases c14 : t353 = true
        ·subst c14
         have H1 : (if ((rd_T25 l0_1 x3_1).f0) < a0_0 then (fairwayref10_Seg.j2 kj2 x3_1 true a0_0 l0_1) else (if x3_1 > 0 then (if 0 ≤ (wrap64 (x3_1 - 1)) then (if (wrap64 (x3_1 - 1)) < (l0_1.length : Int) then (if ((rd_T25 l0_1 (wrap64 (x3_1 - 1))).f0) ≥ ((rd_T25 l0_1 x3_1).f0) then (fairwayref10_Seg.j2 kj2 x3_1 true a0_0 l0_1) else (fairwayref10_Seg.j2 kj2 x3_1 (decide (((rd_T25 l0_1 (wrap64 (x3_1 - 1))).f1) > ((rd_T25 l0_1 x3_1).f1))) a0_0 l0_1)) else (none)) else (none)) else (fairwayref10_Seg.j2 kj2 x3_1 false a0_0 l0_1))) = some r := by rw [if_pos rfl] at H; exact H
         clear H
         have H := H1
         clear H1
         by_cases c15 : ((rd_T25 l0_1 x3_1).f0) < a0_0
         ·rw [if_pos c15] at H
          have c15b0 : decide (((rd_T25 l0_1 x3_1).f0) < a0_0) = true := decide_eq_true c15
          clear c15
          have H' := Aside0.mk H
          clear H
          try go_wp2
          replace BK350 := Aside0.mk (blk_drew BK350.out)
          replace HB := Aside0.mk (below_drew1 HB.out)
          have p352 : 0 ≤ (x3_1 : Int) := od
          have q352 : x3_1 < (l0_1.length : Int) := od
          obtain ⟨ad352, e352, hx352_0, hx352_1, hx352_2, hx352_3, hx352_4, hx352_5⟩ := at_T25 HR0_1.out x3_1 p352 q352
          have hw352_5 := hx352_5
          have hw352_4 := hx352_4
          have hw352_3 := hx352_3
          have hw352_2 := hx352_2
          have hw352_1 := hx352_1
          have hw352_0 := hx352_0
          cases e352
          replace hx352_0 := cx HB.out hx352_0
          replace hx352_1 := cx HB.out hx352_1
          replace hx352_2 := cx HB.out hx352_2
          replace hx352_3 := cx HB.out hx352_3
          replace hx352_4 := cx HB.out hx352_4
          replace hx352_5 := cx HB.out hx352_5
          replace p352 := eq_true p352
          replace q352 := eq_true q352
          have p354 : 0 ≤ (x3_1 : Int) := od
          have q354 : x3_1 < (l0_1.length : Int) := od
          obtain ⟨ad354, e354, hx354_0, hx354_1, hx354_2, hx354_3, hx354_4, hx354_5⟩ := at_T25 HR0_1.out x3_1 p354 q354
          have hw354_5 := hx354_5
          have hw354_4 := hx354_4
          have hw354_3 := hx354_3
          have hw354_2 := hx354_2
          have hw354_1 := hx354_1
          have hw354_0 := hx354_0
          obtain rfl : ad352 = ad354 := (by injection e354)
          replace hx354_0 := cx HB.out hx354_0
          replace hx354_1 := cx HB.out hx354_1
          replace hx354_2 := cx HB.out hx354_2
          replace hx354_3 := cx HB.out hx354_3
          replace hx354_4 := cx HB.out hx354_4
          replace hx354_5 := cx HB.out hx354_5
          replace p354 := eq_true p354
          replace q354 := eq_true q354
          refine start_ (n := 54) (S := fun w' => w'.cell? ⟨gb350, 0, none⟩ = some (.int .i64 a0_0) ∧ w'.cell? ⟨gb350, 1, none⟩ = some (.slice (some ad352) l0_1.length c0_1) ∧ w'.cell? (ad352.add ((x3_1).toNat * 6)) = some (.int .i64 ((rd_T25 l0_1 x3_1).f0)) ∧ w'.cell? ⟨(ad352.add ((x3_1).toNat * 6)).block, (ad352.add ((x3_1).toNat * 6)).off + 1, none⟩ = some (.int .i64 ((rd_T25 l0_1 x3_1).f1)) ∧ w'.cell? ⟨(ad352.add ((x3_1).toNat * 6)).block, (ad352.add ((x3_1).toNat * 6)).off + 2, none⟩ = some (.string ((rd_T25 l0_1 x3_1).f2)) ∧ w'.cell? ⟨(ad352.add ((x3_1).toNat * 6)).block, (ad352.add ((x3_1).toNat * 6)).off + 3, none⟩ = some (.string ((rd_T25 l0_1 x3_1).f3)) ∧ w'.cell? ⟨(ad352.add ((x3_1).toNat * 6)).block, (ad352.add ((x3_1).toNat * 6)).off + 4, none⟩ = some (.int .i64 ((rd_T25 l0_1 x3_1).f4)) ∧ w'.cell? ⟨(ad352.add ((x3_1).toNat * 6)).block, (ad352.add ((x3_1).toNat * 6)).off + 5, none⟩ = some (.bool ((rd_T25 l0_1 x3_1).f5)) ∧ w'.cell? (ad352.add ((x3_1).toNat * 6)) = some (.int .i64 ((rd_T25 l0_1 x3_1).f0)) ∧ w'.cell? ⟨(ad352.add ((x3_1).toNat * 6)).block, (ad352.add ((x3_1).toNat * 6)).off + 1, none⟩ = some (.int .i64 ((rd_T25 l0_1 x3_1).f1)) ∧ w'.cell? ⟨(ad352.add ((x3_1).toNat * 6)).block, (ad352.add ((x3_1).toNat * 6)).off + 2, none⟩ = some (.string ((rd_T25 l0_1 x3_1).f2)) ∧ w'.cell? ⟨(ad352.add ((x3_1).toNat * 6)).block, (ad352.add ((x3_1).toNat * 6)).off + 3, none⟩ = some (.string ((rd_T25 l0_1 x3_1).f3)) ∧ w'.cell? ⟨(ad352.add ((x3_1).toNat * 6)).block, (ad352.add ((x3_1).toNat * 6)).off + 4, none⟩ = some (.int .i64 ((rd_T25 l0_1 x3_1).f4)) ∧ w'.cell? ⟨(ad352.add ((x3_1).toNat * 6)).block, (ad352.add ((x3_1).toNat * 6)).off + 5, none⟩ = some (.bool ((rd_T25 l0_1 x3_1).f5))) (ds := []) #[O,O,O,O,O,O,O,O,O,O,O,O,O,O,O,O,O,O,O,O,O,O,O,O,O,O,O,O,O,O,O,O,O,O,O,O,O,O,O,O,O,O,O,O,O,O,O,O,O,O,O,O,O,O] (by kernel_rfl) rfl rfl ⟨(blk_cell BK350.out 0).trans rfl, (blk_cell BK350.out 1).trans rfl, (cx HB.out hw352_0), (cx HB.out hw352_1), (cx HB.out hw352_2), (cx HB.out hw352_3), (cx HB.out hw352_4), (cx HB.out hw352_5), (cx HB.out hw354_0), (cx HB.out hw354_1), (cx HB.out hw354_2), (cx HB.out hw354_3), (cx HB.out hw354_4), (cx HB.out hw354_5)⟩ (fun hHeld => ?_); refine with_tabW fairwayref10_Seg.tab4 fairwayref10_Seg.bits4 (fun HT_ HW_ => ?_)
          generalize wc.drew = w16 at BK350 HB hx352_0 hx352_1 hx352_2 hx352_3 hx352_4 hx352_5 hx354_0 hx354_1 hx354_2 hx354_3 hx354_4 hx354_5 hHeld ⊢
          refine pz (i := 0) (N := some 11) #[I,O,O,O,O,O,O,O,O,O,O,O,O,O,O,O,O,O,O,O,O,O,O,O,O,O,O,O,O,O,O,O,O,O,O,O,O,O,O,O,O,O,O,O,O,O,O,O,O,O,O,O,O,O] ?_
          refine pz (i := 2) (N := some 13) #[I,O,I,O,O,O,O,O,O,O,O,O,O,O,O,O,O,O,O,O,O,O,O,O,O,O,O,O,O,O,O,O,O,O,O,O,O,O,O,O,O,O,O,O,O,O,O,O,O,O,O,O,O,O] ?_
          refine tz (i := 1) (N := some 12) #[I,I,I,O,O,O,O,O,O,O,O,O,O,O,O,O,O,O,O,O,O,O,O,O,O,O,O,O,O,O,O,O,O,O,O,O,O,O,O,O,O,O,O,O,O,O,O,O,O,O,O,O,O,O] ?_
          refine pz (i := 3) (N := some 14) #[I,I,I,I,O,O,O,O,O,O,O,O,O,O,O,O,O,O,O,O,O,O,O,O,O,O,O,O,O,O,O,O,O,O,O,O,O,O,O,O,O,O,O,O,O,O,O,O,O,O,O,O,O,O] ?_
          refine tz (i := 4) (N := some 15) #[I,I,I,I,I,O,O,O,O,O,O,O,O,O,O,O,O,O,O,O,O,O,O,O,O,O,O,O,O,O,O,O,O,O,O,O,O,O,O,O,O,O,O,O,O,O,O,O,O,O,O,O,O,O] ?_
          refine one_ (i := 5) (N := some 16) #[I,I,I,I,I,I,O,O,O,O,O,O,O,O,O,O,O,O,O,O,O,O,O,O,O,O,O,O,O,O,O,O,O,O,O,O,O,O,O,O,O,O,O,O,O,O,O,O,O,O,O,O,O,O] rfl rfl (one_of HT_.out (by kernel_rfl)) (by decide) (fun K hK => ?_)
          refine goes_ Try.func17 (by kernel_rfl) rfl #[.agg #[.int .i64 ((rd_T25 l0_1 x3_1).f0), .int .i64 ((rd_T25 l0_1 x3_1).f1), .string ((rd_T25 l0_1 x3_1).f2), .string ((rd_T25 l0_1 x3_1).f3), .int .i64 ((rd_T25 l0_1 x3_1).f4), .bool ((rd_T25 l0_1 x3_1).f5)]] (by rfl) rfl rfl aa ?_
          with_reducible refine (fairwayref10_Rec.calls ((rd_T25 l0_1 x3_1).f0) ((rd_T25 l0_1 x3_1).f1) ((rd_T25 l0_1 x3_1).f2) ((rd_T25 l0_1 x3_1).f3) ((rd_T25 l0_1 x3_1).f4) ((rd_T25 l0_1 x3_1).f5) true _ A13.out).mono ?_
          rintro e w17 ⟨rfl, hb⟩
          refine ⟨_, rfl, ?_⟩
          replace BK350 := Aside0.mk (bb BK350.out hb)
          replace HB := Aside0.mk (below_step bo hb)
          (try clear hb)
          (try clear hb2)
          (try clear hk)
          (try clear hi)
          refine hK.out _ _ ⟨(blk_cell BK350.out 0).trans rfl, (blk_cell BK350.out 1).trans rfl, (cx HB.out hw352_0), (cx HB.out hw352_1), (cx HB.out hw352_2), (cx HB.out hw352_3), (cx HB.out hw352_4), (cx HB.out hw352_5), (cx HB.out hw354_0), (cx HB.out hw354_1), (cx HB.out hw354_2), (cx HB.out hw354_3), (cx HB.out hw354_4), (cx HB.out hw354_5)⟩ (fun hHeld => ?_)
          clear hK K
          refine norm_ (a' := ?_) ?_ ?_
          rotate_left
          ·show Act.put _ (some 16) _ = _
           simp only [Act.put, List.setIfInBounds_toArray, List.set_cons_zero, List.set_cons_succ, i64_w, i32_w]
           rfl
          refine pz (i := 6) (N := some 17) #[I,I,I,I,I,I,I,O,O,O,O,O,O,O,O,O,O,O,O,O,O,O,O,O,O,O,O,O,O,O,O,O,O,O,O,O,O,O,O,O,O,O,O,O,O,O,O,O,O,O,O,O,O,O] ?_
          refine pz (i := 7) (N := some 18) #[I,I,I,I,I,I,I,I,O,O,O,O,O,O,O,O,O,O,O,O,O,O,O,O,O,O,O,O,O,O,O,O,O,O,O,O,O,O,O,O,O,O,O,O,O,O,O,O,O,O,O,O,O,O] ?_
          refine pz (i := 8) (N := some 19) #[I,I,I,I,I,I,I,I,I,O,O,O,O,O,O,O,O,O,O,O,O,O,O,O,O,O,O,O,O,O,O,O,O,O,O,O,O,O,O,O,O,O,O,O,O,O,O,O,O,O,O,O,O,O] ?_
          refine pz (i := 10) (N := some 21) #[I,I,I,I,I,I,I,I,I,O,I,O,O,O,O,O,O,O,O,O,O,O,O,O,O,O,O,O,O,O,O,O,O,O,O,O,O,O,O,O,O,O,O,O,O,O,O,O,O,O,O,O,O,O] ?_
          refine pz (i := 14) (N := some 25) #[I,I,I,I,I,I,I,I,I,O,I,O,O,O,I,O,O,O,O,O,O,O,O,O,O,O,O,O,O,O,O,O,O,O,O,O,O,O,O,O,O,O,O,O,O,O,O,O,O,O,O,O,O,O] ?_
          refine tz (i := 9) (N := some 20) #[I,I,I,I,I,I,I,I,I,I,I,O,O,O,I,O,O,O,O,O,O,O,O,O,O,O,O,O,O,O,O,O,O,O,O,O,O,O,O,O,O,O,O,O,O,O,O,O,O,O,O,O,O,O] ?_
          refine pz (i := 11) (N := some 22) #[I,I,I,I,I,I,I,I,I,I,I,I,O,O,I,O,O,O,O,O,O,O,O,O,O,O,O,O,O,O,O,O,O,O,O,O,O,O,O,O,O,O,O,O,O,O,O,O,O,O,O,O,O,O] ?_
          refine pz (i := 12) (N := some 23) #[I,I,I,I,I,I,I,I,I,I,I,I,I,O,I,O,O,O,O,O,O,O,O,O,O,O,O,O,O,O,O,O,O,O,O,O,O,O,O,O,O,O,O,O,O,O,O,O,O,O,O,O,O,O] ?_
          refine tz (i := 13) (N := some 24) #[I,I,I,I,I,I,I,I,I,I,I,I,I,I,I,O,O,O,O,O,O,O,O,O,O,O,O,O,O,O,O,O,O,O,O,O,O,O,O,O,O,O,O,O,O,O,O,O,O,O,O,O,O,O] ?_
          refine tz (i := 15) (N := some 26) #[I,I,I,I,I,I,I,I,I,I,I,I,I,I,I,I,O,O,O,O,O,O,O,O,O,O,O,O,O,O,O,O,O,O,O,O,O,O,O,O,O,O,O,O,O,O,O,O,O,O,O,O,O,O] ?_
          refine pz (i := 16) (N := some 27) #[I,I,I,I,I,I,I,I,I,I,I,I,I,I,I,I,I,O,O,O,O,O,O,O,O,O,O,O,O,O,O,O,O,O,O,O,O,O,O,O,O,O,O,O,O,O,O,O,O,O,O,O,O,O] ?_
          refine pz (i := 17) (N := some 28) #[I,I,I,I,I,I,I,I,I,I,I,I,I,I,I,I,I,I,O,O,O,O,O,O,O,O,O,O,O,O,O,O,O,O,O,O,O,O,O,O,O,O,O,O,O,O,O,O,O,O,O,O,O,O] ?_
          refine pz (i := 18) (N := some 29) #[I,I,I,I,I,I,I,I,I,I,I,I,I,I,I,I,I,I,I,O,O,O,O,O,O,O,O,O,O,O,O,O,O,O,O,O,O,O,O,O,O,O,O,O,O,O,O,O,O,O,O,O,O,O] ?_
          refine pu (i := 19) (N := some 30) #[I,I,I,I,I,I,I,I,I,I,I,I,I,I,I,I,I,I,I,I,O,O,O,O,O,O,O,O,O,O,O,O,O,O,O,O,O,O,O,O,O,O,O,O,O,O,O,O,O,O,O,O,O,O] ?_
          refine pu (i := 20) (N := some 31) #[I,I,I,I,I,I,I,I,I,I,I,I,I,I,I,I,I,I,I,I,I,O,O,O,O,O,O,O,O,O,O,O,O,O,O,O,O,O,O,O,O,O,O,O,O,O,O,O,O,O,O,O,O,O] ?_
          refine pu (i := 21) (N := some 32) #[I,I,I,I,I,I,I,I,I,I,I,I,I,I,I,I,I,I,I,I,I,I,O,O,O,O,O,O,O,O,O,O,O,O,O,O,O,O,O,O,O,O,O,O,O,O,O,O,O,O,O,O,O,O] ?_
          refine pu (i := 22) (N := some 33) #[I,I,I,I,I,I,I,I,I,I,I,I,I,I,I,I,I,I,I,I,I,I,I,O,O,O,O,O,O,O,O,O,O,O,O,O,O,O,O,O,O,O,O,O,O,O,O,O,O,O,O,O,O,O] ?_
          refine pu (i := 23) (N := some 34) #[I,I,I,I,I,I,I,I,I,I,I,I,I,I,I,I,I,I,I,I,I,I,I,I,O,O,O,O,O,O,O,O,O,O,O,O,O,O,O,O,O,O,O,O,O,O,O,O,O,O,O,O,O,O] ?_
          refine pu (i := 24) (N := some 35) #[I,I,I,I,I,I,I,I,I,I,I,I,I,I,I,I,I,I,I,I,I,I,I,I,I,O,O,O,O,O,O,O,O,O,O,O,O,O,O,O,O,O,O,O,O,O,O,O,O,O,O,O,O,O] ?_
          refine pu (i := 25) (N := some 36) #[I,I,I,I,I,I,I,I,I,I,I,I,I,I,I,I,I,I,I,I,I,I,I,I,I,I,O,O,O,O,O,O,O,O,O,O,O,O,O,O,O,O,O,O,O,O,O,O,O,O,O,O,O,O] ?_
          refine pu (i := 26) (N := some 37) #[I,I,I,I,I,I,I,I,I,I,I,I,I,I,I,I,I,I,I,I,I,I,I,I,I,I,I,O,O,O,O,O,O,O,O,O,O,O,O,O,O,O,O,O,O,O,O,O,O,O,O,O,O,O] ?_
          refine pu (i := 27) (N := some 38) #[I,I,I,I,I,I,I,I,I,I,I,I,I,I,I,I,I,I,I,I,I,I,I,I,I,I,I,I,O,O,O,O,O,O,O,O,O,O,O,O,O,O,O,O,O,O,O,O,O,O,O,O,O,O] ?_
          refine pu (i := 28) (N := some 39) #[I,I,I,I,I,I,I,I,I,I,I,I,I,I,I,I,I,I,I,I,I,I,I,I,I,I,I,I,I,O,O,O,O,O,O,O,O,O,O,O,O,O,O,O,O,O,O,O,O,O,O,O,O,O] ?_
          refine pu (i := 29) (N := some 40) #[I,I,I,I,I,I,I,I,I,I,I,I,I,I,I,I,I,I,I,I,I,I,I,I,I,I,I,I,I,I,O,O,O,O,O,O,O,O,O,O,O,O,O,O,O,O,O,O,O,O,O,O,O,O] ?_
          refine pu (i := 30) (N := some 41) #[I,I,I,I,I,I,I,I,I,I,I,I,I,I,I,I,I,I,I,I,I,I,I,I,I,I,I,I,I,I,I,O,O,O,O,O,O,O,O,O,O,O,O,O,O,O,O,O,O,O,O,O,O,O] ?_
          refine pu (i := 31) (N := some 42) #[I,I,I,I,I,I,I,I,I,I,I,I,I,I,I,I,I,I,I,I,I,I,I,I,I,I,I,I,I,I,I,I,O,O,O,O,O,O,O,O,O,O,O,O,O,O,O,O,O,O,O,O,O,O] ?_
          refine pu (i := 32) (N := some 43) #[I,I,I,I,I,I,I,I,I,I,I,I,I,I,I,I,I,I,I,I,I,I,I,I,I,I,I,I,I,I,I,I,I,O,O,O,O,O,O,O,O,O,O,O,O,O,O,O,O,O,O,O,O,O] ?_
          refine pu (i := 33) (N := some 44) #[I,I,I,I,I,I,I,I,I,I,I,I,I,I,I,I,I,I,I,I,I,I,I,I,I,I,I,I,I,I,I,I,I,I,O,O,O,O,O,O,O,O,O,O,O,O,O,O,O,O,O,O,O,O] ?_
          refine pu (i := 34) (N := some 45) #[I,I,I,I,I,I,I,I,I,I,I,I,I,I,I,I,I,I,I,I,I,I,I,I,I,I,I,I,I,I,I,I,I,I,I,O,O,O,O,O,O,O,O,O,O,O,O,O,O,O,O,O,O,O] ?_
          refine pu (i := 35) (N := some 46) #[I,I,I,I,I,I,I,I,I,I,I,I,I,I,I,I,I,I,I,I,I,I,I,I,I,I,I,I,I,I,I,I,I,I,I,I,O,O,O,O,O,O,O,O,O,O,O,O,O,O,O,O,O,O] ?_
          refine pu (i := 36) (N := some 47) #[I,I,I,I,I,I,I,I,I,I,I,I,I,I,I,I,I,I,I,I,I,I,I,I,I,I,I,I,I,I,I,I,I,I,I,I,I,O,O,O,O,O,O,O,O,O,O,O,O,O,O,O,O,O] ?_
          refine pu (i := 37) (N := some 48) #[I,I,I,I,I,I,I,I,I,I,I,I,I,I,I,I,I,I,I,I,I,I,I,I,I,I,I,I,I,I,I,I,I,I,I,I,I,I,O,O,O,O,O,O,O,O,O,O,O,O,O,O,O,O] ?_
          refine pu (i := 38) (N := some 49) #[I,I,I,I,I,I,I,I,I,I,I,I,I,I,I,I,I,I,I,I,I,I,I,I,I,I,I,I,I,I,I,I,I,I,I,I,I,I,I,O,O,O,O,O,O,O,O,O,O,O,O,O,O,O] ?_
          refine pu (i := 39) (N := some 50) #[I,I,I,I,I,I,I,I,I,I,I,I,I,I,I,I,I,I,I,I,I,I,I,I,I,I,I,I,I,I,I,I,I,I,I,I,I,I,I,I,O,O,O,O,O,O,O,O,O,O,O,O,O,O] ?_
          refine pu (i := 40) (N := some 51) #[I,I,I,I,I,I,I,I,I,I,I,I,I,I,I,I,I,I,I,I,I,I,I,I,I,I,I,I,I,I,I,I,I,I,I,I,I,I,I,I,I,O,O,O,O,O,O,O,O,O,O,O,O,O] ?_
          refine pu (i := 41) (N := some 52) #[I,I,I,I,I,I,I,I,I,I,I,I,I,I,I,I,I,I,I,I,I,I,I,I,I,I,I,I,I,I,I,I,I,I,I,I,I,I,I,I,I,I,O,O,O,O,O,O,O,O,O,O,O,O] ?_
          refine pu (i := 42) (N := some 53) #[I,I,I,I,I,I,I,I,I,I,I,I,I,I,I,I,I,I,I,I,I,I,I,I,I,I,I,I,I,I,I,I,I,I,I,I,I,I,I,I,I,I,I,O,O,O,O,O,O,O,O,O,O,O] ?_
          refine pu (i := 43) (N := some 54) #[I,I,I,I,I,I,I,I,I,I,I,I,I,I,I,I,I,I,I,I,I,I,I,I,I,I,I,I,I,I,I,I,I,I,I,I,I,I,I,I,I,I,I,I,O,O,O,O,O,O,O,O,O,O] ?_
          refine pu (i := 44) (N := some 55) #[I,I,I,I,I,I,I,I,I,I,I,I,I,I,I,I,I,I,I,I,I,I,I,I,I,I,I,I,I,I,I,I,I,I,I,I,I,I,I,I,I,I,I,I,I,O,O,O,O,O,O,O,O,O] ?_
          refine pu (i := 45) (N := some 56) #[I,I,I,I,I,I,I,I,I,I,I,I,I,I,I,I,I,I,I,I,I,I,I,I,I,I,I,I,I,I,I,I,I,I,I,I,I,I,I,I,I,I,I,I,I,I,O,O,O,O,O,O,O,O] ?_
          refine pu (i := 46) (N := some 57) #[I,I,I,I,I,I,I,I,I,I,I,I,I,I,I,I,I,I,I,I,I,I,I,I,I,I,I,I,I,I,I,I,I,I,I,I,I,I,I,I,I,I,I,I,I,I,I,O,O,O,O,O,O,O] ?_
          refine pu (i := 47) (N := some 58) #[I,I,I,I,I,I,I,I,I,I,I,I,I,I,I,I,I,I,I,I,I,I,I,I,I,I,I,I,I,I,I,I,I,I,I,I,I,I,I,I,I,I,I,I,I,I,I,I,O,O,O,O,O,O] ?_
          refine pu (i := 48) (N := some 59) #[I,I,I,I,I,I,I,I,I,I,I,I,I,I,I,I,I,I,I,I,I,I,I,I,I,I,I,I,I,I,I,I,I,I,I,I,I,I,I,I,I,I,I,I,I,I,I,I,I,O,O,O,O,O] ?_
          refine pu (i := 49) (N := some 60) #[I,I,I,I,I,I,I,I,I,I,I,I,I,I,I,I,I,I,I,I,I,I,I,I,I,I,I,I,I,I,I,I,I,I,I,I,I,I,I,I,I,I,I,I,I,I,I,I,I,I,O,O,O,O] ?_
          refine pu (i := 50) (N := some 61) #[I,I,I,I,I,I,I,I,I,I,I,I,I,I,I,I,I,I,I,I,I,I,I,I,I,I,I,I,I,I,I,I,I,I,I,I,I,I,I,I,I,I,I,I,I,I,I,I,I,I,I,O,O,O] ?_
          refine pu (i := 51) (N := some 62) #[I,I,I,I,I,I,I,I,I,I,I,I,I,I,I,I,I,I,I,I,I,I,I,I,I,I,I,I,I,I,I,I,I,I,I,I,I,I,I,I,I,I,I,I,I,I,I,I,I,I,I,I,O,O] ?_
          refine pu (i := 52) (N := some 63) #[I,I,I,I,I,I,I,I,I,I,I,I,I,I,I,I,I,I,I,I,I,I,I,I,I,I,I,I,I,I,I,I,I,I,I,I,I,I,I,I,I,I,I,I,I,I,I,I,I,I,I,I,I,O] ?_
          refine pz (i := 53) (N := some 64) #[I,I,I,I,I,I,I,I,I,I,I,I,I,I,I,I,I,I,I,I,I,I,I,I,I,I,I,I,I,I,I,I,I,I,I,I,I,I,I,I,I,I,I,I,I,I,I,I,I,I,I,I,I,I] ?_
          refine done_ (done_of HT_.out (by kernel_rfl)) ?_
          try go_wp2
          go_meet
          case rel => exact ⟨_, (true), ap, H', ⟨by have := HK1.out; have := HJ2.out; first | omega | exact Nat.le_refl _⟩, ⟨by (with_reducible repeat (first | refine blk_drewN ?_ _ | refine blk_drew ?_ | refine blk_alloc ?_ _)); exact BK350.out⟩, ⟨bo⟩⟩
         ·rw [if_neg c15] at H
          have c15b0 : decide (((rd_T25 l0_1 x3_1).f0) < a0_0) = false := decide_eq_false c15
          clear c15
          by_cases c18 : x3_1 > 0
          ·rw [if_pos c18] at H
           have c18b0 : decide (0 < x3_1) = true := decide_eq_true c18
           clear c18
           obtain ⟨ji19, hji19⟩ : ∃ j_ : Int, (wrap64 (x3_1 - 1)) = j_ := ⟨_, rfl⟩
           replace H : (if 0 ≤ (ji19) then (if (ji19) < (l0_1.length : Int) then (if ((rd_T25 l0_1 (ji19)).f0) ≥ ((rd_T25 l0_1 x3_1).f0) then (fairwayref10_Seg.j2 kj2 x3_1 true a0_0 l0_1) else (fairwayref10_Seg.j2 kj2 x3_1 (decide (((rd_T25 l0_1 (ji19)).f1) > ((rd_T25 l0_1 x3_1).f1))) a0_0 l0_1)) else (none)) else (none)) = some r := by first | (rw [hji19] at H; exact H) | (simp only [hji19] at H ⊢; exact H)
           (try rw [hji19] at A13)
           have hji19w : (IntKind.i64.wrap (x3_1 - 1)) = ji19 := (i64_w _).trans hji19
           by_cases c20 : 0 ≤ (ji19)
           ·rw [if_pos c20] at H
            have c20b0 : decide (0 ≤ (ji19)) = true := decide_eq_true c20
            clear c20
            by_cases c21 : (ji19) < (l0_1.length : Int)
            ·rw [if_pos c21] at H
             have c21b0 : decide ((ji19) < (l0_1.length : Int)) = true := decide_eq_true c21
             clear c21
             by_cases c22 : ((rd_T25 l0_1 (ji19)).f0) ≥ ((rd_T25 l0_1 x3_1).f0)
             ·rw [if_pos c22] at H
              have c22b0 : decide (((rd_T25 l0_1 x3_1).f0) ≤ ((rd_T25 l0_1 (ji19)).f0)) = true := decide_eq_true c22
              clear c22
              have H' := Aside0.mk H
              clear H
              try go_wp2
              replace BK350 := Aside0.mk (blk_drew BK350.out)
              replace HB := Aside0.mk (below_drew1 HB.out)
              have p352 : 0 ≤ (x3_1 : Int) := od
              have q352 : x3_1 < (l0_1.length : Int) := od
              obtain ⟨ad352, e352, hx352_0, hx352_1, hx352_2, hx352_3, hx352_4, hx352_5⟩ := at_T25 HR0_1.out x3_1 p352 q352
              have hw352_5 := hx352_5
              have hw352_4 := hx352_4
              have hw352_3 := hx352_3
              have hw352_2 := hx352_2
              have hw352_1 := hx352_1
              have hw352_0 := hx352_0
              cases e352
              replace hx352_0 := cx HB.out hx352_0
              replace hx352_1 := cx HB.out hx352_1
              replace hx352_2 := cx HB.out hx352_2
              replace hx352_3 := cx HB.out hx352_3
              replace hx352_4 := cx HB.out hx352_4
              replace hx352_5 := cx HB.out hx352_5
              replace p352 := eq_true p352
              replace q352 := eq_true q352
              have p354 : 0 ≤ (x3_1 : Int) := od
              have q354 : x3_1 < (l0_1.length : Int) := od
              obtain ⟨ad354, e354, hx354_0, hx354_1, hx354_2, hx354_3, hx354_4, hx354_5⟩ := at_T25 HR0_1.out x3_1 p354 q354
              have hw354_5 := hx354_5
              have hw354_4 := hx354_4
              have hw354_3 := hx354_3
              have hw354_2 := hx354_2
              have hw354_1 := hx354_1
              have hw354_0 := hx354_0
              obtain rfl : ad352 = ad354 := (by injection e354)
              replace hx354_0 := cx HB.out hx354_0
              replace hx354_1 := cx HB.out hx354_1
              replace hx354_2 := cx HB.out hx354_2
              replace hx354_3 := cx HB.out hx354_3
              replace hx354_4 := cx HB.out hx354_4
              replace hx354_5 := cx HB.out hx354_5
              replace p354 := eq_true p354
              replace q354 := eq_true q354
              have p355 : 0 ≤ ((ji19) : Int) := od
              have q355 : (ji19) < (l0_1.length : Int) := od
              obtain ⟨ad355, e355, hx355_0, hx355_1, hx355_2, hx355_3, hx355_4, hx355_5⟩ := at_T25 HR0_1.out (ji19) p355 q355
              have hw355_5 := hx355_5
              have hw355_4 := hx355_4
              have hw355_3 := hx355_3
              have hw355_2 := hx355_2
              have hw355_1 := hx355_1
              have hw355_0 := hx355_0
              obtain rfl : ad352 = ad355 := (by injection e355)
              replace hx355_0 := cx HB.out hx355_0
              replace hx355_1 := cx HB.out hx355_1
              replace hx355_2 := cx HB.out hx355_2
              replace hx355_3 := cx HB.out hx355_3
              replace hx355_4 := cx HB.out hx355_4
              replace hx355_5 := cx HB.out hx355_5
              replace p355 := eq_true p355
              replace q355 := eq_true q355
              have p356 : 0 ≤ (x3_1 : Int) := od
              have q356 : x3_1 < (l0_1.length : Int) := od
              obtain ⟨ad356, e356, hx356_0, hx356_1, hx356_2, hx356_3, hx356_4, hx356_5⟩ := at_T25 HR0_1.out x3_1 p356 q356
              have hw356_5 := hx356_5
              have hw356_4 := hx356_4
              have hw356_3 := hx356_3
              have hw356_2 := hx356_2
              have hw356_1 := hx356_1
              have hw356_0 := hx356_0
              obtain rfl : ad352 = ad356 := (by injection e356)
              replace hx356_0 := cx HB.out hx356_0
              replace hx356_1 := cx HB.out hx356_1
              replace hx356_2 := cx HB.out hx356_2
              replace hx356_3 := cx HB.out hx356_3
              replace hx356_4 := cx HB.out hx356_4
              replace hx356_5 := cx HB.out hx356_5
              replace p356 := eq_true p356
              replace q356 := eq_true q356
              refine start_ (n := 54) (S := fun w' => w'.cell? ⟨gb350, 0, none⟩ = some (.int .i64 a0_0) ∧ w'.cell? ⟨gb350, 1, none⟩ = some (.slice (some ad352) l0_1.length c0_1) ∧ w'.cell? (ad352.add ((x3_1).toNat * 6)) = some (.int .i64 ((rd_T25 l0_1 x3_1).f0)) ∧ w'.cell? ⟨(ad352.add ((x3_1).toNat * 6)).block, (ad352.add ((x3_1).toNat * 6)).off + 1, none⟩ = some (.int .i64 ((rd_T25 l0_1 x3_1).f1)) ∧ w'.cell? ⟨(ad352.add ((x3_1).toNat * 6)).block, (ad352.add ((x3_1).toNat * 6)).off + 2, none⟩ = some (.string ((rd_T25 l0_1 x3_1).f2)) ∧ w'.cell? ⟨(ad352.add ((x3_1).toNat * 6)).block, (ad352.add ((x3_1).toNat * 6)).off + 3, none⟩ = some (.string ((rd_T25 l0_1 x3_1).f3)) ∧ w'.cell? ⟨(ad352.add ((x3_1).toNat * 6)).block, (ad352.add ((x3_1).toNat * 6)).off + 4, none⟩ = some (.int .i64 ((rd_T25 l0_1 x3_1).f4)) ∧ w'.cell? ⟨(ad352.add ((x3_1).toNat * 6)).block, (ad352.add ((x3_1).toNat * 6)).off + 5, none⟩ = some (.bool ((rd_T25 l0_1 x3_1).f5)) ∧ w'.cell? (ad352.add ((x3_1).toNat * 6)) = some (.int .i64 ((rd_T25 l0_1 x3_1).f0)) ∧ w'.cell? ⟨(ad352.add ((x3_1).toNat * 6)).block, (ad352.add ((x3_1).toNat * 6)).off + 1, none⟩ = some (.int .i64 ((rd_T25 l0_1 x3_1).f1)) ∧ w'.cell? ⟨(ad352.add ((x3_1).toNat * 6)).block, (ad352.add ((x3_1).toNat * 6)).off + 2, none⟩ = some (.string ((rd_T25 l0_1 x3_1).f2)) ∧ w'.cell? ⟨(ad352.add ((x3_1).toNat * 6)).block, (ad352.add ((x3_1).toNat * 6)).off + 3, none⟩ = some (.string ((rd_T25 l0_1 x3_1).f3)) ∧ w'.cell? ⟨(ad352.add ((x3_1).toNat * 6)).block, (ad352.add ((x3_1).toNat * 6)).off + 4, none⟩ = some (.int .i64 ((rd_T25 l0_1 x3_1).f4)) ∧ w'.cell? ⟨(ad352.add ((x3_1).toNat * 6)).block, (ad352.add ((x3_1).toNat * 6)).off + 5, none⟩ = some (.bool ((rd_T25 l0_1 x3_1).f5)) ∧ w'.cell? (ad352.add (((ji19)).toNat * 6)) = some (.int .i64 ((rd_T25 l0_1 (ji19)).f0)) ∧ w'.cell? ⟨(ad352.add (((ji19)).toNat * 6)).block, (ad352.add (((ji19)).toNat * 6)).off + 1, none⟩ = some (.int .i64 ((rd_T25 l0_1 (ji19)).f1)) ∧ w'.cell? ⟨(ad352.add (((ji19)).toNat * 6)).block, (ad352.add (((ji19)).toNat * 6)).off + 2, none⟩ = some (.string ((rd_T25 l0_1 (ji19)).f2)) ∧ w'.cell? ⟨(ad352.add (((ji19)).toNat * 6)).block, (ad352.add (((ji19)).toNat * 6)).off + 3, none⟩ = some (.string ((rd_T25 l0_1 (ji19)).f3)) ∧ w'.cell? ⟨(ad352.add (((ji19)).toNat * 6)).block, (ad352.add (((ji19)).toNat * 6)).off + 4, none⟩ = some (.int .i64 ((rd_T25 l0_1 (ji19)).f4)) ∧ w'.cell? ⟨(ad352.add (((ji19)).toNat * 6)).block, (ad352.add (((ji19)).toNat * 6)).off + 5, none⟩ = some (.bool ((rd_T25 l0_1 (ji19)).f5)) ∧ w'.cell? (ad352.add ((x3_1).toNat * 6)) = some (.int .i64 ((rd_T25 l0_1 x3_1).f0)) ∧ w'.cell? ⟨(ad352.add ((x3_1).toNat * 6)).block, (ad352.add ((x3_1).toNat * 6)).off + 1, none⟩ = some (.int .i64 ((rd_T25 l0_1 x3_1).f1)) ∧ w'.cell? ⟨(ad352.add ((x3_1).toNat * 6)).block, (ad352.add ((x3_1).toNat * 6)).off + 2, none⟩ = some (.string ((rd_T25 l0_1 x3_1).f2)) ∧ w'.cell? ⟨(ad352.add ((x3_1).toNat * 6)).block, (ad352.add ((x3_1).toNat * 6)).off + 3, none⟩ = some (.string ((rd_T25 l0_1 x3_1).f3)) ∧ w'.cell? ⟨(ad352.add ((x3_1).toNat * 6)).block, (ad352.add ((x3_1).toNat * 6)).off + 4, none⟩ = some (.int .i64 ((rd_T25 l0_1 x3_1).f4)) ∧ w'.cell? ⟨(ad352.add ((x3_1).toNat * 6)).block, (ad352.add ((x3_1).toNat * 6)).off + 5, none⟩ = some (.bool ((rd_T25 l0_1 x3_1).f5))) (ds := []) #[O,O,O,O,O,O,O,O,O,O,O,O,O,O,O,O,O,O,O,O,O,O,O,O,O,O,O,O,O,O,O,O,O,O,O,O,O,O,O,O,O,O,O,O,O,O,O,O,O,O,O,O,O,O] (by kernel_rfl) rfl rfl ⟨(blk_cell BK350.out 0).trans rfl, (blk_cell BK350.out 1).trans rfl, (cx HB.out hw352_0), (cx HB.out hw352_1), (cx HB.out hw352_2), (cx HB.out hw352_3), (cx HB.out hw352_4), (cx HB.out hw352_5), (cx HB.out hw354_0), (cx HB.out hw354_1), (cx HB.out hw354_2), (cx HB.out hw354_3), (cx HB.out hw354_4), (cx HB.out hw354_5), (cx HB.out hw355_0), (cx HB.out hw355_1), (cx HB.out hw355_2), (cx HB.out hw355_3), (cx HB.out hw355_4), (cx HB.out hw355_5), (cx HB.out hw356_0), (cx HB.out hw356_1), (cx HB.out hw356_2), (cx HB.out hw356_3), (cx HB.out hw356_4), (cx HB.out hw356_5)⟩ (fun hHeld => ?_); refine with_tabW fairwayref10_Seg.tab4 fairwayref10_Seg.bits4 (fun HT_ HW_ => ?_)
              generalize wc.drew = w23 at BK350 HB hx352_0 hx352_1 hx352_2 hx352_3 hx352_4 hx352_5 hx354_0 hx354_1 hx354_2 hx354_3 hx354_4 hx354_5 hx355_0 hx355_1 hx355_2 hx355_3 hx355_4 hx355_5 hx356_0 hx356_1 hx356_2 hx356_3 hx356_4 hx356_5 hHeld ⊢
              refine pz (i := 0) (N := some 11) #[I,O,O,O,O,O,O,O,O,O,O,O,O,O,O,O,O,O,O,O,O,O,O,O,O,O,O,O,O,O,O,O,O,O,O,O,O,O,O,O,O,O,O,O,O,O,O,O,O,O,O,O,O,O] ?_
              refine pz (i := 2) (N := some 13) #[I,O,I,O,O,O,O,O,O,O,O,O,O,O,O,O,O,O,O,O,O,O,O,O,O,O,O,O,O,O,O,O,O,O,O,O,O,O,O,O,O,O,O,O,O,O,O,O,O,O,O,O,O,O] ?_
              refine tz (i := 1) (N := some 12) #[I,I,I,O,O,O,O,O,O,O,O,O,O,O,O,O,O,O,O,O,O,O,O,O,O,O,O,O,O,O,O,O,O,O,O,O,O,O,O,O,O,O,O,O,O,O,O,O,O,O,O,O,O,O] ?_
              refine pz (i := 3) (N := some 14) #[I,I,I,I,O,O,O,O,O,O,O,O,O,O,O,O,O,O,O,O,O,O,O,O,O,O,O,O,O,O,O,O,O,O,O,O,O,O,O,O,O,O,O,O,O,O,O,O,O,O,O,O,O,O] ?_
              refine tz (i := 4) (N := some 15) #[I,I,I,I,I,O,O,O,O,O,O,O,O,O,O,O,O,O,O,O,O,O,O,O,O,O,O,O,O,O,O,O,O,O,O,O,O,O,O,O,O,O,O,O,O,O,O,O,O,O,O,O,O,O] ?_
              refine one_ (i := 5) (N := some 16) #[I,I,I,I,I,I,O,O,O,O,O,O,O,O,O,O,O,O,O,O,O,O,O,O,O,O,O,O,O,O,O,O,O,O,O,O,O,O,O,O,O,O,O,O,O,O,O,O,O,O,O,O,O,O] rfl rfl (one_of HT_.out (by kernel_rfl)) (by decide) (fun K hK => ?_)
              refine goes_ Try.func17 (by kernel_rfl) rfl #[.agg #[.int .i64 ((rd_T25 l0_1 x3_1).f0), .int .i64 ((rd_T25 l0_1 x3_1).f1), .string ((rd_T25 l0_1 x3_1).f2), .string ((rd_T25 l0_1 x3_1).f3), .int .i64 ((rd_T25 l0_1 x3_1).f4), .bool ((rd_T25 l0_1 x3_1).f5)]] (by rfl) rfl rfl aa ?_
              with_reducible refine (fairwayref10_Rec.calls ((rd_T25 l0_1 x3_1).f0) ((rd_T25 l0_1 x3_1).f1) ((rd_T25 l0_1 x3_1).f2) ((rd_T25 l0_1 x3_1).f3) ((rd_T25 l0_1 x3_1).f4) ((rd_T25 l0_1 x3_1).f5) true _ A13.out).mono ?_
              rintro e w24 ⟨rfl, hb⟩
              refine ⟨_, rfl, ?_⟩
              replace BK350 := Aside0.mk (bb BK350.out hb)
              replace HB := Aside0.mk (below_step bo hb)
              (try clear hb)
              (try clear hb2)
              (try clear hk)
              (try clear hi)
              refine hK.out _ _ ⟨(blk_cell BK350.out 0).trans rfl, (blk_cell BK350.out 1).trans rfl, (cx HB.out hw352_0), (cx HB.out hw352_1), (cx HB.out hw352_2), (cx HB.out hw352_3), (cx HB.out hw352_4), (cx HB.out hw352_5), (cx HB.out hw354_0), (cx HB.out hw354_1), (cx HB.out hw354_2), (cx HB.out hw354_3), (cx HB.out hw354_4), (cx HB.out hw354_5), (cx HB.out hw355_0), (cx HB.out hw355_1), (cx HB.out hw355_2), (cx HB.out hw355_3), (cx HB.out hw355_4), (cx HB.out hw355_5), (cx HB.out hw356_0), (cx HB.out hw356_1), (cx HB.out hw356_2), (cx HB.out hw356_3), (cx HB.out hw356_4), (cx HB.out hw356_5)⟩ (fun hHeld => ?_)
              clear hK K
              refine norm_ (a' := ?_) ?_ ?_
              rotate_left
              ·show Act.put _ (some 16) _ = _
               simp only [Act.put, List.setIfInBounds_toArray, List.set_cons_zero, List.set_cons_succ, i64_w, i32_w]
               rfl
              refine pz (i := 6) (N := some 17) #[I,I,I,I,I,I,I,O,O,O,O,O,O,O,O,O,O,O,O,O,O,O,O,O,O,O,O,O,O,O,O,O,O,O,O,O,O,O,O,O,O,O,O,O,O,O,O,O,O,O,O,O,O,O] ?_
              refine pz (i := 7) (N := some 18) #[I,I,I,I,I,I,I,I,O,O,O,O,O,O,O,O,O,O,O,O,O,O,O,O,O,O,O,O,O,O,O,O,O,O,O,O,O,O,O,O,O,O,O,O,O,O,O,O,O,O,O,O,O,O] ?_
              refine pz (i := 8) (N := some 19) #[I,I,I,I,I,I,I,I,I,O,O,O,O,O,O,O,O,O,O,O,O,O,O,O,O,O,O,O,O,O,O,O,O,O,O,O,O,O,O,O,O,O,O,O,O,O,O,O,O,O,O,O,O,O] ?_
              refine pz (i := 10) (N := some 21) #[I,I,I,I,I,I,I,I,I,O,I,O,O,O,O,O,O,O,O,O,O,O,O,O,O,O,O,O,O,O,O,O,O,O,O,O,O,O,O,O,O,O,O,O,O,O,O,O,O,O,O,O,O,O] ?_
              refine pz (i := 14) (N := some 25) #[I,I,I,I,I,I,I,I,I,O,I,O,O,O,I,O,O,O,O,O,O,O,O,O,O,O,O,O,O,O,O,O,O,O,O,O,O,O,O,O,O,O,O,O,O,O,O,O,O,O,O,O,O,O] ?_
              refine tz (i := 9) (N := some 20) #[I,I,I,I,I,I,I,I,I,I,I,O,O,O,I,O,O,O,O,O,O,O,O,O,O,O,O,O,O,O,O,O,O,O,O,O,O,O,O,O,O,O,O,O,O,O,O,O,O,O,O,O,O,O] ?_
              refine pz (i := 11) (N := some 22) #[I,I,I,I,I,I,I,I,I,I,I,I,O,O,I,O,O,O,O,O,O,O,O,O,O,O,O,O,O,O,O,O,O,O,O,O,O,O,O,O,O,O,O,O,O,O,O,O,O,O,O,O,O,O] ?_
              refine pz (i := 12) (N := some 23) #[I,I,I,I,I,I,I,I,I,I,I,I,I,O,I,O,O,O,O,O,O,O,O,O,O,O,O,O,O,O,O,O,O,O,O,O,O,O,O,O,O,O,O,O,O,O,O,O,O,O,O,O,O,O] ?_
              refine tz (i := 13) (N := some 24) #[I,I,I,I,I,I,I,I,I,I,I,I,I,I,I,O,O,O,O,O,O,O,O,O,O,O,O,O,O,O,O,O,O,O,O,O,O,O,O,O,O,O,O,O,O,O,O,O,O,O,O,O,O,O] ?_
              refine tz (i := 15) (N := some 26) #[I,I,I,I,I,I,I,I,I,I,I,I,I,I,I,I,O,O,O,O,O,O,O,O,O,O,O,O,O,O,O,O,O,O,O,O,O,O,O,O,O,O,O,O,O,O,O,O,O,O,O,O,O,O] ?_
              refine pz (i := 16) (N := some 27) #[I,I,I,I,I,I,I,I,I,I,I,I,I,I,I,I,I,O,O,O,O,O,O,O,O,O,O,O,O,O,O,O,O,O,O,O,O,O,O,O,O,O,O,O,O,O,O,O,O,O,O,O,O,O] ?_
              refine pz (i := 17) (N := some 28) #[I,I,I,I,I,I,I,I,I,I,I,I,I,I,I,I,I,I,O,O,O,O,O,O,O,O,O,O,O,O,O,O,O,O,O,O,O,O,O,O,O,O,O,O,O,O,O,O,O,O,O,O,O,O] ?_
              refine pz (i := 18) (N := some 29) #[I,I,I,I,I,I,I,I,I,I,I,I,I,I,I,I,I,I,I,O,O,O,O,O,O,O,O,O,O,O,O,O,O,O,O,O,O,O,O,O,O,O,O,O,O,O,O,O,O,O,O,O,O,O] ?_
              refine pz (i := 19) (N := some 30) #[I,I,I,I,I,I,I,I,I,I,I,I,I,I,I,I,I,I,I,I,O,O,O,O,O,O,O,O,O,O,O,O,O,O,O,O,O,O,O,O,O,O,O,O,O,O,O,O,O,O,O,O,O,O] ?_
              refine pz (i := 20) (N := some 31) #[I,I,I,I,I,I,I,I,I,I,I,I,I,I,I,I,I,I,I,I,I,O,O,O,O,O,O,O,O,O,O,O,O,O,O,O,O,O,O,O,O,O,O,O,O,O,O,O,O,O,O,O,O,O] ?_
              refine pz (i := 21) (N := some 32) #[I,I,I,I,I,I,I,I,I,I,I,I,I,I,I,I,I,I,I,I,I,I,O,O,O,O,O,O,O,O,O,O,O,O,O,O,O,O,O,O,O,O,O,O,O,O,O,O,O,O,O,O,O,O] ?_
              refine pz (i := 22) (N := some 33) #[I,I,I,I,I,I,I,I,I,I,I,I,I,I,I,I,I,I,I,I,I,I,I,O,O,O,O,O,O,O,O,O,O,O,O,O,O,O,O,O,O,O,O,O,O,O,O,O,O,O,O,O,O,O] ?_
              refine pz (i := 24) (N := some 35) #[I,I,I,I,I,I,I,I,I,I,I,I,I,I,I,I,I,I,I,I,I,I,I,O,I,O,O,O,O,O,O,O,O,O,O,O,O,O,O,O,O,O,O,O,O,O,O,O,O,O,O,O,O,O] ?_
              refine pz (i := 25) (N := some 36) #[I,I,I,I,I,I,I,I,I,I,I,I,I,I,I,I,I,I,I,I,I,I,I,O,I,I,O,O,O,O,O,O,O,O,O,O,O,O,O,O,O,O,O,O,O,O,O,O,O,O,O,O,O,O] ?_
              refine pz (i := 29) (N := some 40) #[I,I,I,I,I,I,I,I,I,I,I,I,I,I,I,I,I,I,I,I,I,I,I,O,I,I,O,O,O,I,O,O,O,O,O,O,O,O,O,O,O,O,O,O,O,O,O,O,O,O,O,O,O,O] ?_
              refine pz (i := 31) (N := some 42) #[I,I,I,I,I,I,I,I,I,I,I,I,I,I,I,I,I,I,I,I,I,I,I,O,I,I,O,O,O,I,O,I,O,O,O,O,O,O,O,O,O,O,O,O,O,O,O,O,O,O,O,O,O,O] ?_
              refine tz (i := 23) (N := some 34) #[I,I,I,I,I,I,I,I,I,I,I,I,I,I,I,I,I,I,I,I,I,I,I,I,I,I,O,O,O,I,O,I,O,O,O,O,O,O,O,O,O,O,O,O,O,O,O,O,O,O,O,O,O,O] ?_
              refine pz (i := 26) (N := some 37) #[I,I,I,I,I,I,I,I,I,I,I,I,I,I,I,I,I,I,I,I,I,I,I,I,I,I,I,O,O,I,O,I,O,O,O,O,O,O,O,O,O,O,O,O,O,O,O,O,O,O,O,O,O,O] ?_
              refine pz (i := 27) (N := some 38) #[I,I,I,I,I,I,I,I,I,I,I,I,I,I,I,I,I,I,I,I,I,I,I,I,I,I,I,I,O,I,O,I,O,O,O,O,O,O,O,O,O,O,O,O,O,O,O,O,O,O,O,O,O,O] ?_
              refine tz (i := 28) (N := some 39) #[I,I,I,I,I,I,I,I,I,I,I,I,I,I,I,I,I,I,I,I,I,I,I,I,I,I,I,I,I,I,O,I,O,O,O,O,O,O,O,O,O,O,O,O,O,O,O,O,O,O,O,O,O,O] ?_
              refine tz (i := 30) (N := some 41) #[I,I,I,I,I,I,I,I,I,I,I,I,I,I,I,I,I,I,I,I,I,I,I,I,I,I,I,I,I,I,I,I,O,O,O,O,O,O,O,O,O,O,O,O,O,O,O,O,O,O,O,O,O,O] ?_
              refine pz (i := 32) (N := some 43) #[I,I,I,I,I,I,I,I,I,I,I,I,I,I,I,I,I,I,I,I,I,I,I,I,I,I,I,I,I,I,I,I,I,O,O,O,O,O,O,O,O,O,O,O,O,O,O,O,O,O,O,O,O,O] ?_
              refine pz (i := 33) (N := some 44) #[I,I,I,I,I,I,I,I,I,I,I,I,I,I,I,I,I,I,I,I,I,I,I,I,I,I,I,I,I,I,I,I,I,I,O,O,O,O,O,O,O,O,O,O,O,O,O,O,O,O,O,O,O,O] ?_
              refine tz (i := 34) (N := some 45) #[I,I,I,I,I,I,I,I,I,I,I,I,I,I,I,I,I,I,I,I,I,I,I,I,I,I,I,I,I,I,I,I,I,I,I,O,O,O,O,O,O,O,O,O,O,O,O,O,O,O,O,O,O,O] ?_
              refine pz (i := 35) (N := some 46) #[I,I,I,I,I,I,I,I,I,I,I,I,I,I,I,I,I,I,I,I,I,I,I,I,I,I,I,I,I,I,I,I,I,I,I,I,O,O,O,O,O,O,O,O,O,O,O,O,O,O,O,O,O,O] ?_
              refine pz (i := 36) (N := some 47) #[I,I,I,I,I,I,I,I,I,I,I,I,I,I,I,I,I,I,I,I,I,I,I,I,I,I,I,I,I,I,I,I,I,I,I,I,I,O,O,O,O,O,O,O,O,O,O,O,O,O,O,O,O,O] ?_
              refine pu (i := 37) (N := some 48) #[I,I,I,I,I,I,I,I,I,I,I,I,I,I,I,I,I,I,I,I,I,I,I,I,I,I,I,I,I,I,I,I,I,I,I,I,I,I,O,O,O,O,O,O,O,O,O,O,O,O,O,O,O,O] ?_
              refine pu (i := 38) (N := some 49) #[I,I,I,I,I,I,I,I,I,I,I,I,I,I,I,I,I,I,I,I,I,I,I,I,I,I,I,I,I,I,I,I,I,I,I,I,I,I,I,O,O,O,O,O,O,O,O,O,O,O,O,O,O,O] ?_
              refine pu (i := 39) (N := some 50) #[I,I,I,I,I,I,I,I,I,I,I,I,I,I,I,I,I,I,I,I,I,I,I,I,I,I,I,I,I,I,I,I,I,I,I,I,I,I,I,I,O,O,O,O,O,O,O,O,O,O,O,O,O,O] ?_
              refine pu (i := 40) (N := some 51) #[I,I,I,I,I,I,I,I,I,I,I,I,I,I,I,I,I,I,I,I,I,I,I,I,I,I,I,I,I,I,I,I,I,I,I,I,I,I,I,I,I,O,O,O,O,O,O,O,O,O,O,O,O,O] ?_
              refine pu (i := 41) (N := some 52) #[I,I,I,I,I,I,I,I,I,I,I,I,I,I,I,I,I,I,I,I,I,I,I,I,I,I,I,I,I,I,I,I,I,I,I,I,I,I,I,I,I,I,O,O,O,O,O,O,O,O,O,O,O,O] ?_
              refine pu (i := 42) (N := some 53) #[I,I,I,I,I,I,I,I,I,I,I,I,I,I,I,I,I,I,I,I,I,I,I,I,I,I,I,I,I,I,I,I,I,I,I,I,I,I,I,I,I,I,I,O,O,O,O,O,O,O,O,O,O,O] ?_
              refine pu (i := 43) (N := some 54) #[I,I,I,I,I,I,I,I,I,I,I,I,I,I,I,I,I,I,I,I,I,I,I,I,I,I,I,I,I,I,I,I,I,I,I,I,I,I,I,I,I,I,I,I,O,O,O,O,O,O,O,O,O,O] ?_
              refine pu (i := 44) (N := some 55) #[I,I,I,I,I,I,I,I,I,I,I,I,I,I,I,I,I,I,I,I,I,I,I,I,I,I,I,I,I,I,I,I,I,I,I,I,I,I,I,I,I,I,I,I,I,O,O,O,O,O,O,O,O,O] ?_
              refine pu (i := 45) (N := some 56) #[I,I,I,I,I,I,I,I,I,I,I,I,I,I,I,I,I,I,I,I,I,I,I,I,I,I,I,I,I,I,I,I,I,I,I,I,I,I,I,I,I,I,I,I,I,I,O,O,O,O,O,O,O,O] ?_
              refine pu (i := 46) (N := some 57) #[I,I,I,I,I,I,I,I,I,I,I,I,I,I,I,I,I,I,I,I,I,I,I,I,I,I,I,I,I,I,I,I,I,I,I,I,I,I,I,I,I,I,I,I,I,I,I,O,O,O,O,O,O,O] ?_
              refine pu (i := 47) (N := some 58) #[I,I,I,I,I,I,I,I,I,I,I,I,I,I,I,I,I,I,I,I,I,I,I,I,I,I,I,I,I,I,I,I,I,I,I,I,I,I,I,I,I,I,I,I,I,I,I,I,O,O,O,O,O,O] ?_
              refine pu (i := 48) (N := some 59) #[I,I,I,I,I,I,I,I,I,I,I,I,I,I,I,I,I,I,I,I,I,I,I,I,I,I,I,I,I,I,I,I,I,I,I,I,I,I,I,I,I,I,I,I,I,I,I,I,I,O,O,O,O,O] ?_
              refine pu (i := 49) (N := some 60) #[I,I,I,I,I,I,I,I,I,I,I,I,I,I,I,I,I,I,I,I,I,I,I,I,I,I,I,I,I,I,I,I,I,I,I,I,I,I,I,I,I,I,I,I,I,I,I,I,I,I,O,O,O,O] ?_
              refine pu (i := 50) (N := some 61) #[I,I,I,I,I,I,I,I,I,I,I,I,I,I,I,I,I,I,I,I,I,I,I,I,I,I,I,I,I,I,I,I,I,I,I,I,I,I,I,I,I,I,I,I,I,I,I,I,I,I,I,O,O,O] ?_
              refine pz (i := 51) (N := some 62) #[I,I,I,I,I,I,I,I,I,I,I,I,I,I,I,I,I,I,I,I,I,I,I,I,I,I,I,I,I,I,I,I,I,I,I,I,I,I,I,I,I,I,I,I,I,I,I,I,I,I,I,I,O,O] ?_
              refine pz (i := 52) (N := some 63) #[I,I,I,I,I,I,I,I,I,I,I,I,I,I,I,I,I,I,I,I,I,I,I,I,I,I,I,I,I,I,I,I,I,I,I,I,I,I,I,I,I,I,I,I,I,I,I,I,I,I,I,I,I,O] ?_
              refine pz (i := 53) (N := some 64) #[I,I,I,I,I,I,I,I,I,I,I,I,I,I,I,I,I,I,I,I,I,I,I,I,I,I,I,I,I,I,I,I,I,I,I,I,I,I,I,I,I,I,I,I,I,I,I,I,I,I,I,I,I,I] ?_
              refine done_ (done_of HT_.out (by kernel_rfl)) ?_
              try go_wp2
              go_meet
              case rel => exact ⟨_, (true), ap, H', ⟨by have := HK1.out; have := HJ2.out; first | omega | exact Nat.le_refl _⟩, ⟨by (with_reducible repeat (first | refine blk_drewN ?_ _ | refine blk_drew ?_ | refine blk_alloc ?_ _)); exact BK350.out⟩, ⟨bo⟩⟩
             ·rw [if_neg c22] at H
              have c22b0 : decide (((rd_T25 l0_1 x3_1).f0) ≤ ((rd_T25 l0_1 (ji19)).f0)) = false := decide_eq_false c22
              clear c22
              have H' := Aside0.mk H
              clear H
              try go_wp2
              replace BK350 := Aside0.mk (blk_drew BK350.out)
              replace HB := Aside0.mk (below_drew1 HB.out)
              have p352 : 0 ≤ (x3_1 : Int) := od
              have q352 : x3_1 < (l0_1.length : Int) := od
              obtain ⟨ad352, e352, hx352_0, hx352_1, hx352_2, hx352_3, hx352_4, hx352_5⟩ := at_T25 HR0_1.out x3_1 p352 q352
              have hw352_5 := hx352_5
              have hw352_4 := hx352_4
              have hw352_3 := hx352_3
              have hw352_2 := hx352_2
              have hw352_1 := hx352_1
              have hw352_0 := hx352_0
              cases e352
              replace hx352_0 := cx HB.out hx352_0
              replace hx352_1 := cx HB.out hx352_1
              replace hx352_2 := cx HB.out hx352_2
              replace hx352_3 := cx HB.out hx352_3
              replace hx352_4 := cx HB.out hx352_4
              replace hx352_5 := cx HB.out hx352_5
              replace p352 := eq_true p352
              replace q352 := eq_true q352
              have p354 : 0 ≤ (x3_1 : Int) := od
              have q354 : x3_1 < (l0_1.length : Int) := od
              obtain ⟨ad354, e354, hx354_0, hx354_1, hx354_2, hx354_3, hx354_4, hx354_5⟩ := at_T25 HR0_1.out x3_1 p354 q354
              have hw354_5 := hx354_5
              have hw354_4 := hx354_4
              have hw354_3 := hx354_3
              have hw354_2 := hx354_2
              have hw354_1 := hx354_1
              have hw354_0 := hx354_0
              obtain rfl : ad352 = ad354 := (by injection e354)
              replace hx354_0 := cx HB.out hx354_0
              replace hx354_1 := cx HB.out hx354_1
              replace hx354_2 := cx HB.out hx354_2
              replace hx354_3 := cx HB.out hx354_3
              replace hx354_4 := cx HB.out hx354_4
              replace hx354_5 := cx HB.out hx354_5
              replace p354 := eq_true p354
              replace q354 := eq_true q354
              have p355 : 0 ≤ ((ji19) : Int) := od
              have q355 : (ji19) < (l0_1.length : Int) := od
              obtain ⟨ad355, e355, hx355_0, hx355_1, hx355_2, hx355_3, hx355_4, hx355_5⟩ := at_T25 HR0_1.out (ji19) p355 q355
              have hw355_5 := hx355_5
              have hw355_4 := hx355_4
              have hw355_3 := hx355_3
              have hw355_2 := hx355_2
              have hw355_1 := hx355_1
              have hw355_0 := hx355_0
              obtain rfl : ad352 = ad355 := (by injection e355)
              replace hx355_0 := cx HB.out hx355_0
              replace hx355_1 := cx HB.out hx355_1
              replace hx355_2 := cx HB.out hx355_2
              replace hx355_3 := cx HB.out hx355_3
              replace hx355_4 := cx HB.out hx355_4
              replace hx355_5 := cx HB.out hx355_5
              replace p355 := eq_true p355
              replace q355 := eq_true q355
              have p356 : 0 ≤ (x3_1 : Int) := od
              have q356 : x3_1 < (l0_1.length : Int) := od
              obtain ⟨ad356, e356, hx356_0, hx356_1, hx356_2, hx356_3, hx356_4, hx356_5⟩ := at_T25 HR0_1.out x3_1 p356 q356
              have hw356_5 := hx356_5
              have hw356_4 := hx356_4
              have hw356_3 := hx356_3
              have hw356_2 := hx356_2
              have hw356_1 := hx356_1
              have hw356_0 := hx356_0
              obtain rfl : ad352 = ad356 := (by injection e356)
              replace hx356_0 := cx HB.out hx356_0
              replace hx356_1 := cx HB.out hx356_1
              replace hx356_2 := cx HB.out hx356_2
              replace hx356_3 := cx HB.out hx356_3
              replace hx356_4 := cx HB.out hx356_4
              replace hx356_5 := cx HB.out hx356_5
              replace p356 := eq_true p356
              replace q356 := eq_true q356
              have p357 : 0 ≤ ((ji19) : Int) := od
              have q357 : (ji19) < (l0_1.length : Int) := od
              obtain ⟨ad357, e357, hx357_0, hx357_1, hx357_2, hx357_3, hx357_4, hx357_5⟩ := at_T25 HR0_1.out (ji19) p357 q357
              have hw357_5 := hx357_5
              have hw357_4 := hx357_4
              have hw357_3 := hx357_3
              have hw357_2 := hx357_2
              have hw357_1 := hx357_1
              have hw357_0 := hx357_0
              obtain rfl : ad352 = ad357 := (by injection e357)
              replace hx357_0 := cx HB.out hx357_0
              replace hx357_1 := cx HB.out hx357_1
              replace hx357_2 := cx HB.out hx357_2
              replace hx357_3 := cx HB.out hx357_3
              replace hx357_4 := cx HB.out hx357_4
              replace hx357_5 := cx HB.out hx357_5
              replace p357 := eq_true p357
              replace q357 := eq_true q357
              have p358 : 0 ≤ (x3_1 : Int) := od
              have q358 : x3_1 < (l0_1.length : Int) := od
              obtain ⟨ad358, e358, hx358_0, hx358_1, hx358_2, hx358_3, hx358_4, hx358_5⟩ := at_T25 HR0_1.out x3_1 p358 q358
              have hw358_5 := hx358_5
              have hw358_4 := hx358_4
              have hw358_3 := hx358_3
              have hw358_2 := hx358_2
              have hw358_1 := hx358_1
              have hw358_0 := hx358_0
              obtain rfl : ad352 = ad358 := (by injection e358)
              replace hx358_0 := cx HB.out hx358_0
              replace hx358_1 := cx HB.out hx358_1
              replace hx358_2 := cx HB.out hx358_2
              replace hx358_3 := cx HB.out hx358_3
              replace hx358_4 := cx HB.out hx358_4
              replace hx358_5 := cx HB.out hx358_5
              replace p358 := eq_true p358
              replace q358 := eq_true q358
              refine start_ (n := 54) (S := fun w' => w'.cell? ⟨gb350, 0, none⟩ = some (.int .i64 a0_0) ∧ w'.cell? ⟨gb350, 1, none⟩ = some (.slice (some ad352) l0_1.length c0_1) ∧ w'.cell? (ad352.add ((x3_1).toNat * 6)) = some (.int .i64 ((rd_T25 l0_1 x3_1).f0)) ∧ w'.cell? ⟨(ad352.add ((x3_1).toNat * 6)).block, (ad352.add ((x3_1).toNat * 6)).off + 1, none⟩ = some (.int .i64 ((rd_T25 l0_1 x3_1).f1)) ∧ w'.cell? ⟨(ad352.add ((x3_1).toNat * 6)).block, (ad352.add ((x3_1).toNat * 6)).off + 2, none⟩ = some (.string ((rd_T25 l0_1 x3_1).f2)) ∧ w'.cell? ⟨(ad352.add ((x3_1).toNat * 6)).block, (ad352.add ((x3_1).toNat * 6)).off + 3, none⟩ = some (.string ((rd_T25 l0_1 x3_1).f3)) ∧ w'.cell? ⟨(ad352.add ((x3_1).toNat * 6)).block, (ad352.add ((x3_1).toNat * 6)).off + 4, none⟩ = some (.int .i64 ((rd_T25 l0_1 x3_1).f4)) ∧ w'.cell? ⟨(ad352.add ((x3_1).toNat * 6)).block, (ad352.add ((x3_1).toNat * 6)).off + 5, none⟩ = some (.bool ((rd_T25 l0_1 x3_1).f5)) ∧ w'.cell? (ad352.add ((x3_1).toNat * 6)) = some (.int .i64 ((rd_T25 l0_1 x3_1).f0)) ∧ w'.cell? ⟨(ad352.add ((x3_1).toNat * 6)).block, (ad352.add ((x3_1).toNat * 6)).off + 1, none⟩ = some (.int .i64 ((rd_T25 l0_1 x3_1).f1)) ∧ w'.cell? ⟨(ad352.add ((x3_1).toNat * 6)).block, (ad352.add ((x3_1).toNat * 6)).off + 2, none⟩ = some (.string ((rd_T25 l0_1 x3_1).f2)) ∧ w'.cell? ⟨(ad352.add ((x3_1).toNat * 6)).block, (ad352.add ((x3_1).toNat * 6)).off + 3, none⟩ = some (.string ((rd_T25 l0_1 x3_1).f3)) ∧ w'.cell? ⟨(ad352.add ((x3_1).toNat * 6)).block, (ad352.add ((x3_1).toNat * 6)).off + 4, none⟩ = some (.int .i64 ((rd_T25 l0_1 x3_1).f4)) ∧ w'.cell? ⟨(ad352.add ((x3_1).toNat * 6)).block, (ad352.add ((x3_1).toNat * 6)).off + 5, none⟩ = some (.bool ((rd_T25 l0_1 x3_1).f5)) ∧ w'.cell? (ad352.add (((ji19)).toNat * 6)) = some (.int .i64 ((rd_T25 l0_1 (ji19)).f0)) ∧ w'.cell? ⟨(ad352.add (((ji19)).toNat * 6)).block, (ad352.add (((ji19)).toNat * 6)).off + 1, none⟩ = some (.int .i64 ((rd_T25 l0_1 (ji19)).f1)) ∧ w'.cell? ⟨(ad352.add (((ji19)).toNat * 6)).block, (ad352.add (((ji19)).toNat * 6)).off + 2, none⟩ = some (.string ((rd_T25 l0_1 (ji19)).f2)) ∧ w'.cell? ⟨(ad352.add (((ji19)).toNat * 6)).block, (ad352.add (((ji19)).toNat * 6)).off + 3, none⟩ = some (.string ((rd_T25 l0_1 (ji19)).f3)) ∧ w'.cell? ⟨(ad352.add (((ji19)).toNat * 6)).block, (ad352.add (((ji19)).toNat * 6)).off + 4, none⟩ = some (.int .i64 ((rd_T25 l0_1 (ji19)).f4)) ∧ w'.cell? ⟨(ad352.add (((ji19)).toNat * 6)).block, (ad352.add (((ji19)).toNat * 6)).off + 5, none⟩ = some (.bool ((rd_T25 l0_1 (ji19)).f5)) ∧ w'.cell? (ad352.add ((x3_1).toNat * 6)) = some (.int .i64 ((rd_T25 l0_1 x3_1).f0)) ∧ w'.cell? ⟨(ad352.add ((x3_1).toNat * 6)).block, (ad352.add ((x3_1).toNat * 6)).off + 1, none⟩ = some (.int .i64 ((rd_T25 l0_1 x3_1).f1)) ∧ w'.cell? ⟨(ad352.add ((x3_1).toNat * 6)).block, (ad352.add ((x3_1).toNat * 6)).off + 2, none⟩ = some (.string ((rd_T25 l0_1 x3_1).f2)) ∧ w'.cell? ⟨(ad352.add ((x3_1).toNat * 6)).block, (ad352.add ((x3_1).toNat * 6)).off + 3, none⟩ = some (.string ((rd_T25 l0_1 x3_1).f3)) ∧ w'.cell? ⟨(ad352.add ((x3_1).toNat * 6)).block, (ad352.add ((x3_1).toNat * 6)).off + 4, none⟩ = some (.int .i64 ((rd_T25 l0_1 x3_1).f4)) ∧ w'.cell? ⟨(ad352.add ((x3_1).toNat * 6)).block, (ad352.add ((x3_1).toNat * 6)).off + 5, none⟩ = some (.bool ((rd_T25 l0_1 x3_1).f5)) ∧ w'.cell? (ad352.add (((ji19)).toNat * 6)) = some (.int .i64 ((rd_T25 l0_1 (ji19)).f0)) ∧ w'.cell? ⟨(ad352.add (((ji19)).toNat * 6)).block, (ad352.add (((ji19)).toNat * 6)).off + 1, none⟩ = some (.int .i64 ((rd_T25 l0_1 (ji19)).f1)) ∧ w'.cell? ⟨(ad352.add (((ji19)).toNat * 6)).block, (ad352.add (((ji19)).toNat * 6)).off + 2, none⟩ = some (.string ((rd_T25 l0_1 (ji19)).f2)) ∧ w'.cell? ⟨(ad352.add (((ji19)).toNat * 6)).block, (ad352.add (((ji19)).toNat * 6)).off + 3, none⟩ = some (.string ((rd_T25 l0_1 (ji19)).f3)) ∧ w'.cell? ⟨(ad352.add (((ji19)).toNat * 6)).block, (ad352.add (((ji19)).toNat * 6)).off + 4, none⟩ = some (.int .i64 ((rd_T25 l0_1 (ji19)).f4)) ∧ w'.cell? ⟨(ad352.add (((ji19)).toNat * 6)).block, (ad352.add (((ji19)).toNat * 6)).off + 5, none⟩ = some (.bool ((rd_T25 l0_1 (ji19)).f5)) ∧ w'.cell? (ad352.add ((x3_1).toNat * 6)) = some (.int .i64 ((rd_T25 l0_1 x3_1).f0)) ∧ w'.cell? ⟨(ad352.add ((x3_1).toNat * 6)).block, (ad352.add ((x3_1).toNat * 6)).off + 1, none⟩ = some (.int .i64 ((rd_T25 l0_1 x3_1).f1)) ∧ w'.cell? ⟨(ad352.add ((x3_1).toNat * 6)).block, (ad352.add ((x3_1).toNat * 6)).off + 2, none⟩ = some (.string ((rd_T25 l0_1 x3_1).f2)) ∧ w'.cell? ⟨(ad352.add ((x3_1).toNat * 6)).block, (ad352.add ((x3_1).toNat * 6)).off + 3, none⟩ = some (.string ((rd_T25 l0_1 x3_1).f3)) ∧ w'.cell? ⟨(ad352.add ((x3_1).toNat * 6)).block, (ad352.add ((x3_1).toNat * 6)).off + 4, none⟩ = some (.int .i64 ((rd_T25 l0_1 x3_1).f4)) ∧ w'.cell? ⟨(ad352.add ((x3_1).toNat * 6)).block, (ad352.add ((x3_1).toNat * 6)).off + 5, none⟩ = some (.bool ((rd_T25 l0_1 x3_1).f5))) (ds := []) #[O,O,O,O,O,O,O,O,O,O,O,O,O,O,O,O,O,O,O,O,O,O,O,O,O,O,O,O,O,O,O,O,O,O,O,O,O,O,O,O,O,O,O,O,O,O,O,O,O,O,O,O,O,O] (by kernel_rfl) rfl rfl ⟨(blk_cell BK350.out 0).trans rfl, (blk_cell BK350.out 1).trans rfl, (cx HB.out hw352_0), (cx HB.out hw352_1), (cx HB.out hw352_2), (cx HB.out hw352_3), (cx HB.out hw352_4), (cx HB.out hw352_5), (cx HB.out hw354_0), (cx HB.out hw354_1), (cx HB.out hw354_2), (cx HB.out hw354_3), (cx HB.out hw354_4), (cx HB.out hw354_5), (cx HB.out hw355_0), (cx HB.out hw355_1), (cx HB.out hw355_2), (cx HB.out hw355_3), (cx HB.out hw355_4), (cx HB.out hw355_5), (cx HB.out hw356_0), (cx HB.out hw356_1), (cx HB.out hw356_2), (cx HB.out hw356_3), (cx HB.out hw356_4), (cx HB.out hw356_5), (cx HB.out hw357_0), (cx HB.out hw357_1), (cx HB.out hw357_2), (cx HB.out hw357_3), (cx HB.out hw357_4), (cx HB.out hw357_5), (cx HB.out hw358_0), (cx HB.out hw358_1), (cx HB.out hw358_2), (cx HB.out hw358_3), (cx HB.out hw358_4), (cx HB.out hw358_5)⟩ (fun hHeld => ?_); refine with_tabW fairwayref10_Seg.tab4 fairwayref10_Seg.bits4 (fun HT_ HW_ => ?_)
              generalize wc.drew = w25 at BK350 HB hx352_0 hx352_1 hx352_2 hx352_3 hx352_4 hx352_5 hx354_0 hx354_1 hx354_2 hx354_3 hx354_4 hx354_5 hx355_0 hx355_1 hx355_2 hx355_3 hx355_4 hx355_5 hx356_0 hx356_1 hx356_2 hx356_3 hx356_4 hx356_5 hx357_0 hx357_1 hx357_2 hx357_3 hx357_4 hx357_5 hx358_0 hx358_1 hx358_2 hx358_3 hx358_4 hx358_5 hHeld ⊢
              refine pz (i := 0) (N := some 11) #[I,O,O,O,O,O,O,O,O,O,O,O,O,O,O,O,O,O,O,O,O,O,O,O,O,O,O,O,O,O,O,O,O,O,O,O,O,O,O,O,O,O,O,O,O,O,O,O,O,O,O,O,O,O] ?_
              refine pz (i := 2) (N := some 13) #[I,O,I,O,O,O,O,O,O,O,O,O,O,O,O,O,O,O,O,O,O,O,O,O,O,O,O,O,O,O,O,O,O,O,O,O,O,O,O,O,O,O,O,O,O,O,O,O,O,O,O,O,O,O] ?_
              refine tz (i := 1) (N := some 12) #[I,I,I,O,O,O,O,O,O,O,O,O,O,O,O,O,O,O,O,O,O,O,O,O,O,O,O,O,O,O,O,O,O,O,O,O,O,O,O,O,O,O,O,O,O,O,O,O,O,O,O,O,O,O] ?_
              refine pz (i := 3) (N := some 14) #[I,I,I,I,O,O,O,O,O,O,O,O,O,O,O,O,O,O,O,O,O,O,O,O,O,O,O,O,O,O,O,O,O,O,O,O,O,O,O,O,O,O,O,O,O,O,O,O,O,O,O,O,O,O] ?_
              refine tz (i := 4) (N := some 15) #[I,I,I,I,I,O,O,O,O,O,O,O,O,O,O,O,O,O,O,O,O,O,O,O,O,O,O,O,O,O,O,O,O,O,O,O,O,O,O,O,O,O,O,O,O,O,O,O,O,O,O,O,O,O] ?_
              refine one_ (i := 5) (N := some 16) #[I,I,I,I,I,I,O,O,O,O,O,O,O,O,O,O,O,O,O,O,O,O,O,O,O,O,O,O,O,O,O,O,O,O,O,O,O,O,O,O,O,O,O,O,O,O,O,O,O,O,O,O,O,O] rfl rfl (one_of HT_.out (by kernel_rfl)) (by decide) (fun K hK => ?_)
              refine goes_ Try.func17 (by kernel_rfl) rfl #[.agg #[.int .i64 ((rd_T25 l0_1 x3_1).f0), .int .i64 ((rd_T25 l0_1 x3_1).f1), .string ((rd_T25 l0_1 x3_1).f2), .string ((rd_T25 l0_1 x3_1).f3), .int .i64 ((rd_T25 l0_1 x3_1).f4), .bool ((rd_T25 l0_1 x3_1).f5)]] (by rfl) rfl rfl aa ?_
              with_reducible refine (fairwayref10_Rec.calls ((rd_T25 l0_1 x3_1).f0) ((rd_T25 l0_1 x3_1).f1) ((rd_T25 l0_1 x3_1).f2) ((rd_T25 l0_1 x3_1).f3) ((rd_T25 l0_1 x3_1).f4) ((rd_T25 l0_1 x3_1).f5) true _ A13.out).mono ?_
              rintro e w26 ⟨rfl, hb⟩
              refine ⟨_, rfl, ?_⟩
              replace BK350 := Aside0.mk (bb BK350.out hb)
              replace HB := Aside0.mk (below_step bo hb)
              (try clear hb)
              (try clear hb2)
              (try clear hk)
              (try clear hi)
              refine hK.out _ _ ⟨(blk_cell BK350.out 0).trans rfl, (blk_cell BK350.out 1).trans rfl, (cx HB.out hw352_0), (cx HB.out hw352_1), (cx HB.out hw352_2), (cx HB.out hw352_3), (cx HB.out hw352_4), (cx HB.out hw352_5), (cx HB.out hw354_0), (cx HB.out hw354_1), (cx HB.out hw354_2), (cx HB.out hw354_3), (cx HB.out hw354_4), (cx HB.out hw354_5), (cx HB.out hw355_0), (cx HB.out hw355_1), (cx HB.out hw355_2), (cx HB.out hw355_3), (cx HB.out hw355_4), (cx HB.out hw355_5), (cx HB.out hw356_0), (cx HB.out hw356_1), (cx HB.out hw356_2), (cx HB.out hw356_3), (cx HB.out hw356_4), (cx HB.out hw356_5), (cx HB.out hw357_0), (cx HB.out hw357_1), (cx HB.out hw357_2), (cx HB.out hw357_3), (cx HB.out hw357_4), (cx HB.out hw357_5), (cx HB.out hw358_0), (cx HB.out hw358_1), (cx HB.out hw358_2), (cx HB.out hw358_3), (cx HB.out hw358_4), (cx HB.out hw358_5)⟩ (fun hHeld => ?_)
              clear hK K
              refine norm_ (a' := ?_) ?_ ?_
              rotate_left
              ·show Act.put _ (some 16) _ = _
               simp only [Act.put, List.setIfInBounds_toArray, List.set_cons_zero, List.set_cons_succ, i64_w, i32_w]
               rfl
              refine pz (i := 6) (N := some 17) #[I,I,I,I,I,I,I,O,O,O,O,O,O,O,O,O,O,O,O,O,O,O,O,O,O,O,O,O,O,O,O,O,O,O,O,O,O,O,O,O,O,O,O,O,O,O,O,O,O,O,O,O,O,O] ?_
              refine pz (i := 7) (N := some 18) #[I,I,I,I,I,I,I,I,O,O,O,O,O,O,O,O,O,O,O,O,O,O,O,O,O,O,O,O,O,O,O,O,O,O,O,O,O,O,O,O,O,O,O,O,O,O,O,O,O,O,O,O,O,O] ?_
              refine pz (i := 8) (N := some 19) #[I,I,I,I,I,I,I,I,I,O,O,O,O,O,O,O,O,O,O,O,O,O,O,O,O,O,O,O,O,O,O,O,O,O,O,O,O,O,O,O,O,O,O,O,O,O,O,O,O,O,O,O,O,O] ?_
              refine pz (i := 10) (N := some 21) #[I,I,I,I,I,I,I,I,I,O,I,O,O,O,O,O,O,O,O,O,O,O,O,O,O,O,O,O,O,O,O,O,O,O,O,O,O,O,O,O,O,O,O,O,O,O,O,O,O,O,O,O,O,O] ?_
              refine pz (i := 14) (N := some 25) #[I,I,I,I,I,I,I,I,I,O,I,O,O,O,I,O,O,O,O,O,O,O,O,O,O,O,O,O,O,O,O,O,O,O,O,O,O,O,O,O,O,O,O,O,O,O,O,O,O,O,O,O,O,O] ?_
              refine tz (i := 9) (N := some 20) #[I,I,I,I,I,I,I,I,I,I,I,O,O,O,I,O,O,O,O,O,O,O,O,O,O,O,O,O,O,O,O,O,O,O,O,O,O,O,O,O,O,O,O,O,O,O,O,O,O,O,O,O,O,O] ?_
              refine pz (i := 11) (N := some 22) #[I,I,I,I,I,I,I,I,I,I,I,I,O,O,I,O,O,O,O,O,O,O,O,O,O,O,O,O,O,O,O,O,O,O,O,O,O,O,O,O,O,O,O,O,O,O,O,O,O,O,O,O,O,O] ?_
              refine pz (i := 12) (N := some 23) #[I,I,I,I,I,I,I,I,I,I,I,I,I,O,I,O,O,O,O,O,O,O,O,O,O,O,O,O,O,O,O,O,O,O,O,O,O,O,O,O,O,O,O,O,O,O,O,O,O,O,O,O,O,O] ?_
              refine tz (i := 13) (N := some 24) #[I,I,I,I,I,I,I,I,I,I,I,I,I,I,I,O,O,O,O,O,O,O,O,O,O,O,O,O,O,O,O,O,O,O,O,O,O,O,O,O,O,O,O,O,O,O,O,O,O,O,O,O,O,O] ?_
              refine tz (i := 15) (N := some 26) #[I,I,I,I,I,I,I,I,I,I,I,I,I,I,I,I,O,O,O,O,O,O,O,O,O,O,O,O,O,O,O,O,O,O,O,O,O,O,O,O,O,O,O,O,O,O,O,O,O,O,O,O,O,O] ?_
              refine pz (i := 16) (N := some 27) #[I,I,I,I,I,I,I,I,I,I,I,I,I,I,I,I,I,O,O,O,O,O,O,O,O,O,O,O,O,O,O,O,O,O,O,O,O,O,O,O,O,O,O,O,O,O,O,O,O,O,O,O,O,O] ?_
              refine pz (i := 17) (N := some 28) #[I,I,I,I,I,I,I,I,I,I,I,I,I,I,I,I,I,I,O,O,O,O,O,O,O,O,O,O,O,O,O,O,O,O,O,O,O,O,O,O,O,O,O,O,O,O,O,O,O,O,O,O,O,O] ?_
              refine pz (i := 18) (N := some 29) #[I,I,I,I,I,I,I,I,I,I,I,I,I,I,I,I,I,I,I,O,O,O,O,O,O,O,O,O,O,O,O,O,O,O,O,O,O,O,O,O,O,O,O,O,O,O,O,O,O,O,O,O,O,O] ?_
              refine pz (i := 19) (N := some 30) #[I,I,I,I,I,I,I,I,I,I,I,I,I,I,I,I,I,I,I,I,O,O,O,O,O,O,O,O,O,O,O,O,O,O,O,O,O,O,O,O,O,O,O,O,O,O,O,O,O,O,O,O,O,O] ?_
              refine pz (i := 20) (N := some 31) #[I,I,I,I,I,I,I,I,I,I,I,I,I,I,I,I,I,I,I,I,I,O,O,O,O,O,O,O,O,O,O,O,O,O,O,O,O,O,O,O,O,O,O,O,O,O,O,O,O,O,O,O,O,O] ?_
              refine pz (i := 21) (N := some 32) #[I,I,I,I,I,I,I,I,I,I,I,I,I,I,I,I,I,I,I,I,I,I,O,O,O,O,O,O,O,O,O,O,O,O,O,O,O,O,O,O,O,O,O,O,O,O,O,O,O,O,O,O,O,O] ?_
              refine pz (i := 22) (N := some 33) #[I,I,I,I,I,I,I,I,I,I,I,I,I,I,I,I,I,I,I,I,I,I,I,O,O,O,O,O,O,O,O,O,O,O,O,O,O,O,O,O,O,O,O,O,O,O,O,O,O,O,O,O,O,O] ?_
              refine pz (i := 24) (N := some 35) #[I,I,I,I,I,I,I,I,I,I,I,I,I,I,I,I,I,I,I,I,I,I,I,O,I,O,O,O,O,O,O,O,O,O,O,O,O,O,O,O,O,O,O,O,O,O,O,O,O,O,O,O,O,O] ?_
              refine pz (i := 25) (N := some 36) #[I,I,I,I,I,I,I,I,I,I,I,I,I,I,I,I,I,I,I,I,I,I,I,O,I,I,O,O,O,O,O,O,O,O,O,O,O,O,O,O,O,O,O,O,O,O,O,O,O,O,O,O,O,O] ?_
              refine pz (i := 29) (N := some 40) #[I,I,I,I,I,I,I,I,I,I,I,I,I,I,I,I,I,I,I,I,I,I,I,O,I,I,O,O,O,I,O,O,O,O,O,O,O,O,O,O,O,O,O,O,O,O,O,O,O,O,O,O,O,O] ?_
              refine pz (i := 31) (N := some 42) #[I,I,I,I,I,I,I,I,I,I,I,I,I,I,I,I,I,I,I,I,I,I,I,O,I,I,O,O,O,I,O,I,O,O,O,O,O,O,O,O,O,O,O,O,O,O,O,O,O,O,O,O,O,O] ?_
              refine tz (i := 23) (N := some 34) #[I,I,I,I,I,I,I,I,I,I,I,I,I,I,I,I,I,I,I,I,I,I,I,I,I,I,O,O,O,I,O,I,O,O,O,O,O,O,O,O,O,O,O,O,O,O,O,O,O,O,O,O,O,O] ?_
              refine pz (i := 26) (N := some 37) #[I,I,I,I,I,I,I,I,I,I,I,I,I,I,I,I,I,I,I,I,I,I,I,I,I,I,I,O,O,I,O,I,O,O,O,O,O,O,O,O,O,O,O,O,O,O,O,O,O,O,O,O,O,O] ?_
              refine pz (i := 27) (N := some 38) #[I,I,I,I,I,I,I,I,I,I,I,I,I,I,I,I,I,I,I,I,I,I,I,I,I,I,I,I,O,I,O,I,O,O,O,O,O,O,O,O,O,O,O,O,O,O,O,O,O,O,O,O,O,O] ?_
              refine tz (i := 28) (N := some 39) #[I,I,I,I,I,I,I,I,I,I,I,I,I,I,I,I,I,I,I,I,I,I,I,I,I,I,I,I,I,I,O,I,O,O,O,O,O,O,O,O,O,O,O,O,O,O,O,O,O,O,O,O,O,O] ?_
              refine tz (i := 30) (N := some 41) #[I,I,I,I,I,I,I,I,I,I,I,I,I,I,I,I,I,I,I,I,I,I,I,I,I,I,I,I,I,I,I,I,O,O,O,O,O,O,O,O,O,O,O,O,O,O,O,O,O,O,O,O,O,O] ?_
              refine pz (i := 32) (N := some 43) #[I,I,I,I,I,I,I,I,I,I,I,I,I,I,I,I,I,I,I,I,I,I,I,I,I,I,I,I,I,I,I,I,I,O,O,O,O,O,O,O,O,O,O,O,O,O,O,O,O,O,O,O,O,O] ?_
              refine pz (i := 33) (N := some 44) #[I,I,I,I,I,I,I,I,I,I,I,I,I,I,I,I,I,I,I,I,I,I,I,I,I,I,I,I,I,I,I,I,I,I,O,O,O,O,O,O,O,O,O,O,O,O,O,O,O,O,O,O,O,O] ?_
              refine tz (i := 34) (N := some 45) #[I,I,I,I,I,I,I,I,I,I,I,I,I,I,I,I,I,I,I,I,I,I,I,I,I,I,I,I,I,I,I,I,I,I,I,O,O,O,O,O,O,O,O,O,O,O,O,O,O,O,O,O,O,O] ?_
              refine pz (i := 35) (N := some 46) #[I,I,I,I,I,I,I,I,I,I,I,I,I,I,I,I,I,I,I,I,I,I,I,I,I,I,I,I,I,I,I,I,I,I,I,I,O,O,O,O,O,O,O,O,O,O,O,O,O,O,O,O,O,O] ?_
              refine pz (i := 36) (N := some 47) #[I,I,I,I,I,I,I,I,I,I,I,I,I,I,I,I,I,I,I,I,I,I,I,I,I,I,I,I,I,I,I,I,I,I,I,I,I,O,O,O,O,O,O,O,O,O,O,O,O,O,O,O,O,O] ?_
              refine pz (i := 37) (N := some 48) #[I,I,I,I,I,I,I,I,I,I,I,I,I,I,I,I,I,I,I,I,I,I,I,I,I,I,I,I,I,I,I,I,I,I,I,I,I,I,O,O,O,O,O,O,O,O,O,O,O,O,O,O,O,O] ?_
              refine pz (i := 39) (N := some 50) #[I,I,I,I,I,I,I,I,I,I,I,I,I,I,I,I,I,I,I,I,I,I,I,I,I,I,I,I,I,I,I,I,I,I,I,I,I,I,O,I,O,O,O,O,O,O,O,O,O,O,O,O,O,O] ?_
              refine pz (i := 40) (N := some 51) #[I,I,I,I,I,I,I,I,I,I,I,I,I,I,I,I,I,I,I,I,I,I,I,I,I,I,I,I,I,I,I,I,I,I,I,I,I,I,O,I,I,O,O,O,O,O,O,O,O,O,O,O,O,O] ?_
              refine pz (i := 44) (N := some 55) #[I,I,I,I,I,I,I,I,I,I,I,I,I,I,I,I,I,I,I,I,I,I,I,I,I,I,I,I,I,I,I,I,I,I,I,I,I,I,O,I,I,O,O,O,I,O,O,O,O,O,O,O,O,O] ?_
              refine pz (i := 46) (N := some 57) #[I,I,I,I,I,I,I,I,I,I,I,I,I,I,I,I,I,I,I,I,I,I,I,I,I,I,I,I,I,I,I,I,I,I,I,I,I,I,O,I,I,O,O,O,I,O,I,O,O,O,O,O,O,O] ?_
              refine tz (i := 38) (N := some 49) #[I,I,I,I,I,I,I,I,I,I,I,I,I,I,I,I,I,I,I,I,I,I,I,I,I,I,I,I,I,I,I,I,I,I,I,I,I,I,I,I,I,O,O,O,I,O,I,O,O,O,O,O,O,O] ?_
              refine pz (i := 41) (N := some 52) #[I,I,I,I,I,I,I,I,I,I,I,I,I,I,I,I,I,I,I,I,I,I,I,I,I,I,I,I,I,I,I,I,I,I,I,I,I,I,I,I,I,I,O,O,I,O,I,O,O,O,O,O,O,O] ?_
              refine pz (i := 42) (N := some 53) #[I,I,I,I,I,I,I,I,I,I,I,I,I,I,I,I,I,I,I,I,I,I,I,I,I,I,I,I,I,I,I,I,I,I,I,I,I,I,I,I,I,I,I,O,I,O,I,O,O,O,O,O,O,O] ?_
              refine tz (i := 43) (N := some 54) #[I,I,I,I,I,I,I,I,I,I,I,I,I,I,I,I,I,I,I,I,I,I,I,I,I,I,I,I,I,I,I,I,I,I,I,I,I,I,I,I,I,I,I,I,I,O,I,O,O,O,O,O,O,O] ?_
              refine tz (i := 45) (N := some 56) #[I,I,I,I,I,I,I,I,I,I,I,I,I,I,I,I,I,I,I,I,I,I,I,I,I,I,I,I,I,I,I,I,I,I,I,I,I,I,I,I,I,I,I,I,I,I,I,O,O,O,O,O,O,O] ?_
              refine pz (i := 47) (N := some 58) #[I,I,I,I,I,I,I,I,I,I,I,I,I,I,I,I,I,I,I,I,I,I,I,I,I,I,I,I,I,I,I,I,I,I,I,I,I,I,I,I,I,I,I,I,I,I,I,I,O,O,O,O,O,O] ?_
              refine pz (i := 48) (N := some 59) #[I,I,I,I,I,I,I,I,I,I,I,I,I,I,I,I,I,I,I,I,I,I,I,I,I,I,I,I,I,I,I,I,I,I,I,I,I,I,I,I,I,I,I,I,I,I,I,I,I,O,O,O,O,O] ?_
              refine tz (i := 49) (N := some 60) #[I,I,I,I,I,I,I,I,I,I,I,I,I,I,I,I,I,I,I,I,I,I,I,I,I,I,I,I,I,I,I,I,I,I,I,I,I,I,I,I,I,I,I,I,I,I,I,I,I,I,O,O,O,O] ?_
              refine pz (i := 50) (N := some 61) #[I,I,I,I,I,I,I,I,I,I,I,I,I,I,I,I,I,I,I,I,I,I,I,I,I,I,I,I,I,I,I,I,I,I,I,I,I,I,I,I,I,I,I,I,I,I,I,I,I,I,I,O,O,O] ?_
              refine pz (i := 51) (N := some 62) #[I,I,I,I,I,I,I,I,I,I,I,I,I,I,I,I,I,I,I,I,I,I,I,I,I,I,I,I,I,I,I,I,I,I,I,I,I,I,I,I,I,I,I,I,I,I,I,I,I,I,I,I,O,O] ?_
              refine pz (i := 52) (N := some 63) #[I,I,I,I,I,I,I,I,I,I,I,I,I,I,I,I,I,I,I,I,I,I,I,I,I,I,I,I,I,I,I,I,I,I,I,I,I,I,I,I,I,I,I,I,I,I,I,I,I,I,I,I,I,O] ?_
              refine pz (i := 53) (N := some 64) #[I,I,I,I,I,I,I,I,I,I,I,I,I,I,I,I,I,I,I,I,I,I,I,I,I,I,I,I,I,I,I,I,I,I,I,I,I,I,I,I,I,I,I,I,I,I,I,I,I,I,I,I,I,I] ?_
              refine done_ (done_of HT_.out (by kernel_rfl)) ?_
              try go_wp2
              go_meet
              case rel => exact ⟨_, (decide (((rd_T25 l0_1 (ji19)).f1) > ((rd_T25 l0_1 x3_1).f1))), (by first | rfl | (simp; done) | (simp only [← hji19] <;> (first | rfl | simp)) | (simp [*]; done)), H', ⟨by have := HK1.out; have := HJ2.out; first | omega | exact Nat.le_refl _⟩, ⟨by (with_reducible repeat (first | refine blk_drewN ?_ _ | refine blk_drew ?_ | refine blk_alloc ?_ _)); exact BK350.out⟩, ⟨bo⟩⟩
            ·rw [if_neg c21] at H
             exact absurd H (by simp)
           ·rw [if_neg c20] at H
            exact absurd H (by simp)
          ·rw [if_neg c18] at H
           have c18b0 : decide (0 < x3_1) = false := decide_eq_false c18
           clear c18
           have H' := Aside0.mk H
           clear H
           try go_wp2
           replace BK350 := Aside0.mk (blk_drew BK350.out)
           replace HB := Aside0.mk (below_drew1 HB.out)
           have p352 : 0 ≤ (x3_1 : Int) := od
           have q352 : x3_1 < (l0_1.length : Int) := od
           obtain ⟨ad352, e352, hx352_0, hx352_1, hx352_2, hx352_3, hx352_4, hx352_5⟩ := at_T25 HR0_1.out x3_1 p352 q352
           have hw352_5 := hx352_5
           have hw352_4 := hx352_4
           have hw352_3 := hx352_3
           have hw352_2 := hx352_2
           have hw352_1 := hx352_1
           have hw352_0 := hx352_0
           cases e352
           replace hx352_0 := cx HB.out hx352_0
           replace hx352_1 := cx HB.out hx352_1
           replace hx352_2 := cx HB.out hx352_2
           replace hx352_3 := cx HB.out hx352_3
           replace hx352_4 := cx HB.out hx352_4
           replace hx352_5 := cx HB.out hx352_5
           replace p352 := eq_true p352
           replace q352 := eq_true q352
           have p354 : 0 ≤ (x3_1 : Int) := od
           have q354 : x3_1 < (l0_1.length : Int) := od
           obtain ⟨ad354, e354, hx354_0, hx354_1, hx354_2, hx354_3, hx354_4, hx354_5⟩ := at_T25 HR0_1.out x3_1 p354 q354
           have hw354_5 := hx354_5
           have hw354_4 := hx354_4
           have hw354_3 := hx354_3
           have hw354_2 := hx354_2
           have hw354_1 := hx354_1
           have hw354_0 := hx354_0
           obtain rfl : ad352 = ad354 := (by injection e354)
           replace hx354_0 := cx HB.out hx354_0
           replace hx354_1 := cx HB.out hx354_1
           replace hx354_2 := cx HB.out hx354_2
           replace hx354_3 := cx HB.out hx354_3
           replace hx354_4 := cx HB.out hx354_4
           replace hx354_5 := cx HB.out hx354_5
           replace p354 := eq_true p354
           replace q354 := eq_true q354
           refine start_ (n := 54) (S := fun w' => w'.cell? ⟨gb350, 0, none⟩ = some (.int .i64 a0_0) ∧ w'.cell? ⟨gb350, 1, none⟩ = some (.slice (some ad352) l0_1.length c0_1) ∧ w'.cell? (ad352.add ((x3_1).toNat * 6)) = some (.int .i64 ((rd_T25 l0_1 x3_1).f0)) ∧ w'.cell? ⟨(ad352.add ((x3_1).toNat * 6)).block, (ad352.add ((x3_1).toNat * 6)).off + 1, none⟩ = some (.int .i64 ((rd_T25 l0_1 x3_1).f1)) ∧ w'.cell? ⟨(ad352.add ((x3_1).toNat * 6)).block, (ad352.add ((x3_1).toNat * 6)).off + 2, none⟩ = some (.string ((rd_T25 l0_1 x3_1).f2)) ∧ w'.cell? ⟨(ad352.add ((x3_1).toNat * 6)).block, (ad352.add ((x3_1).toNat * 6)).off + 3, none⟩ = some (.string ((rd_T25 l0_1 x3_1).f3)) ∧ w'.cell? ⟨(ad352.add ((x3_1).toNat * 6)).block, (ad352.add ((x3_1).toNat * 6)).off + 4, none⟩ = some (.int .i64 ((rd_T25 l0_1 x3_1).f4)) ∧ w'.cell? ⟨(ad352.add ((x3_1).toNat * 6)).block, (ad352.add ((x3_1).toNat * 6)).off + 5, none⟩ = some (.bool ((rd_T25 l0_1 x3_1).f5)) ∧ w'.cell? (ad352.add ((x3_1).toNat * 6)) = some (.int .i64 ((rd_T25 l0_1 x3_1).f0)) ∧ w'.cell? ⟨(ad352.add ((x3_1).toNat * 6)).block, (ad352.add ((x3_1).toNat * 6)).off + 1, none⟩ = some (.int .i64 ((rd_T25 l0_1 x3_1).f1)) ∧ w'.cell? ⟨(ad352.add ((x3_1).toNat * 6)).block, (ad352.add ((x3_1).toNat * 6)).off + 2, none⟩ = some (.string ((rd_T25 l0_1 x3_1).f2)) ∧ w'.cell? ⟨(ad352.add ((x3_1).toNat * 6)).block, (ad352.add ((x3_1).toNat * 6)).off + 3, none⟩ = some (.string ((rd_T25 l0_1 x3_1).f3)) ∧ w'.cell? ⟨(ad352.add ((x3_1).toNat * 6)).block, (ad352.add ((x3_1).toNat * 6)).off + 4, none⟩ = some (.int .i64 ((rd_T25 l0_1 x3_1).f4)) ∧ w'.cell? ⟨(ad352.add ((x3_1).toNat * 6)).block, (ad352.add ((x3_1).toNat * 6)).off + 5, none⟩ = some (.bool ((rd_T25 l0_1 x3_1).f5))) (ds := []) #[O,O,O,O,O,O,O,O,O,O,O,O,O,O,O,O,O,O,O,O,O,O,O,O,O,O,O,O,O,O,O,O,O,O,O,O,O,O,O,O,O,O,O,O,O,O,O,O,O,O,O,O,O,O] (by kernel_rfl) rfl rfl ⟨(blk_cell BK350.out 0).trans rfl, (blk_cell BK350.out 1).trans rfl, (cx HB.out hw352_0), (cx HB.out hw352_1), (cx HB.out hw352_2), (cx HB.out hw352_3), (cx HB.out hw352_4), (cx HB.out hw352_5), (cx HB.out hw354_0), (cx HB.out hw354_1), (cx HB.out hw354_2), (cx HB.out hw354_3), (cx HB.out hw354_4), (cx HB.out hw354_5)⟩ (fun hHeld => ?_); refine with_tabW fairwayref10_Seg.tab4 fairwayref10_Seg.bits4 (fun HT_ HW_ => ?_)
           generalize wc.drew = w27 at BK350 HB hx352_0 hx352_1 hx352_2 hx352_3 hx352_4 hx352_5 hx354_0 hx354_1 hx354_2 hx354_3 hx354_4 hx354_5 hHeld ⊢
           refine pz (i := 0) (N := some 11) #[I,O,O,O,O,O,O,O,O,O,O,O,O,O,O,O,O,O,O,O,O,O,O,O,O,O,O,O,O,O,O,O,O,O,O,O,O,O,O,O,O,O,O,O,O,O,O,O,O,O,O,O,O,O] ?_
           refine pz (i := 2) (N := some 13) #[I,O,I,O,O,O,O,O,O,O,O,O,O,O,O,O,O,O,O,O,O,O,O,O,O,O,O,O,O,O,O,O,O,O,O,O,O,O,O,O,O,O,O,O,O,O,O,O,O,O,O,O,O,O] ?_
           refine tz (i := 1) (N := some 12) #[I,I,I,O,O,O,O,O,O,O,O,O,O,O,O,O,O,O,O,O,O,O,O,O,O,O,O,O,O,O,O,O,O,O,O,O,O,O,O,O,O,O,O,O,O,O,O,O,O,O,O,O,O,O] ?_
           refine pz (i := 3) (N := some 14) #[I,I,I,I,O,O,O,O,O,O,O,O,O,O,O,O,O,O,O,O,O,O,O,O,O,O,O,O,O,O,O,O,O,O,O,O,O,O,O,O,O,O,O,O,O,O,O,O,O,O,O,O,O,O] ?_
           refine tz (i := 4) (N := some 15) #[I,I,I,I,I,O,O,O,O,O,O,O,O,O,O,O,O,O,O,O,O,O,O,O,O,O,O,O,O,O,O,O,O,O,O,O,O,O,O,O,O,O,O,O,O,O,O,O,O,O,O,O,O,O] ?_
           refine one_ (i := 5) (N := some 16) #[I,I,I,I,I,I,O,O,O,O,O,O,O,O,O,O,O,O,O,O,O,O,O,O,O,O,O,O,O,O,O,O,O,O,O,O,O,O,O,O,O,O,O,O,O,O,O,O,O,O,O,O,O,O] rfl rfl (one_of HT_.out (by kernel_rfl)) (by decide) (fun K hK => ?_)
           refine goes_ Try.func17 (by kernel_rfl) rfl #[.agg #[.int .i64 ((rd_T25 l0_1 x3_1).f0), .int .i64 ((rd_T25 l0_1 x3_1).f1), .string ((rd_T25 l0_1 x3_1).f2), .string ((rd_T25 l0_1 x3_1).f3), .int .i64 ((rd_T25 l0_1 x3_1).f4), .bool ((rd_T25 l0_1 x3_1).f5)]] (by rfl) rfl rfl aa ?_
           with_reducible refine (fairwayref10_Rec.calls ((rd_T25 l0_1 x3_1).f0) ((rd_T25 l0_1 x3_1).f1) ((rd_T25 l0_1 x3_1).f2) ((rd_T25 l0_1 x3_1).f3) ((rd_T25 l0_1 x3_1).f4) ((rd_T25 l0_1 x3_1).f5) true _ A13.out).mono ?_
           rintro e w28 ⟨rfl, hb⟩
           refine ⟨_, rfl, ?_⟩
           replace BK350 := Aside0.mk (bb BK350.out hb)
           replace HB := Aside0.mk (below_step bo hb)
           (try clear hb)
           (try clear hb2)
           (try clear hk)
           (try clear hi)
           refine hK.out _ _ ⟨(blk_cell BK350.out 0).trans rfl, (blk_cell BK350.out 1).trans rfl, (cx HB.out hw352_0), (cx HB.out hw352_1), (cx HB.out hw352_2), (cx HB.out hw352_3), (cx HB.out hw352_4), (cx HB.out hw352_5), (cx HB.out hw354_0), (cx HB.out hw354_1), (cx HB.out hw354_2), (cx HB.out hw354_3), (cx HB.out hw354_4), (cx HB.out hw354_5)⟩ (fun hHeld => ?_)
           clear hK K
           refine norm_ (a' := ?_) ?_ ?_
           rotate_left
           ·show Act.put _ (some 16) _ = _
            simp only [Act.put, List.setIfInBounds_toArray, List.set_cons_zero, List.set_cons_succ, i64_w, i32_w]
            rfl
           refine pz (i := 6) (N := some 17) #[I,I,I,I,I,I,I,O,O,O,O,O,O,O,O,O,O,O,O,O,O,O,O,O,O,O,O,O,O,O,O,O,O,O,O,O,O,O,O,O,O,O,O,O,O,O,O,O,O,O,O,O,O,O] ?_
           refine pz (i := 7) (N := some 18) #[I,I,I,I,I,I,I,I,O,O,O,O,O,O,O,O,O,O,O,O,O,O,O,O,O,O,O,O,O,O,O,O,O,O,O,O,O,O,O,O,O,O,O,O,O,O,O,O,O,O,O,O,O,O] ?_
           refine pz (i := 8) (N := some 19) #[I,I,I,I,I,I,I,I,I,O,O,O,O,O,O,O,O,O,O,O,O,O,O,O,O,O,O,O,O,O,O,O,O,O,O,O,O,O,O,O,O,O,O,O,O,O,O,O,O,O,O,O,O,O] ?_
           refine pz (i := 10) (N := some 21) #[I,I,I,I,I,I,I,I,I,O,I,O,O,O,O,O,O,O,O,O,O,O,O,O,O,O,O,O,O,O,O,O,O,O,O,O,O,O,O,O,O,O,O,O,O,O,O,O,O,O,O,O,O,O] ?_
           refine pz (i := 14) (N := some 25) #[I,I,I,I,I,I,I,I,I,O,I,O,O,O,I,O,O,O,O,O,O,O,O,O,O,O,O,O,O,O,O,O,O,O,O,O,O,O,O,O,O,O,O,O,O,O,O,O,O,O,O,O,O,O] ?_
           refine tz (i := 9) (N := some 20) #[I,I,I,I,I,I,I,I,I,I,I,O,O,O,I,O,O,O,O,O,O,O,O,O,O,O,O,O,O,O,O,O,O,O,O,O,O,O,O,O,O,O,O,O,O,O,O,O,O,O,O,O,O,O] ?_
           refine pz (i := 11) (N := some 22) #[I,I,I,I,I,I,I,I,I,I,I,I,O,O,I,O,O,O,O,O,O,O,O,O,O,O,O,O,O,O,O,O,O,O,O,O,O,O,O,O,O,O,O,O,O,O,O,O,O,O,O,O,O,O] ?_
           refine pz (i := 12) (N := some 23) #[I,I,I,I,I,I,I,I,I,I,I,I,I,O,I,O,O,O,O,O,O,O,O,O,O,O,O,O,O,O,O,O,O,O,O,O,O,O,O,O,O,O,O,O,O,O,O,O,O,O,O,O,O,O] ?_
           refine tz (i := 13) (N := some 24) #[I,I,I,I,I,I,I,I,I,I,I,I,I,I,I,O,O,O,O,O,O,O,O,O,O,O,O,O,O,O,O,O,O,O,O,O,O,O,O,O,O,O,O,O,O,O,O,O,O,O,O,O,O,O] ?_
           refine tz (i := 15) (N := some 26) #[I,I,I,I,I,I,I,I,I,I,I,I,I,I,I,I,O,O,O,O,O,O,O,O,O,O,O,O,O,O,O,O,O,O,O,O,O,O,O,O,O,O,O,O,O,O,O,O,O,O,O,O,O,O] ?_
           refine pz (i := 16) (N := some 27) #[I,I,I,I,I,I,I,I,I,I,I,I,I,I,I,I,I,O,O,O,O,O,O,O,O,O,O,O,O,O,O,O,O,O,O,O,O,O,O,O,O,O,O,O,O,O,O,O,O,O,O,O,O,O] ?_
           refine pz (i := 17) (N := some 28) #[I,I,I,I,I,I,I,I,I,I,I,I,I,I,I,I,I,I,O,O,O,O,O,O,O,O,O,O,O,O,O,O,O,O,O,O,O,O,O,O,O,O,O,O,O,O,O,O,O,O,O,O,O,O] ?_
           refine pz (i := 18) (N := some 29) #[I,I,I,I,I,I,I,I,I,I,I,I,I,I,I,I,I,I,I,O,O,O,O,O,O,O,O,O,O,O,O,O,O,O,O,O,O,O,O,O,O,O,O,O,O,O,O,O,O,O,O,O,O,O] ?_
           refine pz (i := 19) (N := some 30) #[I,I,I,I,I,I,I,I,I,I,I,I,I,I,I,I,I,I,I,I,O,O,O,O,O,O,O,O,O,O,O,O,O,O,O,O,O,O,O,O,O,O,O,O,O,O,O,O,O,O,O,O,O,O] ?_
           refine pz (i := 20) (N := some 31) #[I,I,I,I,I,I,I,I,I,I,I,I,I,I,I,I,I,I,I,I,I,O,O,O,O,O,O,O,O,O,O,O,O,O,O,O,O,O,O,O,O,O,O,O,O,O,O,O,O,O,O,O,O,O] ?_
           refine pz (i := 21) (N := some 32) #[I,I,I,I,I,I,I,I,I,I,I,I,I,I,I,I,I,I,I,I,I,I,O,O,O,O,O,O,O,O,O,O,O,O,O,O,O,O,O,O,O,O,O,O,O,O,O,O,O,O,O,O,O,O] ?_
           refine pu (i := 22) (N := some 33) #[I,I,I,I,I,I,I,I,I,I,I,I,I,I,I,I,I,I,I,I,I,I,I,O,O,O,O,O,O,O,O,O,O,O,O,O,O,O,O,O,O,O,O,O,O,O,O,O,O,O,O,O,O,O] ?_
           refine pu (i := 23) (N := some 34) #[I,I,I,I,I,I,I,I,I,I,I,I,I,I,I,I,I,I,I,I,I,I,I,I,O,O,O,O,O,O,O,O,O,O,O,O,O,O,O,O,O,O,O,O,O,O,O,O,O,O,O,O,O,O] ?_
           refine pu (i := 24) (N := some 35) #[I,I,I,I,I,I,I,I,I,I,I,I,I,I,I,I,I,I,I,I,I,I,I,I,I,O,O,O,O,O,O,O,O,O,O,O,O,O,O,O,O,O,O,O,O,O,O,O,O,O,O,O,O,O] ?_
           refine pu (i := 25) (N := some 36) #[I,I,I,I,I,I,I,I,I,I,I,I,I,I,I,I,I,I,I,I,I,I,I,I,I,I,O,O,O,O,O,O,O,O,O,O,O,O,O,O,O,O,O,O,O,O,O,O,O,O,O,O,O,O] ?_
           refine pu (i := 26) (N := some 37) #[I,I,I,I,I,I,I,I,I,I,I,I,I,I,I,I,I,I,I,I,I,I,I,I,I,I,I,O,O,O,O,O,O,O,O,O,O,O,O,O,O,O,O,O,O,O,O,O,O,O,O,O,O,O] ?_
           refine pu (i := 27) (N := some 38) #[I,I,I,I,I,I,I,I,I,I,I,I,I,I,I,I,I,I,I,I,I,I,I,I,I,I,I,I,O,O,O,O,O,O,O,O,O,O,O,O,O,O,O,O,O,O,O,O,O,O,O,O,O,O] ?_
           refine pu (i := 28) (N := some 39) #[I,I,I,I,I,I,I,I,I,I,I,I,I,I,I,I,I,I,I,I,I,I,I,I,I,I,I,I,I,O,O,O,O,O,O,O,O,O,O,O,O,O,O,O,O,O,O,O,O,O,O,O,O,O] ?_
           refine pu (i := 29) (N := some 40) #[I,I,I,I,I,I,I,I,I,I,I,I,I,I,I,I,I,I,I,I,I,I,I,I,I,I,I,I,I,I,O,O,O,O,O,O,O,O,O,O,O,O,O,O,O,O,O,O,O,O,O,O,O,O] ?_
           refine pu (i := 30) (N := some 41) #[I,I,I,I,I,I,I,I,I,I,I,I,I,I,I,I,I,I,I,I,I,I,I,I,I,I,I,I,I,I,I,O,O,O,O,O,O,O,O,O,O,O,O,O,O,O,O,O,O,O,O,O,O,O] ?_
           refine pu (i := 31) (N := some 42) #[I,I,I,I,I,I,I,I,I,I,I,I,I,I,I,I,I,I,I,I,I,I,I,I,I,I,I,I,I,I,I,I,O,O,O,O,O,O,O,O,O,O,O,O,O,O,O,O,O,O,O,O,O,O] ?_
           refine pu (i := 32) (N := some 43) #[I,I,I,I,I,I,I,I,I,I,I,I,I,I,I,I,I,I,I,I,I,I,I,I,I,I,I,I,I,I,I,I,I,O,O,O,O,O,O,O,O,O,O,O,O,O,O,O,O,O,O,O,O,O] ?_
           refine pu (i := 33) (N := some 44) #[I,I,I,I,I,I,I,I,I,I,I,I,I,I,I,I,I,I,I,I,I,I,I,I,I,I,I,I,I,I,I,I,I,I,O,O,O,O,O,O,O,O,O,O,O,O,O,O,O,O,O,O,O,O] ?_
           refine pu (i := 34) (N := some 45) #[I,I,I,I,I,I,I,I,I,I,I,I,I,I,I,I,I,I,I,I,I,I,I,I,I,I,I,I,I,I,I,I,I,I,I,O,O,O,O,O,O,O,O,O,O,O,O,O,O,O,O,O,O,O] ?_
           refine pu (i := 35) (N := some 46) #[I,I,I,I,I,I,I,I,I,I,I,I,I,I,I,I,I,I,I,I,I,I,I,I,I,I,I,I,I,I,I,I,I,I,I,I,O,O,O,O,O,O,O,O,O,O,O,O,O,O,O,O,O,O] ?_
           refine pu (i := 36) (N := some 47) #[I,I,I,I,I,I,I,I,I,I,I,I,I,I,I,I,I,I,I,I,I,I,I,I,I,I,I,I,I,I,I,I,I,I,I,I,I,O,O,O,O,O,O,O,O,O,O,O,O,O,O,O,O,O] ?_
           refine pu (i := 37) (N := some 48) #[I,I,I,I,I,I,I,I,I,I,I,I,I,I,I,I,I,I,I,I,I,I,I,I,I,I,I,I,I,I,I,I,I,I,I,I,I,I,O,O,O,O,O,O,O,O,O,O,O,O,O,O,O,O] ?_
           refine pu (i := 38) (N := some 49) #[I,I,I,I,I,I,I,I,I,I,I,I,I,I,I,I,I,I,I,I,I,I,I,I,I,I,I,I,I,I,I,I,I,I,I,I,I,I,I,O,O,O,O,O,O,O,O,O,O,O,O,O,O,O] ?_
           refine pu (i := 39) (N := some 50) #[I,I,I,I,I,I,I,I,I,I,I,I,I,I,I,I,I,I,I,I,I,I,I,I,I,I,I,I,I,I,I,I,I,I,I,I,I,I,I,I,O,O,O,O,O,O,O,O,O,O,O,O,O,O] ?_
           refine pu (i := 40) (N := some 51) #[I,I,I,I,I,I,I,I,I,I,I,I,I,I,I,I,I,I,I,I,I,I,I,I,I,I,I,I,I,I,I,I,I,I,I,I,I,I,I,I,I,O,O,O,O,O,O,O,O,O,O,O,O,O] ?_
           refine pu (i := 41) (N := some 52) #[I,I,I,I,I,I,I,I,I,I,I,I,I,I,I,I,I,I,I,I,I,I,I,I,I,I,I,I,I,I,I,I,I,I,I,I,I,I,I,I,I,I,O,O,O,O,O,O,O,O,O,O,O,O] ?_
           refine pu (i := 42) (N := some 53) #[I,I,I,I,I,I,I,I,I,I,I,I,I,I,I,I,I,I,I,I,I,I,I,I,I,I,I,I,I,I,I,I,I,I,I,I,I,I,I,I,I,I,I,O,O,O,O,O,O,O,O,O,O,O] ?_
           refine pu (i := 43) (N := some 54) #[I,I,I,I,I,I,I,I,I,I,I,I,I,I,I,I,I,I,I,I,I,I,I,I,I,I,I,I,I,I,I,I,I,I,I,I,I,I,I,I,I,I,I,I,O,O,O,O,O,O,O,O,O,O] ?_
           refine pu (i := 44) (N := some 55) #[I,I,I,I,I,I,I,I,I,I,I,I,I,I,I,I,I,I,I,I,I,I,I,I,I,I,I,I,I,I,I,I,I,I,I,I,I,I,I,I,I,I,I,I,I,O,O,O,O,O,O,O,O,O] ?_
           refine pu (i := 45) (N := some 56) #[I,I,I,I,I,I,I,I,I,I,I,I,I,I,I,I,I,I,I,I,I,I,I,I,I,I,I,I,I,I,I,I,I,I,I,I,I,I,I,I,I,I,I,I,I,I,O,O,O,O,O,O,O,O] ?_
           refine pu (i := 46) (N := some 57) #[I,I,I,I,I,I,I,I,I,I,I,I,I,I,I,I,I,I,I,I,I,I,I,I,I,I,I,I,I,I,I,I,I,I,I,I,I,I,I,I,I,I,I,I,I,I,I,O,O,O,O,O,O,O] ?_
           refine pu (i := 47) (N := some 58) #[I,I,I,I,I,I,I,I,I,I,I,I,I,I,I,I,I,I,I,I,I,I,I,I,I,I,I,I,I,I,I,I,I,I,I,I,I,I,I,I,I,I,I,I,I,I,I,I,O,O,O,O,O,O] ?_
           refine pu (i := 48) (N := some 59) #[I,I,I,I,I,I,I,I,I,I,I,I,I,I,I,I,I,I,I,I,I,I,I,I,I,I,I,I,I,I,I,I,I,I,I,I,I,I,I,I,I,I,I,I,I,I,I,I,I,O,O,O,O,O] ?_
           refine pu (i := 49) (N := some 60) #[I,I,I,I,I,I,I,I,I,I,I,I,I,I,I,I,I,I,I,I,I,I,I,I,I,I,I,I,I,I,I,I,I,I,I,I,I,I,I,I,I,I,I,I,I,I,I,I,I,I,O,O,O,O] ?_
           refine pu (i := 50) (N := some 61) #[I,I,I,I,I,I,I,I,I,I,I,I,I,I,I,I,I,I,I,I,I,I,I,I,I,I,I,I,I,I,I,I,I,I,I,I,I,I,I,I,I,I,I,I,I,I,I,I,I,I,I,O,O,O] ?_
           refine pu (i := 51) (N := some 62) #[I,I,I,I,I,I,I,I,I,I,I,I,I,I,I,I,I,I,I,I,I,I,I,I,I,I,I,I,I,I,I,I,I,I,I,I,I,I,I,I,I,I,I,I,I,I,I,I,I,I,I,I,O,O] ?_
           refine pz (i := 52) (N := some 63) #[I,I,I,I,I,I,I,I,I,I,I,I,I,I,I,I,I,I,I,I,I,I,I,I,I,I,I,I,I,I,I,I,I,I,I,I,I,I,I,I,I,I,I,I,I,I,I,I,I,I,I,I,I,O] ?_
           refine pz (i := 53) (N := some 64) #[I,I,I,I,I,I,I,I,I,I,I,I,I,I,I,I,I,I,I,I,I,I,I,I,I,I,I,I,I,I,I,I,I,I,I,I,I,I,I,I,I,I,I,I,I,I,I,I,I,I,I,I,I,I] ?_
           refine done_ (done_of HT_.out (by kernel_rfl)) ?_
           try go_wp2
           go_meet
           case rel => exact ⟨_, (false), ap, H', ⟨by have := HK1.out; have := HJ2.out; first | omega | exact Nat.le_refl _⟩, ⟨by (with_reducible repeat (first | refine blk_drewN ?_ _ | refine blk_drew ?_ | refine blk_alloc ?_ _)); exact BK350.out⟩, ⟨bo⟩⟩
        ·replace c14 := Bool.eq_false_iff.mpr c14
         subst c14
         have H1 : (fairwayref10_Seg.j2 kj2 x3_1 true a0_0 l0_1) = some r := by rw [if_neg (show ¬ (false = true) by decide)] at H; exact H
         clear H
         have H := H1
         clear H1
         have H' := Aside0.mk H
         clear H
         try go_wp2
         replace BK350 := Aside0.mk (blk_drew BK350.out)
         replace HB := Aside0.mk (below_drew1 HB.out)
         have p352 : 0 ≤ (x3_1 : Int) := od
         have q352 : x3_1 < (l0_1.length : Int) := od
         obtain ⟨ad352, e352, hx352_0, hx352_1, hx352_2, hx352_3, hx352_4, hx352_5⟩ := at_T25 HR0_1.out x3_1 p352 q352
         have hw352_5 := hx352_5
         have hw352_4 := hx352_4
         have hw352_3 := hx352_3
         have hw352_2 := hx352_2
         have hw352_1 := hx352_1
         have hw352_0 := hx352_0
         cases e352
         replace hx352_0 := cx HB.out hx352_0
         replace hx352_1 := cx HB.out hx352_1
         replace hx352_2 := cx HB.out hx352_2
         replace hx352_3 := cx HB.out hx352_3
         replace hx352_4 := cx HB.out hx352_4
         replace hx352_5 := cx HB.out hx352_5
         replace p352 := eq_true p352
         replace q352 := eq_true q352
         refine start_ (n := 54) (S := fun w' => w'.cell? ⟨gb350, 0, none⟩ = some (.int .i64 a0_0) ∧ w'.cell? ⟨gb350, 1, none⟩ = some (.slice (some ad352) l0_1.length c0_1) ∧ w'.cell? (ad352.add ((x3_1).toNat * 6)) = some (.int .i64 ((rd_T25 l0_1 x3_1).f0)) ∧ w'.cell? ⟨(ad352.add ((x3_1).toNat * 6)).block, (ad352.add ((x3_1).toNat * 6)).off + 1, none⟩ = some (.int .i64 ((rd_T25 l0_1 x3_1).f1)) ∧ w'.cell? ⟨(ad352.add ((x3_1).toNat * 6)).block, (ad352.add ((x3_1).toNat * 6)).off + 2, none⟩ = some (.string ((rd_T25 l0_1 x3_1).f2)) ∧ w'.cell? ⟨(ad352.add ((x3_1).toNat * 6)).block, (ad352.add ((x3_1).toNat * 6)).off + 3, none⟩ = some (.string ((rd_T25 l0_1 x3_1).f3)) ∧ w'.cell? ⟨(ad352.add ((x3_1).toNat * 6)).block, (ad352.add ((x3_1).toNat * 6)).off + 4, none⟩ = some (.int .i64 ((rd_T25 l0_1 x3_1).f4)) ∧ w'.cell? ⟨(ad352.add ((x3_1).toNat * 6)).block, (ad352.add ((x3_1).toNat * 6)).off + 5, none⟩ = some (.bool ((rd_T25 l0_1 x3_1).f5))) (ds := []) #[O,O,O,O,O,O,O,O,O,O,O,O,O,O,O,O,O,O,O,O,O,O,O,O,O,O,O,O,O,O,O,O,O,O,O,O,O,O,O,O,O,O,O,O,O,O,O,O,O,O,O,O,O,O] (by kernel_rfl) rfl rfl ⟨(blk_cell BK350.out 0).trans rfl, (blk_cell BK350.out 1).trans rfl, (cx HB.out hw352_0), (cx HB.out hw352_1), (cx HB.out hw352_2), (cx HB.out hw352_3), (cx HB.out hw352_4), (cx HB.out hw352_5)⟩ (fun hHeld => ?_); refine with_tabW fairwayref10_Seg.tab4 fairwayref10_Seg.bits4 (fun HT_ HW_ => ?_)
         generalize wc.drew = w29 at BK350 HB hx352_0 hx352_1 hx352_2 hx352_3 hx352_4 hx352_5 hHeld ⊢
         refine pz (i := 0) (N := some 11) #[I,O,O,O,O,O,O,O,O,O,O,O,O,O,O,O,O,O,O,O,O,O,O,O,O,O,O,O,O,O,O,O,O,O,O,O,O,O,O,O,O,O,O,O,O,O,O,O,O,O,O,O,O,O] ?_
         refine pz (i := 2) (N := some 13) #[I,O,I,O,O,O,O,O,O,O,O,O,O,O,O,O,O,O,O,O,O,O,O,O,O,O,O,O,O,O,O,O,O,O,O,O,O,O,O,O,O,O,O,O,O,O,O,O,O,O,O,O,O,O] ?_
         refine tz (i := 1) (N := some 12) #[I,I,I,O,O,O,O,O,O,O,O,O,O,O,O,O,O,O,O,O,O,O,O,O,O,O,O,O,O,O,O,O,O,O,O,O,O,O,O,O,O,O,O,O,O,O,O,O,O,O,O,O,O,O] ?_
         refine pz (i := 3) (N := some 14) #[I,I,I,I,O,O,O,O,O,O,O,O,O,O,O,O,O,O,O,O,O,O,O,O,O,O,O,O,O,O,O,O,O,O,O,O,O,O,O,O,O,O,O,O,O,O,O,O,O,O,O,O,O,O] ?_
         refine tz (i := 4) (N := some 15) #[I,I,I,I,I,O,O,O,O,O,O,O,O,O,O,O,O,O,O,O,O,O,O,O,O,O,O,O,O,O,O,O,O,O,O,O,O,O,O,O,O,O,O,O,O,O,O,O,O,O,O,O,O,O] ?_
         refine one_ (i := 5) (N := some 16) #[I,I,I,I,I,I,O,O,O,O,O,O,O,O,O,O,O,O,O,O,O,O,O,O,O,O,O,O,O,O,O,O,O,O,O,O,O,O,O,O,O,O,O,O,O,O,O,O,O,O,O,O,O,O] rfl rfl (one_of HT_.out (by kernel_rfl)) (by decide) (fun K hK => ?_)
         refine goes_ Try.func17 (by kernel_rfl) rfl #[.agg #[.int .i64 ((rd_T25 l0_1 x3_1).f0), .int .i64 ((rd_T25 l0_1 x3_1).f1), .string ((rd_T25 l0_1 x3_1).f2), .string ((rd_T25 l0_1 x3_1).f3), .int .i64 ((rd_T25 l0_1 x3_1).f4), .bool ((rd_T25 l0_1 x3_1).f5)]] (by rfl) rfl rfl aa ?_
         with_reducible refine (fairwayref10_Rec.calls ((rd_T25 l0_1 x3_1).f0) ((rd_T25 l0_1 x3_1).f1) ((rd_T25 l0_1 x3_1).f2) ((rd_T25 l0_1 x3_1).f3) ((rd_T25 l0_1 x3_1).f4) ((rd_T25 l0_1 x3_1).f5) false _ A13.out).mono ?_
         rintro e w30 ⟨rfl, hb⟩
         refine ⟨_, rfl, ?_⟩
         replace BK350 := Aside0.mk (bb BK350.out hb)
         replace HB := Aside0.mk (below_step bo hb)
         (try clear hb)
         (try clear hb2)
         (try clear hk)
         (try clear hi)
         refine hK.out _ _ ⟨(blk_cell BK350.out 0).trans rfl, (blk_cell BK350.out 1).trans rfl, (cx HB.out hw352_0), (cx HB.out hw352_1), (cx HB.out hw352_2), (cx HB.out hw352_3), (cx HB.out hw352_4), (cx HB.out hw352_5)⟩ (fun hHeld => ?_)
         clear hK K
         refine norm_ (a' := ?_) ?_ ?_
         rotate_left
         ·show Act.put _ (some 16) _ = _
          simp only [Act.put, List.setIfInBounds_toArray, List.set_cons_zero, List.set_cons_succ, i64_w, i32_w]
          rfl
         refine pz (i := 6) (N := some 17) #[I,I,I,I,I,I,I,O,O,O,O,O,O,O,O,O,O,O,O,O,O,O,O,O,O,O,O,O,O,O,O,O,O,O,O,O,O,O,O,O,O,O,O,O,O,O,O,O,O,O,O,O,O,O] ?_
         refine pz (i := 7) (N := some 18) #[I,I,I,I,I,I,I,I,O,O,O,O,O,O,O,O,O,O,O,O,O,O,O,O,O,O,O,O,O,O,O,O,O,O,O,O,O,O,O,O,O,O,O,O,O,O,O,O,O,O,O,O,O,O] ?_
         refine pu (i := 8) (N := some 19) #[I,I,I,I,I,I,I,I,I,O,O,O,O,O,O,O,O,O,O,O,O,O,O,O,O,O,O,O,O,O,O,O,O,O,O,O,O,O,O,O,O,O,O,O,O,O,O,O,O,O,O,O,O,O] ?_
         refine pu (i := 9) (N := some 20) #[I,I,I,I,I,I,I,I,I,I,O,O,O,O,O,O,O,O,O,O,O,O,O,O,O,O,O,O,O,O,O,O,O,O,O,O,O,O,O,O,O,O,O,O,O,O,O,O,O,O,O,O,O,O] ?_
         refine pu (i := 10) (N := some 21) #[I,I,I,I,I,I,I,I,I,I,I,O,O,O,O,O,O,O,O,O,O,O,O,O,O,O,O,O,O,O,O,O,O,O,O,O,O,O,O,O,O,O,O,O,O,O,O,O,O,O,O,O,O,O] ?_
         refine pu (i := 11) (N := some 22) #[I,I,I,I,I,I,I,I,I,I,I,I,O,O,O,O,O,O,O,O,O,O,O,O,O,O,O,O,O,O,O,O,O,O,O,O,O,O,O,O,O,O,O,O,O,O,O,O,O,O,O,O,O,O] ?_
         refine pu (i := 12) (N := some 23) #[I,I,I,I,I,I,I,I,I,I,I,I,I,O,O,O,O,O,O,O,O,O,O,O,O,O,O,O,O,O,O,O,O,O,O,O,O,O,O,O,O,O,O,O,O,O,O,O,O,O,O,O,O,O] ?_
         refine pu (i := 13) (N := some 24) #[I,I,I,I,I,I,I,I,I,I,I,I,I,I,O,O,O,O,O,O,O,O,O,O,O,O,O,O,O,O,O,O,O,O,O,O,O,O,O,O,O,O,O,O,O,O,O,O,O,O,O,O,O,O] ?_
         refine pu (i := 14) (N := some 25) #[I,I,I,I,I,I,I,I,I,I,I,I,I,I,I,O,O,O,O,O,O,O,O,O,O,O,O,O,O,O,O,O,O,O,O,O,O,O,O,O,O,O,O,O,O,O,O,O,O,O,O,O,O,O] ?_
         refine pu (i := 15) (N := some 26) #[I,I,I,I,I,I,I,I,I,I,I,I,I,I,I,I,O,O,O,O,O,O,O,O,O,O,O,O,O,O,O,O,O,O,O,O,O,O,O,O,O,O,O,O,O,O,O,O,O,O,O,O,O,O] ?_
         refine pu (i := 16) (N := some 27) #[I,I,I,I,I,I,I,I,I,I,I,I,I,I,I,I,I,O,O,O,O,O,O,O,O,O,O,O,O,O,O,O,O,O,O,O,O,O,O,O,O,O,O,O,O,O,O,O,O,O,O,O,O,O] ?_
         refine pz (i := 17) (N := some 28) #[I,I,I,I,I,I,I,I,I,I,I,I,I,I,I,I,I,I,O,O,O,O,O,O,O,O,O,O,O,O,O,O,O,O,O,O,O,O,O,O,O,O,O,O,O,O,O,O,O,O,O,O,O,O] ?_
         refine pz (i := 18) (N := some 29) #[I,I,I,I,I,I,I,I,I,I,I,I,I,I,I,I,I,I,I,O,O,O,O,O,O,O,O,O,O,O,O,O,O,O,O,O,O,O,O,O,O,O,O,O,O,O,O,O,O,O,O,O,O,O] ?_
         refine pu (i := 19) (N := some 30) #[I,I,I,I,I,I,I,I,I,I,I,I,I,I,I,I,I,I,I,I,O,O,O,O,O,O,O,O,O,O,O,O,O,O,O,O,O,O,O,O,O,O,O,O,O,O,O,O,O,O,O,O,O,O] ?_
         refine pu (i := 20) (N := some 31) #[I,I,I,I,I,I,I,I,I,I,I,I,I,I,I,I,I,I,I,I,I,O,O,O,O,O,O,O,O,O,O,O,O,O,O,O,O,O,O,O,O,O,O,O,O,O,O,O,O,O,O,O,O,O] ?_
         refine pu (i := 21) (N := some 32) #[I,I,I,I,I,I,I,I,I,I,I,I,I,I,I,I,I,I,I,I,I,I,O,O,O,O,O,O,O,O,O,O,O,O,O,O,O,O,O,O,O,O,O,O,O,O,O,O,O,O,O,O,O,O] ?_
         refine pu (i := 22) (N := some 33) #[I,I,I,I,I,I,I,I,I,I,I,I,I,I,I,I,I,I,I,I,I,I,I,O,O,O,O,O,O,O,O,O,O,O,O,O,O,O,O,O,O,O,O,O,O,O,O,O,O,O,O,O,O,O] ?_
         refine pu (i := 23) (N := some 34) #[I,I,I,I,I,I,I,I,I,I,I,I,I,I,I,I,I,I,I,I,I,I,I,I,O,O,O,O,O,O,O,O,O,O,O,O,O,O,O,O,O,O,O,O,O,O,O,O,O,O,O,O,O,O] ?_
         refine pu (i := 24) (N := some 35) #[I,I,I,I,I,I,I,I,I,I,I,I,I,I,I,I,I,I,I,I,I,I,I,I,I,O,O,O,O,O,O,O,O,O,O,O,O,O,O,O,O,O,O,O,O,O,O,O,O,O,O,O,O,O] ?_
         refine pu (i := 25) (N := some 36) #[I,I,I,I,I,I,I,I,I,I,I,I,I,I,I,I,I,I,I,I,I,I,I,I,I,I,O,O,O,O,O,O,O,O,O,O,O,O,O,O,O,O,O,O,O,O,O,O,O,O,O,O,O,O] ?_
         refine pu (i := 26) (N := some 37) #[I,I,I,I,I,I,I,I,I,I,I,I,I,I,I,I,I,I,I,I,I,I,I,I,I,I,I,O,O,O,O,O,O,O,O,O,O,O,O,O,O,O,O,O,O,O,O,O,O,O,O,O,O,O] ?_
         refine pu (i := 27) (N := some 38) #[I,I,I,I,I,I,I,I,I,I,I,I,I,I,I,I,I,I,I,I,I,I,I,I,I,I,I,I,O,O,O,O,O,O,O,O,O,O,O,O,O,O,O,O,O,O,O,O,O,O,O,O,O,O] ?_
         refine pu (i := 28) (N := some 39) #[I,I,I,I,I,I,I,I,I,I,I,I,I,I,I,I,I,I,I,I,I,I,I,I,I,I,I,I,I,O,O,O,O,O,O,O,O,O,O,O,O,O,O,O,O,O,O,O,O,O,O,O,O,O] ?_
         refine pu (i := 29) (N := some 40) #[I,I,I,I,I,I,I,I,I,I,I,I,I,I,I,I,I,I,I,I,I,I,I,I,I,I,I,I,I,I,O,O,O,O,O,O,O,O,O,O,O,O,O,O,O,O,O,O,O,O,O,O,O,O] ?_
         refine pu (i := 30) (N := some 41) #[I,I,I,I,I,I,I,I,I,I,I,I,I,I,I,I,I,I,I,I,I,I,I,I,I,I,I,I,I,I,I,O,O,O,O,O,O,O,O,O,O,O,O,O,O,O,O,O,O,O,O,O,O,O] ?_
         refine pu (i := 31) (N := some 42) #[I,I,I,I,I,I,I,I,I,I,I,I,I,I,I,I,I,I,I,I,I,I,I,I,I,I,I,I,I,I,I,I,O,O,O,O,O,O,O,O,O,O,O,O,O,O,O,O,O,O,O,O,O,O] ?_
         refine pu (i := 32) (N := some 43) #[I,I,I,I,I,I,I,I,I,I,I,I,I,I,I,I,I,I,I,I,I,I,I,I,I,I,I,I,I,I,I,I,I,O,O,O,O,O,O,O,O,O,O,O,O,O,O,O,O,O,O,O,O,O] ?_
         refine pu (i := 33) (N := some 44) #[I,I,I,I,I,I,I,I,I,I,I,I,I,I,I,I,I,I,I,I,I,I,I,I,I,I,I,I,I,I,I,I,I,I,O,O,O,O,O,O,O,O,O,O,O,O,O,O,O,O,O,O,O,O] ?_
         refine pu (i := 34) (N := some 45) #[I,I,I,I,I,I,I,I,I,I,I,I,I,I,I,I,I,I,I,I,I,I,I,I,I,I,I,I,I,I,I,I,I,I,I,O,O,O,O,O,O,O,O,O,O,O,O,O,O,O,O,O,O,O] ?_
         refine pu (i := 35) (N := some 46) #[I,I,I,I,I,I,I,I,I,I,I,I,I,I,I,I,I,I,I,I,I,I,I,I,I,I,I,I,I,I,I,I,I,I,I,I,O,O,O,O,O,O,O,O,O,O,O,O,O,O,O,O,O,O] ?_
         refine pu (i := 36) (N := some 47) #[I,I,I,I,I,I,I,I,I,I,I,I,I,I,I,I,I,I,I,I,I,I,I,I,I,I,I,I,I,I,I,I,I,I,I,I,I,O,O,O,O,O,O,O,O,O,O,O,O,O,O,O,O,O] ?_
         refine pu (i := 37) (N := some 48) #[I,I,I,I,I,I,I,I,I,I,I,I,I,I,I,I,I,I,I,I,I,I,I,I,I,I,I,I,I,I,I,I,I,I,I,I,I,I,O,O,O,O,O,O,O,O,O,O,O,O,O,O,O,O] ?_
         refine pu (i := 38) (N := some 49) #[I,I,I,I,I,I,I,I,I,I,I,I,I,I,I,I,I,I,I,I,I,I,I,I,I,I,I,I,I,I,I,I,I,I,I,I,I,I,I,O,O,O,O,O,O,O,O,O,O,O,O,O,O,O] ?_
         refine pu (i := 39) (N := some 50) #[I,I,I,I,I,I,I,I,I,I,I,I,I,I,I,I,I,I,I,I,I,I,I,I,I,I,I,I,I,I,I,I,I,I,I,I,I,I,I,I,O,O,O,O,O,O,O,O,O,O,O,O,O,O] ?_
         refine pu (i := 40) (N := some 51) #[I,I,I,I,I,I,I,I,I,I,I,I,I,I,I,I,I,I,I,I,I,I,I,I,I,I,I,I,I,I,I,I,I,I,I,I,I,I,I,I,I,O,O,O,O,O,O,O,O,O,O,O,O,O] ?_
         refine pu (i := 41) (N := some 52) #[I,I,I,I,I,I,I,I,I,I,I,I,I,I,I,I,I,I,I,I,I,I,I,I,I,I,I,I,I,I,I,I,I,I,I,I,I,I,I,I,I,I,O,O,O,O,O,O,O,O,O,O,O,O] ?_
         refine pu (i := 42) (N := some 53) #[I,I,I,I,I,I,I,I,I,I,I,I,I,I,I,I,I,I,I,I,I,I,I,I,I,I,I,I,I,I,I,I,I,I,I,I,I,I,I,I,I,I,I,O,O,O,O,O,O,O,O,O,O,O] ?_
         refine pu (i := 43) (N := some 54) #[I,I,I,I,I,I,I,I,I,I,I,I,I,I,I,I,I,I,I,I,I,I,I,I,I,I,I,I,I,I,I,I,I,I,I,I,I,I,I,I,I,I,I,I,O,O,O,O,O,O,O,O,O,O] ?_
         refine pu (i := 44) (N := some 55) #[I,I,I,I,I,I,I,I,I,I,I,I,I,I,I,I,I,I,I,I,I,I,I,I,I,I,I,I,I,I,I,I,I,I,I,I,I,I,I,I,I,I,I,I,I,O,O,O,O,O,O,O,O,O] ?_
         refine pu (i := 45) (N := some 56) #[I,I,I,I,I,I,I,I,I,I,I,I,I,I,I,I,I,I,I,I,I,I,I,I,I,I,I,I,I,I,I,I,I,I,I,I,I,I,I,I,I,I,I,I,I,I,O,O,O,O,O,O,O,O] ?_
         refine pu (i := 46) (N := some 57) #[I,I,I,I,I,I,I,I,I,I,I,I,I,I,I,I,I,I,I,I,I,I,I,I,I,I,I,I,I,I,I,I,I,I,I,I,I,I,I,I,I,I,I,I,I,I,I,O,O,O,O,O,O,O] ?_
         refine pu (i := 47) (N := some 58) #[I,I,I,I,I,I,I,I,I,I,I,I,I,I,I,I,I,I,I,I,I,I,I,I,I,I,I,I,I,I,I,I,I,I,I,I,I,I,I,I,I,I,I,I,I,I,I,I,O,O,O,O,O,O] ?_
         refine pu (i := 48) (N := some 59) #[I,I,I,I,I,I,I,I,I,I,I,I,I,I,I,I,I,I,I,I,I,I,I,I,I,I,I,I,I,I,I,I,I,I,I,I,I,I,I,I,I,I,I,I,I,I,I,I,I,O,O,O,O,O] ?_
         refine pu (i := 49) (N := some 60) #[I,I,I,I,I,I,I,I,I,I,I,I,I,I,I,I,I,I,I,I,I,I,I,I,I,I,I,I,I,I,I,I,I,I,I,I,I,I,I,I,I,I,I,I,I,I,I,I,I,I,O,O,O,O] ?_
         refine pu (i := 50) (N := some 61) #[I,I,I,I,I,I,I,I,I,I,I,I,I,I,I,I,I,I,I,I,I,I,I,I,I,I,I,I,I,I,I,I,I,I,I,I,I,I,I,I,I,I,I,I,I,I,I,I,I,I,I,O,O,O] ?_
         refine pu (i := 51) (N := some 62) #[I,I,I,I,I,I,I,I,I,I,I,I,I,I,I,I,I,I,I,I,I,I,I,I,I,I,I,I,I,I,I,I,I,I,I,I,I,I,I,I,I,I,I,I,I,I,I,I,I,I,I,I,O,O] ?_
         refine pu (i := 52) (N := some 63) #[I,I,I,I,I,I,I,I,I,I,I,I,I,I,I,I,I,I,I,I,I,I,I,I,I,I,I,I,I,I,I,I,I,I,I,I,I,I,I,I,I,I,I,I,I,I,I,I,I,I,I,I,I,O] ?_
         refine pz (i := 53) (N := some 64) #[I,I,I,I,I,I,I,I,I,I,I,I,I,I,I,I,I,I,I,I,I,I,I,I,I,I,I,I,I,I,I,I,I,I,I,I,I,I,I,I,I,I,I,I,I,I,I,I,I,I,I,I,I,I] ?_
         refine done_ (done_of HT_.out (by kernel_rfl)) ?_
         try go_wp2
         go_meet
         case rel => exact ⟨_, (true), ap, H', ⟨by have := HK1.out; have := HJ2.out; first | omega | exact Nat.le_refl _⟩, ⟨by (with_reducible repeat (first | refine blk_drewN ?_ _ | refine blk_drew ?_ | refine blk_alloc ?_ _)); exact BK350.out⟩, ⟨bo⟩⟩
       ·rw [if_neg c12] at H
        exact absurd H (by simp)
      ·rw [if_neg c11] at H
       exact absurd H (by simp)
     case rest =>
      clear HC10
      (try clear c1); (try clear p2); (try clear p3); (try clear q3); (try clear hx3); (try clear c11); (try clear c12); (try clear c14); (try clear c17); (try clear hx352_0); (try clear hx352_1); (try clear hx352_2); (try clear hx352_3); (try clear hx352_4); (try clear hx352_5); (try clear p352); (try clear q352)
      obtain ⟨kq, x64_9, rfl, HA, HJ9, BK350, HB⟩ := hcut
      cases kq with
      | zero => exact absurd HA.out (by simp [fairwayref10_Seg.j2])
      | succ kj9 =>
       have H := HA.out
       clear HA
       simp only [fairwayref10_Seg.j2] at H
       by_cases c31 : x64_9 = true
       ·subst c31
        have H1 : (some false) = some r := by rw [if_pos rfl] at H; exact H
        clear H
        have H := H1
        clear H1
        obtain rfl := Option.some.inj H
        go_wp2
        go_ret
        exact ⟨er, bo⟩
       ·replace c31 := Bool.eq_false_iff.mpr c31
        subst c31
        have H1 : (fairwayref10_Seg.l0 kj9 (wrap64 (x3_1 + 1)) a0_0 l0_1) = some r := by rw [if_neg (show ¬ (false = true) by decide)] at H; exact H
        clear H
        have H := H1
        clear H1
        have H' := Aside0.mk H
        clear H
        go_wp2
        go_roundg kj9
        case measure => have := HK1.out; have := HJ2.out; have := HJ9.out; omega
        case rel => exact ⟨(wrap64 (x3_1 + 1)), ap, H', ⟨by have := HK1.out; have := HJ2.out; have := HJ9.out; omega⟩, ⟨by (with_reducible repeat (first | refine blk_drewN ?_ _ | refine blk_drew ?_ | refine blk_alloc ?_ _)); exact BK350.out⟩, ⟨bo⟩⟩

end Go.Proofs.Ytmabdfdmccbfnaa.P

/- Segments: which may be: the program's answer and the page's are one. -/
namespace Go.Proofs.Ytmabdfdmccbfnaa.USeg
open Go Go.RowKit Go.Proofs.Ytmabdfdmccbfnaa.P Go.Proofs.Ytmabdfdmccbfnaa.URec Go.Proofs.YtmabdfdmccbfnaaW.PrintWords Go.Proofs.YtmabdfdmccbfnaaW.PrintLast
set_option linter.unusedVariables false
set_option linter.unusedSimpArgs false

/-- The record at a place may stand there. -/
def okAt (base : Int) (l : List R) (i : Nat) : Prop :=
  recOk (rd_T25 l i) ∧ base ≤ (rd_T25 l i).f0 ∧ (0 < i → (rd_T25 l (i - 1 : Nat)).f0 < (rd_T25 l i).f0 ∧ (rd_T25 l (i - 1 : Nat)).f1 ≤ (rd_T25 l i).f1)
/-- A segment that may be. -/
def segOk (base : Int) (l : List R) : Prop := 0 ≤ base ∧ base ≤ 1099511627776 ∧ l.length ≤ 200 ∧ ∀ i, i < l.length → okAt base l i

theorem segOk_rec {base : Int} {l : List R} (h : segOk base l) {i : Nat} (hi : i < l.length) : recOk (rd_T25 l i) := (h.2.2.2 i hi).1

theorem behind_yes (base : Int) (l : List R) (r : R) (h : recOk r) (hb : base ≤ r.f0) (hn : l.length < 200)
    (hp : 0 < l.length → (rd_T25 l (l.length - 1 : Nat)).f0 < r.f0 ∧ (rd_T25 l (l.length - 1 : Nat)).f1 ≤ r.f1) :
    Ev (fun k => seg_behind.f k base l r.f0 r.f1 r.f2 r.f3 r.f4 r.f5) true := by
  refine Ev.bind (check_yes r h) (Ev.congr (f := fun _ => some true) (fun k => ?_) (Ev.now _))
  rw [if_pos rfl, if_neg (by omega), if_neg (by omega)]
  by_cases h0 : (l.length : Int) = 0
  · rw [if_pos h0]
  · have hw : wrap64 ((l.length : Int) - 1) = ((l.length - 1 : Nat) : Int) := by rw [wrap_in (by omega) (by omega)]; omega
    obtain ⟨p0, p1⟩ := hp (by omega)
    rw [if_neg h0, hw, if_pos (by omega), if_pos (by omega), if_pos p0]
    simpa using p1
theorem behind_no (base : Int) (l : List R) (r : R) (hl : l.length ≤ 200) (h : ¬ (recOk r ∧ base ≤ r.f0 ∧ l.length < 200 ∧
    (0 < l.length → (rd_T25 l (l.length - 1 : Nat)).f0 < r.f0 ∧ (rd_T25 l (l.length - 1 : Nat)).f1 ≤ r.f1))) :
    Ev (fun k => seg_behind.f k base l r.f0 r.f1 r.f2 r.f3 r.f4 r.f5) false := by
  by_cases hr : recOk r
  · refine Ev.bind (check_yes r hr) (Ev.congr (f := fun _ => some false) (fun k => ?_) (Ev.now _))
    rw [if_pos rfl]
    by_cases hb : r.f0 < base
    · rw [if_pos hb]
    rw [if_neg hb]
    by_cases hn : (l.length : Int) ≥ 200
    · rw [if_pos hn]
    rw [if_neg hn]
    by_cases h0 : (l.length : Int) = 0
    · exact absurd ⟨hr, by omega, by omega, fun g => by omega⟩ h
    have hw : wrap64 ((l.length : Int) - 1) = ((l.length - 1 : Nat) : Int) := by rw [wrap_in (by omega) (by omega)]; omega
    rw [if_neg h0, hw, if_pos (by omega), if_pos (by omega)]
    by_cases p0 : (rd_T25 l (l.length - 1 : Nat)).f0 < r.f0
    · rw [if_pos p0]
      by_cases p1 : (rd_T25 l (l.length - 1 : Nat)).f1 ≤ r.f1
      · exact absurd ⟨hr, by omega, by omega, fun g => ⟨p0, p1⟩⟩ h
      · simpa using p1
    · rw [if_neg p0]
  · refine Ev.bind (check_no r hr) (Ev.congr (f := fun _ => some false) (fun k => ?_) (Ev.now _))
    rw [if_neg (by decide)]

theorem take_last (l : List R) (i : Nat) (h : i ≤ l.length) (h0 : 0 < i) : rd_T25 (l.take i) ((l.take i).length - 1 : Nat) = rd_T25 l (i - 1 : Nat) := by
  rw [List.length_take, Nat.min_eq_left h]
  exact rd_take l i (i - 1) (by omega)

theorem check_loop_yes (base : Int) (l : List R) (hl : l.length ≤ 200) (hok : ∀ i, i < l.length → okAt base l i) : ∀ (d i : Nat), l.length = i + d →
    Ev (fun k => seg_Check.l0 k l (l.length : Int) i base l) 0
  | 0, i, h => by
    refine Ev.step (f := fun _ => some 0) (fun k => ?_) (Ev.now _)
    simp only [seg_Check.l0]
    rw [if_neg (by omega)]
  | d + 1, i, h => by
    have hi : i < l.length := by omega
    obtain ⟨h1, h2, h3⟩ := hok i hi
    refine Ev.step (f := fun k => (seg_behind.f k base (l.take i) ((rd_T25 l i).f0) ((rd_T25 l i).f1) ((rd_T25 l i).f2) ((rd_T25 l i).f3) ((rd_T25 l i).f4) ((rd_T25 l i).f5)).bind fun t => if t = true then seg_Check.l0 k l (l.length : Int) (wrap64 (i + 1)) base l else some 1) (fun k => ?_) ?_
    · simp only [seg_Check.l0]
      rw [if_pos (by omega), if_pos (by omega), if_pos (by omega), if_pos (by omega), Int.toNat_natCast]
    · refine Ev.bind (behind_yes base (l.take i) (rd_T25 l i) h1 h2 (by rw [List.length_take]; omega) (fun g => ?_)) (Ev.congr (fun k => if_pos rfl) ?_)
      · have hi0 : 0 < i := by rw [List.length_take] at g; omega
        rw [take_last l i (by omega) hi0]
        exact h3 hi0
      · rw [wrap_in (by omega) (by omega)]
        exact check_loop_yes base l hl hok d (i + 1) (by omega)
theorem check_loop_no (base : Int) (l : List R) (j : Nat) (hj : j < l.length) (hj2 : j ≤ 200) (hbad : ¬ (okAt base l j ∧ j < 200)) (hok : ∀ i, i < j → okAt base l i) : ∀ (d i : Nat), j = i + d →
    Ev (fun k => seg_Check.l0 k l (l.length : Int) i base l) 1
  | 0, i, h => by
    obtain rfl : j = i := by omega
    refine Ev.step (f := fun k => (seg_behind.f k base (l.take j) ((rd_T25 l j).f0) ((rd_T25 l j).f1) ((rd_T25 l j).f2) ((rd_T25 l j).f3) ((rd_T25 l j).f4) ((rd_T25 l j).f5)).bind fun t => if t = true then seg_Check.l0 k l (l.length : Int) (wrap64 (j + 1)) base l else some 1) (fun k => ?_) ?_
    · simp only [seg_Check.l0]
      rw [if_pos (by omega), if_pos (by omega), if_pos (by omega), if_pos (by omega), Int.toNat_natCast]
    · refine Ev.bind (behind_no base (l.take j) (rd_T25 l j) (by rw [List.length_take]; omega) (fun g => hbad ?_)) (Ev.congr (f := fun _ => some 1) (fun k => if_neg (by decide)) (Ev.now _))
      obtain ⟨g1, g2, g3, g4⟩ := g
      rw [List.length_take, Nat.min_eq_left (by omega)] at g3
      refine ⟨⟨g1, g2, fun h0 => ?_⟩, g3⟩
      have := g4 (by rw [List.length_take]; omega)
      rw [take_last l j (by omega) h0] at this
      exact this
  | d + 1, i, h => by
    have hi : i < l.length := by omega
    obtain ⟨h1, h2, h3⟩ := hok i (by omega)
    refine Ev.step (f := fun k => (seg_behind.f k base (l.take i) ((rd_T25 l i).f0) ((rd_T25 l i).f1) ((rd_T25 l i).f2) ((rd_T25 l i).f3) ((rd_T25 l i).f4) ((rd_T25 l i).f5)).bind fun t => if t = true then seg_Check.l0 k l (l.length : Int) (wrap64 (i + 1)) base l else some 1) (fun k => ?_) ?_
    · simp only [seg_Check.l0]
      rw [if_pos (by omega), if_pos (by omega), if_pos (by omega), if_pos (by omega), Int.toNat_natCast]
    · refine Ev.bind (behind_yes base (l.take i) (rd_T25 l i) h1 h2 (by rw [List.length_take]; omega) (fun g => ?_)) (Ev.congr (fun k => if_pos rfl) ?_)
      · have hi0 : 0 < i := by rw [List.length_take] at g; omega
        rw [take_last l i (by omega) hi0]
        exact h3 hi0
      · rw [wrap_in (by omega) (by omega)]
        exact check_loop_no base l j hj hj2 hbad hok d (i + 1) (by omega)

theorem least {p : Nat → Prop} : ∀ n, (∃ i, i < n ∧ ¬ p i) → ∃ j, j < n ∧ ¬ p j ∧ ∀ i, i < j → p i
  | 0, ⟨i, h, _⟩ => by omega
  | n + 1, ⟨i, h, hp⟩ => by
    by_cases e : ∃ i, i < n ∧ ¬ p i
    · obtain ⟨j, h1, h2, h3⟩ := least n e
      exact ⟨j, by omega, h2, h3⟩
    · have e' : ∀ i, i < n → p i := fun i hi => Classical.byContradiction fun hn => e ⟨i, hi, hn⟩
      have : i = n := by
        by_cases hin : i < n
        · exact absurd (e' i hin) hp
        · omega
      subst this
      exact ⟨i, by omega, hp, e'⟩

theorem segcheck_yes (base : Int) (l : List R) (h : segOk base l) : Ev (fun k => seg_Check.f k base l) 0 := by
  obtain ⟨h0, h1, h2, h3⟩ := h
  refine Ev.step (f := fun k => seg_Check.l0 k l (l.length : Int) 0 base l) (fun k => ?_) (check_loop_yes base l h2 h3 l.length 0 (by omega))
  simp only [seg_Check.f, seg_Check.j0]
  rw [if_neg (by omega), if_neg (by simp; omega)]
theorem segcheck_no (base : Int) (l : List R) (h : ¬ segOk base l) : Ev (fun k => seg_Check.f k base l) 1 := by
  by_cases h0 : base < 0
  · refine Ev.step (f := fun _ => some 1) (fun k => ?_) (Ev.now _)
    simp only [seg_Check.f, seg_Check.j0]
    rw [if_pos h0]; rfl
  by_cases h1 : base > 1099511627776
  · refine Ev.step (f := fun _ => some 1) (fun k => ?_) (Ev.now _)
    simp only [seg_Check.f, seg_Check.j0]
    rw [if_neg h0, if_pos (by simpa using h1)]
  have hb : ∃ i, i < l.length ∧ ¬ (okAt base l i ∧ i < 200) := by
    refine Classical.byContradiction fun hn => h ⟨by omega, by omega, ?_, ?_⟩
    · by_cases hl : l.length ≤ 200
      · exact hl
      · exact absurd ⟨200, by omega, fun g => by omega⟩ hn
    · intro i hi
      exact Classical.byContradiction fun hc => hn ⟨i, hi, fun g => hc g.1⟩
  obtain ⟨j, hj, hbad, hok⟩ := least l.length hb
  have hj2 : j ≤ 200 := by
    by_cases e : j ≤ 200
    · exact e
    · have := (hok 200 (by omega)).2
      omega
  refine Ev.step (f := fun k => seg_Check.l0 k l (l.length : Int) 0 base l) (fun k => ?_) (check_loop_no base l j hj hj2 hbad (fun i hi => (hok i hi).1) j 0 (by omega))
  simp only [seg_Check.f, seg_Check.j0]
  rw [if_neg (by omega), if_neg (by simp; omega)]

/-! ### the page's own -/
theorem j2_no (base : Int) (l : List R) (i : Int) : Ev (fun k => fairwayref10_Seg.j2 k i true base l) false := by
  refine Ev.step (f := fun _ => some false) (fun k => ?_) (Ev.now _)
  simp only [fairwayref10_Seg.j2]
  rw [if_pos trivial]
theorem ref_step (base : Int) (l : List R) (hm : l.length ≤ 9223372036854775806) (i : Nat) (hi : i < l.length) (h : okAt base l i) {r : Bool} (hr : Ev (fun k => fairwayref10_Seg.l0 k ((i + 1 : Nat) : Int) base l) r) :
    Ev (fun k => fairwayref10_Seg.l0 k i base l) r := by
  obtain ⟨h1, h2, h3⟩ := h
  refine Ev.step (f := fun k => fairwayref10_Seg.j1 k i base l) (fun k => ?_) ?_
  · simp only [fairwayref10_Seg.l0]
    rw [if_pos (by omega)]
  · refine Ev.step (f := fun k => fairwayref10_Seg.j2 k i false base l) (fun k => ?_) ?_
    · simp only [fairwayref10_Seg.j1]
      rw [if_pos (by omega), if_pos (by omega), rec_yes _ h1]
      simp only [Option.bind_some]
      rw [if_pos trivial, if_neg (by omega)]
      by_cases h0 : (i : Int) > 0
      · obtain ⟨p0, p1⟩ := h3 (by omega)
        have hw : wrap64 ((i : Int) - 1) = ((i - 1 : Nat) : Int) := by rw [wrap_in (by omega) (by omega)]; omega
        rw [if_pos h0, hw, if_pos (by omega), if_pos (by omega), if_neg (by omega), decide_eq_false (by omega)]
      · rw [if_neg h0]
    · refine Ev.step (f := fun k => fairwayref10_Seg.l0 k ((i + 1 : Nat) : Int) base l) (fun k => ?_) hr
      simp only [fairwayref10_Seg.j2]
      rw [if_neg (by decide), wrap_in (by omega) (by omega)]
      rfl
theorem ref_stop (base : Int) (l : List R) (hm : l.length ≤ 9223372036854775806) (i : Nat) (hi : i < l.length) (h : ¬ okAt base l i) : Ev (fun k => fairwayref10_Seg.l0 k i base l) false := by
  refine Ev.step (f := fun k => fairwayref10_Seg.j1 k i base l) (fun k => ?_) ?_
  · simp only [fairwayref10_Seg.l0]
    rw [if_pos (by omega)]
  · refine Ev.step (f := fun k => fairwayref10_Seg.j2 k i true base l) (fun k => ?_) (j2_no base l i)
    simp only [fairwayref10_Seg.j1]
    rw [if_pos (by omega), if_pos (by omega)]
    by_cases h1 : recOk (rd_T25 l i)
    · rw [rec_yes _ h1]
      simp only [Option.bind_some]
      rw [if_pos trivial]
      by_cases h2 : (rd_T25 l i).f0 < base
      · rw [if_pos h2]
      rw [if_neg h2]
      by_cases h0 : (i : Int) > 0
      · have hw : wrap64 ((i : Int) - 1) = ((i - 1 : Nat) : Int) := by rw [wrap_in (by omega) (by omega)]; omega
        rw [if_pos h0, hw, if_pos (by omega), if_pos (by omega)]
        by_cases p0 : (rd_T25 l (i - 1 : Nat)).f0 ≥ (rd_T25 l i).f0
        · rw [if_pos p0]
        · rw [if_neg p0]
          by_cases p1 : (rd_T25 l (i - 1 : Nat)).f1 > (rd_T25 l i).f1
          · rw [decide_eq_true p1]
          · exact absurd ⟨h1, by omega, fun _ => ⟨by omega, by omega⟩⟩ h
      · exact absurd ⟨h1, by omega, fun g => by omega⟩ h
    · rw [rec_no _ h1]
      simp only [Option.bind_some]
      rw [if_neg (by decide)]
theorem ref_loop (base : Int) (l : List R) (hm : l.length ≤ 9223372036854775806) (n : Nat) (hn : n ≤ l.length) (hok : ∀ i, i < n → okAt base l i) {r : Bool} (hr : Ev (fun k => fairwayref10_Seg.l0 k n base l) r) : ∀ (d i : Nat), n = i + d →
    Ev (fun k => fairwayref10_Seg.l0 k i base l) r
  | 0, i, h => by
    obtain rfl : n = i := by omega
    exact hr
  | d + 1, i, h => ref_step base l hm i (by omega) (hok i (by omega)) (ref_loop base l hm n hn hok hr d (i + 1) (by omega))
theorem ref_end (base : Int) (l : List R) : Ev (fun k => fairwayref10_Seg.l0 k l.length base l) (decide (0 ≤ base ∧ base ≤ 1099511627776) && decide (l.length ≤ 200)) := by
  refine Ev.step (f := fun _ => some _) (fun k => ?_) (Ev.now _)
  simp only [fairwayref10_Seg.l0]
  rw [if_neg (by omega), num_f]
  simp only [Option.bind_some]
  by_cases h : 0 ≤ base ∧ base ≤ 1099511627776
  · rw [if_pos (by simpa using h), decide_eq_true h]
    simp only [Bool.true_and, Option.some.injEq, decide_eq_decide]
    omega
  · rw [if_neg (by simpa using h), decide_eq_false h]
    rfl
theorem refseg_yes (base : Int) (l : List R) (h : segOk base l) : Ev (fun k => fairwayref10_Seg.f k base l) true := by
  obtain ⟨h0, h1, h2, h3⟩ := h
  have e := ref_end base l
  rw [decide_eq_true ⟨h0, h1⟩, decide_eq_true h2] at e
  exact ref_loop base l (by omega) l.length (Nat.le_refl _) h3 e l.length 0 (by omega)
theorem refseg_no (base : Int) (l : List R) (hm : l.length ≤ 9223372036854775806) (h : ¬ segOk base l) : Ev (fun k => fairwayref10_Seg.f k base l) false := by
  by_cases e : ∃ i, i < l.length ∧ ¬ okAt base l i
  · obtain ⟨j, hj, hbad, hok⟩ := least l.length e
    exact ref_loop base l hm j (by omega) hok (ref_stop base l hm j hj hbad) j 0 (by omega)
  · have e' : ∀ i, i < l.length → okAt base l i := fun i hi => Classical.byContradiction fun hn => e ⟨i, hi, hn⟩
    have z := ref_end base l
    have : (decide (0 ≤ base ∧ base ≤ 1099511627776) && decide (l.length ≤ 200)) = false := by
      rw [Bool.and_eq_false_iff]
      by_cases hb : 0 ≤ base ∧ base ≤ 1099511627776
      · right
        exact decide_eq_false fun hl => h ⟨hb.1, hb.2, hl, e'⟩
      · left
        exact decide_eq_false hb
    rw [this] at z
    exact ref_loop base l hm l.length (Nat.le_refl _) e' z l.length 0 (by omega)
end Go.Proofs.Ytmabdfdmccbfnaa.USeg

/- Segments with one record more; records copied; the segment that records begin with: the program's and the page's. -/
namespace Go.Proofs.Ytmabdfdmccbfnaa.UWith
open Go Go.RowKit Go.Proofs.Ytmabdfdmccbfnaa.P Go.Proofs.Ytmabdfdmccbfnaa.URec Go.Proofs.Ytmabdfdmccbfnaa.USeg Go.Proofs.YtmabdfdmccbfnaaW.PrintWords Go.Proofs.YtmabdfdmccbfnaaW.PrintLast
set_option linter.unusedVariables false
set_option linter.unusedSimpArgs false

theorem take_snoc (l : List R) (i : Nat) (hi : i < l.length) : l.take (i + 1) = l.take i ++ [rd_T25 l i] := by
  rw [rd_get hi]; exact List.take_succ_eq_append_getElem hi
theorem copyrecs_loop (l : List R) (hm : l.length < 2199023255552) : ∀ (d i : Nat), l.length = i + d → Ev (fun k => fairwayref0_CopyRecs.l0 k l (l.take i) i) l
  | 0, i, h => by
    refine Ev.step (fun k => by rw [fairwayref0_CopyRecs.l0, if_neg (by omega), List.take_of_length_le (by omega)]) (Ev.now _)
  | d + 1, i, h => by
    have ih := copyrecs_loop l hm d (i + 1) (by omega)
    have hw : wrap64 ((i : Int) + 1) = ((i + 1 : Nat) : Int) := by rw [wrap_in (by omega) (by omega)]; omega
    rw [take_snoc l i (by omega)] at ih
    exact Ev.step (fun k => by rw [fairwayref0_CopyRecs.l0, if_pos (by omega), if_pos (by omega), if_pos (by rw [List.length_take]; omega), hw]) ih
theorem copyrecs_ev (l : List R) (hm : l.length < 2199023255552) : Ev (fun k => fairwayref0_CopyRecs.f k l) l := copyrecs_loop l hm l.length 0 (by omega)
theorem copyseg_ev (b : Int) (l : List R) (hm : l.length < 2199023255552) : Ev (fun k => fairwayref0_CopySeg.f k b l) (b, l) := Ev.bind (copyrecs_ev l hm) (Ev.now _)
theorem with_ev (b : Int) (l : List R) (r : R) (hm : l.length < 2199023255552) : Ev (fun k => fairwayref10_With.f k b l r.f0 r.f1 r.f2 r.f3 r.f4 r.f5) (b, l ++ [r]) :=
  Ev.bind (copyseg_ev b l hm) (Ev.congr (fun k => if_pos hm) (Ev.now _))

theorem rd_left (l m : List R) (i : Nat) (h : i < l.length) : rd_T25 (l ++ m) i = rd_T25 l i := by
  rw [rd_get h, rd_get (by rw [List.length_append]; omega), List.getElem_append_left h]
theorem rd_last (l : List R) (r : R) : rd_T25 (l ++ [r]) (l.length : Nat) = r := by
  rw [rd_get (by simp)]; simp
theorem okAt_left (b : Int) (l m : List R) (i : Nat) (h : i < l.length) : okAt b (l ++ m) i ↔ okAt b l i := by
  unfold okAt
  rw [rd_left l m i h, rd_left l m (i - 1) (by omega)]
/-- What may stand behind records. -/
def canAdd (b : Int) (l : List R) (r : R) : Prop := recOk r ∧ b ≤ r.f0 ∧ l.length < 200 ∧ (0 < l.length → (rd_T25 l (l.length - 1 : Nat)).f0 < r.f0 ∧ (rd_T25 l (l.length - 1 : Nat)).f1 ≤ r.f1)
theorem segOk_snoc (b : Int) (l : List R) (r : R) : segOk b (l ++ [r]) ↔ segOk b l ∧ canAdd b l r := by
  constructor
  · rintro ⟨h0, h1, h2, h3⟩
    have hl : l.length < 200 := by rw [List.length_append] at h2; simp at h2; omega
    refine ⟨⟨h0, h1, by omega, fun i hi => (okAt_left b l [r] i hi).1 (h3 i (by rw [List.length_append]; omega))⟩, ?_⟩
    obtain ⟨a1, a2, a3⟩ := h3 l.length (by rw [List.length_append]; simp)
    rw [rd_last] at a1 a2 a3
    refine ⟨a1, a2, hl, fun hp => ?_⟩
    rw [rd_left l [r] (l.length - 1) (by omega)] at a3
    exact a3 hp
  · rintro ⟨⟨h0, h1, h2, h3⟩, a1, a2, a3, a4⟩
    refine ⟨h0, h1, by rw [List.length_append]; simp; omega, fun i hi => ?_⟩
    by_cases hil : i < l.length
    · exact (okAt_left b l [r] i hil).2 (h3 i hil)
    · have : i = l.length := by rw [List.length_append] at hi; simp at hi; omega
      subst this
      refine ⟨by rw [rd_last]; exact a1, by rw [rd_last]; exact a2, fun hp => ?_⟩
      rw [rd_last, rd_left l [r] (l.length - 1) (by omega)]
      exact a4 hp
theorem segOk_nil (b : Int) (h0 : 0 ≤ b) (h1 : b ≤ 1099511627776) : segOk b [] := ⟨h0, h1, by simp, fun i hi => by simp at hi⟩
theorem segOk_take (b : Int) (l : List R) (h : segOk b l) (n : Nat) : segOk b (l.take n) := by
  refine ⟨h.1, h.2.1, by have := h.2.2.1; rw [List.length_take]; omega, fun i hi => ?_⟩
  rw [List.length_take] at hi
  have := h.2.2.2 i (by omega)
  rw [← List.take_append_drop n l] at this
  exact (okAt_left b (l.take n) (l.drop n) i (by rw [List.length_take]; omega)).1 this
theorem recLen_in (r : R) (h : recOk r) : recLen r ≤ 3000 := by obtain ⟨_, _, _, _, h4, h5, _⟩ := h; unfold recLen; omega
end Go.Proofs.Ytmabdfdmccbfnaa.UWith

/- A segment's bytes, and how many: the program's and the page's. -/
namespace Go.Proofs.Ytmabdfdmccbfnaa.UText
open Go Go.RowKit Go.Proofs.Ytmabdfdmccbfnaa.P Go.Proofs.Ytmabdfdmccbfnaa.URec Go.Proofs.Ytmabdfdmccbfnaa.USeg Go.Proofs.Ytmabdfdmccbfnaa.UBytes Go.Proofs.Ytmabdfdmccbfnaa.UWith Go.Proofs.YtmabdfdmccbfnaaW.PrintWords Go.Proofs.YtmabdfdmccbfnaaW.PrintLast
set_option linter.unusedVariables false
set_option linter.unusedSimpArgs false
/-- Records' bytes behind others. -/
def cat : ByteArray → List R → ByteArray
  | s, [] => s
  | s, r :: l => cat (s ++ recBytes r) l
def lens : List R → Nat
  | [] => 0
  | r :: l => recLen r + lens l
theorem cat_size : ∀ (l : List R) (s : ByteArray), (cat s l).size = s.size + lens l
  | [], s => rfl
  | r :: l, s => by rw [cat, cat_size l, lens, ByteArray.size_append, recBytes_size, Nat.add_assoc]
theorem lens_in (l : List R) (h : ∀ r ∈ l, recOk r) : lens l ≤ l.length * 3000 := by
  induction l with
  | nil => simp [lens]
  | cons r l ih =>
    have h1 := recLen_in r (h r (by simp))
    have h2 := ih (fun x hx => h x (by simp [hx]))
    simp only [lens, List.length_cons]; omega
theorem segOk_all {b : Int} {l : List R} (h : segOk b l) : ∀ r ∈ l, recOk r := by
  intro r hr
  obtain ⟨i, hi, rfl⟩ := List.mem_iff_getElem.1 hr
  have := segOk_rec h hi
  rwa [rd_get hi] at this
theorem drop_all {l : List R} (h : ∀ r ∈ l, recOk r) (i : Nat) : ∀ r ∈ l.drop i, recOk r := fun r hr => h r (List.mem_of_mem_drop hr)
theorem ar_t (a b n : Nat) (h : a + (b + n) ≤ 1000000000) : a + b + n ≤ 1000000000 ∧ a + b ≤ 9223372036854775807 ∧ a + b ≤ 140737488355328 ∧ wrap64 ((a : Int) + (b : Int)) = ((a + b : Nat) : Int) := by
  refine ⟨by omega, by omega, by omega, ?_⟩
  rw [wrap_in (by omega) (by omega)]; omega
theorem ar_i (n i : Nat) (hn : n ≤ 200) (hi : i < n) : wrap64 ((i : Int) + 1) = ((i + 1 : Nat) : Int) := by
  rw [wrap_in (by omega) (by omega)]; omega
theorem acc_ev : ∀ (l : List R) (s : ByteArray), (∀ r ∈ l, recOk r) → s.size + lens l ≤ 1000000000 → Ev (fun k => seg_Text.acc k l s) (cat s l)
  | [], s, _, _ => by
    simp only [seg_Text.acc, cat]
    exact Ev.now _
  | r :: l, s, h, hs => by
    simp only [seg_Text.acc, cat]
    obtain ⟨a1, a2, a3, a4⟩ := ar_t s.size (recLen r) (lens l) hs
    refine Ev.bind (bytes_yes r (h r (by simp))) (Ev.congr (fun k => if_pos ?_) (acc_ev l _ (fun x hx => h x (by simp [hx])) ?_))
    · rw [recBytes_size]; exact a3
    · rw [ByteArray.size_append, recBytes_size]; exact a1
theorem text_yes (b : Int) (l : List R) (h : segOk b l) (hs : lens l ≤ 1000000000) : Ev (fun k => seg_Text.f k b l) (cat ⟨#[]⟩ l, 0) :=
  Ev.bind (segcheck_yes b l h) (Ev.congr (fun k => if_pos rfl) (Ev.bind (acc_ev l ⟨#[]⟩ (segOk_all h) (by show 0 + lens l ≤ 1000000000; omega)) (Ev.now _)))
theorem text_no (b : Int) (l : List R) (h : ¬ segOk b l) : Ev (fun k => seg_Text.f k b l) (⟨#[]⟩, 1) :=
  Ev.bind (segcheck_no b l h) (Ev.congr (fun k => if_neg (by decide)) (Ev.now _))
theorem reftext_loop (b : Int) (l : List R) (hl : l.length ≤ 200) (hall : ∀ r ∈ l, recOk r) : ∀ (d i : Nat) (s : ByteArray), l.length = i + d → s.size + lens (l.drop i) ≤ 1000000000 → Ev (fun k => fairwayref10_Text.l0 k s i b l) (cat s (l.drop i))
  | 0, i, s, h, hs => by
    rw [List.drop_eq_nil_of_le (by omega), cat]
    exact Ev.step (fun k => by rw [fairwayref10_Text.l0, if_neg (by omega)]) (Ev.now _)
  | d + 1, i, s, h, hs => by
    have hi : i < l.length := by omega
    have hw := ar_i l.length i hl hi
    have hd : l.drop i = rd_T25 l i :: l.drop (i + 1) := by rw [rd_get hi]; exact List.drop_eq_getElem_cons hi
    rw [hd] at hs ⊢
    rw [lens] at hs
    rw [cat]
    obtain ⟨a1, a2, a3, a4⟩ := ar_t s.size (recLen (rd_T25 l i)) (lens (l.drop (i + 1))) hs
    have hr : recOk (rd_T25 l i) := hall _ (rd_mem hi)
    have p1 : (i : Int) < (l.length : Int) := by omega
    have p2 : 0 ≤ (i : Int) := by omega
    refine Ev.step (fun k => by rw [fairwayref10_Text.l0, if_pos p1, if_pos p2]) (Ev.bind (refbytes_ev _ hr) (Ev.congr (fun k => by rw [if_pos (by rw [recBytes_size]; exact a2), hw]) (reftext_loop b l hl hall d (i + 1) _ (by omega) ?_)))
    rw [ByteArray.size_append, recBytes_size]; exact a1
theorem reftext_ev (b : Int) (l : List R) (h : segOk b l) (hs : lens l ≤ 1000000000) : Ev (fun k => fairwayref10_Text.f k b l) (cat ⟨#[]⟩ l) :=
  reftext_loop b l h.2.2.1 (segOk_all h) l.length 0 ⟨#[]⟩ (by omega) (by show 0 + lens l ≤ 1000000000; omega)
theorem size_loop (l : List R) (hl : l.length ≤ 200) (hall : ∀ r ∈ l, recOk r) : ∀ (d i n : Nat), l.length = i + d → n + lens (l.drop i) ≤ 1000000000 → Ev (fun k => seg_Size.l0 k n l (l.length : Int) i) (((n + lens (l.drop i) : Nat) : Int), 0)
  | 0, i, n, h, hs => by
    rw [List.drop_eq_nil_of_le (by omega), lens, Nat.add_zero]
    exact Ev.step (fun k => by rw [seg_Size.l0, if_neg (by omega)]) (Ev.now _)
  | d + 1, i, n, h, hs => by
    have hi : i < l.length := by omega
    have hw := ar_i l.length i hl hi
    have hd : l.drop i = rd_T25 l i :: l.drop (i + 1) := by rw [rd_get hi]; exact List.drop_eq_getElem_cons hi
    rw [hd, lens] at hs ⊢
    obtain ⟨a1, a2, a3, a4⟩ := ar_t n (recLen (rd_T25 l i)) (lens (l.drop (i + 1))) hs
    have hr : recOk (rd_T25 l i) := hall _ (rd_mem hi)
    have p1 : (i : Int) < (l.length : Int) := by omega
    have p2 : 0 ≤ (i : Int) := by omega
    have ih := size_loop l hl hall d (i + 1) (n + recLen (rd_T25 l i)) (by omega) a1
    rw [Nat.add_assoc] at ih
    exact Ev.step (fun k => by rw [seg_Size.l0, if_pos p1, if_pos p2, if_pos p1]) (Ev.bind (size_yes _ hr) (Ev.congr (fun k => by rw [hw, a4]) ih))
theorem segsize_yes (b : Int) (l : List R) (h : segOk b l) (hs : lens l ≤ 1000000000) : Ev (fun k => seg_Size.f k b l) (((lens l : Nat) : Int), 0) := by
  have := size_loop l h.2.2.1 (segOk_all h) l.length 0 0 (by omega) (by simpa using hs)
  rw [Nat.zero_add] at this
  exact Ev.bind (segcheck_yes b l h) (Ev.congr (fun k => if_pos rfl) this)
theorem segsize_no (b : Int) (l : List R) (h : ¬ segOk b l) : Ev (fun k => seg_Size.f k b l) (0, 1) :=
  Ev.bind (segcheck_no b l h) (Ev.congr (fun k => if_neg (by decide)) (Ev.now _))
theorem lens_ok {b : Int} {l : List R} (h : segOk b l) : lens l ≤ 1000000000 := by
  have h1 := lens_in l (segOk_all h)
  have h2 := h.2.2.1
  generalize lens l = a at *
  generalize l.length = c at *
  omega
end Go.Proofs.Ytmabdfdmccbfnaa.UText

/- Records as bytes, cut off anywhere: those that are whole are read back. -/
namespace Go.Proofs.Ytmabdfdmccbfnaa.UCut
open Go Go.RowKit Go.Proofs.Ytmabdfdmccbfnaa.P Go.Proofs.Ytmabdfdmccbfnaa.URec Go.Proofs.Ytmabdfdmccbfnaa.UBytes Go.Proofs.Ytmabdfdmccbfnaa.USum Go.Proofs.Ytmabdfdmccbfnaa.UTake Go.Proofs.Ytmabdfdmccbfnaa.UTk Go.Proofs.Ytmabdfdmccbfnaa.UBack Go.Proofs.Ytmabdfdmccbfnaa.UWith Go.Proofs.Ytmabdfdmccbfnaa.UText Go.Proofs.YtmabdfdmccbfnaaW.PrintWords Go.Proofs.YtmabdfdmccbfnaaW.PrintLast
set_option linter.unusedVariables false
set_option linter.unusedSimpArgs false

theorem tl_ext (s : ByteArray) (a b : Nat) : (s.extract a b).data.toList = (s.data.toList.drop a).take (b - a) := by
  simp only [ByteArray.data_extract, Array.toList_extract, List.extract_eq_take_drop]
theorem tl_app (a b : ByteArray) : (a ++ b).data.toList = a.data.toList ++ b.data.toList := by simp [ByteArray.data_append]
theorem tl_len (a : ByteArray) : a.data.toList.length = a.size := by rw [Array.length_toList]; rfl
theorem tl_eq {a b : ByteArray} (h : a.data.toList = b.data.toList) : a = b := ByteArray.ext (Array.ext' h)
theorem ext_ext (x : ByteArray) (a n m : Nat) (hm : (x.extract a x.size).size = m) : x.extract (a + n) x.size = (x.extract a x.size).extract n m := by
  refine tl_eq ?_
  have e : m = x.size - a := by
    have h1 := tl_len (x.extract a x.size)
    rw [tl_ext, List.length_take, List.length_drop, tl_len, hm] at h1
    rw [← h1]; exact Nat.min_self _
  rw [tl_ext, tl_ext, tl_ext, List.drop_take, List.drop_drop, List.take_take, e]
  congr 1
  generalize x.size = z
  omega
theorem pre_left (A T : ByteArray) (m : Nat) (h : A.size ≤ m) : (A ++ T).extract 0 m = A ++ T.extract 0 (m - A.size) := by
  refine tl_eq ?_
  rw [tl_ext, tl_app, tl_app, tl_ext, List.drop_zero, List.drop_zero, Nat.sub_zero, Nat.sub_zero, List.take_append, tl_len, List.take_of_length_le (by rw [tl_len]; exact h)]
theorem ext_right (A T : ByteArray) (n : Nat) (hn : n = A.size + T.size) : (A ++ T).extract A.size n = T := by
  refine tl_eq ?_
  have e : n - A.size = T.size := by rw [hn, Nat.add_sub_cancel_left]
  rw [tl_ext, tl_app, e, List.drop_append, tl_len, Nat.sub_self, List.drop_zero, List.drop_of_length_le (by rw [tl_len]; exact Nat.le_refl _), List.nil_append, List.take_of_length_le (by rw [tl_len]; exact Nat.le_refl _)]
theorem V_same (s t : ByteArray) : ∀ n, (∀ i : Nat, i < n → bt s i = bt t i) → V s n = V t n
  | 0, _ => rfl
  | n + 1, h => by
    simp only [V]
    rw [V_same s t n (fun i hi => h i (Nat.lt_succ_of_lt hi)), h n (Nat.lt_succ_self n)]
theorem V_pre (A T : ByteArray) (m : Nat) (hA : 2 ≤ A.size) (hm : 2 ≤ m) (hmt : m ≤ (A ++ T).size) : V ((A ++ T).extract 0 m) 2 = V A 2 := by
  refine V_same _ _ 2 (fun i hi => ?_)
  have := bt_ext (A ++ T) 0 m i hmt (by rw [Nat.zero_add]; exact Nat.lt_of_lt_of_le hi hm)
  rw [Nat.zero_add] at this
  rw [this, bt_left A T i (Nat.lt_of_lt_of_le hi hA)]
theorem V_rec (r : R) (hr : recOk r) : V (recBytes r) 2 = (bodyOf r).size := by
  obtain ⟨h0, h1, h2, h3, h4, h5, h6, h7, h8⟩ := hr
  have hb := bodyOf_size r
  have e : recBytes r = headOf r ++ (fixed (sumOf (headOf r) (bodyOf r)) 4 ++ bodyOf r) := by simp only [recBytes, ByteArray.append_assoc]
  have hs : (bodyOf r).size < 256 ^ 2 := by rw [hb]; omega
  rw [e, V_left _ _ 2 (by rw [show (headOf r).size = 2 from fixed_size _ _]; exact Nat.le_refl _)]
  exact V_fixed _ 2 hs
theorem cat_app : ∀ (l : List R) (s : ByteArray), cat s l = s ++ cat ⟨#[]⟩ l
  | [], s => by
    simp only [cat]
    exact (ByteArray.append_empty).symm
  | r :: l, s => by
    have e : (⟨#[]⟩ : ByteArray) ++ recBytes r = recBytes r := ByteArray.empty_append
    simp only [cat]
    rw [cat_app l (s ++ recBytes r), e, cat_app l (recBytes r), ByteArray.append_assoc]
theorem cat_cons (r : R) (l : List R) : cat ⟨#[]⟩ (r :: l) = recBytes r ++ cat ⟨#[]⟩ l := by
  have e : (⟨#[]⟩ : ByteArray) ++ recBytes r = recBytes r := ByteArray.empty_append
  simp only [cat]
  rw [e, cat_app]
theorem cat0_size (l : List R) : (cat ⟨#[]⟩ l).size = lens l := by rw [cat_size]; show 0 + lens l = lens l; rw [Nat.zero_add]
attribute [local irreducible] bt V ByteArray.extract keyLen rcOf bodyAt sumAt takeOk cat recBytes
theorem ar1 (a m z n c : Nat) (h : a + m = z) (hz : z ≤ 1000000) (hm : 0 < m) (hn : n ≤ m) (hc : c ≤ 10000) : (a : Int) < (z : Int) ∧ 0 ≤ (a : Int) ∧ (a : Int) ≤ (z : Int) ∧ wrap64 ((a : Int) + (n : Int)) = ((a + n : Nat) : Int) ∧ c < 2199023255552 ∧ a + n + (m - n) = z ∧ z - a = m := by
  refine ⟨by omega, by omega, by omega, ?_, by omega, by omega, by omega⟩
  rw [wrap_in (by omega) (by omega)]; omega
/-- What stands in records' bytes, cut off anywhere. -/
theorem scan_pre (x : ByteArray) (hx : x.size ≤ 1000000) : ∀ (l : List R), (∀ r ∈ l, recOk r) → ∀ (acc : List R) (a m : Nat), a + m = x.size → x.extract a x.size = (cat ⟨#[]⟩ l).extract 0 m → m ≤ lens l → acc.length + l.length ≤ 10000 →
    ∃ (j : Nat) (all : Bool), j ≤ l.length ∧ lens (l.take j) ≤ m ∧ (m = lens l → j = l.length) ∧ (j < l.length → m < lens (l.take (j + 1))) ∧ (all = true ↔ lens (l.take j) = m) ∧
      Ev (fun k => rec_Scan.l0 k x acc a) (acc ++ l.take j, ((a + lens (l.take j) : Nat) : Int), all)
  | [], _, acc, a, m, ham, hex, hm, hc => by
    simp only [lens] at hm
    have e : ¬ (a : Int) < (x.size : Int) := by generalize x.size = z at *; omega
    refine ⟨0, true, Nat.le_refl _, Nat.zero_le _, fun _ => rfl, fun h => absurd h (Nat.not_lt_zero _), ⟨fun _ => ?_, fun _ => rfl⟩, ?_⟩
    · simp only [List.take_nil, lens]; omega
    · simp only [List.take_nil, List.append_nil, lens, Nat.add_zero]
      exact Ev.step (fun k => by rw [rec_Scan.l0, if_neg e]) (Ev.now _)
  | r :: l, hall, acc, a, m, ham, hex, hm, hc => by
    have hr := hall r (by simp)
    have hlen : 25 ≤ recLen r := by unfold recLen; omega
    rw [List.length_cons] at hc
    have stay : ∀ b : Bool, (b = true ↔ m = 0) → m < recLen r → Ev (fun k => rec_Scan.l0 k x acc a) (acc, (a : Int), b) →
        ∃ (j : Nat) (all : Bool), j ≤ (r :: l).length ∧ lens ((r :: l).take j) ≤ m ∧ (m = lens (r :: l) → j = (r :: l).length) ∧ (j < (r :: l).length → m < lens ((r :: l).take (j + 1))) ∧ (all = true ↔ lens ((r :: l).take j) = m) ∧
        Ev (fun k => rec_Scan.l0 k x acc a) (acc ++ (r :: l).take j, ((a + lens ((r :: l).take j) : Nat) : Int), all) := by
      intro b hb hlt h
      refine ⟨0, b, Nat.zero_le _, by simp only [List.take_zero, lens]; exact Nat.zero_le _, fun e => ?_, fun _ => ?_, ?_, ?_⟩
      · simp only [lens] at e; omega
      · simp only [Nat.zero_add, List.take_succ_cons, List.take_zero, lens]; omega
      · simp only [List.take_zero, lens]; exact hb.trans ⟨fun e => e.symm, fun e => e.symm⟩
      · simp only [List.take_zero, List.append_nil, lens, Nat.add_zero]; exact h
    by_cases h0 : m = 0
    · refine stay true ⟨fun _ => h0, fun _ => rfl⟩ (by omega) ?_
      have e : ¬ (a : Int) < (x.size : Int) := by generalize x.size = z at *; omega
      exact Ev.step (fun k => by rw [rec_Scan.l0, if_neg e]) (Ev.now _)
    have hT : (cat ⟨#[]⟩ l).size = lens l := cat0_size l
    have hR : (recBytes r).size = recLen r := recBytes_size r
    have hsz : (x.extract a x.size).size = m := by rw [ext_size x a (by generalize x.size = z at *; omega)]; generalize x.size = z at *; omega
    rw [cat_cons] at hex
    by_cases hw : recLen r ≤ m
    · obtain ⟨e1, e2, e3, e4, e5, e6, e7⟩ := ar1 a m x.size (recLen r) acc.length ham hx (Nat.pos_of_ne_zero h0) hw (by omega)
      have hy : x.extract a x.size = recBytes r ++ (cat ⟨#[]⟩ l).extract 0 (m - recLen r) := by rw [hex, pre_left _ _ _ (by rw [hR]; exact hw), hR]
      simp only [lens] at hm
      have hTs : ((cat ⟨#[]⟩ l).extract 0 (m - recLen r)).size = m - recLen r := by
        rw [ByteArray.size_extract, hT]
        generalize lens l = q at *
        omega
      have tb := take_back r hr ((cat ⟨#[]⟩ l).extract 0 (m - recLen r)) (by rw [hTs]; generalize x.size = z at *; omega)
      rw [← hy] at tb
      have hnext : x.extract (a + recLen r) x.size = (cat ⟨#[]⟩ l).extract 0 (m - recLen r) := by
        rw [ext_ext x a (recLen r) m hsz, hy, ← hR]
        exact ext_right _ _ _ (by rw [hR, hTs]; omega)
      obtain ⟨j, all, j1, j2, j3, j5, j6, j4⟩ := scan_pre x hx l (fun y hy => hall y (by simp [hy])) (acc ++ [r]) (a + recLen r) (m - recLen r) e6 hnext (by omega) (by rw [List.length_append, List.length_singleton]; omega)
      refine ⟨j + 1, all, by rw [List.length_cons]; omega, by rw [List.take_succ_cons, lens]; omega, fun e => ?_, fun h => ?_, ?_, ?_⟩
      · simp only [lens] at e
        rw [List.length_cons, j3 (by omega)]
      · rw [List.length_cons] at h
        have := j5 (by omega)
        rw [List.take_succ_cons, lens]; omega
      · rw [List.take_succ_cons, lens]
        exact j6.trans ⟨fun e => by omega, fun e => by omega⟩
      · have ea : acc ++ (r :: l).take (j + 1) = acc ++ [r] ++ l.take j := by rw [List.take_succ_cons, List.append_assoc, List.singleton_append]
        have eb : a + lens ((r :: l).take (j + 1)) = a + recLen r + lens (l.take j) := by rw [List.take_succ_cons, lens, Nat.add_assoc]
        rw [ea, eb]
        refine Ev.step (fun k => by rw [rec_Scan.l0, if_pos e1, if_pos e2, if_pos e3, Int.toNat_natCast]) (Ev.bind tb ?_)
        exact Ev.congr (fun k => by rw [if_pos rfl, if_pos e5, e4]) j4
    · obtain ⟨e1, e2, e3, e4, e5, e6, e7⟩ := ar1 a m x.size 0 acc.length ham hx (Nat.pos_of_ne_zero h0) (Nat.zero_le _) (by omega)
      refine stay false ⟨fun e => absurd e Bool.false_ne_true, fun e => absurd e h0⟩ (Nat.lt_of_not_le hw) ?_
      have hcut : (x.extract a x.size).size < 6 ∨ (x.extract a x.size).size - 6 < V (x.extract a x.size) 2 := by
        rw [hsz]
        by_cases h6 : m < 6
        · exact Or.inl h6
        · right
          rw [hex, V_pre _ _ _ (by rw [hR]; omega) (by omega) (by rw [ByteArray.size_append, hR, hT]; omega), V_rec r hr, bodyOf_size]
          unfold recLen at hw
          omega
      have tc := (take_cut (x.extract a x.size) (by rw [hsz]; generalize x.size = z at *; omega) hcut).1
      exact Ev.step (fun k => by rw [rec_Scan.l0, if_pos e1, if_pos e2, if_pos e3, Int.toNat_natCast]) (Ev.bind tc (Ev.congr (fun k => if_neg (show ¬ (7 : Int) = 0 by decide)) (Ev.now _)))
theorem scan_cut (l : List R) (hall : ∀ r ∈ l, recOk r) (hl : l.length ≤ 10000) (n : Nat) (hn : n ≤ lens l) (hs : lens l ≤ 1000000) :
    ∃ (j : Nat) (all : Bool), j ≤ l.length ∧ lens (l.take j) ≤ n ∧ (n = lens l → j = l.length) ∧ (j < l.length → n < lens (l.take (j + 1))) ∧ (all = true ↔ lens (l.take j) = n) ∧ Ev (fun k => rec_Scan.f k ((cat ⟨#[]⟩ l).extract 0 n)) (l.take j, ((lens (l.take j) : Nat) : Int), all) := by
  have hsz : ((cat ⟨#[]⟩ l).extract 0 n).size = n := by
    rw [ByteArray.size_extract, cat0_size]
    generalize lens l = q at *
    omega
  obtain ⟨j, all, j1, j2, j3, j5, j6, j4⟩ := scan_pre ((cat ⟨#[]⟩ l).extract 0 n) (by rw [hsz]; omega) l hall [] 0 n (by rw [hsz]; omega) (by
    refine tl_eq ?_
    rw [tl_ext, List.drop_zero, List.take_of_length_le (by rw [tl_len]; omega)]) hn (by simp only [List.length_nil]; omega)
  rw [List.nil_append, Nat.zero_add] at j4
  exact ⟨j, all, j1, j2, j3, j5, j6, j4⟩
theorem lens_app : ∀ (a b : List R), lens (a ++ b) = lens a + lens b
  | [], b => by simp [lens]
  | r :: a, b => by simp only [List.cons_append, lens, lens_app a b, Nat.add_assoc]
end Go.Proofs.Ytmabdfdmccbfnaa.UCut

-- written by a program of the proving session, out of the translation; Lean checks it
namespace Go.Proofs.Ytmabdfdmccbfnaa.P
open Go.RowKit Go.Proofs.Ytmabdfdmccbfnaa.Sq Go.Proofs.YtmabdfdmccbfnaaW.PrintWords Go.Proofs.YtmabdfdmccbfnaaW.PrintLast Go.Proofs.YtmabdfdmccbfnaaW.PrintMore
attribute [local go_sem] max2_int min2_int max_two min_two max_three min_three max_four min_four   -- for this text's walks alone
set_option linter.unusedVariables false
set_option linter.unusedSimpArgs false

/-! ### fairwayref10_Scan: function 26 -/
def fairwayref10_Scan.l0 : Nat → ByteArray → List (S25) → Int → Option ((List (S25)) × Int × Bool)
 | 0, _, _, _ => none
 | k + 1, x0, x5, x6 => if x6 < (x0.size : Int) then (if 0 ≤ x6 then (if x6 ≤ (x0.size : Int) then ((fairwayref10_Take.f k (x0.extract (x6 : Int).toNat x0.size)).bind fun bt277 => (if bt277.2.2.2.2.2.2.2 = 0 then (if x5.length < 2199023255552 then (fairwayref10_Scan.l0 k x0 (x5 ++ [(⟨bt277.1, bt277.2.1, bt277.2.2.1, bt277.2.2.2.1, bt277.2.2.2.2.1, bt277.2.2.2.2.2.1⟩ : S25)]) (wrap64 (x6 + bt277.2.2.2.2.2.2.1))) else (none)) else (some (x5, x6, false)))) else (none)) else (none)) else (some (x5, x6, true))
def fairwayref10_Scan.f (k : Nat) (a0 : ByteArray) : Option ((List (S25)) × Int × Bool) := fairwayref10_Scan.l0 k a0 ([] : List (S25)) 0
theorem fairwayref10_Scan.mono_l : ∀ k, (∀ y0 y1 y2, LeO (fairwayref10_Scan.l0 k y0 y1 y2) (fairwayref10_Scan.l0 (k + 1) y0 y1 y2))
 | 0 => fun _ _ _ r h => by simp [fairwayref10_Scan.l0] at h
 | k + 1 => by
  have ih0 := fairwayref10_Scan.mono_l k
  ·intro y0 y1 y2
   unfold fairwayref10_Scan.l0
   repeat' first
   | (with_reducible exact ih0 _ _ _)
   | (with_reducible exact fairwayref10_Take.mono _ _)
   | (with_reducible exact LeO.refl _)
   | (with_reducible exact LeO.none _)
   | (with_reducible refine LeO.ite ?_ ?_)
   | (with_reducible refine LeO.bind ?_ (fun _ => ?_))
   | exact ih0 _ _ _
   | exact fairwayref10_Take.mono _ _
   | exact LeO.none _
   | refine LeO.ite ?_ ?_
   | refine LeO.bind ?_ (fun _ => ?_)
theorem fairwayref10_Scan.mono : ∀ a0 k, LeO (fairwayref10_Scan.f k a0) (fairwayref10_Scan.f (k + 1) a0) := by
 intro a0 k
 have ih0 := fairwayref10_Scan.mono_l k
 unfold fairwayref10_Scan.f
 repeat' first
  | (with_reducible exact ih0 _ _ _)
  | (with_reducible exact fairwayref10_Take.mono _ _)
  | (with_reducible exact LeO.refl _)
  | (with_reducible exact LeO.none _)
  | (with_reducible refine LeO.ite ?_ ?_)
  | (with_reducible refine LeO.bind ?_ (fun _ => ?_))
  | exact ih0 _ _ _
  | exact fairwayref10_Take.mono _ _
  | exact LeO.none _
  | refine LeO.ite ?_ ?_
  | refine LeO.bind ?_ (fun _ => ?_)
set_option maxHeartbeats 8000000 in
set_option maxRecDepth 100000 in
theorem fairwayref10_Scan.calls (k : Nat) (a0 : ByteArray) (r1 : List (S25)) (r2 : Int) (r3 : Bool) (w : World) (h : fairwayref10_Scan.f k a0 = some (r1, r2, r3)) :
 Calls Try.prog 26 #[.string a0] w fun e w' => ∃ v0_ : Value, e = .returned (.tuple #[v0_, .int .i64 r2, .bool r3]) ∧ Kd.R k25 25 w' w.heap.size (fun _ => True) v0_ r1 ∧ Below w.heap.size w w' := by
 have hu25 := Try.underlying25
 have HB := Aside0.mk (Below.refl w.heap.size w)
 have H : (fairwayref10_Scan.l0 k a0 ([] : List (S25)) 0) = some (r1, r2, r3) := h
 clear h
 have H' := Aside0.mk H
 clear H
 go_enter Try.func26, Try.ntmps26
 go_wp2
 go_loopg [5, 6] k (fun kq v5 v6 w' => ∃ (x5_1 : List (S25)) (x6_1 : Int), v6 = .int .i64 x6_1 ∧ Aside0 (fairwayref10_Scan.l0 kq a0 x5_1 x6_1 = some (r1, r2, r3)) ∧ Aside0 (kq ≤ k) ∧ Aside0 (Kd.R k25 25 w' w.heap.size (fun _ => True) v5 x5_1) ∧ Aside0 (Below w.heap.size w w'))
 case atStart => exact ⟨(([] : List (S25))), (0), ap, H', ⟨Nat.le_refl _⟩, ⟨by first | exact Kd.R_nil _ _ _ _ _ | exact Kd.N_nil _ _ _ _ _ | exact Kd.V_nil _ _ _ _ _ | exact Kd.Q_nil _ _ _ _ _ | exact Kd.S_nil _ _ _ _ _⟩, ⟨bo⟩⟩
 case round =>
  clear H'
  obtain ⟨x5_1, x6_1, rfl, HA, HK1, HO_5, HB⟩ := hrel
  cases gk with
  | zero => exact absurd HA.out (by simp [fairwayref10_Scan.l0])
  | succ k1 =>
   have H := HA.out
   clear HA
   simp only [fairwayref10_Scan.l0] at H
   by_cases c2 : x6_1 < (a0.size : Int)
   ·rw [if_pos c2] at H
    have c2b0 : decide (x6_1 < (a0.size : Int)) = true := decide_eq_true c2
    clear c2
    by_cases c3 : 0 ≤ x6_1
    ·rw [if_pos c3] at H
     have c3b0 := eq_true c3
     have c3b1 : decide (0 ≤ x6_1) = true := decide_eq_true c3
     clear c3
     by_cases c4 : x6_1 ≤ (a0.size : Int)
     ·rw [if_pos c4] at H
      have c4b0 := eq_true c4
      have c4b1 : decide (x6_1 ≤ (a0.size : Int)) = true := decide_eq_true c4
      clear c4
      replace H := Option.bind_eq_some_iff.mp H
      obtain ⟨⟨t277, t278, t279, t280, t281, t282, t283, t284⟩, A50, H⟩ := H
      replace H : (if t284 = 0 then (if x5_1.length < 2199023255552 then (fairwayref10_Scan.l0 k1 a0 (x5_1 ++ [(⟨t277, t278, t279, t280, t281, t282⟩ : S25)]) (wrap64 (x6_1 + t283))) else (none)) else (some (x5_1, x6_1, false))) = some (r1, r2, r3) := H
      have A5 := Aside0.mk A50
      clear A50
      by_cases c6 : t284 = 0
      ·rw [if_pos c6] at H
       have c6b0 : (t284 == 0) = true := beq_iff_eq.mpr c6
       have c6b1 : (t284 != 0) = false := bne_eq_false_iff_eq.mpr c6
       clear c6
       by_cases c7 : x5_1.length < 2199023255552
       ·rw [if_pos c7] at H
        have LMc7 := Aside0.mk c7
        clear c7
        obtain ⟨y286, hy286⟩ : ∃ y_ : List (S25), y_ = (x5_1 ++ [(⟨t277, t278, t279, t280, t281, t282⟩ : S25)]) := ⟨_, rfl⟩
        replace H : (fairwayref10_Scan.l0 k1 a0 y286 (wrap64 (x6_1 + t283))) = some (r1, r2, r3) := by first | (rw [hy286]; with_reducible exact H) | (have H2_ := (Option.bind_some _ _).symm.trans H; rw [hy286]; with_reducible exact H2_) | (have H2_ := (Option.bind_some _ _).symm.trans H; with_reducible exact H2_) | with_reducible exact H | (rw [hy286]; exact H) | exact H
        have Ny286 := Aside0.mk hy286
        clear hy286
        have H' := Aside0.mk H
        clear H
        go_wp2_with (first | ((with_reducible refine gate_callee (f := 24) rfl ?_); refine goesL_ (some 18) rfl rfl Try.func24 (by kernel_rfl) rfl #[.string (a0.extract (x6_1 : Int).toNat a0.size)] rfl aa ?_; (with_reducible refine (fairwayref10_Take.calls k1 (a0.extract (x6_1 : Int).toNat a0.size) t277 t278 t279 t280 t281 t282 t283 t284 _ A5.out).mono ?_); rintro e w8 ⟨rfl, hb⟩; refine ⟨_, rfl, ?_⟩; replace HO_5 := Aside0.mk (Kd.R_below (rk HO_5.out) hb); replace HB := Aside0.mk (below_step bo hb); (try clear hb); (try clear hb2); (try clear hk); (try clear hi)) | ((with_reducible refine gate_dst (N := 7) rfl ?_); refine box_event ?hg (N := 7) ?hd (cs := #[.int .i64 0, .int .i64 0, .string (⟨#[]⟩ : ByteArray), .string (⟨#[]⟩ : ByteArray), .int .i64 0, .bool false]) (t := 25) ?hr ?_; (case hd => rfl); (case hg => rfl); (case hr => first | (go_simp; done) | (go_simp; rfl)); intro gb285 hg w9 hbox hb; replace HO_5 := Aside0.mk (Kd.R_below (Kd.R_elderB (rk HO_5.out) gb285 (Nat.le_of_eq hg.symm)) hb); have BK285 := Aside0.mk (hbox); have GW285 := Aside0.mk ((by rw [hg]; exact (below_size bo) : w.heap.size ≤ gb285)); have GE285 := Aside0.mk ((by rw [hg]; exact (below_size bo) : w.heap.size ≤ gb285)); replace HB := Aside0.mk (below_step bo hb); clear hb hbox hg; obtain ⟨hcz10_0, hcz10_1, hcz10_2, hcz10_3, hcz10_4, hcz10_5⟩ := cl6 BK285.out; obtain ⟨hfz10_0, hfz10_1, hfz10_2, hfz10_3, hfz10_4, hfz10_5⟩ := fz6 BK285.out) | ((with_reducible refine gate_builtin (b := .append) (xs := #[.tmp 26, .tmp 28]) rfl ?_); at_builtin; refine Kd.R_append k25 (w0 := w) w.heap.size rfl (.tmp 26) (.tmp 28) 36 25 (.agg #[(.int .i64 0), (.int .i64 0), (.string ⟨#[]⟩), (.string ⟨#[]⟩), (.int .i64 0), (.bool false)]) 64 rfl Try.underlying36 info25 rfl (by decide) (by omega) u5 x5_1 (⟨t277, t278, t279, t280, t281, t282⟩ : S25) [.int .i64 t277, .int .i64 t278, .string t279, .string t280, .int .i64 t281, .bool t282] (fun k_ => k_ ≠ gb285) (fun _ => False) rfl (by first | (go_simp; done) | (go_simp; rfl)) ?aP (fun _ hk => hk.elim) ?aF ?aO ?aB ?aS ?aL ?_; (case aP => exact k25_mkM _ _ _ (⟨t277, t278, t279, t280, t281, t282⟩ : S25)); (case aB => exact bo); (case aF => exact (fun k_ hk => Kd.freshB (g := gb285) (o := .cells #[.int .i64 t277, .int .i64 t278, .string t279, .string t280, .int .i64 t281, .bool t282] 25 (0, 0)) (by (with_reducible repeat (first | refine blk_drewN ?_ _ | refine blk_drew ?_ | refine blk_alloc ?_ _)); refine blk_put (cs := #[.int .i64 t277, .int .i64 t278, .string t279, .string t280, .int .i64 t281, .bool false]) ?_ 5 _ rfl; (with_reducible repeat (first | refine blk_drewN ?_ _ | refine blk_drew ?_ | refine blk_alloc ?_ _)); refine blk_put (cs := #[.int .i64 t277, .int .i64 t278, .string t279, .string t280, .int .i64 0, .bool false]) ?_ 4 _ rfl; (with_reducible repeat (first | refine blk_drewN ?_ _ | refine blk_drew ?_ | refine blk_alloc ?_ _)); refine blk_put (cs := #[.int .i64 t277, .int .i64 t278, .string t279, .string (⟨#[]⟩ : ByteArray), .int .i64 0, .bool false]) ?_ 3 _ rfl; (with_reducible repeat (first | refine blk_drewN ?_ _ | refine blk_drew ?_ | refine blk_alloc ?_ _)); refine blk_put (cs := #[.int .i64 t277, .int .i64 t278, .string (⟨#[]⟩ : ByteArray), .string (⟨#[]⟩ : ByteArray), .int .i64 0, .bool false]) ?_ 2 _ rfl; (with_reducible repeat (first | refine blk_drewN ?_ _ | refine blk_drew ?_ | refine blk_alloc ?_ _)); refine blk_put (cs := #[.int .i64 t277, .int .i64 0, .string (⟨#[]⟩ : ByteArray), .string (⟨#[]⟩ : ByteArray), .int .i64 0, .bool false]) ?_ 1 _ rfl; (with_reducible repeat (first | refine blk_drewN ?_ _ | refine blk_drew ?_ | refine blk_alloc ?_ _)); refine blk_put (cs := #[.int .i64 0, .int .i64 0, .string (⟨#[]⟩ : ByteArray), .string (⟨#[]⟩ : ByteArray), .int .i64 0, .bool false]) ?_ 0 _ rfl; (with_reducible repeat (first | refine blk_drewN ?_ _ | refine blk_drew ?_ | refine blk_alloc ?_ _)); exact BK285.out) k_ hk)); (case aO => exact (by (with_reducible repeat (first | apply Kd.R_alloc | apply Kd.R_drewN | apply Kd.R_drew)); exact Kd.R_mono (Kd.R_far (p := ⟨gb285, 5, none⟩) (Kd.R_far (p := ⟨gb285, 4, none⟩) (Kd.R_far (p := ⟨gb285, 3, none⟩) (Kd.R_far (p := ⟨gb285, 2, none⟩) (Kd.R_far (p := ⟨gb285, 1, none⟩) (Kd.R_far (p := ⟨gb285, 0, none⟩) (Kd.R_mono HO_5.out (fun k_ hk => (⟨hk, hk.2⟩ : _ ∧ k_ ≠ gb285))) (fun _ hk => hk.2) (.int .i64 t277)) (fun _ hk => hk.2) (.int .i64 t278)) (fun _ hk => hk.2) (.string t279)) (fun _ hk => hk.2) (.string t280)) (fun _ hk => hk.2) (.int .i64 t281)) (fun _ hk => hk.2) (.bool t282)) (fun _ hk => hk.1.2))); (case aS => exact (below_size bo)); (case aL => have := LMc7.out; omega); intro v287 w11 ho hb hg hat; rw [← Ny286.out] at ho; have n0_ := Aside0.mk (blk_grown (g := gb285) (o := .cells #[.int .i64 t277, .int .i64 t278, .string t279, .string t280, .int .i64 t281, .bool t282] 25 (0, 0)) (by (with_reducible repeat (first | refine blk_drewN ?_ _ | refine blk_drew ?_ | refine blk_alloc ?_ _)); refine blk_put (cs := #[.int .i64 t277, .int .i64 t278, .string t279, .string t280, .int .i64 t281, .bool false]) ?_ 5 _ rfl; (with_reducible repeat (first | refine blk_drewN ?_ _ | refine blk_drew ?_ | refine blk_alloc ?_ _)); refine blk_put (cs := #[.int .i64 t277, .int .i64 t278, .string t279, .string t280, .int .i64 0, .bool false]) ?_ 4 _ rfl; (with_reducible repeat (first | refine blk_drewN ?_ _ | refine blk_drew ?_ | refine blk_alloc ?_ _)); refine blk_put (cs := #[.int .i64 t277, .int .i64 t278, .string t279, .string (⟨#[]⟩ : ByteArray), .int .i64 0, .bool false]) ?_ 3 _ rfl; (with_reducible repeat (first | refine blk_drewN ?_ _ | refine blk_drew ?_ | refine blk_alloc ?_ _)); refine blk_put (cs := #[.int .i64 t277, .int .i64 t278, .string (⟨#[]⟩ : ByteArray), .string (⟨#[]⟩ : ByteArray), .int .i64 0, .bool false]) ?_ 2 _ rfl; (with_reducible repeat (first | refine blk_drewN ?_ _ | refine blk_drew ?_ | refine blk_alloc ?_ _)); refine blk_put (cs := #[.int .i64 t277, .int .i64 0, .string (⟨#[]⟩ : ByteArray), .string (⟨#[]⟩ : ByteArray), .int .i64 0, .bool false]) ?_ 1 _ rfl; (with_reducible repeat (first | refine blk_drewN ?_ _ | refine blk_drew ?_ | refine blk_alloc ?_ _)); refine blk_put (cs := #[.int .i64 0, .int .i64 0, .string (⟨#[]⟩ : ByteArray), .string (⟨#[]⟩ : ByteArray), .int .i64 0, .bool false]) ?_ 0 _ rfl; (with_reducible repeat (first | refine blk_drewN ?_ _ | refine blk_drew ?_ | refine blk_alloc ?_ _)); exact BK285.out) hg (Kd.R_away HO_5.out (fun _ hk => hk.2))); have n1_ := Aside0.mk (hb); have n2_ := Aside0.mk (ho); clear BK285; clear HB; clear HO_5; have BK285 := n0_; have HB := n1_; have HO288 := n2_; clear n0_ n1_ n2_; clear ho hb hg hat))
        go_roundg k1
        case measure => have := HK1.out; omega
        case rel => exact ⟨(y286), (wrap64 (x6_1 + t283)), ap, H', ⟨by have := HK1.out; omega⟩, ⟨by (with_reducible repeat (first | apply Kd.R_alloc | apply Kd.R_drewN | apply Kd.R_drew)); exact Kd.R_mono HO288.out (fun _ hk => trivial)⟩, ⟨bo⟩⟩
       ·rw [if_neg c7] at H
        exact absurd H (by simp)
      ·rw [if_neg c6] at H
       have c6b0 : (t284 == 0) = false := beq_eq_false_iff_ne.mpr c6
       have c6b1 : (t284 != 0) = true := bne_iff_ne.mpr c6
       simp only [Option.some.injEq, Prod.mk.injEq] at H
       obtain ⟨rfl, rfl, rfl⟩ := H
       go_wp2_with (first | ((with_reducible refine gate_callee (f := 24) rfl ?_); refine goesL_ (some 18) rfl rfl Try.func24 (by kernel_rfl) rfl #[.string (a0.extract (x6_1 : Int).toNat a0.size)] rfl aa ?_; (with_reducible refine (fairwayref10_Take.calls k1 (a0.extract (x6_1 : Int).toNat a0.size) t277 t278 t279 t280 t281 t282 t283 t284 _ A5.out).mono ?_); rintro e w12 ⟨rfl, hb⟩; refine ⟨_, rfl, ?_⟩; replace HO_5 := Aside0.mk (Kd.R_below (rk HO_5.out) hb); replace HB := Aside0.mk (below_step bo hb); (try clear hb); (try clear hb2); (try clear hk); (try clear hi)) | ((with_reducible refine gate_dst (N := 7) rfl ?_); refine box_event ?hg (N := 7) ?hd (cs := #[.int .i64 0, .int .i64 0, .string (⟨#[]⟩ : ByteArray), .string (⟨#[]⟩ : ByteArray), .int .i64 0, .bool false]) (t := 25) ?hr ?_; (case hd => rfl); (case hg => rfl); (case hr => first | (go_simp; done) | (go_simp; rfl)); intro gb285 hg w13 hbox hb; replace HO_5 := Aside0.mk (Kd.R_below (Kd.R_elderB (rk HO_5.out) gb285 (Nat.le_of_eq hg.symm)) hb); have BK285 := Aside0.mk (hbox); have GW285 := Aside0.mk ((by rw [hg]; exact (below_size bo) : w.heap.size ≤ gb285)); have GE285 := Aside0.mk ((by rw [hg]; exact (below_size bo) : w.heap.size ≤ gb285)); replace HB := Aside0.mk (below_step bo hb); clear hb hbox hg; obtain ⟨hcz14_0, hcz14_1, hcz14_2, hcz14_3, hcz14_4, hcz14_5⟩ := cl6 BK285.out; obtain ⟨hfz14_0, hfz14_1, hfz14_2, hfz14_3, hfz14_4, hfz14_5⟩ := fz6 BK285.out))
       go_ret3
       exact ⟨_, er, by (with_reducible repeat (first | apply Kd.R_alloc | apply Kd.R_drewN | apply Kd.R_drew)); exact Kd.R_mono (Kd.R_far (p := ⟨gb285, 5, none⟩) (Kd.R_far (p := ⟨gb285, 4, none⟩) (Kd.R_far (p := ⟨gb285, 3, none⟩) (Kd.R_far (p := ⟨gb285, 2, none⟩) (Kd.R_far (p := ⟨gb285, 1, none⟩) (Kd.R_far (p := ⟨gb285, 0, none⟩) (Kd.R_mono HO_5.out (fun k_ hk => (⟨hk, hk.2⟩ : _ ∧ k_ ≠ gb285))) (fun _ hk => hk.2) (.int .i64 t277)) (fun _ hk => hk.2) (.int .i64 t278)) (fun _ hk => hk.2) (.string t279)) (fun _ hk => hk.2) (.string t280)) (fun _ hk => hk.2) (.int .i64 t281)) (fun _ hk => hk.2) (.bool t282)) (fun _ hk => trivial), bo⟩
     ·rw [if_neg c4] at H
      exact absurd H (by simp)
    ·rw [if_neg c3] at H
     exact absurd H (by simp)
   ·rw [if_neg c2] at H
    have c2b0 : decide (x6_1 < (a0.size : Int)) = false := decide_eq_false c2
    clear c2
    simp only [Option.some.injEq, Prod.mk.injEq] at H
    obtain ⟨rfl, rfl, rfl⟩ := H
    go_wp2
    go_ret3
    exact ⟨_, er, by (with_reducible repeat (first | apply Kd.R_alloc | apply Kd.R_drewN | apply Kd.R_drew)); exact HO_5.out, bo⟩

end Go.Proofs.Ytmabdfdmccbfnaa.P

-- written by a program of the proving session, out of the translation; Lean checks it
namespace Go.Proofs.Ytmabdfdmccbfnaa.P
open Go.RowKit Go.Proofs.Ytmabdfdmccbfnaa.Sq Go.Proofs.YtmabdfdmccbfnaaW.PrintWords Go.Proofs.YtmabdfdmccbfnaaW.PrintLast Go.Proofs.YtmabdfdmccbfnaaW.PrintMore
attribute [local go_sem] max2_int min2_int max_two min_two max_three min_three max_four min_four   -- for this text's walks alone
set_option linter.unusedVariables false
set_option linter.unusedSimpArgs false

/-! ### fairwaylaw0_Recs: function 28 -/
def fairwaylaw0_Recs.l0 : Nat → List (S25) → Int → Option (Unit)
 | 0, _, _ => none
 | k + 1, x0, x2 => if x2 < (x0.length : Int) then (if 0 ≤ x2 then (fairwaylaw0_Recs.l0 k (x0.set (x2 : Int).toNat (⟨(-9), 0, (⟨#[]⟩ : ByteArray), (⟨#[]⟩ : ByteArray), 0, false⟩ : S25)) (wrap64 (x2 + 1))) else (none)) else (if x0.length < 2199023255552 then (some ()) else (none))
def fairwaylaw0_Recs.f (k : Nat) (l0 : List (S25)) : Option (Unit) := fairwaylaw0_Recs.l0 k l0 0
theorem fairwaylaw0_Recs.mono_l : ∀ k, (∀ y0 y1, LeO (fairwaylaw0_Recs.l0 k y0 y1) (fairwaylaw0_Recs.l0 (k + 1) y0 y1))
 | 0 => fun _ _ r h => by simp [fairwaylaw0_Recs.l0] at h
 | k + 1 => by
  have ih0 := fairwaylaw0_Recs.mono_l k
  ·intro y0 y1
   unfold fairwaylaw0_Recs.l0
   repeat' first
   | (with_reducible exact ih0 _ _)
   | (with_reducible exact LeO.refl _)
   | (with_reducible exact LeO.none _)
   | (with_reducible refine LeO.ite ?_ ?_)
   | (with_reducible refine LeO.bind ?_ (fun _ => ?_))
   | exact ih0 _ _
   | exact LeO.none _
   | refine LeO.ite ?_ ?_
   | refine LeO.bind ?_ (fun _ => ?_)
theorem fairwaylaw0_Recs.mono : ∀ a0 k, LeO (fairwaylaw0_Recs.f k a0) (fairwaylaw0_Recs.f (k + 1) a0) := by
 intro a0 k
 have ih0 := fairwaylaw0_Recs.mono_l k
 unfold fairwaylaw0_Recs.f
 repeat' first
  | (with_reducible exact ih0 _ _)
  | (with_reducible exact LeO.refl _)
  | (with_reducible exact LeO.none _)
  | (with_reducible refine LeO.ite ?_ ?_)
  | (with_reducible refine LeO.bind ?_ (fun _ => ?_))
  | exact ih0 _ _
  | exact LeO.none _
  | refine LeO.ite ?_ ?_
  | refine LeO.bind ?_ (fun _ => ?_)
set_option maxHeartbeats 8000000 in
set_option maxRecDepth 100000 in
theorem fairwaylaw0_Recs.calls (k : Nat) (P0_ : Nat → Prop) (u9000_ : Value) (l0 : List (S25)) (w0 w : World) (hB : Below w0.heap.size w0 w) (ho0 : Kd.R k25 25 w w0.heap.size P0_ u9000_ l0) (h : fairwaylaw0_Recs.f k l0 = some ()) :
 Calls Try.prog 28 #[u9000_] w fun e w' => e = .returned (.tuple #[]) ∧ Below w0.heap.size w0 w' ∧ Kept w w' (fun k_ => P0_ k_) := by
 have hu25 := Try.underlying25
 have HO0 := Aside0.mk (show Kd.R k25 25 w w0.heap.size (fun k_ => (P0_ k_ ∨ w.heap.size ≤ k_)) u9000_ l0 from Kd.R_mono ho0 (fun k_ hk => (.inl hk)))
 have HK := Aside0.mk (Kept.refl w (fun k_ => P0_ k_))
 have HW0 := Aside0.mk hB.size
 have HB := Aside0.mk hB
 clear hB
 have H : (fairwaylaw0_Recs.l0 k l0 0) = some () := h
 clear h
 have H' := Aside0.mk H
 clear H
 go_enter Try.func28, Try.ntmps28
 go_wp2
 go_loopg [2] k (fun kq v2 w' => ∃ (x0_1 : List (S25)) (x2_1 : Int), v2 = .int .i64 x2_1 ∧ Aside0 (fairwaylaw0_Recs.l0 kq x0_1 x2_1 = some ()) ∧ Aside0 (kq ≤ k) ∧ Aside0 (Kd.R k25 25 w' w0.heap.size (fun k_ => (P0_ k_ ∨ w.heap.size ≤ k_)) u9000_ x0_1) ∧ Aside0 (Kept w w' (fun k_ => P0_ k_)) ∧ Aside0 (Below w0.heap.size w0 w'))
 case atStart => exact ⟨(l0), (0), ap, H', ⟨Nat.le_refl _⟩, ⟨by (with_reducible repeat (first | apply Kd.R_alloc | apply Kd.R_drewN | apply Kd.R_drew)); exact HO0.out⟩, ⟨by repeat (first | (with_reducible first | exact HK.out | apply Kept.alloc | apply Kept.drewN | apply Kept.drew) | exact HK.out)⟩, ⟨bo⟩⟩
 case round =>
  clear H'
  obtain ⟨x0_1, x2_1, rfl, HA, HK1, HO_0, HK, HB⟩ := hrel
  cases gk with
  | zero => exact absurd HA.out (by simp [fairwaylaw0_Recs.l0])
  | succ k1 =>
   have H := HA.out
   clear HA
   simp only [fairwaylaw0_Recs.l0] at H
   by_cases c2 : x2_1 < (x0_1.length : Int)
   ·rw [if_pos c2] at H
    have c2b0 : decide (x2_1 < (x0_1.length : Int)) = true := decide_eq_true c2
    clear c2
    by_cases c3 : 0 ≤ x2_1
    ·rw [if_pos c3] at H
     have c3b0 : decide (0 ≤ x2_1) = true := decide_eq_true c3
     clear c3
     obtain ⟨y291, hy291⟩ : ∃ y_ : List (S25), y_ = (x0_1.set (x2_1 : Int).toNat (⟨(-9), 0, (⟨#[]⟩ : ByteArray), (⟨#[]⟩ : ByteArray), 0, false⟩ : S25)) := ⟨_, rfl⟩
     replace H : (fairwaylaw0_Recs.l0 k1 y291 (wrap64 (x2_1 + 1))) = some () := by first | (rw [hy291]; with_reducible exact H) | (have H2_ := (Option.bind_some _ _).symm.trans H; rw [hy291]; with_reducible exact H2_) | (have H2_ := (Option.bind_some _ _).symm.trans H; with_reducible exact H2_) | with_reducible exact H | (rw [hy291]; exact H) | exact H
     have Ny291 := Aside0.mk hy291
     clear hy291
     have H' := Aside0.mk H
     clear H
     obtain ⟨Ao5, co5, eo5⟩ := Kd.R_slice HO_0.out
     subst eo5
     have p4 : 0 ≤ (x2_1 : Int) := od
     have q4 : (x2_1 : Int) < ((x0_1.length : Int) : Int) := od
     obtain ⟨go4, co4, eo4, gb4, gl4, cl4, HG4⟩ := Kd.R_form HO_0.out (by omega)
     (first | cases eo4 | (injection eo4 with ea_ en_ ec_; (first | subst ea_ | (injection ea_ with ea_; subst ea_)); subst ec_; clear en_))
     have GB4 := Aside0.mk gb4
     have GG4 := Aside0.mk HG4
     clear gb4 gl4 HG4
     have HMgo4 := Aside0.mk (show (P0_ go4 ∨ w.heap.size ≤ go4) from (HO_0.out.1 _ rfl))
     obtain ⟨ce4, hcl4, hM4, hcc4, hfr4⟩ := Kd.R_elem HO_0.out z25 (x2_1 : Int) p4 q4
     obtain rfl := k25_openM hM4
     have hx4_0 : wr.cell? ⟨go4, (x2_1 : Int).toNat * 6, none⟩ = some (.int .i64 ((rd_T25 x0_1 x2_1).f0)) := hcc4 0 _ rfl
     have hx4_1 : wr.cell? ⟨go4, (x2_1 : Int).toNat * 6 + 1, none⟩ = some (.int .i64 ((rd_T25 x0_1 x2_1).f1)) := hcc4 1 _ rfl
     have hx4_2 : wr.cell? ⟨go4, (x2_1 : Int).toNat * 6 + 2, none⟩ = some (.string ((rd_T25 x0_1 x2_1).f2)) := hcc4 2 _ rfl
     have hx4_3 : wr.cell? ⟨go4, (x2_1 : Int).toNat * 6 + 3, none⟩ = some (.string ((rd_T25 x0_1 x2_1).f3)) := hcc4 3 _ rfl
     have hx4_4 : wr.cell? ⟨go4, (x2_1 : Int).toNat * 6 + 4, none⟩ = some (.int .i64 ((rd_T25 x0_1 x2_1).f4)) := hcc4 4 _ rfl
     have hx4_5 : wr.cell? ⟨go4, (x2_1 : Int).toNat * 6 + 5, none⟩ = some (.bool ((rd_T25 x0_1 x2_1).f5)) := hcc4 5 _ rfl
     have hf4_0 : wr.frozen? ⟨go4, (x2_1 : Int).toNat * 6, none⟩ = false := hfr4 0
     have hf4_1 : wr.frozen? ⟨go4, (x2_1 : Int).toNat * 6 + 1, none⟩ = false := hfr4 1
     have hf4_2 : wr.frozen? ⟨go4, (x2_1 : Int).toNat * 6 + 2, none⟩ = false := hfr4 2
     have hf4_3 : wr.frozen? ⟨go4, (x2_1 : Int).toNat * 6 + 3, none⟩ = false := hfr4 3
     have hf4_4 : wr.frozen? ⟨go4, (x2_1 : Int).toNat * 6 + 4, none⟩ = false := hfr4 4
     have hf4_5 : wr.frozen? ⟨go4, (x2_1 : Int).toNat * 6 + 5, none⟩ = false := hfr4 5
     clear hcl4 hcc4 hfr4 hM4
     replace p4 := eq_true p4
     replace q4 := eq_true q4
     have HX6 := Aside0.mk (show Kd.R k25 25 wr w0.heap.size (fun k_ => (P0_ k_ ∨ w.heap.size ≤ k_)) (.slice (some ⟨go4, 0, none⟩) x0_1.length co5) x0_1 from (rk HO_0.out))
     obtain ⟨ce6, hcl6, hM6, hcc6, hfr6⟩ := Kd.R_elem HX6.out z25 (x2_1 : Int) (od) (by have h_ : (x2_1 : Int) < ((x0_1.length : Int) : Int) := od; first | exact h_ | (have e_ := (Kd.R_reads' HO_0.out).1; omega) | simpa using h_)
     obtain rfl := k25_openM hM6
     have HP6 := Kd.R_seg HX6.out (x2_1 : Int) (od) (by have h_ : (x2_1 : Int) < ((x0_1.length : Int) : Int) := od; first | exact h_ | (have e_ := (Kd.R_reads' HO_0.out).1; omega) | simpa using h_) (seg := [.int .i64 (-9), .int .i64 0, .string (⟨#[]⟩ : ByteArray), .string (⟨#[]⟩ : ByteArray), .int .i64 0, .bool false]) (j := 0) hcl6 hcc6 (show 6 ≤ 6 from by decide) (x' := (⟨(-9), 0, (⟨#[]⟩ : ByteArray), (⟨#[]⟩ : ByteArray), 0, false⟩ : S25)) (k25_mkM _ _ _ (⟨(-9), 0, (⟨#[]⟩ : ByteArray), (⟨#[]⟩ : ByteArray), 0, false⟩ : S25) ) (fun _ hk => hk)
     have hx6_0 := hcc6 0 _ rfl
     (try simp only [show (k25).sz = 6 from rfl, Nat.mul_one, Nat.add_zero] at hx6_0)
     have hf6_0 := hfr6 0
     (try simp only [show (k25).sz = 6 from rfl, Nat.mul_one, Nat.add_zero] at hf6_0)
     have hx6_1 := hcc6 1 _ rfl
     (try simp only [show (k25).sz = 6 from rfl, Nat.mul_one, Nat.add_zero] at hx6_1)
     have hf6_1 := hfr6 1
     (try simp only [show (k25).sz = 6 from rfl, Nat.mul_one, Nat.add_zero] at hf6_1)
     have hx6_2 := hcc6 2 _ rfl
     (try simp only [show (k25).sz = 6 from rfl, Nat.mul_one, Nat.add_zero] at hx6_2)
     have hf6_2 := hfr6 2
     (try simp only [show (k25).sz = 6 from rfl, Nat.mul_one, Nat.add_zero] at hf6_2)
     have hx6_3 := hcc6 3 _ rfl
     (try simp only [show (k25).sz = 6 from rfl, Nat.mul_one, Nat.add_zero] at hx6_3)
     have hf6_3 := hfr6 3
     (try simp only [show (k25).sz = 6 from rfl, Nat.mul_one, Nat.add_zero] at hf6_3)
     have hx6_4 := hcc6 4 _ rfl
     (try simp only [show (k25).sz = 6 from rfl, Nat.mul_one, Nat.add_zero] at hx6_4)
     have hf6_4 := hfr6 4
     (try simp only [show (k25).sz = 6 from rfl, Nat.mul_one, Nat.add_zero] at hf6_4)
     have hx6_5 := hcc6 5 _ rfl
     (try simp only [show (k25).sz = 6 from rfl, Nat.mul_one, Nat.add_zero] at hx6_5)
     have hf6_5 := hfr6 5
     (try simp only [show (k25).sz = 6 from rfl, Nat.mul_one, Nat.add_zero] at hf6_5)
     clear hcl6 hcc6 hfr6 hM6
     go_wp2_with (first | ((with_reducible refine gate_store (t := 25) (p := 12) rfl ?_); refine store_event (t := 25) (p := 12) (v := ?vo_w7) (w1 := ((((((wr.setCell ⟨go4, (x2_1 : Int).toNat * 6, none⟩ (.int .i64 (-9))).setCell ⟨go4, (x2_1 : Int).toNat * 6 + 1, none⟩ (.int .i64 0)).setCell ⟨go4, (x2_1 : Int).toNat * 6 + 2, none⟩ (.string (⟨#[]⟩ : ByteArray))).setCell ⟨go4, (x2_1 : Int).toNat * 6 + 3, none⟩ (.string (⟨#[]⟩ : ByteArray))).setCell ⟨go4, (x2_1 : Int).toNat * 6 + 4, none⟩ (.int .i64 0)).setCell ⟨go4, (x2_1 : Int).toNat * 6 + 5, none⟩ (.bool false))) ?hg ?ho ?hn ?hr ?_; (case ho => rfl); (case hg => rfl); (case hn => rfl); (case hr => first | (go_simp; done) | (go_simp; rfl)); intro w7 hw; have hg : wr.grownBy w7 (some go4) := (by rw [hw]; exact HP6.2); have hp_ : Kd.R k25 25 w7 w0.heap.size (fun k_ => (P0_ k_ ∨ w.heap.size ≤ k_)) (.slice (some ⟨go4, 0, none⟩) x0_1.length co5) y291 := (by rw [hw, Ny291.out]; exact HP6.1); clear HP6; replace HB := Aside0.mk ((by rw [hw]; exact below_set (below_set (below_set (below_set (below_set (below_set (HB.out) GB4.out) GB4.out) GB4.out) GB4.out) GB4.out) GB4.out : Below w0.heap.size w0 w7)); replace HK := Aside0.mk (Kept.of_grown (S := (fun k_ => P0_ k_)) hg (by repeat (first | (with_reducible first | exact HK.out | apply Kept.alloc | apply Kept.drewN | apply Kept.drew) | exact HK.out)) (fun k_ e_ => (HO_0.out.1 k_ e_))); replace HO_0 := Aside0.mk (hp_); clear hg hw hp_))
     go_roundg k1
     case measure => have := HK1.out; omega
     case rel => exact ⟨(y291), (wrap64 (x2_1 + 1)), ap, H', ⟨by have := HK1.out; omega⟩, ⟨by (with_reducible repeat (first | apply Kd.R_alloc | apply Kd.R_drewN | apply Kd.R_drew)); exact HO_0.out⟩, ⟨by repeat (first | (with_reducible first | exact HK.out | apply Kept.alloc | apply Kept.drewN | apply Kept.drew) | exact HK.out)⟩, ⟨bo⟩⟩
    ·rw [if_neg c3] at H
     exact absurd H (by simp)
   ·rw [if_neg c2] at H
    have c2b0 : decide (x2_1 < (x0_1.length : Int)) = false := decide_eq_false c2
    clear c2
    by_cases c8 : x0_1.length < 2199023255552
    ·rw [if_pos c8] at H
     have LMc8 := Aside0.mk c8
     clear c8
     obtain ⟨y292, hy292⟩ : ∃ y_ : List (S25), y_ = (x0_1 ++ [(⟨0, 0, (⟨#[]⟩ : ByteArray), (⟨#[]⟩ : ByteArray), 0, false⟩ : S25)]) := ⟨_, rfl⟩
     replace H : (some ()) = some () := by first | (rw [hy292]; with_reducible exact H) | (have H2_ := (Option.bind_some _ _).symm.trans H; rw [hy292]; with_reducible exact H2_) | (have H2_ := (Option.bind_some _ _).symm.trans H; with_reducible exact H2_) | with_reducible exact H | (rw [hy292]; exact H) | exact H
     have Ny292 := Aside0.mk hy292
     clear hy292
     obtain ⟨Ao9, co9, eo9⟩ := Kd.R_slice HO_0.out
     subst eo9
     go_wp2_with (first | ((with_reducible refine gate_builtin (b := .append) (xs := #[.tmp 13, .tmp 15]) rfl ?_); at_builtin; refine Kd.R_append k25 (w0 := w0) w0.heap.size rfl (.tmp 13) (.tmp 15) 36 25 (.agg #[(.int .i64 0), (.int .i64 0), (.string ⟨#[]⟩), (.string ⟨#[]⟩), (.int .i64 0), (.bool false)]) 64 rfl Try.underlying36 info25 rfl (by decide) (by omega) (.slice Ao9 x0_1.length co9) x0_1 (⟨0, 0, (⟨#[]⟩ : ByteArray), (⟨#[]⟩ : ByteArray), 0, false⟩ : S25) [.int .i64 0, .int .i64 0, .string (⟨#[]⟩ : ByteArray), .string (⟨#[]⟩ : ByteArray), .int .i64 0, .bool false] (fun k_ => (P0_ k_ ∨ w.heap.size ≤ k_)) (fun _ => False) rfl rfl ?aP (fun _ hk => hk.elim) ?aF ?aO ?aB ?aS ?aL ?_; (case aP => exact k25_mkM _ _ _ (⟨0, 0, (⟨#[]⟩ : ByteArray), (⟨#[]⟩ : ByteArray), 0, false⟩ : S25)); (case aB => exact bo); (case aF => exact (fun k_ hk => (.inr (Nat.le_trans (by first | exact HK.out.1 | exact (show Kept w _ (fun k_ => P0_ k_) from by repeat (first | (with_reducible first | exact HK.out | apply Kept.alloc | apply Kept.drewN | apply Kept.drew) | exact HK.out)).1) hk)))); (case aO => exact (rk HO_0.out)); (case aS => exact (below_size bo)); (case aL => have := LMc8.out; omega); intro v293 w10 ho hb hg hat; rw [← Ny292.out] at ho; have n0_ := Aside0.mk (hb); have n1_ := Aside0.mk (Kept.of_grown (S := (fun k_ => P0_ k_)) hg (by repeat (first | (with_reducible first | exact HK.out | apply Kept.alloc | apply Kept.drewN | apply Kept.drew) | exact HK.out)) (fun k_ e_ => (HO_0.out.1 k_ e_))); have n2_ := Aside0.mk (ho); clear HB; clear HK; clear HO_0; have HB := n0_; have HK := n1_; have HO294 := n2_; clear n0_ n1_ n2_; clear ho hb hg hat))
     first | go_end0 | ((try simp only [Exit.inBlock, Exit.then]); refine bodyPost_ret (results_none rfl _ _ _) rfl ?_)
     exact ⟨er, bo, by repeat (first | (with_reducible first | exact HK.out | apply Kept.alloc | apply Kept.drewN | apply Kept.drew) | exact HK.out)⟩
    ·rw [if_neg c8] at H
     exact absurd H (by simp)

end Go.Proofs.Ytmabdfdmccbfnaa.P

/- Records behind each other in bytes: the program's reading and the page's are the same; records held against each other; records written over. -/
namespace Go.Proofs.Ytmabdfdmccbfnaa.UScan
open Go Go.RowKit Go.Proofs.Ytmabdfdmccbfnaa.P Go.Proofs.Ytmabdfdmccbfnaa.URec Go.Proofs.Ytmabdfdmccbfnaa.UTake Go.Proofs.Ytmabdfdmccbfnaa.UTk Go.Proofs.YtmabdfdmccbfnaaW.PrintWords Go.Proofs.YtmabdfdmccbfnaaW.PrintLast
set_option linter.unusedVariables false
set_option linter.unusedSimpArgs false
attribute [local irreducible] bt V ByteArray.extract keyLen rcOf bodyAt sumAt takeOk

theorem take_any (s : ByteArray) (hs : s.size ≤ 140737488351232) :
    (∃ (r : R) (n : Nat), 6 ≤ n ∧ n ≤ s.size ∧ Ev (fun k => rec_Take.f k s) (r.f0, r.f1, r.f2, r.f3, r.f4, r.f5, (n : Int), 0) ∧ Ev (fun k => fairwayref10_Take.f k s) (r.f0, r.f1, r.f2, r.f3, r.f4, r.f5, (n : Int), 0)) ∨
    (∃ e : Int, e ≠ 0 ∧ Ev (fun k => rec_Take.f k s) (0, 0, ⟨#[]⟩, ⟨#[]⟩, 0, false, 0, e) ∧ Ev (fun k => fairwayref10_Take.f k s) (0, 0, ⟨#[]⟩, ⟨#[]⟩, 0, false, 0, e)) := by
  by_cases h : s.size < 6 ∨ s.size - 6 < V s 2
  · obtain ⟨a, b⟩ := take_cut s hs h
    exact .inr ⟨7, by decide, a, b⟩
  · have h6 : 6 ≤ s.size := Nat.le_of_not_lt fun g => h (.inl g)
    have hv : V s 2 ≤ s.size - 6 := Nat.le_of_not_lt fun g => h (.inr g)
    obtain ⟨a1, a2⟩ := take_prog s hs h6 hv
    obtain ⟨b1, b2⟩ := take_ref s hs h6 hv
    by_cases g : takeOk s
    · refine .inl ⟨rcOf (bodyAt s), 6 + V s 2, Nat.le_add_right _ _, ?_, a1 g, b1 g⟩
      generalize V s 2 = v at *
      generalize s.size = n at *
      omega
    · exact .inr ⟨8, by decide, a2 g, b2 g⟩

theorem ar_add (n a m : Nat) (hn : n ≤ 140737488351232) (ha : a ≤ n) (hm : m ≤ n - a) : wrap64 ((a : Int) + (m : Int)) = ((a + m : Nat) : Int) := by
  rw [wrap_in (by omega) (by omega)]; omega
theorem scan_both (s : ByteArray) (hs : s.size ≤ 140737488351232) : ∀ (d a : Nat) (acc : List R), s.size - a ≤ d → a ≤ s.size → acc.length * 6 ≤ a → s.size < 13194139533312 →
    ∃ (l : List R) (te : Int) (all : Bool), l.length * 6 ≤ s.size ∧ Ev (fun k => rec_Scan.l0 k s acc a) (l, te, all) ∧ Ev (fun k => fairwayref10_Scan.l0 k s acc a) (l, te, all)
  | d, a, acc, hd, ha, hl, hb => by
    by_cases hlt : a < s.size
    · have e1 : (a : Int) < (s.size : Int) := Int.ofNat_lt.2 hlt
      have e2 : (0 : Int) ≤ (a : Int) := Int.natCast_nonneg a
      have e3 : (a : Int) ≤ (s.size : Int) := Int.ofNat_le.2 ha
      have hx := ext_size s a ha
      rcases take_any (s.extract a s.size) (by rw [hx]; exact Nat.le_trans (Nat.sub_le _ _) hs) with ⟨r, n, hn6, hn, t1, t2⟩ | ⟨e, he, t1, t2⟩
      · rw [hx] at hn
        have hw := ar_add s.size a n hs ha hn
        have hll : acc.length < 2199023255552 := by generalize s.size = z at *; omega
        match d with
        | 0 => exact absurd hd (by generalize s.size = z at *; omega)
        | d + 1 =>
          obtain ⟨l, te, all, h1, h2, h3⟩ := scan_both s hs d (a + n) (acc ++ [r]) (by generalize s.size = z at *; omega) (by generalize s.size = z at *; omega) (by rw [List.length_append, List.length_singleton]; generalize acc.length = z at *; omega) hb
          refine ⟨l, te, all, h1, Ev.step (fun k => by rw [rec_Scan.l0, if_pos e1, if_pos e2, if_pos e3, Int.toNat_natCast]) (Ev.bind t1 (Ev.congr (fun k => by rw [if_pos rfl, if_pos hll, hw]) h2)), Ev.step (fun k => by rw [fairwayref10_Scan.l0, if_pos e1, if_pos e2, if_pos e3, Int.toNat_natCast]) (Ev.bind t2 (Ev.congr (fun k => by rw [if_pos rfl, if_pos hll, hw]) h3))⟩
      · exact ⟨acc, a, false, Nat.le_trans hl ha, Ev.step (fun k => by rw [rec_Scan.l0, if_pos e1, if_pos e2, if_pos e3, Int.toNat_natCast]) (Ev.bind t1 (Ev.congr (fun k => if_neg he) (Ev.now _))), Ev.step (fun k => by rw [fairwayref10_Scan.l0, if_pos e1, if_pos e2, if_pos e3, Int.toNat_natCast]) (Ev.bind t2 (Ev.congr (fun k => if_neg he) (Ev.now _)))⟩
    · have e1 : ¬ (a : Int) < (s.size : Int) := fun g => hlt (Int.ofNat_lt.1 g)
      exact ⟨acc, a, true, Nat.le_trans hl ha, Ev.step (fun k => by rw [rec_Scan.l0, if_neg e1]) (Ev.now _), Ev.step (fun k => by rw [fairwayref10_Scan.l0, if_neg e1]) (Ev.now _)⟩
theorem scan_any (s : ByteArray) (hs : s.size < 13194139533312) :
    ∃ (l : List R) (te : Int) (all : Bool), l.length * 6 ≤ s.size ∧ Ev (fun k => rec_Scan.f k s) (l, te, all) ∧ Ev (fun k => fairwayref10_Scan.f k s) (l, te, all) :=
  scan_both s (Nat.le_of_lt (Nat.lt_trans hs (by decide))) s.size 0 [] (Nat.sub_le _ _) (Nat.zero_le _) (Nat.zero_le _) hs

/-! ### held against each other -/
theorem r_same (a : R) : (!(a.f0 == a.f0) || (!(a.f1 == a.f1) || (!(a.f2.toList == a.f2.toList) || (!(a.f3.toList == a.f3.toList) || (!(a.f4 == a.f4) || (!(a.f5 == a.f5))))))) = false := by simp
theorem ar_next (n i : Nat) (hn : n ≤ 9223372036854775806) (hi : i < n) : wrap64 ((i : Int) + 1) = ((i + 1 : Nat) : Int) := by
  rw [wrap_in (by omega) (by omega)]; omega
theorem eqrecs_loop (l : List R) (hm : l.length ≤ 9223372036854775806) : ∀ (d i : Nat), l.length = i + d → Ev (fun k => fairwayref0_EqRecs.l0 k l l i) true
  | 0, i, h => by
    refine Ev.step (fun k => by rw [fairwayref0_EqRecs.l0, if_neg (by omega)]) (Ev.now _)
  | d + 1, i, h => by
    have ih := eqrecs_loop l hm d (i + 1) (by omega)
    have hw := ar_next l.length i hm (by omega)
    exact Ev.step (fun k => by rw [fairwayref0_EqRecs.l0, if_pos (by omega), if_pos (by omega), if_pos (by omega), r_same, if_neg Bool.false_ne_true, hw]) ih
theorem eqrecs_same (l : List R) (hm : l.length ≤ 9223372036854775806) : Ev (fun k => fairwayref0_EqRecs.f k l l) true := by
  unfold fairwayref0_EqRecs.f
  exact Ev.congr (fun k => if_pos rfl) (eqrecs_loop l hm l.length 0 (by omega))
theorem over_loop : ∀ (d i : Nat) (l : List R), l.length < 2199023255552 → l.length = i + d → Ev (fun k => fairwaylaw0_Recs.l0 k l i) ()
  | 0, i, l, hm, h => Ev.step (fun k => by rw [fairwaylaw0_Recs.l0, if_neg (by omega), if_pos hm]) (Ev.now _)
  | d + 1, i, l, hm, h => by
    have ih := over_loop d (i + 1) (l.set ((i : Int)).toNat (⟨(-9), 0, (⟨#[]⟩ : ByteArray), (⟨#[]⟩ : ByteArray), 0, false⟩ : R)) (by rw [List.length_set]; exact hm) (by rw [List.length_set]; omega)
    have hw := ar_next l.length i (by omega) (by omega)
    exact Ev.step (fun k => by rw [fairwaylaw0_Recs.l0, if_pos (by omega), if_pos (by omega), hw]) ih
theorem over_ev (l : List R) (hm : l.length < 2199023255552) : Ev (fun k => fairwaylaw0_Recs.f k l) () := over_loop l.length 0 l hm (by omega)
end Go.Proofs.Ytmabdfdmccbfnaa.UScan

/- The pure law SegBack: a segment's bytes are parsed as it; cut off anywhere a beginning of it is told. -/
namespace Go.Proofs.Ytmabdfdmccbfnaa.Pure
open Go Go.RowKit Go.Proofs.Ytmabdfdmccbfnaa.P Go.Proofs.Ytmabdfdmccbfnaa.URec Go.Proofs.Ytmabdfdmccbfnaa.USeg Go.Proofs.Ytmabdfdmccbfnaa.UBytes Go.Proofs.Ytmabdfdmccbfnaa.UWith Go.Proofs.Ytmabdfdmccbfnaa.UText Go.Proofs.Ytmabdfdmccbfnaa.UCut Go.Proofs.Ytmabdfdmccbfnaa.UScan Go.Proofs.Ytmabdfdmccbfnaa.UHeavy Go.Proofs.YtmabdfdmccbfnaaW.PrintWords Go.Proofs.YtmabdfdmccbfnaaW.PrintLast
set_option linter.unusedVariables false
set_option linter.unusedSimpArgs false
attribute [local irreducible] cat recBytes
theorem wakes11_ev : Ev (fun k => fairwaylaw11_wakes.f k) true := Ev.of fairwaylaw11_wakes.mono (k := 30) (by decide +kernel)
theorem num11 (a : Int) : fairwaylaw11_num.f a = some a := rfl
theorem parse_all (base : Int) (l : List R) (h : segOk base l) (hs : lens l ≤ 1000000) : ∀ (d i : Nat), l.length = i + d → Ev (fun k => seg_Parse.l0 k base ((lens (l.take i) : Nat) : Int) l (l.length : Int) i base (l.take i)) (base, l, ((lens l : Nat) : Int), 0)
  | 0, i, hd => by
    rw [List.take_of_length_le (by omega)]
    exact Ev.step (fun k => by rw [seg_Parse.l0, if_neg (by omega)]) (Ev.now _)
  | d + 1, i, hd => by
    have hi : i < l.length := by omega
    have hl := h.2.2.1
    have hw := ar_i l.length i hl hi
    have p1 : (i : Int) < (l.length : Int) := by omega
    have p2 : 0 ≤ (i : Int) := by omega
    have ih := parse_all base l h hs d (i + 1) (by omega)
    have hsn := segOk_take base l h (i + 1)
    rw [take_snoc l i hi] at hsn ih
    obtain ⟨a1, a2⟩ := (segOk_snoc base _ _).1 hsn
    have hle : lens (l.take i) + recLen (rd_T25 l i) ≤ 1000000 := by
      have e : lens l = lens (l.take i ++ [rd_T25 l i]) + lens (l.drop (i + 1)) := by rw [← lens_app, ← take_snoc l i hi, List.take_append_drop]
      rw [lens_app] at e
      simp only [lens] at e
      omega
    have e2 : wrap64 (((lens (l.take i) : Nat) : Int) + (recLen (rd_T25 l i) : Int)) = ((lens (l.take i ++ [rd_T25 l i]) : Nat) : Int) := by
      rw [lens_app]
      simp only [lens, Nat.add_zero]
      generalize lens (l.take i) = x at *
      generalize recLen (rd_T25 l i) = y at *
      rw [wrap_in (by omega) (by omega)]; omega
    refine Ev.step (fun k => by rw [seg_Parse.l0, if_pos p1, if_pos p2, if_pos p1]) ?_
    refine Ev.bind (behind_yes base _ _ a2.1 a2.2.1 a2.2.2.1 a2.2.2.2) (Ev.congr (fun k => if_pos rfl) (Ev.bind (size_yes _ a2.1) ?_))
    exact Ev.congr (fun k => by rw [if_pos (by rw [List.length_take]; omega), e2, hw]) ih
theorem lens_take_le (l : List R) (j : Nat) : lens (l.take j) ≤ lens l := by
  have := lens_app (l.take j) (l.drop j)
  rw [List.take_append_drop] at this
  omega
theorem parse_cut (base : Int) (l : List R) (h : segOk base l) (hs : lens l ≤ 1000000) (n : Nat) (hn : n ≤ lens l) :
    ∃ j : Nat, j ≤ l.length ∧ lens (l.take j) ≤ n ∧ (n = lens l → j = l.length) ∧ Ev (fun k => seg_Parse.f k base ((cat ⟨#[]⟩ l).extract 0 n)) (base, l.take j, ((lens (l.take j) : Nat) : Int), 0) := by
  obtain ⟨j, all, j1, j2, j3, j5, j6, j4⟩ := scan_cut l (segOk_all h) (by have := h.2.2.1; omega) n hn hs
  refine ⟨j, j1, j2, j3, ?_⟩
  have h0 := h.1
  have h1 := h.2.1
  refine Ev.congr (fun k => by rw [seg_Parse.f, if_neg (by omega), decide_eq_false (by omega)]) ?_
  refine Ev.step (fun k => by rw [seg_Parse.j0, if_neg Bool.false_ne_true]) (Ev.bind j4 ?_)
  have := parse_all base (l.take j) (segOk_take base l h j) (Nat.le_trans (lens_take_le l j) hs) (l.take j).length 0 (by omega)
  simpa [lens] using this
theorem ar_b (z n : Nat) (hz : z ≤ 1000000) (hn : n ≤ z) : wrap64 ((z : Int) - (n : Int)) = ((z - n : Nat) : Int) ∧ wrap64 ((z : Int) / 30) = ((z / 30 : Nat) : Int) ∧ wrap64 (wrap64 ((n : Int) + 1) + ((z / 30 : Nat) : Int)) = ((n + 1 + z / 30 : Nat) : Int) := by
  have e : (z : Int) / 30 = ((z / 30 : Nat) : Int) := by omega
  refine ⟨?_, ?_, ?_⟩
  · rw [wrap_in (by omega) (by omega)]; omega
  · rw [wrap_in (by omega) (by omega)]; omega
  · rw [wrap_in (x := (n : Int) + 1) (by omega) (by omega), wrap_in (by omega) (by omega)]; omega
theorem ar_q (z n m j L : Nat) (hn : n ≤ z) (hm : m ≤ n) (hj : j ≤ L) (hL : L ≤ 200) : (0 : Int) ≤ (n : Int) ∧ (n : Int) ≤ (z : Int) ∧ ¬ (m : Int) > (n : Int) ∧ ¬ (j : Int) > (L : Int) ∧ 0 ≤ (j : Int) ∧ (j : Int) ≤ (L : Int) ∧ j ≤ 9223372036854775806 ∧ ((n : Int) = (z : Int) → n = z) ∧ min j L = j :=
  ⟨by omega, by omega, by omega, by omega, by omega, by omega, by omega, by omega, by omega⟩
attribute [local irreducible] lens
theorem sb_j4 (p : S55) (h : segOk p.f0.f0 p.f0.f1) (hs : lens p.f0.f1 ≤ 1000000) (n : Nat) (hn : n ≤ lens p.f0.f1) (hx : Ev (fun k => fairwaylaw11_SegBack.l0 k (cat ⟨#[]⟩ p.f0.f1) ((n + 1 + lens p.f0.f1 / 30 : Nat) : Int) p.f0.f0 p.f0.f1 p.f1 p.f2 p.f3) true) :
    Ev (fun k => fairwaylaw11_SegBack.j4 k (cat ⟨#[]⟩ p.f0.f1) n p.f0.f0 p.f0.f1 p.f1 p.f2 p.f3) true := by
  obtain ⟨j, j1, j2, j3, j4⟩ := parse_cut p.f0.f0 p.f0.f1 h hs n hn
  have hz : (cat ⟨#[]⟩ p.f0.f1).size = lens p.f0.f1 := cat0_size _
  obtain ⟨w1, w2, w3⟩ := ar_b (lens p.f0.f1) n hs hn
  have hl := h.2.2.1
  obtain ⟨p1, p2, p3, p4, p5, p6, p7, p8, p9⟩ := ar_q _ n _ j _ hn j2 j1 hl
  have hlt : (p.f0.f1.take j).length = j := by rw [List.length_take]; exact p9
  have j5 : Ev (fun k => fairwaylaw11_SegBack.j5 k (cat ⟨#[]⟩ p.f0.f1) n false p.f0.f0 p.f0.f1 p.f1 p.f2 p.f3) true :=
    Ev.step (fun k => by rw [fairwaylaw11_SegBack.j5, if_neg Bool.false_ne_true, hz, w2, w3]) hx
  refine Ev.step (fun k => by rw [fairwaylaw11_SegBack.j4, hz, if_pos p1, if_pos p2, Int.toNat_natCast]) (Ev.bind j4 ?_)
  simp only [num11, Option.bind_some]
  refine Ev.congr (fun k => by rw [if_pos trivial, if_neg p3, if_pos trivial, hlt, if_neg p4, if_pos p5, if_pos p6, Int.toNat_natCast]) (Ev.bind (eqrecs_same _ (by rw [hlt]; exact p7)) (Ev.congr (fun k => if_pos rfl) ?_))
  by_cases hne : (n : Int) = ((lens p.f0.f1 : Nat) : Int)
  · have hj := j3 (p8 hne)
    have e1 : ((lens (p.f0.f1.take j) : Nat) : Int) = (n : Int) := by rw [hj, List.take_length]; exact hne.symm
    have e2 : ((j : Int) != (p.f0.f1.length : Int)) = false := by rw [hj]; exact bne_self_eq_false _
    exact Ev.congr (fun k => by rw [if_pos hne, if_pos e1, e2]) j5
  · exact Ev.congr (fun k => if_neg hne) j5
theorem sb_loop (p : S55) (h : segOk p.f0.f0 p.f0.f1) (hs : lens p.f0.f1 ≤ 1000000) : ∀ (d n : Nat), lens p.f0.f1 + 1 ≤ n + d → Ev (fun k => fairwaylaw11_SegBack.l0 k (cat ⟨#[]⟩ p.f0.f1) n p.f0.f0 p.f0.f1 p.f1 p.f2 p.f3) true
  | d, n, hd => by
    have hz : (cat ⟨#[]⟩ p.f0.f1).size = lens p.f0.f1 := cat0_size _
    by_cases hn : n ≤ lens p.f0.f1
    · match d with
      | 0 => omega
      | d + 1 =>
        obtain ⟨w1, w2, w3⟩ := ar_b (lens p.f0.f1) n hs hn
        refine Ev.step (fun k => by rw [fairwaylaw11_SegBack.l0, hz, if_pos (by omega)]) ?_
        by_cases hc : ((lens p.f0.f1 - n : Nat) : Int) ≤ ((lens p.f0.f1 / 30 : Nat) : Int)
        · refine Ev.step (fun k => by rw [fairwaylaw11_SegBack.j3, hz, w1, w2, if_pos hc]) (sb_j4 p h hs _ (Nat.le_refl _) (sb_loop p h hs d _ (by omega)))
        · exact Ev.step (fun k => by rw [fairwaylaw11_SegBack.j3, hz, w1, w2, if_neg hc]) (sb_j4 p h hs n hn (sb_loop p h hs d _ (by omega)))
    · exact Ev.step (fun k => by rw [fairwaylaw11_SegBack.l0, hz, if_neg (by omega)]) (Ev.bind wakes11_ev (Ev.now _))
theorem lens_letters : ∀ l : List R, lens l = 25 * l.length + letters l
  | [] => by simp [lens, letters]
  | r :: l => by simp only [lens, letters, List.length_cons, lens_letters l]; unfold recLen; omega
theorem SegBack (p : S55) (hg : good55 p) : ∃ k, fairwaylaw11_SegBack.f k p.f0.f0 p.f0.f1 p.f1 p.f2 p.f3 = some true := by
  obtain ⟨⟨g0, g1, g2⟩, ⟨g3, g4⟩, ⟨g5, g6⟩, g7⟩ := hg
  obtain ⟨b, hb, hb2⟩ := heavy_ev p.f0.f0 p.f0.f1 p.f1 p.f2 p.f3 g1 g2 g3 g4
  refine Ev.rounds (r := true) ?_
  refine Ev.bind hb ?_
  cases b with
  | true => exact Ev.congr (fun k => if_pos rfl) (Ev.now _)
  | false =>
    obtain ⟨b1, b2, b3⟩ := hb2 rfl
    have hs : lens p.f0.f1 ≤ 1000000 := by rw [lens_letters]; omega
    refine Ev.congr (fun k => if_neg (by decide)) (Ev.step (fun k => by rw [fairwaylaw11_SegBack.j0]) ?_)
    by_cases h : segOk p.f0.f0 p.f0.f1
    · refine Ev.bind (text_yes _ _ h (lens_ok h)) ?_
      simp only [num11, Option.bind_some]
      refine Ev.congr (fun k => if_pos trivial) (Ev.step (f := fun k => fairwaylaw11_SegBack.l0 k (cat ⟨#[]⟩ p.f0.f1) ((0 : Nat) : Int) p.f0.f0 p.f0.f1 p.f1 p.f2 p.f3) (fun k => by rw [fairwaylaw11_SegBack.j1]; rfl) (sb_loop p h hs _ 0 (Nat.le_of_eq (Nat.zero_add _).symm)))
    · refine Ev.bind (text_no _ _ h) ?_
      simp only [num11, Option.bind_some]
      exact Ev.congr (fun k => if_neg (by decide)) (Ev.bind wakes11_ev (Ev.now _))
end Go.Proofs.Ytmabdfdmccbfnaa.Pure

/- SegBack: for every input of the row the law returns true, and the input reads afterwards as before. Conditions: none beside the row's own. -/
namespace Go.Proofs.Ytmabdfdmccbfnaa.segBack
open Go.ChangeShapes Go.WideShapes Go.ChangeAt Go.RowKit Go.Proofs.YtmabdfdmccbfnaaW.PrintWords Go.Proofs.Ytmabdfdmccbfnaa.Open Go.Proofs.Ytmabdfdmccbfnaa.P
set_option linter.unusedVariables false
theorem own : ownKnob Try.prog.godebug = none := by kernel_rfl
theorem laidOut : laidOutB Try.prog = true := by kernel_rfl
theorem openK55 {w : World} {x : S55} {cs : List Value} (h : k55.K w x cs) : ∃ (A1 : Option Addr) (c1 : Nat) (A2 : Option Addr) (c2 : Nat) (A3 : Option Addr) (c3 : Nat), cs = [.int .i64 x.f0.f0, .slice A1 x.f0.f1.length c1, .slice A2 x.f1.length c2, .slice A3 x.f2.length c3, .string x.f3] ∧ Kd.C k25 w A1 x.f0.f1.length x.f0.f1 ∧ x.f0.f1.length ≤ c1 ∧ Kd.C k25 w A2 x.f1.length x.f1 ∧ x.f1.length ≤ c2 ∧ Kd.C (Kd.int .i64) w A3 x.f2.length x.f2 ∧ x.f2.length ≤ c3 := by
  obtain ⟨_, _, rfl, ⟨_, _, rfl, rfl, ⟨A1, c1, rfl, hc1, hr1⟩⟩, ⟨_, _, rfl, ⟨A2, c2, rfl, hc2, hr2⟩, ⟨_, _, rfl, ⟨A3, c3, rfl, hc3, hr3⟩, rfl⟩⟩⟩ := h
  exact ⟨A1, c1, A2, c2, A3, c3, rfl, hr1, hc1, hr2, hc2, hr3, hc3⟩
theorem purely (p : S55) (hg : good55 p) : ∃ k, fairwaylaw11_SegBack.f k p.f0.f0 p.f0.f1 p.f1 p.f2 p.f3 = some true := Pure.SegBack p hg
set_option maxRecDepth 100000 in
theorem lifted (os : Os) (started : os.Started) (H : Type) (enc : TypeId × Value → H) :
    ReturnsInHanded {} Try.checked os 10 .any (Rows.segBackSpec.pre6 enc Try.prog Try.f10 Rows.segBackRow.domain false) (Rows.segBackSpec.post enc Try.prog Try.f10 false true false false) := by
  refine returnsInHanded_of_change_sized (C := Try.checked) own started (by kernel_rfl) Try.func10
    (ChangeSpec.witness6 (enc := enc) (C := Try.checked) false ⟨#[], #[.agg #[.int .i64 0, .slice none 0 0, .slice none 0 0, .slice none 0 0, .string ByteArray.empty]], []⟩ 8 (by kernel_rfl) (by kernel_rfl) (by kernel_rfl) (by kernel_rfl)) ?_
  intro W base args ds gs before hval0 hW hcnd hsz0 _
  have hsz : (DataW.weightsEach Try.prog (Try.f10.params.toList ++ Rows.segBackSpec.plain.varTypes Try.prog) (ds ++ gs)).all (· ≤ reachBytes) = true := hsz0
  have hval : ∀ (j : Nat) t v, Try.f10.params[j]? = some t → args[j]? = some v → Value.okWide Try.prog W .any base t v := hval0
  have hW' := hW
  obtain ⟨p_, q_, hA0, hV, rfl, hfz, hnd⟩ := hW
  have hA : DataW.TrodAll enc Try.prog W 0 (fun _ => true) true Try.f10.params.toList args.toList ds p_ := hA0
  rw [Try.params10] at hA hval hsz
  obtain ⟨v0, vs0, d0, ds0, p0, q0, hargs, rfl, rfl, h0, r0⟩ := trodAll_cons hA
  obtain ⟨rfl, rfl, rfl⟩ := trodAll_nil r0
  obtain rfl : args = #[v0] := by cases args; simp_all
  obtain ⟨rfl, rfl⟩ := trodVars_none hV
  obtain ⟨cs0, rfl, hsz0_⟩ := okWide_struct Try.underlying55 (hval 0 55 v0 rfl rfl)
  have k0 := h0
  have lt0 : ∀ x ∈ p0, x.block < W.heap.size := by obtain ⟨m, hm⟩ := k0; exact DataW.trod_lt m _ _ _ hm
  obtain ⟨p, hg0, A1, c1, A2, c2, A3, c3, rfl, hr1, hc1, hr2, hc2, hr3, hc3⟩ : ∃ p : S55, good55 p ∧ ∃ (A1 : Option Addr) (c1 : Nat) (A2 : Option Addr) (c2 : Nat) (A3 : Option Addr) (c3 : Nat), cs0 = #[.int .i64 p.f0.f0, .slice A1 p.f0.f1.length c1, .slice A2 p.f1.length c2, .slice A3 p.f2.length c3, .string p.f3] ∧ Kd.C k25 W A1 p.f0.f1.length p.f0.f1 ∧ p.f0.f1.length ≤ c1 ∧ Kd.C k25 W A2 p.f1.length p.f1 ∧ p.f1.length ≤ c2 ∧ Kd.C (Kd.int .i64) W A3 p.f2.length p.f2 ∧ p.f2.length ≤ c3 := by
    obtain ⟨fuel, hf⟩ := h0
    obtain ⟨x, hK, hg⟩ := rd55.rd enc W fuel _ _ _ hf (fun m hm => of_decide_eq_true (List.all_eq_true.1 hsz m (DataW.weights_mem_each (j := 0) rfl rfl m hm)))
    obtain ⟨A1, c1, A2, c2, A3, c3, hcs, hr1, hc1, hr2, hc2, hr3, hc3⟩ := openK55 hK
    refine ⟨x, hg, A1, c1, A2, c2, A3, c3, ?_, hr1, hc1, hr2, hc2, hr3, hc3⟩
    have e_ := congrArg List.toArray hcs
    simpa [Value.cells] using e_
  clear hA0 hval0 hsz0 hsz
  obtain ⟨k, h⟩ := purely p hg0
  refine (fairwaylaw11_SegBack.calls k p.f0.f0 A1 c1 p.f0.f1 A2 c2 p.f1 A3 c3 p.f2 p.f3 true W hr1 hc1 hr2 hc2 hr3 hc3 h).mono fun e W' ⟨he, bel0⟩ => ?_
  have bel : Below W.heap.size W W' := bel0
  subst he
  exact ⟨_, rfl, _, _, _, [], _, [], hW', trodAll_mk1 (shut_bool Try.underlying4 _), (trodAll_cons_mk (Below.trod laidOut (by kernel_rfl) (of_decide_eq_true (by kernel_rfl)) k0 bel lt0) trodAll_mk0), rfl, bel.frame _, fun h => by cases h⟩
theorem over : Rows.segBackRow.holds Try.pinned (OpenSpec.ofChange Rows.segBackSpec) :=
  OpenClaim.holds_of_wide 10 Try.f10 rfl rfl rfl rfl rfl rfl rfl ⟨rfl, rfl, rfl, rfl, rfl⟩ rfl rfl rfl rfl rfl (by kernel_rfl) Try.func10 (by kernel_rfl)
    (of_decide_eq_true (by kernel_rfl)) (by unfold Func.isWrapper; first | (rw [if_pos (by decide +kernel)]; kernel_rfl) | (rw [if_neg (by decide +kernel)]; exact ⟨rfl, rfl⟩))
    (fun os started H enc _ => lifted os started H enc)
theorem proved : Rows.SegBackSaid := over
#print axioms proved
end Go.Proofs.Ytmabdfdmccbfnaa.segBack
namespace Go.Proofs.Ytmabdfdmccbfnaa
theorem segBack_holds : Rows.SegBackSaid := segBack.proved
end Go.Proofs.Ytmabdfdmccbfnaa

