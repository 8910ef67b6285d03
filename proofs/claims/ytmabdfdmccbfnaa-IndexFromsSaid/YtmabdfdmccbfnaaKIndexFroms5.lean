/- The law IndexFroms: printed functions, their contracts, the plain laws and the row, part 5. -/
import Derived.Test.YtmabdfdmccbfnaaKIndexFroms2
import Derived.Test.YtmabdfdmccbfnaaKIndexFroms4
-- written by a program of the proving session, out of the translation; Lean checks it
namespace Go.Proofs.Ytmabdfdmccbfnaa.P
open Go.RowKit Go.Proofs.Ytmabdfdmccbfnaa.Sq Go.Proofs.YtmabdfdmccbfnaaW.PrintWords Go.Proofs.YtmabdfdmccbfnaaW.PrintLast Go.Proofs.YtmabdfdmccbfnaaW.PrintMore
attribute [local go_sem] max2_int min2_int max_two min_two max_three min_three max_four min_four   -- for this text's walks alone
set_option linter.unusedVariables false
set_option linter.unusedSimpArgs false

attribute [local go_sem high] eqA77
set_option maxHeartbeats 8000000 in
set_option maxRecDepth 100000 in
theorem fairwaylaw12_IndexFroms.calls (k : Nat) (a0_0 : Int) (A0_1 : Option Addr) (c0_1 : Nat) (l0_1 : List (S25)) (A0_2 : Option Addr) (c0_2 : Nat) (l0_2 : List (S25)) (A0_3 : Option Addr) (c0_3 : Nat) (l0_3 : List Int) (a0_4 : ByteArray) (r : Bool) (w : World) (hr0_1 : Kd.C k25 w A0_1 l0_1.length l0_1) (hc0_1 : l0_1.length ≤ c0_1) (hr0_2 : Kd.C k25 w A0_2 l0_2.length l0_2) (hc0_2 : l0_2.length ≤ c0_2) (hr0_3 : Kd.C (Kd.int .i64) w A0_3 l0_3.length l0_3) (hc0_3 : l0_3.length ≤ c0_3) (h : fairwaylaw12_IndexFroms.f k a0_0 l0_1 l0_2 l0_3 a0_4 = some r) :
 Calls Try.prog 11 #[.agg #[.int .i64 a0_0, .slice A0_1 l0_1.length c0_1, .slice A0_2 l0_2.length c0_2, .slice A0_3 l0_3.length c0_3, .string a0_4]] w fun e w' => e = .returned (.bool r) ∧ Below w.heap.size w w' := by
 have hu55 := Try.underlying55
 have hu77 := Try.underlying77
 have HR0_1 := Aside0.mk hr0_1
 have HC0_1 := Aside0.mk hc0_1
 clear hr0_1 hc0_1
 have HR0_2 := Aside0.mk hr0_2
 have HC0_2 := Aside0.mk hc0_2
 clear hr0_2 hc0_2
 have HR0_3 := Aside0.mk hr0_3
 have HC0_3 := Aside0.mk hc0_3
 clear hr0_3 hc0_3
 have HB := Aside0.mk (Below.refl w.heap.size w)
 have H : ((fairwaylaw11_Heavy.f k a0_0 l0_1 l0_2 l0_3 a0_4).bind fun t646 => (if t646 = true then (some true) else (fairwaylaw12_IndexFroms.l0 k ([] : List (S77)) 0 a0_0 l0_1 l0_2 l0_3 a0_4))) = some r := h
 clear h
 replace H := Option.bind_eq_some_iff.mp H
 obtain ⟨t646, A20, H⟩ := H
 try dsimp only at H
 have A2 := Aside0.mk A20
 clear A20
 by_cases c3 : t646 = true
 ·subst c3
  have H1 : (some true) = some r := by rw [if_pos rfl] at H; exact H
  clear H
  have H := H1
  clear H1
  obtain rfl := Option.some.inj H
  go_enter Try.func11, Try.ntmps11
  go_wp2_with (first | ((with_reducible refine gate_dst (N := 1) rfl ?_); refine box_event ?hg (N := 1) ?hd (cs := #[.int .i64 a0_0, .slice A0_1 l0_1.length c0_1, .slice A0_2 l0_2.length c0_2, .slice A0_3 l0_3.length c0_3, .string a0_4]) (t := 55) ?hr ?_; (case hd => rfl); (case hg => rfl); (case hr => first | (go_simp; done) | (go_simp; rfl)); intro gb645 hg w4 hbox hb; have BK645 := Aside0.mk (hbox); have GW645 := Aside0.mk ((by rw [hg]; exact (below_size bo) : w.heap.size ≤ gb645)); have GE645 := Aside0.mk ((by rw [hg]; exact (below_size bo) : w.heap.size ≤ gb645)); replace HB := Aside0.mk (below_step bo hb); clear hb hbox hg; obtain ⟨hcz5_0, hcz5_1, hcz5_2, hcz5_3, hcz5_4⟩ := cl5 BK645.out; obtain ⟨hfz5_0, hfz5_1, hfz5_2, hfz5_3, hfz5_4⟩ := fz5 BK645.out) | ((with_reducible refine gate_callee (f := 30) rfl ?_); refine goesL_ (some 13) rfl rfl Try.func30 (by kernel_rfl) rfl #[.agg #[.int .i64 a0_0, .slice A0_1 l0_1.length c0_1, .slice A0_2 l0_2.length c0_2, .slice A0_3 l0_3.length c0_3, .string a0_4]] rfl aa ?_; (with_reducible refine (fairwaylaw11_Heavy.calls k a0_0 _ _ l0_1 _ _ l0_2 _ _ l0_3 a0_4 true _ ?side1 ?side2 ?side3 ?side4 ?side5 ?side6 A2.out).mono ?_); (case side1 => repeat (first | exact (Kd.C_below HR0_1.out HB.out) | (with_reducible refine Kd.C_alloc ?_ _) | (with_reducible refine Kd.C_drewN ?_ _) | (with_reducible refine Kd.C_drew ?_))); (case side2 => exact HC0_1.out); (case side3 => repeat (first | exact (Kd.C_below HR0_2.out HB.out) | (with_reducible refine Kd.C_alloc ?_ _) | (with_reducible refine Kd.C_drewN ?_ _) | (with_reducible refine Kd.C_drew ?_))); (case side4 => exact HC0_2.out); (case side5 => repeat (first | exact (Kd.C_below HR0_3.out HB.out) | (with_reducible refine Kd.C_alloc ?_ _) | (with_reducible refine Kd.C_drewN ?_ _) | (with_reducible refine Kd.C_drew ?_))); (case side6 => exact HC0_3.out); rintro e w6 ⟨rfl, hb⟩; refine ⟨_, rfl, ?_⟩; replace BK645 := Aside0.mk (bb BK645.out hb); replace HB := Aside0.mk (below_step bo hb); (try clear hb); (try clear hb2); (try clear hk); (try clear hi)))
  go_ret
  exact ⟨er, bo⟩
 replace c3 := Bool.eq_false_iff.mpr c3
 subst c3
 have H1 : (fairwaylaw12_IndexFroms.l0 k ([] : List (S77)) 0 a0_0 l0_1 l0_2 l0_3 a0_4) = some r := by rw [if_neg (show ¬ (false = true) by decide)] at H; exact H
 clear H
 have H := H1
 clear H1
 have HC7 := Aside0.mk H
 clear H
 go_enter Try.func11, Try.ntmps11
 go_upto_block 0 with (first | ((with_reducible refine gate_dst (N := 1) rfl ?_); refine box_event ?hg (N := 1) ?hd (cs := #[.int .i64 a0_0, .slice A0_1 l0_1.length c0_1, .slice A0_2 l0_2.length c0_2, .slice A0_3 l0_3.length c0_3, .string a0_4]) (t := 55) ?hr ?_; (case hd => rfl); (case hg => rfl); (case hr => first | (go_simp; done) | (go_simp; rfl)); intro gb645 hg w8 hbox hb; have BK645 := Aside0.mk (hbox); have GW645 := Aside0.mk ((by rw [hg]; exact (below_size bo) : w.heap.size ≤ gb645)); have GE645 := Aside0.mk ((by rw [hg]; exact (below_size bo) : w.heap.size ≤ gb645)); replace HB := Aside0.mk (below_step bo hb); clear hb hbox hg; obtain ⟨hcz9_0, hcz9_1, hcz9_2, hcz9_3, hcz9_4⟩ := cl5 BK645.out; obtain ⟨hfz9_0, hfz9_1, hfz9_2, hfz9_3, hfz9_4⟩ := fz5 BK645.out) | ((with_reducible refine gate_callee (f := 30) rfl ?_); refine goesL_ (some 13) rfl rfl Try.func30 (by kernel_rfl) rfl #[.agg #[.int .i64 a0_0, .slice A0_1 l0_1.length c0_1, .slice A0_2 l0_2.length c0_2, .slice A0_3 l0_3.length c0_3, .string a0_4]] rfl aa ?_; (with_reducible refine (fairwaylaw11_Heavy.calls k a0_0 _ _ l0_1 _ _ l0_2 _ _ l0_3 a0_4 false _ ?side1 ?side2 ?side3 ?side4 ?side5 ?side6 A2.out).mono ?_); (case side1 => repeat (first | exact (Kd.C_below HR0_1.out HB.out) | (with_reducible refine Kd.C_alloc ?_ _) | (with_reducible refine Kd.C_drewN ?_ _) | (with_reducible refine Kd.C_drew ?_))); (case side2 => exact HC0_1.out); (case side3 => repeat (first | exact (Kd.C_below HR0_2.out HB.out) | (with_reducible refine Kd.C_alloc ?_ _) | (with_reducible refine Kd.C_drewN ?_ _) | (with_reducible refine Kd.C_drew ?_))); (case side4 => exact HC0_2.out); (case side5 => repeat (first | exact (Kd.C_below HR0_3.out HB.out) | (with_reducible refine Kd.C_alloc ?_ _) | (with_reducible refine Kd.C_drewN ?_ _) | (with_reducible refine Kd.C_drew ?_))); (case side6 => exact HC0_3.out); rintro e w10 ⟨rfl, hb⟩; refine ⟨_, rfl, ?_⟩; replace BK645 := Aside0.mk (bb BK645.out hb); replace HB := Aside0.mk (below_step bo hb); (try clear hb); (try clear hb2); (try clear hk); (try clear hi)))
 (try simp only [Act.put, List.setIfInBounds_toArray, List.set_cons_zero, List.set_cons_succ])
 go_cut [3] (fun v3 wc => ∃ (kq : Nat) (x3_6 : List (S77)), Aside0 (fairwaylaw12_IndexFroms.j1 kq x3_6 a0_0 l0_1 l0_2 l0_3 a0_4 = some r) ∧ Aside0 (kq ≤ k) ∧ Aside0 (Kd.R k77 77 wc w.heap.size (fun _ => True) v3 x3_6) ∧ Aside0 (wc.heap[gb645]? = some (.cells #[.int .i64 a0_0, (.slice A0_1 l0_1.length c0_1), (.slice A0_2 l0_2.length c0_2), (.slice A0_3 l0_3.length c0_3), .string a0_4] 55 (0, 0))) ∧ Aside0 (Below w.heap.size w wc))
 case first => as_aux_lemma =>
  have H := HC7.out
  clear HC7
  have H' := Aside0.mk H
  clear H
  go_wp2
  go_loopg [3, 4] k (fun kq v3 v4 w' => ∃ (x3_1 : List (S77)) (x4_1 : Int), v4 = .int .i64 x4_1 ∧ Aside0 (fairwaylaw12_IndexFroms.l0 kq x3_1 x4_1 a0_0 l0_1 l0_2 l0_3 a0_4 = some r) ∧ Aside0 (kq ≤ k) ∧ Aside0 (Kd.R k77 77 w' w.heap.size (fun _ => True) v3 x3_1) ∧ Aside0 (w'.heap[gb645]? = some (.cells #[.int .i64 a0_0, (.slice A0_1 l0_1.length c0_1), (.slice A0_2 l0_2.length c0_2), (.slice A0_3 l0_3.length c0_3), .string a0_4] 55 (0, 0))) ∧ Aside0 (Below w.heap.size w w'))
  case atStart => exact ⟨(([] : List (S77))), (0), ap, H', ⟨Nat.le_refl _⟩, ⟨by first | exact Kd.R_nil _ _ _ _ _ | exact Kd.N_nil _ _ _ _ _ | exact Kd.V_nil _ _ _ _ _ | exact Kd.Q_nil _ _ _ _ _ | exact Kd.S_nil _ _ _ _ _⟩, ⟨by (with_reducible repeat (first | refine blk_drewN ?_ _ | refine blk_drew ?_ | refine blk_alloc ?_ _)); exact BK645.out⟩, ⟨bo⟩⟩
  case round =>
   clear H'
   (try clear c1); (try clear p2); (try clear c3); (try clear hcz5_0); (try clear hcz5_1); (try clear hcz5_2); (try clear hcz5_3); (try clear hcz5_4); (try clear hcz9_0); (try clear hcz9_1); (try clear hcz9_2); (try clear hcz9_3); (try clear hcz9_4); (try clear hfz5_0); (try clear hfz5_1); (try clear hfz5_2); (try clear hfz5_3); (try clear hfz5_4); (try clear hfz9_0); (try clear hfz9_1); (try clear hfz9_2); (try clear hfz9_3); (try clear hfz9_4)
   obtain ⟨x3_1, x4_1, rfl, HA, HK1, HO_3, BK645, HB⟩ := hrel
   cases gk with
   | zero => exact absurd HA.out (by simp [fairwaylaw12_IndexFroms.l0])
   | succ k1 =>
    have H := HA.out
    clear HA
    simp only [fairwaylaw12_IndexFroms.l0] at H
    by_cases c11 : x4_1 < (l0_2.length : Int)
    rotate_left
    ·rw [if_neg c11] at H
     have c11b0 : decide (x4_1 < (l0_2.length : Int)) = false := decide_eq_false c11
     clear c11
     (first | rw [c11b0] | (simp only [i64_w, i32_w]; rw [c11b0]) | skip)
     have H' := Aside0.mk H
     clear H
     have hcz19_0 : wr.cell? ⟨gb645, 0, none⟩ = some (.int .i64 a0_0) := (blk_cell BK645.out 0).trans rfl
     have hcz19_1 : wr.cell? ⟨gb645, 1, none⟩ = some (.slice A0_1 l0_1.length c0_1) := (blk_cell BK645.out 1).trans rfl
     have hcz19_2 : wr.cell? ⟨gb645, 2, none⟩ = some (.slice A0_2 l0_2.length c0_2) := (blk_cell BK645.out 2).trans rfl
     have hcz19_3 : wr.cell? ⟨gb645, 3, none⟩ = some (.slice A0_3 l0_3.length c0_3) := (blk_cell BK645.out 3).trans rfl
     have hcz19_4 : wr.cell? ⟨gb645, 4, none⟩ = some (.string a0_4) := (blk_cell BK645.out 4).trans rfl
     have hfz19_0 := blk_frozen BK645.out 0
     have hfz19_1 := blk_frozen BK645.out 1
     have hfz19_2 := blk_frozen BK645.out 2
     have hfz19_3 := blk_frozen BK645.out 3
     have hfz19_4 := blk_frozen BK645.out 4
     go_wp2
     go_meet
     case rel => exact ⟨_, (x3_1), H', ⟨by have := HK1.out; first | omega | exact Nat.le_refl _⟩, ⟨by (with_reducible repeat (first | apply Kd.R_alloc | apply Kd.R_drewN | apply Kd.R_drew)); exact HO_3.out⟩, ⟨by (with_reducible repeat (first | refine blk_drewN ?_ _ | refine blk_drew ?_ | refine blk_alloc ?_ _)); exact BK645.out⟩, ⟨bo⟩⟩
    rw [if_pos c11] at H
    have c11b0 : decide (x4_1 < (l0_2.length : Int)) = true := decide_eq_true c11
    clear c11
    (first | rw [c11b0] | (simp only [i64_w, i32_w]; rw [c11b0]) | skip)
    by_cases c12 : x4_1 < 20
    rotate_left
    ·rw [if_neg c12] at H
     have c12b0 : decide (x4_1 < 20) = false := decide_eq_false c12
     clear c12
     have H' := Aside0.mk H
     clear H
     have hcz18_0 : wr.cell? ⟨gb645, 0, none⟩ = some (.int .i64 a0_0) := (blk_cell BK645.out 0).trans rfl
     have hcz18_1 : wr.cell? ⟨gb645, 1, none⟩ = some (.slice A0_1 l0_1.length c0_1) := (blk_cell BK645.out 1).trans rfl
     have hcz18_2 : wr.cell? ⟨gb645, 2, none⟩ = some (.slice A0_2 l0_2.length c0_2) := (blk_cell BK645.out 2).trans rfl
     have hcz18_3 : wr.cell? ⟨gb645, 3, none⟩ = some (.slice A0_3 l0_3.length c0_3) := (blk_cell BK645.out 3).trans rfl
     have hcz18_4 : wr.cell? ⟨gb645, 4, none⟩ = some (.string a0_4) := (blk_cell BK645.out 4).trans rfl
     have hfz18_0 := blk_frozen BK645.out 0
     have hfz18_1 := blk_frozen BK645.out 1
     have hfz18_2 := blk_frozen BK645.out 2
     have hfz18_3 := blk_frozen BK645.out 3
     have hfz18_4 := blk_frozen BK645.out 4
     go_wp2
     go_meet
     case rel => exact ⟨_, (x3_1), H', ⟨by have := HK1.out; first | omega | exact Nat.le_refl _⟩, ⟨by (with_reducible repeat (first | apply Kd.R_alloc | apply Kd.R_drewN | apply Kd.R_drew)); exact HO_3.out⟩, ⟨by (with_reducible repeat (first | refine blk_drewN ?_ _ | refine blk_drew ?_ | refine blk_alloc ?_ _)); exact BK645.out⟩, ⟨bo⟩⟩
    rw [if_pos c12] at H
    have c12b0 : decide (x4_1 < 20) = true := decide_eq_true c12
    clear c12
    by_cases c13 : 0 ≤ x4_1
    rotate_left
    ·rw [if_neg c13] at H
     exact absurd H (by simp)
    rw [if_pos c13] at H
    have c13b0 : decide (0 ≤ x4_1) = true := decide_eq_true c13
    clear c13
    by_cases c14 : x3_1.length < 8796093022208
    rotate_left
    ·rw [if_neg c14] at H
     exact absurd H (by simp)
    rw [if_pos c14] at H
    have LMc14 := Aside0.mk c14
    clear c14
    obtain ⟨y649, hy649⟩ : ∃ y_ : List (S77), y_ = (x3_1 ++ [(⟨(rd_T25 l0_2 x4_1).f0, (rd_T25 l0_2 x4_1).f1⟩ : S77)]) := ⟨_, rfl⟩
    replace H : (fairwaylaw12_IndexFroms.l0 k1 y649 (wrap64 (x4_1 + 1)) a0_0 l0_1 l0_2 l0_3 a0_4) = some r := by first | (rw [hy649]; with_reducible exact H) | (have H2_ := (Option.bind_some _ _).symm.trans H; rw [hy649]; with_reducible exact H2_) | (have H2_ := (Option.bind_some _ _).symm.trans H; with_reducible exact H2_) | with_reducible exact H | (rw [hy649]; exact H) | exact H
    have Ny649 := Aside0.mk hy649
    clear hy649
    have H' := Aside0.mk H
    clear H
    have hcz15_0 : wr.cell? ⟨gb645, 0, none⟩ = some (.int .i64 a0_0) := (blk_cell BK645.out 0).trans rfl
    have hcz15_1 : wr.cell? ⟨gb645, 1, none⟩ = some (.slice A0_1 l0_1.length c0_1) := (blk_cell BK645.out 1).trans rfl
    have hcz15_2 : wr.cell? ⟨gb645, 2, none⟩ = some (.slice A0_2 l0_2.length c0_2) := (blk_cell BK645.out 2).trans rfl
    have hcz15_3 : wr.cell? ⟨gb645, 3, none⟩ = some (.slice A0_3 l0_3.length c0_3) := (blk_cell BK645.out 3).trans rfl
    have hcz15_4 : wr.cell? ⟨gb645, 4, none⟩ = some (.string a0_4) := (blk_cell BK645.out 4).trans rfl
    have hfz15_0 := blk_frozen BK645.out 0
    have hfz15_1 := blk_frozen BK645.out 1
    have hfz15_2 := blk_frozen BK645.out 2
    have hfz15_3 := blk_frozen BK645.out 3
    have hfz15_4 := blk_frozen BK645.out 4
    try go_wp2
    replace HO_3 := Aside0.mk (Kd.R_drew HO_3.out)
    replace BK645 := Aside0.mk (blk_drew BK645.out)
    replace HB := Aside0.mk (below_drew1 HB.out)
    have p647 : 0 ≤ (x4_1 : Int) := od
    have q647 : x4_1 < (l0_2.length : Int) := od
    obtain ⟨ad647, e647, hx647_0, hx647_1, hx647_2, hx647_3, hx647_4, hx647_5⟩ := at_T25 HR0_2.out x4_1 p647 q647
    have hw647_5 := hx647_5
    have hw647_4 := hx647_4
    have hw647_3 := hx647_3
    have hw647_2 := hx647_2
    have hw647_1 := hx647_1
    have hw647_0 := hx647_0
    cases e647
    replace hx647_0 := cx HB.out hx647_0
    replace hx647_1 := cx HB.out hx647_1
    replace hx647_2 := cx HB.out hx647_2
    replace hx647_3 := cx HB.out hx647_3
    replace hx647_4 := cx HB.out hx647_4
    replace hx647_5 := cx HB.out hx647_5
    replace p647 := eq_true p647
    replace q647 := eq_true q647
    have p648 : 0 ≤ (x4_1 : Int) := od
    have q648 : x4_1 < (l0_2.length : Int) := od
    obtain ⟨ad648, e648, hx648_0, hx648_1, hx648_2, hx648_3, hx648_4, hx648_5⟩ := at_T25 HR0_2.out x4_1 p648 q648
    have hw648_5 := hx648_5
    have hw648_4 := hx648_4
    have hw648_3 := hx648_3
    have hw648_2 := hx648_2
    have hw648_1 := hx648_1
    have hw648_0 := hx648_0
    obtain rfl : ad647 = ad648 := (by injection e648)
    replace hx648_0 := cx HB.out hx648_0
    replace hx648_1 := cx HB.out hx648_1
    replace hx648_2 := cx HB.out hx648_2
    replace hx648_3 := cx HB.out hx648_3
    replace hx648_4 := cx HB.out hx648_4
    replace hx648_5 := cx HB.out hx648_5
    replace p648 := eq_true p648
    replace q648 := eq_true q648
    refine start_ (n := 17) (S := fun w' => w'.cell? ⟨gb645, 0, none⟩ = some (.int .i64 a0_0) ∧ w'.cell? ⟨gb645, 1, none⟩ = some (.slice A0_1 l0_1.length c0_1) ∧ w'.cell? ⟨gb645, 2, none⟩ = some (.slice (some ad647) l0_2.length c0_2) ∧ w'.cell? ⟨gb645, 3, none⟩ = some (.slice A0_3 l0_3.length c0_3) ∧ w'.cell? ⟨gb645, 4, none⟩ = some (.string a0_4) ∧ w'.cell? (ad647.add ((x4_1).toNat * 6)) = some (.int .i64 ((rd_T25 l0_2 x4_1).f0)) ∧ w'.cell? ⟨(ad647.add ((x4_1).toNat * 6)).block, (ad647.add ((x4_1).toNat * 6)).off + 1, none⟩ = some (.int .i64 ((rd_T25 l0_2 x4_1).f1)) ∧ w'.cell? ⟨(ad647.add ((x4_1).toNat * 6)).block, (ad647.add ((x4_1).toNat * 6)).off + 2, none⟩ = some (.string ((rd_T25 l0_2 x4_1).f2)) ∧ w'.cell? ⟨(ad647.add ((x4_1).toNat * 6)).block, (ad647.add ((x4_1).toNat * 6)).off + 3, none⟩ = some (.string ((rd_T25 l0_2 x4_1).f3)) ∧ w'.cell? ⟨(ad647.add ((x4_1).toNat * 6)).block, (ad647.add ((x4_1).toNat * 6)).off + 4, none⟩ = some (.int .i64 ((rd_T25 l0_2 x4_1).f4)) ∧ w'.cell? ⟨(ad647.add ((x4_1).toNat * 6)).block, (ad647.add ((x4_1).toNat * 6)).off + 5, none⟩ = some (.bool ((rd_T25 l0_2 x4_1).f5)) ∧ w'.cell? (ad647.add ((x4_1).toNat * 6)) = some (.int .i64 ((rd_T25 l0_2 x4_1).f0)) ∧ w'.cell? ⟨(ad647.add ((x4_1).toNat * 6)).block, (ad647.add ((x4_1).toNat * 6)).off + 1, none⟩ = some (.int .i64 ((rd_T25 l0_2 x4_1).f1)) ∧ w'.cell? ⟨(ad647.add ((x4_1).toNat * 6)).block, (ad647.add ((x4_1).toNat * 6)).off + 2, none⟩ = some (.string ((rd_T25 l0_2 x4_1).f2)) ∧ w'.cell? ⟨(ad647.add ((x4_1).toNat * 6)).block, (ad647.add ((x4_1).toNat * 6)).off + 3, none⟩ = some (.string ((rd_T25 l0_2 x4_1).f3)) ∧ w'.cell? ⟨(ad647.add ((x4_1).toNat * 6)).block, (ad647.add ((x4_1).toNat * 6)).off + 4, none⟩ = some (.int .i64 ((rd_T25 l0_2 x4_1).f4)) ∧ w'.cell? ⟨(ad647.add ((x4_1).toNat * 6)).block, (ad647.add ((x4_1).toNat * 6)).off + 5, none⟩ = some (.bool ((rd_T25 l0_2 x4_1).f5))) (ds := []) #[O,O,O,O,O,O,O,O,O,O,O,O,O,O,O,O,O] (by kernel_rfl) rfl rfl ⟨(blk_cell BK645.out 0).trans rfl, (blk_cell BK645.out 1).trans rfl, (blk_cell BK645.out 2).trans rfl, (blk_cell BK645.out 3).trans rfl, (blk_cell BK645.out 4).trans rfl, (cx HB.out hw647_0 :), (cx HB.out hw647_1 :), (cx HB.out hw647_2 :), (cx HB.out hw647_3 :), (cx HB.out hw647_4 :), (cx HB.out hw647_5 :), (cx HB.out hw648_0 :), (cx HB.out hw648_1 :), (cx HB.out hw648_2 :), (cx HB.out hw648_3 :), (cx HB.out hw648_4 :), (cx HB.out hw648_5 :)⟩ (fun hHeld => ?_); refine with_tabW fairwaylaw12_IndexFroms.tab7 fairwaylaw12_IndexFroms.bits7 (fun HT_ HW_ => ?_)
    generalize wr.drew = w16 at HO_3 BK645 HB hx647_0 hx647_1 hx647_2 hx647_3 hx647_4 hx647_5 hx648_0 hx648_1 hx648_2 hx648_3 hx648_4 hx648_5 hHeld ⊢
    refine pz (i := 0) (N := some 25) #[I,O,O,O,O,O,O,O,O,O,O,O,O,O,O,O,O] ?_
    refine pz (i := 1) (N := some 26) #[I,I,O,O,O,O,O,O,O,O,O,O,O,O,O,O,O] ?_
    refine pz (i := 3) (N := some 28) #[I,I,O,I,O,O,O,O,O,O,O,O,O,O,O,O,O] ?_
    refine pz (i := 7) (N := some 32) #[I,I,O,I,O,O,O,I,O,O,O,O,O,O,O,O,O] ?_
    refine pz (i := 9) (N := some 34) #[I,I,O,I,O,O,O,I,O,I,O,O,O,O,O,O,O] ?_
    refine tz (i := 2) (N := some 27) #[I,I,I,I,O,O,O,I,O,I,O,O,O,O,O,O,O] ?_
    refine pz (i := 4) (N := some 29) #[I,I,I,I,I,O,O,I,O,I,O,O,O,O,O,O,O] ?_
    refine pz (i := 5) (N := some 30) #[I,I,I,I,I,I,O,I,O,I,O,O,O,O,O,O,O] ?_
    refine tz (i := 6) (N := some 31) #[I,I,I,I,I,I,I,I,O,I,O,O,O,O,O,O,O] ?_
    refine tz (i := 8) (N := some 33) #[I,I,I,I,I,I,I,I,I,I,O,O,O,O,O,O,O] ?_
    refine pz (i := 10) (N := some 35) #[I,I,I,I,I,I,I,I,I,I,I,O,O,O,O,O,O] ?_
    refine pz (i := 11) (N := some 36) #[I,I,I,I,I,I,I,I,I,I,I,I,O,O,O,O,O] ?_
    refine tz (i := 12) (N := some 37) #[I,I,I,I,I,I,I,I,I,I,I,I,I,O,O,O,O] ?_
    refine pz (i := 13) (N := some 38) #[I,I,I,I,I,I,I,I,I,I,I,I,I,I,O,O,O] ?_
    refine one_ (i := 14) (N := some 39) #[I,I,I,I,I,I,I,I,I,I,I,I,I,I,I,O,O] rfl rfl (one_of HT_.out (by kernel_rfl)) (by decide) (fun K hK => ?_)
    refine value_ (w1 := ?_) (v := ?_) (by rfl) rfl ?_ ?_
    rotate_left 2
    ·go_simp
     constructor
     ·rfl
     rfl
    refine hK.out _ _ ⟨(blk_cell (blk_alloc BK645.out _) 0).trans rfl, (blk_cell (blk_alloc BK645.out _) 1).trans rfl, (blk_cell (blk_alloc BK645.out _) 2).trans rfl, (blk_cell (blk_alloc BK645.out _) 3).trans rfl, (blk_cell (blk_alloc BK645.out _) 4).trans rfl, (World.cell?_alloc_lt _ _ _ (World.block_lt_of_cell? _ _ ((cx HB.out hw647_0 :)))).trans ((cx HB.out hw647_0 :)), (World.cell?_alloc_lt _ _ _ (World.block_lt_of_cell? _ _ ((cx HB.out hw647_1 :)))).trans ((cx HB.out hw647_1 :)), (World.cell?_alloc_lt _ _ _ (World.block_lt_of_cell? _ _ ((cx HB.out hw647_2 :)))).trans ((cx HB.out hw647_2 :)), (World.cell?_alloc_lt _ _ _ (World.block_lt_of_cell? _ _ ((cx HB.out hw647_3 :)))).trans ((cx HB.out hw647_3 :)), (World.cell?_alloc_lt _ _ _ (World.block_lt_of_cell? _ _ ((cx HB.out hw647_4 :)))).trans ((cx HB.out hw647_4 :)), (World.cell?_alloc_lt _ _ _ (World.block_lt_of_cell? _ _ ((cx HB.out hw647_5 :)))).trans ((cx HB.out hw647_5 :)), (World.cell?_alloc_lt _ _ _ (World.block_lt_of_cell? _ _ ((cx HB.out hw648_0 :)))).trans ((cx HB.out hw648_0 :)), (World.cell?_alloc_lt _ _ _ (World.block_lt_of_cell? _ _ ((cx HB.out hw648_1 :)))).trans ((cx HB.out hw648_1 :)), (World.cell?_alloc_lt _ _ _ (World.block_lt_of_cell? _ _ ((cx HB.out hw648_2 :)))).trans ((cx HB.out hw648_2 :)), (World.cell?_alloc_lt _ _ _ (World.block_lt_of_cell? _ _ ((cx HB.out hw648_3 :)))).trans ((cx HB.out hw648_3 :)), (World.cell?_alloc_lt _ _ _ (World.block_lt_of_cell? _ _ ((cx HB.out hw648_4 :)))).trans ((cx HB.out hw648_4 :)), (World.cell?_alloc_lt _ _ _ (World.block_lt_of_cell? _ _ ((cx HB.out hw648_5 :)))).trans ((cx HB.out hw648_5 :))⟩ (fun hHeld => ?_)
    clear hK K
    refine nz (N := (some 39)) ?_
    refine one_ (i := 15) (N := some 40) #[I,I,I,I,I,I,I,I,I,I,I,I,I,I,I,I,O] rfl rfl (one_of HT_.out (by kernel_rfl)) (by decide) (fun K hK => ?_)
    refine Kd.R_append_step k77 (w0 := w) w.heap.size (by rfl) (.tmp 25) (.tmp 39) 75 77 (.agg #[(.int .i64 0), (.int .i64 0)]) 16 rfl Try.underlying75 info77 rfl (by decide) (by omega) u3 x3_1 (⟨(rd_T25 l0_2 x4_1).f0, (rd_T25 l0_2 x4_1).f1⟩ : S77) [.int .i64 ((rd_T25 l0_2 x4_1).f0), .int .i64 ((rd_T25 l0_2 x4_1).f1)] (fun _ => True) (fun _ => False) rfl rfl ?aP (fun _ hk => hk.elim) ?aF ?aO ?aB ?aS ?aL ?_
    (case aP => exact k77_mkM _ _ _ (⟨(rd_T25 l0_2 x4_1).f0, (rd_T25 l0_2 x4_1).f1⟩ : S77))
    (case aB => exact bo)
    (case aF => exact (fun _ _ => trivial))
    (case aO => exact (rk HO_3.out))
    (case aS => exact (below_size bo))
    (case aL => have := LMc14.out; omega)
    intro v650 w17 ho hb hg hat
    rw [← Ny649.out] at ho
    have n0_ := Aside0.mk (blk_grown (g := gb645) (o := .cells #[.int .i64 a0_0, .slice A0_1 l0_1.length c0_1, .slice (some ad647) l0_2.length c0_2, .slice A0_3 l0_3.length c0_3, .string a0_4] 55 (0, 0)) (bk BK645.out) hg (Kd.R_ne HO_3.out BK645.out (by decide)))
    have n1_ := Aside0.mk (hb)
    have n2_ := Aside0.mk (ho)
    clear BK645
    clear HB
    clear HO_3
    have BK645 := n0_
    have HB := n1_
    have HO651 := n2_
    clear n0_ n1_ n2_
    clear ho hb hg hat
    refine hK.out _ _ ⟨(blk_cell BK645.out 0).trans rfl, (blk_cell BK645.out 1).trans rfl, (blk_cell BK645.out 2).trans rfl, (blk_cell BK645.out 3).trans rfl, (blk_cell BK645.out 4).trans rfl, (cx HB.out hw647_0 :), (cx HB.out hw647_1 :), (cx HB.out hw647_2 :), (cx HB.out hw647_3 :), (cx HB.out hw647_4 :), (cx HB.out hw647_5 :), (cx HB.out hw648_0 :), (cx HB.out hw648_1 :), (cx HB.out hw648_2 :), (cx HB.out hw648_3 :), (cx HB.out hw648_4 :), (cx HB.out hw648_5 :)⟩ (fun hHeld => ?_)
    clear hK K
    refine nz (N := (some 40)) ?_
    refine pz (i := 16) (N := some 3) #[I,I,I,I,I,I,I,I,I,I,I,I,I,I,I,I,I] ?_
    refine done_ (done_of HT_.out (by kernel_rfl)) ?_
    try go_wp2
    go_roundg k1
    case measure => have := HK1.out; omega
    case rel => exact ⟨(y649), (wrap64 (x4_1 + 1)), ap, H', ⟨by have := HK1.out; omega⟩, ⟨by (with_reducible repeat (first | apply Kd.R_alloc | apply Kd.R_drewN | apply Kd.R_drew)); exact HO651.out⟩, ⟨by (with_reducible repeat (first | refine blk_drewN ?_ _ | refine blk_drew ?_ | refine blk_alloc ?_ _)); exact BK645.out⟩, ⟨bo⟩⟩
 case rest => as_aux_lemma =>
  clear HC7
  (try clear c1); (try clear p2); (try clear c3); (try clear p6); (try clear q6); (try clear hx6); (try clear c11); (try clear c11b0); (try clear c12); (try clear c12b0); (try clear c13); (try clear c13b0); (try clear c14); (try clear hcz15_0); (try clear hcz15_1); (try clear hcz15_2); (try clear hcz15_3); (try clear hcz15_4); (try clear hcz18_0); (try clear hcz18_1); (try clear hcz18_2); (try clear hcz18_3); (try clear hcz18_4); (try clear hcz19_0); (try clear hcz19_1); (try clear hcz19_2); (try clear hcz19_3); (try clear hcz19_4); (try clear hcz5_0); (try clear hcz5_1); (try clear hcz5_2); (try clear hcz5_3); (try clear hcz5_4); (try clear hcz9_0); (try clear hcz9_1); (try clear hcz9_2); (try clear hcz9_3); (try clear hcz9_4); (try clear hfz15_0); (try clear hfz15_1); (try clear hfz15_2); (try clear hfz15_3); (try clear hfz15_4); (try clear hfz18_0); (try clear hfz18_1); (try clear hfz18_2); (try clear hfz18_3); (try clear hfz18_4); (try clear hfz19_0); (try clear hfz19_1); (try clear hfz19_2); (try clear hfz19_3); (try clear hfz19_4); (try clear hfz5_0); (try clear hfz5_1); (try clear hfz5_2); (try clear hfz5_3); (try clear hfz5_4); (try clear hfz9_0); (try clear hfz9_1); (try clear hfz9_2); (try clear hfz9_3); (try clear hfz9_4); (try clear hx647_0); (try clear hx647_1); (try clear hx647_2); (try clear hx647_3); (try clear hx647_4); (try clear hx647_5); (try clear hx648_0); (try clear hx648_1); (try clear hx648_2); (try clear hx648_3); (try clear hx648_4); (try clear hx648_5); (try clear p2); (try clear p647); (try clear p648); (try clear q647); (try clear q648)
  obtain ⟨kq, x3_6, HA, HJ6, HO_3, BK645, HB⟩ := hcut
  cases kq with
  | zero => exact absurd HA.out (by simp [fairwaylaw12_IndexFroms.j1])
  | succ kj6 =>
   have H := HA.out
   clear HA
   simp only [fairwaylaw12_IndexFroms.j1] at H
   have H' := Aside0.mk H
   clear H
   go_wp2
   go_loopg [5] kj6 (fun kq v5 w' => ∃ (x5_2 : Int), v5 = .int .i64 x5_2 ∧ Aside0 (fairwaylaw12_IndexFroms.l1 kq x3_6 x5_2 a0_0 l0_1 l0_2 l0_3 a0_4 = some r) ∧ Aside0 (kq ≤ kj6) ∧ Aside0 (Kd.R k77 77 w' w.heap.size (fun _ => True) u3 x3_6) ∧ Aside0 (w'.heap[gb645]? = some (.cells #[.int .i64 a0_0, (.slice A0_1 l0_1.length c0_1), (.slice A0_2 l0_2.length c0_2), (.slice A0_3 l0_3.length c0_3), .string a0_4] 55 (0, 0))) ∧ Aside0 (Below w.heap.size w w'))
   case atStart => exact ⟨(0), ap, H', ⟨Nat.le_refl _⟩, ⟨by (with_reducible repeat (first | apply Kd.R_alloc | apply Kd.R_drewN | apply Kd.R_drew)); exact HO_3.out⟩, ⟨by (with_reducible repeat (first | refine blk_drewN ?_ _ | refine blk_drew ?_ | refine blk_alloc ?_ _)); exact BK645.out⟩, ⟨bo⟩⟩
   case round =>
    clear H'
    (try clear c1); (try clear p2); (try clear c3); (try clear p6); (try clear q6); (try clear hx6); (try clear c11); (try clear c11b0); (try clear c12); (try clear c12b0); (try clear c13); (try clear c13b0); (try clear c14); (try clear hcz15_0); (try clear hcz15_1); (try clear hcz15_2); (try clear hcz15_3); (try clear hcz15_4); (try clear hcz18_0); (try clear hcz18_1); (try clear hcz18_2); (try clear hcz18_3); (try clear hcz18_4); (try clear hcz19_0); (try clear hcz19_1); (try clear hcz19_2); (try clear hcz19_3); (try clear hcz19_4); (try clear hcz5_0); (try clear hcz5_1); (try clear hcz5_2); (try clear hcz5_3); (try clear hcz5_4); (try clear hcz9_0); (try clear hcz9_1); (try clear hcz9_2); (try clear hcz9_3); (try clear hcz9_4); (try clear hfz15_0); (try clear hfz15_1); (try clear hfz15_2); (try clear hfz15_3); (try clear hfz15_4); (try clear hfz18_0); (try clear hfz18_1); (try clear hfz18_2); (try clear hfz18_3); (try clear hfz18_4); (try clear hfz19_0); (try clear hfz19_1); (try clear hfz19_2); (try clear hfz19_3); (try clear hfz19_4); (try clear hfz5_0); (try clear hfz5_1); (try clear hfz5_2); (try clear hfz5_3); (try clear hfz5_4); (try clear hfz9_0); (try clear hfz9_1); (try clear hfz9_2); (try clear hfz9_3); (try clear hfz9_4); (try clear hx647_0); (try clear hx647_1); (try clear hx647_2); (try clear hx647_3); (try clear hx647_4); (try clear hx647_5); (try clear hx648_0); (try clear hx648_1); (try clear hx648_2); (try clear hx648_3); (try clear hx648_4); (try clear hx648_5); (try clear p2); (try clear p6); (try clear p647); (try clear p648); (try clear q6); (try clear q647); (try clear q648)
    obtain ⟨x5_2, rfl, HA, HK2, HO_3, BK645, HB⟩ := hrel
    cases gk with
    | zero => exact absurd HA.out (by simp [fairwaylaw12_IndexFroms.l1])
    | succ k2 =>
     have H := HA.out
     clear HA
     simp only [fairwaylaw12_IndexFroms.l1] at H
     have HC20 := Aside0.mk H
     clear H
     go_upto_region 9 with (fail)
     go_cut [49] (fun v49 wc => ∃ (kq : Nat) (x49_19 : Bool), v49 = .bool x49_19 ∧ Aside0 (fairwaylaw12_IndexFroms.j3 kq x3_6 x5_2 x49_19 a0_0 l0_1 l0_2 l0_3 a0_4 = some r) ∧ Aside0 (kq ≤ k2) ∧ Aside0 (Kd.R k77 77 wc w.heap.size (fun _ => True) u3 x3_6) ∧ Aside0 (wc.heap[gb645]? = some (.cells #[.int .i64 a0_0, (.slice A0_1 l0_1.length c0_1), (.slice A0_2 l0_2.length c0_2), (.slice A0_3 l0_3.length c0_3), .string a0_4] 55 (0, 0))) ∧ Aside0 (Below w.heap.size w wc))
     case first => as_aux_lemma =>
      have H := HC20.out
      clear HC20
      by_cases c21 : x5_2 < (l0_3.length : Int)
      ·rw [if_pos c21] at H
       have c21b0 : decide (x5_2 < (l0_3.length : Int)) = true := decide_eq_true c21
       clear c21
       (first | rw [c21b0] | (simp only [i64_w, i32_w]; rw [c21b0]) | skip)
       have H' := Aside0.mk H
       clear H
       have hcz22_0 : wr.cell? ⟨gb645, 0, none⟩ = some (.int .i64 a0_0) := (blk_cell BK645.out 0).trans rfl
       have hcz22_1 : wr.cell? ⟨gb645, 1, none⟩ = some (.slice A0_1 l0_1.length c0_1) := (blk_cell BK645.out 1).trans rfl
       have hcz22_2 : wr.cell? ⟨gb645, 2, none⟩ = some (.slice A0_2 l0_2.length c0_2) := (blk_cell BK645.out 2).trans rfl
       have hcz22_3 : wr.cell? ⟨gb645, 3, none⟩ = some (.slice A0_3 l0_3.length c0_3) := (blk_cell BK645.out 3).trans rfl
       have hcz22_4 : wr.cell? ⟨gb645, 4, none⟩ = some (.string a0_4) := (blk_cell BK645.out 4).trans rfl
       have hfz22_0 := blk_frozen BK645.out 0
       have hfz22_1 := blk_frozen BK645.out 1
       have hfz22_2 := blk_frozen BK645.out 2
       have hfz22_3 := blk_frozen BK645.out 3
       have hfz22_4 := blk_frozen BK645.out 4
       go_wp2
       go_meet
       case rel => exact ⟨_, (decide (x5_2 < 20)), ap, H', ⟨by have := HJ6.out; have := HK2.out; first | omega | exact Nat.le_refl _⟩, ⟨by (with_reducible repeat (first | apply Kd.R_alloc | apply Kd.R_drewN | apply Kd.R_drew)); exact HO_3.out⟩, ⟨by (with_reducible repeat (first | refine blk_drewN ?_ _ | refine blk_drew ?_ | refine blk_alloc ?_ _)); exact BK645.out⟩, ⟨bo⟩⟩
      rw [if_neg c21] at H
      have c21b0 : decide (x5_2 < (l0_3.length : Int)) = false := decide_eq_false c21
      clear c21
      (first | rw [c21b0] | (simp only [i64_w, i32_w]; rw [c21b0]) | skip)
      have H' := Aside0.mk H
      clear H
      have hcz23_0 : wr.cell? ⟨gb645, 0, none⟩ = some (.int .i64 a0_0) := (blk_cell BK645.out 0).trans rfl
      have hcz23_1 : wr.cell? ⟨gb645, 1, none⟩ = some (.slice A0_1 l0_1.length c0_1) := (blk_cell BK645.out 1).trans rfl
      have hcz23_2 : wr.cell? ⟨gb645, 2, none⟩ = some (.slice A0_2 l0_2.length c0_2) := (blk_cell BK645.out 2).trans rfl
      have hcz23_3 : wr.cell? ⟨gb645, 3, none⟩ = some (.slice A0_3 l0_3.length c0_3) := (blk_cell BK645.out 3).trans rfl
      have hcz23_4 : wr.cell? ⟨gb645, 4, none⟩ = some (.string a0_4) := (blk_cell BK645.out 4).trans rfl
      have hfz23_0 := blk_frozen BK645.out 0
      have hfz23_1 := blk_frozen BK645.out 1
      have hfz23_2 := blk_frozen BK645.out 2
      have hfz23_3 := blk_frozen BK645.out 3
      have hfz23_4 := blk_frozen BK645.out 4
      go_wp2
      go_meet
      case rel => exact ⟨_, (false), ap, H', ⟨by have := HJ6.out; have := HK2.out; first | omega | exact Nat.le_refl _⟩, ⟨by (with_reducible repeat (first | apply Kd.R_alloc | apply Kd.R_drewN | apply Kd.R_drew)); exact HO_3.out⟩, ⟨by (with_reducible repeat (first | refine blk_drewN ?_ _ | refine blk_drew ?_ | refine blk_alloc ?_ _)); exact BK645.out⟩, ⟨bo⟩⟩
     case rest => as_aux_lemma =>
      clear HC20
      (try clear c1); (try clear c2); (try clear p2); (try clear c3); (try clear p6); (try clear q6); (try clear hx6); (try clear c11); (try clear c11b0); (try clear c12); (try clear c12b0); (try clear c13); (try clear c13b0); (try clear c14); (try clear c21); (try clear c21b0); (try clear hcz15_0); (try clear hcz15_1); (try clear hcz15_2); (try clear hcz15_3); (try clear hcz15_4); (try clear hcz18_0); (try clear hcz18_1); (try clear hcz18_2); (try clear hcz18_3); (try clear hcz18_4); (try clear hcz19_0); (try clear hcz19_1); (try clear hcz19_2); (try clear hcz19_3); (try clear hcz19_4); (try clear hcz22_0); (try clear hcz22_1); (try clear hcz22_2); (try clear hcz22_3); (try clear hcz22_4); (try clear hcz23_0); (try clear hcz23_1); (try clear hcz23_2); (try clear hcz23_3); (try clear hcz23_4); (try clear hcz5_0); (try clear hcz5_1); (try clear hcz5_2); (try clear hcz5_3); (try clear hcz5_4); (try clear hcz9_0); (try clear hcz9_1); (try clear hcz9_2); (try clear hcz9_3); (try clear hcz9_4); (try clear hfz15_0); (try clear hfz15_1); (try clear hfz15_2); (try clear hfz15_3); (try clear hfz15_4); (try clear hfz18_0); (try clear hfz18_1); (try clear hfz18_2); (try clear hfz18_3); (try clear hfz18_4); (try clear hfz19_0); (try clear hfz19_1); (try clear hfz19_2); (try clear hfz19_3); (try clear hfz19_4); (try clear hfz22_0); (try clear hfz22_1); (try clear hfz22_2); (try clear hfz22_3); (try clear hfz22_4); (try clear hfz23_0); (try clear hfz23_1); (try clear hfz23_2); (try clear hfz23_3); (try clear hfz23_4); (try clear hfz5_0); (try clear hfz5_1); (try clear hfz5_2); (try clear hfz5_3); (try clear hfz5_4); (try clear hfz9_0); (try clear hfz9_1); (try clear hfz9_2); (try clear hfz9_3); (try clear hfz9_4); (try clear hx647_0); (try clear hx647_1); (try clear hx647_2); (try clear hx647_3); (try clear hx647_4); (try clear hx647_5); (try clear hx648_0); (try clear hx648_1); (try clear hx648_2); (try clear hx648_3); (try clear hx648_4); (try clear hx648_5); (try clear p2); (try clear p6); (try clear p647); (try clear p648); (try clear q6); (try clear q647); (try clear q648)
      obtain ⟨kq, x49_19, rfl, HA, HJ19, HO_3, BK645, HB⟩ := hcut
      cases kq with
      | zero => exact absurd HA.out (by simp [fairwaylaw12_IndexFroms.j3])
      | succ kj19 =>
       have H := HA.out
       clear HA
       simp only [fairwaylaw12_IndexFroms.j3] at H
       by_cases c24 : x49_19 = true
       rotate_left
       ·replace c24 := Bool.eq_false_iff.mpr c24
        subst c24
        have H1 : ((fairwaylaw12_wakes.f kj19).bind fun t652 => (some t652)) = some r := by rw [if_neg (show ¬ (false = true) by decide)] at H; exact H
        clear H
        have H := H1
        clear H1
        replace H := Option.bind_eq_some_iff.mp H
        obtain ⟨t652, A2080, H⟩ := H
        try dsimp only at H
        have A208 := Aside0.mk A2080
        clear A2080
        obtain rfl := Option.some.inj H
        go_wp2_with (first | ((with_reducible refine gate_callee (f := 53) rfl ?_); refine goesL_ (some 99) rfl rfl Try.func53 (by kernel_rfl) rfl #[] rfl aa ?_; (with_reducible refine (fairwaylaw12_wakes.calls kj19  t652 _ A208.out).mono ?_); rintro e w209 ⟨rfl, hb⟩; refine ⟨_, rfl, ?_⟩; replace HO_3 := Aside0.mk (Kd.R_below (rk HO_3.out) hb); replace BK645 := Aside0.mk (bb BK645.out hb); replace HB := Aside0.mk (below_step bo hb); (try clear hb); (try clear hb2); (try clear hk); (try clear hi)))
        go_ret
        exact ⟨er, bo⟩
       subst c24
       have H1 : (fairwaylaw12_IndexFroms.l2 kj19 x3_6 x5_2 0 a0_0 l0_1 l0_2 l0_3 a0_4) = some r := by rw [if_pos rfl] at H; exact H
       clear H
       have H := H1
       clear H1
       have H' := Aside0.mk H
       clear H
       go_wp2
       go_loopg [6] kj19 (fun kq v6 w' => ∃ (x6_4 : Int), v6 = .int .i64 x6_4 ∧ Aside0 (fairwaylaw12_IndexFroms.l2 kq x3_6 x5_2 x6_4 a0_0 l0_1 l0_2 l0_3 a0_4 = some r) ∧ Aside0 (kq ≤ kj19) ∧ Aside0 (Kd.R k77 77 w' w.heap.size (fun _ => True) u3 x3_6) ∧ Aside0 (w'.heap[gb645]? = some (.cells #[.int .i64 a0_0, (.slice A0_1 l0_1.length c0_1), (.slice A0_2 l0_2.length c0_2), (.slice A0_3 l0_3.length c0_3), .string a0_4] 55 (0, 0))) ∧ Aside0 (Below w.heap.size w w'))
       case atStart => exact ⟨(0), ap, H', ⟨Nat.le_refl _⟩, ⟨by (with_reducible repeat (first | apply Kd.R_alloc | apply Kd.R_drewN | apply Kd.R_drew)); exact HO_3.out⟩, ⟨by (with_reducible repeat (first | refine blk_drewN ?_ _ | refine blk_drew ?_ | refine blk_alloc ?_ _)); exact BK645.out⟩, ⟨bo⟩⟩
       case round =>
        clear H'
        (try clear c1); (try clear c2); (try clear p2); (try clear c3); (try clear p6); (try clear q6); (try clear hx6); (try clear c11); (try clear c11b0); (try clear c12); (try clear c12b0); (try clear c13); (try clear c13b0); (try clear c14); (try clear c21); (try clear c21b0); (try clear c24); (try clear hcz15_0); (try clear hcz15_1); (try clear hcz15_2); (try clear hcz15_3); (try clear hcz15_4); (try clear hcz18_0); (try clear hcz18_1); (try clear hcz18_2); (try clear hcz18_3); (try clear hcz18_4); (try clear hcz19_0); (try clear hcz19_1); (try clear hcz19_2); (try clear hcz19_3); (try clear hcz19_4); (try clear hcz22_0); (try clear hcz22_1); (try clear hcz22_2); (try clear hcz22_3); (try clear hcz22_4); (try clear hcz23_0); (try clear hcz23_1); (try clear hcz23_2); (try clear hcz23_3); (try clear hcz23_4); (try clear hcz5_0); (try clear hcz5_1); (try clear hcz5_2); (try clear hcz5_3); (try clear hcz5_4); (try clear hcz9_0); (try clear hcz9_1); (try clear hcz9_2); (try clear hcz9_3); (try clear hcz9_4); (try clear hfz15_0); (try clear hfz15_1); (try clear hfz15_2); (try clear hfz15_3); (try clear hfz15_4); (try clear hfz18_0); (try clear hfz18_1); (try clear hfz18_2); (try clear hfz18_3); (try clear hfz18_4); (try clear hfz19_0); (try clear hfz19_1); (try clear hfz19_2); (try clear hfz19_3); (try clear hfz19_4); (try clear hfz22_0); (try clear hfz22_1); (try clear hfz22_2); (try clear hfz22_3); (try clear hfz22_4); (try clear hfz23_0); (try clear hfz23_1); (try clear hfz23_2); (try clear hfz23_3); (try clear hfz23_4); (try clear hfz5_0); (try clear hfz5_1); (try clear hfz5_2); (try clear hfz5_3); (try clear hfz5_4); (try clear hfz9_0); (try clear hfz9_1); (try clear hfz9_2); (try clear hfz9_3); (try clear hfz9_4); (try clear hx647_0); (try clear hx647_1); (try clear hx647_2); (try clear hx647_3); (try clear hx647_4); (try clear hx647_5); (try clear hx648_0); (try clear hx648_1); (try clear hx648_2); (try clear hx648_3); (try clear hx648_4); (try clear hx648_5); (try clear p2); (try clear p6); (try clear p647); (try clear p648); (try clear q6); (try clear q647); (try clear q648)
        obtain ⟨x6_4, rfl, HA, HK4, HO_3, BK645, HB⟩ := hrel
        cases gk with
        | zero => exact absurd HA.out (by simp [fairwaylaw12_IndexFroms.l2])
        | succ k4 =>
         have H := HA.out
         clear HA
         simp only [fairwaylaw12_IndexFroms.l2] at H
         by_cases c25 : x6_4 ≤ (x3_6.length : Int)
         rotate_left
         ·rw [if_neg c25] at H
          have c25b0 : decide (x6_4 ≤ (x3_6.length : Int)) = false := decide_eq_false c25
          clear c25
          have H' := Aside0.mk H
          clear H
          obtain ⟨Ao207, co207, eo207⟩ := Kd.R_slice HO_3.out
          subst eo207
          go_wp2
          go_roundg k4
          case measure => have := HJ6.out; have := HK2.out; have := HJ19.out; have := HK4.out; omega
          case rel => exact ⟨(wrap64 (x5_2 + 1)), ap, H', ⟨by have := HJ6.out; have := HK2.out; have := HJ19.out; have := HK4.out; omega⟩, ⟨by (with_reducible repeat (first | apply Kd.R_alloc | apply Kd.R_drewN | apply Kd.R_drew)); exact HO_3.out⟩, ⟨by (with_reducible repeat (first | refine blk_drewN ?_ _ | refine blk_drew ?_ | refine blk_alloc ?_ _)); exact BK645.out⟩, ⟨bo⟩⟩
         rw [if_pos c25] at H
         have c25b0 : decide (x6_4 ≤ (x3_6.length : Int)) = true := decide_eq_true c25
         clear c25
         by_cases c26 : 0 ≤ x6_4
         rotate_left
         ·rw [if_neg c26] at H
          exact absurd H (by simp)
         rw [if_pos c26] at H
         have c26b0 := eq_true c26
         have c26b1 : decide (0 ≤ x6_4) = true := decide_eq_true c26
         clear c26
         have c27b0 := eq_true (od : x6_4 ≤ (x3_6.length : Int))
         obtain ⟨y653, hy653⟩ : ∃ y_ : List (S77), y_ = (x3_6.take (x6_4 : Int).toNat) := ⟨_, rfl⟩
         replace H : (if 0 ≤ x5_2 then (if x5_2 < (l0_3.length : Int) then ((index_From.f k4 y653 (rd l0_3 x5_2)).bind fun bt658 => ((fairwayref10_Risen.f k4 (x3_6.take (x6_4 : Int).toNat)).bind fun t667 => (if t667 = true then ((fairwayref10_From.f k4 (x3_6.take (x6_4 : Int).toNat) (rd l0_3 x5_2)).bind fun t673 => (if t673 ≥ 0 then (if 0 ≤ t673 then (if t673 < (x3_6.length : Int) then ((fairwaylaw12_num.f bt658.2.2).bind fun t675 => (if t675 = 0 then (if (!(bt658.1 == ((rd_T77 x3_6 t673).f0)) || (!(bt658.2.1 == ((rd_T77 x3_6 t673).f1)))) = true then (some false) else (fairwaylaw12_IndexFroms.l2 k4 x3_6 x5_2 (wrap64 (x6_4 + 1)) a0_0 l0_1 l0_2 l0_3 a0_4)) else (some false))) else (none)) else (none)) else ((fairwaylaw12_num.f bt658.2.2).bind fun t676 => (if t676 = 0 then (if (!(bt658.1 == 0) || (!(bt658.2.1 == 0))) = true then (some false) else (fairwaylaw12_IndexFroms.l2 k4 x3_6 x5_2 (wrap64 (x6_4 + 1)) a0_0 l0_1 l0_2 l0_3 a0_4)) else (some false))))) else ((fairwaylaw12_num.f bt658.2.2).bind fun t677 => (if t677 = 1 then (if (!(bt658.1 == 0) || (!(bt658.2.1 == 0))) = true then (some false) else (fairwaylaw12_IndexFroms.l2 k4 x3_6 x5_2 (wrap64 (x6_4 + 1)) a0_0 l0_1 l0_2 l0_3 a0_4)) else (some false)))))) else (none)) else (none)) = some r := by first | (rw [hy653]; with_reducible exact H) | (have H2_ := (Option.bind_some _ _).symm.trans H; rw [hy653]; with_reducible exact H2_) | (have H2_ := (Option.bind_some _ _).symm.trans H; with_reducible exact H2_) | with_reducible exact H | (rw [hy653]; exact H) | exact H
         have Ny653 := Aside0.mk hy653
         clear hy653
         by_cases c28 : 0 ≤ x5_2
         rotate_left
         ·rw [if_neg c28] at H
          exact absurd H (by simp)
         rw [if_pos c28] at H
         have c28b0 : decide (0 ≤ x5_2) = true := decide_eq_true c28
         clear c28
         by_cases c29 : x5_2 < (l0_3.length : Int)
         rotate_left
         ·rw [if_neg c29] at H
          exact absurd H (by simp)
         rw [if_pos c29] at H
         have c29b0 : decide (x5_2 < (l0_3.length : Int)) = true := decide_eq_true c29
         clear c29
         replace H := Option.bind_eq_some_iff.mp H
         obtain ⟨⟨t658, t659, t660⟩, A300, H⟩ := H
         replace H : ((fairwayref10_Risen.f k4 (x3_6.take (x6_4 : Int).toNat)).bind fun t667 => (if t667 = true then ((fairwayref10_From.f k4 (x3_6.take (x6_4 : Int).toNat) (rd l0_3 x5_2)).bind fun t673 => (if t673 ≥ 0 then (if 0 ≤ t673 then (if t673 < (x3_6.length : Int) then ((fairwaylaw12_num.f t660).bind fun t675 => (if t675 = 0 then (if (!(t658 == ((rd_T77 x3_6 t673).f0)) || (!(t659 == ((rd_T77 x3_6 t673).f1)))) = true then (some false) else (fairwaylaw12_IndexFroms.l2 k4 x3_6 x5_2 (wrap64 (x6_4 + 1)) a0_0 l0_1 l0_2 l0_3 a0_4)) else (some false))) else (none)) else (none)) else ((fairwaylaw12_num.f t660).bind fun t676 => (if t676 = 0 then (if (!(t658 == 0) || (!(t659 == 0))) = true then (some false) else (fairwaylaw12_IndexFroms.l2 k4 x3_6 x5_2 (wrap64 (x6_4 + 1)) a0_0 l0_1 l0_2 l0_3 a0_4)) else (some false))))) else ((fairwaylaw12_num.f t660).bind fun t677 => (if t677 = 1 then (if (!(t658 == 0) || (!(t659 == 0))) = true then (some false) else (fairwaylaw12_IndexFroms.l2 k4 x3_6 x5_2 (wrap64 (x6_4 + 1)) a0_0 l0_1 l0_2 l0_3 a0_4)) else (some false))))) = some r := H
         have A30 := Aside0.mk A300
         clear A300
         have c31b0 := eq_true (od : 0 ≤ x6_4)
         have c32b0 := eq_true (od : x6_4 ≤ (x3_6.length : Int))
         have hy653 := Ny653.out
         replace H : ((fairwayref10_Risen.f k4 y653).bind fun t667 => (if t667 = true then ((fairwayref10_From.f k4 (x3_6.take (x6_4 : Int).toNat) (rd l0_3 x5_2)).bind fun t673 => (if t673 ≥ 0 then (if 0 ≤ t673 then (if t673 < (x3_6.length : Int) then ((fairwaylaw12_num.f t660).bind fun t675 => (if t675 = 0 then (if (!(t658 == ((rd_T77 x3_6 t673).f0)) || (!(t659 == ((rd_T77 x3_6 t673).f1)))) = true then (some false) else (fairwaylaw12_IndexFroms.l2 k4 x3_6 x5_2 (wrap64 (x6_4 + 1)) a0_0 l0_1 l0_2 l0_3 a0_4)) else (some false))) else (none)) else (none)) else ((fairwaylaw12_num.f t660).bind fun t676 => (if t676 = 0 then (if (!(t658 == 0) || (!(t659 == 0))) = true then (some false) else (fairwaylaw12_IndexFroms.l2 k4 x3_6 x5_2 (wrap64 (x6_4 + 1)) a0_0 l0_1 l0_2 l0_3 a0_4)) else (some false))))) else ((fairwaylaw12_num.f t660).bind fun t677 => (if t677 = 1 then (if (!(t658 == 0) || (!(t659 == 0))) = true then (some false) else (fairwaylaw12_IndexFroms.l2 k4 x3_6 x5_2 (wrap64 (x6_4 + 1)) a0_0 l0_1 l0_2 l0_3 a0_4)) else (some false))))) = some r := by first | (rw [hy653]; with_reducible exact H) | (have H2_ := (Option.bind_some _ _).symm.trans H; rw [hy653]; with_reducible exact H2_) | (have H2_ := (Option.bind_some _ _).symm.trans H; with_reducible exact H2_) | with_reducible exact H | (rw [hy653]; exact H) | exact H
         have Ny653 := Aside0.mk hy653
         clear hy653
         replace H := Option.bind_eq_some_iff.mp H
         obtain ⟨t667, A330, H⟩ := H
         try dsimp only at H
         have A33 := Aside0.mk A330
         clear A330
         by_cases c34 : t667 = true
         rotate_left
         ·replace c34 := Bool.eq_false_iff.mpr c34
          subst c34
          have H1 : ((fairwaylaw12_num.f t660).bind fun t677 => (if t677 = 1 then (if (!(t658 == 0) || (!(t659 == 0))) = true then (some false) else (fairwaylaw12_IndexFroms.l2 k4 x3_6 x5_2 (wrap64 (x6_4 + 1)) a0_0 l0_1 l0_2 l0_3 a0_4)) else (some false))) = some r := by rw [if_neg (show ¬ (false = true) by decide)] at H; exact H
          clear H
          have H := H1
          clear H1
          replace H := Option.bind_eq_some_iff.mp H
          obtain ⟨t677, A1560, H⟩ := H
          try dsimp only at H
          have A156 := Aside0.mk A1560
          clear A1560
          by_cases c157 : t677 = 1
          rotate_left
          ·rw [if_neg c157] at H
           have c157b0 : (t677 == 1) = false := beq_eq_false_iff_ne.mpr c157
           have c157b1 : (t677 != 1) = true := bne_iff_ne.mpr c157
           obtain rfl := Option.some.inj H
           obtain ⟨Ao193, co193, eo193⟩ := Kd.R_slice HO_3.out
           subst eo193
           try go_wp2
           replace HO_3 := Aside0.mk (Kd.R_drew HO_3.out)
           replace BK645 := Aside0.mk (blk_drew BK645.out)
           replace HB := Aside0.mk (below_drew1 HB.out)
           have q195 : (x6_4 : Int) ≤ ((x3_6.length : Int) : Int) := od
           obtain ⟨i0195, hi0195, _, hsz195, _⟩ := info_parts info77
           have hroom195 : x3_6.length ≤ co193 := (Kd.R_reads' HO_3.out).2.1
           have hC195 : Kd.C k77 _ Ao193 x3_6.length x3_6 := (Kd.R_reads' HO_3.out).2.2
           have hcut195 := cut_to (P := Try.prog) 75 77 .i64 Try.underlying75 hi0195 Ao193 x3_6.length co193 x6_4 (od) q195 hroom195
           have hr195 := Kd.C_take (m := (x6_4 : Int).toNat) hC195 (by omega)
           have hy195 : y653.length = (x6_4 : Int).toNat := (by rw [Ny653.out, List.length_take]; omega)
           rw [← Ny653.out] at hr195
           rw [← hy195] at hcut195
           have HR656 := Aside0.mk hr195
           have HC656 := Aside0.mk (show y653.length ≤ co193 from by omega)
           clear hr195 hC195 hroom195 hi0195 hsz195
           have KY195 := Aside0.mk hy195
           clear hy195
           have KL195 := Aside0.mk (show (x6_4 : Int).toNat ≤ x3_6.length from by omega)
           replace q195 := eq_true q195
           have p657 : 0 ≤ (x5_2 : Int) := od
           have q657 : x5_2 < (l0_3.length : Int) := od
           obtain ⟨ad657, e657, hx657_0⟩ := Kd.at_int HR0_3.out x5_2 p657 q657
           have hw657_0 := hx657_0
           cases e657
           replace hx657_0 := cx HB.out hx657_0
           replace p657 := eq_true p657
           replace q657 := eq_true q657
           refine start_ (n := 15) (S := fun w' => w'.cell? ⟨gb645, 0, none⟩ = some (.int .i64 a0_0) ∧ w'.cell? ⟨gb645, 1, none⟩ = some (.slice A0_1 l0_1.length c0_1) ∧ w'.cell? ⟨gb645, 2, none⟩ = some (.slice A0_2 l0_2.length c0_2) ∧ w'.cell? ⟨gb645, 3, none⟩ = some (.slice (some ad657) l0_3.length c0_3) ∧ w'.cell? ⟨gb645, 4, none⟩ = some (.string a0_4) ∧ w'.cell? (ad657.add (x5_2).toNat) = some (.int .i64 (rd l0_3 x5_2))) (ds := []) #[O,O,O,O,O,O,O,O,O,O,O,O,O,O,O] (by kernel_rfl) rfl rfl ⟨(blk_cell BK645.out 0).trans rfl, (blk_cell BK645.out 1).trans rfl, (blk_cell BK645.out 2).trans rfl, (blk_cell BK645.out 3).trans rfl, (blk_cell BK645.out 4).trans rfl, (cx HB.out hw657_0 :)⟩ (fun hHeld => ?_); refine with_tabW fairwaylaw12_IndexFroms.tab14 fairwaylaw12_IndexFroms.bits14 (fun HT_ HW_ => ?_)
           generalize wr.drew = w194 at HO_3 BK645 HB HR656 hx657_0 hHeld ⊢
           refine pz (i := 0) (N := some 59) #[I,O,O,O,O,O,O,O,O,O,O,O,O,O,O] ?_
           refine pz (i := 1) (N := some 60) #[I,I,O,O,O,O,O,O,O,O,O,O,O,O,O] ?_
           refine pz (i := 2) (N := some 61) #[I,I,I,O,O,O,O,O,O,O,O,O,O,O,O] ?_
           refine pz (i := 3) (N := some 62) #[I,I,I,I,O,O,O,O,O,O,O,O,O,O,O] ?_
           refine pz (i := 5) (N := some 64) #[I,I,I,I,O,I,O,O,O,O,O,O,O,O,O] ?_
           refine tz (i := 4) (N := some 63) #[I,I,I,I,I,I,O,O,O,O,O,O,O,O,O] ?_
           refine pz (i := 6) (N := some 65) #[I,I,I,I,I,I,I,O,O,O,O,O,O,O,O] ?_
           refine tz (i := 7) (N := some 66) #[I,I,I,I,I,I,I,I,O,O,O,O,O,O,O] ?_
           refine join_ (σ := Nat) 2 #[I,I,I,I,I,I,I,I,I,I,I,I,I,O,O] (fun s_ => [(67, .tuple #[.agg #[.int .i64 t658, .int .i64 t659], .int .i64 t660]), (7, .pointer (some ⟨s_, 0, none⟩)), (58, .tuple #[.agg #[.int .i64 t658, .int .i64 t659], .int .i64 t660]), (68, .agg #[.int .i64 t658, .int .i64 t659]), (69, .int .i64 t660)]) (fun s_ w' => (w'.cell? ⟨gb645, 0, none⟩ = some (.int .i64 a0_0) ∧ w'.cell? ⟨gb645, 1, none⟩ = some (.slice A0_1 l0_1.length c0_1) ∧ w'.cell? ⟨gb645, 2, none⟩ = some (.slice A0_2 l0_2.length c0_2) ∧ w'.cell? ⟨gb645, 3, none⟩ = some (.slice (some ad657) l0_3.length c0_3) ∧ w'.cell? ⟨gb645, 4, none⟩ = some (.string a0_4) ∧ w'.cell? (ad657.add (x5_2).toNat) = some (.int .i64 (rd l0_3 x5_2))) ∧ (Kd.R k77 77 w' w.heap.size (fun k_ => k_ ≠ s_) (.slice Ao193 x3_6.length co193) x3_6) ∧ (w'.heap[gb645]? = some (.cells #[.int .i64 a0_0, .slice A0_1 l0_1.length c0_1, .slice A0_2 l0_2.length c0_2, .slice (some ad657) l0_3.length c0_3, .string a0_4] 55 (0, 0))) ∧ (w'.heap[s_]? = some (.cells #[.int .i64 0, .int .i64 0] 77 (0, 0))) ∧ (w.heap.size ≤ s_) ∧ (w.heap.size ≤ s_) ∧ (gb645 ≠ s_) ∧ (s_ ≠ gb645) ∧ (Below w.heap.size w w')) ?_ ?_
           rotate_left
           ·intro hCont
            refine two_ (i := 8) (j := 12) (Ni := some 67) (Nj := some 7) #[I,I,I,I,I,I,I,I,I,O,O,O,O,O,O] #[I,I,I,I,I,I,I,I,O,O,O,O,I,O,O] rfl rfl rfl rfl (two_of HT_.out (by kernel_rfl)) (by decide) (by decide) (fun K hK => ?_) (fun K hK => ?_)
            ·skip
             refine goes_ Try.func49 (by kernel_rfl) rfl #[.slice Ao193 y653.length co193, .int .i64 (rd l0_3 x5_2)] (by rfl) rfl rfl aa ?_
             with_reducible refine (index_From.calls k4 _ _ y653 (rd l0_3 x5_2) t658 t659 t660 _ ?side1 ?side2 A30.out).mono ?_
             (case side1 => exact (ck HR656.out))
             (case side2 => exact HC656.out)
             rintro e w196 ⟨rfl, hb⟩
             refine ⟨_, rfl, ?_⟩
             replace HO_3 := Aside0.mk (Kd.R_below (rk HO_3.out) hb)
             replace BK645 := Aside0.mk (bb BK645.out hb)
             replace HR656 := Aside0.mk (Kd.C_below (ck HR656.out) hb)
             replace HB := Aside0.mk (below_step bo hb)
             (try clear hb)
             (try clear hb2)
             (try clear hk)
             (try clear hi)
             refine hK.out _ _ ⟨(blk_cell BK645.out 0).trans rfl, (blk_cell BK645.out 1).trans rfl, (blk_cell BK645.out 2).trans rfl, (blk_cell BK645.out 3).trans rfl, (blk_cell BK645.out 4).trans rfl, (cx HB.out hw657_0 :)⟩ (fun hHeld => ?_)
             clear hK K
             refine nz (N := (some 67)) ?_
             refine pz (i := 9) (N := some 58) #[I,I,I,I,I,I,I,I,I,I,O,O,O,O,O] ?_
             refine pz (i := 10) (N := some 68) #[I,I,I,I,I,I,I,I,I,I,I,O,O,O,O] ?_
             refine pz (i := 11) (N := some 69) #[I,I,I,I,I,I,I,I,I,I,I,I,O,O,O] ?_
             refine one_ (i := 12) (N := some 7) #[I,I,I,I,I,I,I,I,I,I,I,I,I,O,O] rfl rfl (one_of HT_.out (by kernel_rfl)) (by decide) (fun K hK => ?_)
             refine box_step ?hg (N := 7) ?hd (cs := #[.int .i64 0, .int .i64 0]) (t := 77) ?hr ?_; (case hd => rfl); (case hg => rfl); (case hr => first | (go_simp; done) | (go_simp; rfl))
             intro gb661 hg w197 hbox hb
             replace HO_3 := Aside0.mk (Kd.R_below (Kd.R_elderB (rk HO_3.out) gb661 (Nat.le_of_eq hg.symm)) hb)
             replace HR656 := Aside0.mk (Kd.C_below (ck HR656.out) hb)
             have BK661 := Aside0.mk (hbox)
             have GW661 := Aside0.mk ((by rw [hg]; exact (below_size bo) : w.heap.size ≤ gb661))
             have GE661 := Aside0.mk ((by rw [hg]; exact (below_size bo) : w.heap.size ≤ gb661))
             replace HB := Aside0.mk (below_step bo hb)
             have NB645_661 := Aside0.mk (nl BK645.out hg)
             have NB661_645 := Aside0.mk (ng BK645.out hg)
             replace BK645 := Aside0.mk (bb BK645.out hb)
             clear hb hbox hg
             refine hK.out _ _ ⟨(blk_cell BK645.out 0).trans rfl, (blk_cell BK645.out 1).trans rfl, (blk_cell BK645.out 2).trans rfl, (blk_cell BK645.out 3).trans rfl, (blk_cell BK645.out 4).trans rfl, (cx HB.out hw657_0 :)⟩ (fun hHeld => ?_)
             clear hK K
             refine nz (N := (some 7)) ?_
             exact norm_ (by simp only [putAll, Act.put, List.setIfInBounds_toArray, List.set_cons_zero, List.set_cons_succ]) (hCont (gb661) _ ⟨hHeld, (by (with_reducible repeat (first | apply Kd.R_alloc | apply Kd.R_drewN | apply Kd.R_drew)); exact Kd.R_mono HO_3.out (fun _ hk => hk.2)), (bk BK645.out), (bk BK661.out), GW661.out, GE661.out, NB645_661.out, NB661_645.out, bo⟩)
            skip
            refine box_step ?hg (N := 7) ?hd (cs := #[.int .i64 0, .int .i64 0]) (t := 77) ?hr ?_; (case hd => rfl); (case hg => rfl); (case hr => first | (go_simp; done) | (go_simp; rfl))
            intro gb661 hg w196 hbox hb
            replace HO_3 := Aside0.mk (Kd.R_below (Kd.R_elderB (rk HO_3.out) gb661 (Nat.le_of_eq hg.symm)) hb)
            replace HR656 := Aside0.mk (Kd.C_below (ck HR656.out) hb)
            have BK661 := Aside0.mk (hbox)
            have GW661 := Aside0.mk ((by rw [hg]; exact (below_size bo) : w.heap.size ≤ gb661))
            have GE661 := Aside0.mk ((by rw [hg]; exact (below_size bo) : w.heap.size ≤ gb661))
            replace HB := Aside0.mk (below_step bo hb)
            have NB645_661 := Aside0.mk (nl BK645.out hg)
            have NB661_645 := Aside0.mk (ng BK645.out hg)
            replace BK645 := Aside0.mk (bb BK645.out hb)
            clear hb hbox hg
            refine hK.out _ _ ⟨(blk_cell BK645.out 0).trans rfl, (blk_cell BK645.out 1).trans rfl, (blk_cell BK645.out 2).trans rfl, (blk_cell BK645.out 3).trans rfl, (blk_cell BK645.out 4).trans rfl, (cx HB.out hw657_0 :)⟩ (fun hHeld => ?_)
            clear hK K
            refine nz (N := (some 7)) ?_
            refine one_ (i := 8) (N := some 67) #[I,I,I,I,I,I,I,I,I,O,O,O,I,O,O] rfl rfl (one_of HT_.out (by kernel_rfl)) (by decide) (fun K hK => ?_)
            refine goes_ Try.func49 (by kernel_rfl) rfl #[.slice Ao193 y653.length co193, .int .i64 (rd l0_3 x5_2)] (by rfl) rfl rfl aa ?_
            with_reducible refine (index_From.calls k4 _ _ y653 (rd l0_3 x5_2) t658 t659 t660 _ ?side1 ?side2 A30.out).mono ?_
            (case side1 => exact (ck HR656.out))
            (case side2 => exact HC656.out)
            rintro e w197 ⟨rfl, hb⟩
            refine ⟨_, rfl, ?_⟩
            replace HO_3 := Aside0.mk (Kd.R_below (rk HO_3.out) hb)
            replace BK645 := Aside0.mk (bb BK645.out hb)
            replace HR656 := Aside0.mk (Kd.C_below (ck HR656.out) hb)
            replace BK661 := Aside0.mk (bb BK661.out hb)
            replace HB := Aside0.mk (below_step bo hb)
            (try clear hb)
            (try clear hb2)
            (try clear hk)
            (try clear hi)
            refine hK.out _ _ ⟨(blk_cell BK645.out 0).trans rfl, (blk_cell BK645.out 1).trans rfl, (blk_cell BK645.out 2).trans rfl, (blk_cell BK645.out 3).trans rfl, (blk_cell BK645.out 4).trans rfl, (cx HB.out hw657_0 :)⟩ (fun hHeld => ?_)
            clear hK K
            refine nz (N := (some 67)) ?_
            refine pz (i := 9) (N := some 58) #[I,I,I,I,I,I,I,I,I,I,O,O,I,O,O] ?_
            refine pz (i := 10) (N := some 68) #[I,I,I,I,I,I,I,I,I,I,I,O,I,O,O] ?_
            refine pz (i := 11) (N := some 69) #[I,I,I,I,I,I,I,I,I,I,I,I,I,O,O] ?_
            exact norm_ (by simp only [putAll, Act.put, List.setIfInBounds_toArray, List.set_cons_zero, List.set_cons_succ]) (hCont (gb661) _ ⟨hHeld, (by (with_reducible repeat (first | apply Kd.R_alloc | apply Kd.R_drewN | apply Kd.R_drew)); exact Kd.R_mono HO_3.out (fun _ hk => hk.2)), (bk BK645.out), (bk BK661.out), GW661.out, GE661.out, NB645_661.out, NB661_645.out, bo⟩)
           rintro gb661 w198 ⟨hS_, h0_, h1_, h2_, h3_, h4_, h5_, h6_, h7_⟩
           have n0_ : Aside0 (Kd.R k77 77 w198 w.heap.size (fun k_ => k_ ≠ gb661) (.slice Ao193 x3_6.length co193) x3_6) := ⟨h0_⟩
           have n1_ : Aside0 (w198.heap[gb645]? = some (.cells #[.int .i64 a0_0, .slice A0_1 l0_1.length c0_1, .slice A0_2 l0_2.length c0_2, .slice (some ad657) l0_3.length c0_3, .string a0_4] 55 (0, 0))) := ⟨h1_⟩
           have n2_ : Aside0 (w198.heap[gb661]? = some (.cells #[.int .i64 0, .int .i64 0] 77 (0, 0))) := ⟨h2_⟩
           have n3_ : Aside0 (w.heap.size ≤ gb661) := ⟨h3_⟩
           have n4_ : Aside0 (w.heap.size ≤ gb661) := ⟨h4_⟩
           have n5_ : Aside0 (gb645 ≠ gb661) := ⟨h5_⟩
           have n6_ : Aside0 (gb661 ≠ gb645) := ⟨h6_⟩
           have n7_ : Aside0 (Below w.heap.size w w198) := ⟨h7_⟩
           clear HO_3
           clear BK645
           clear HB
           clear h0_ h1_ h2_ h3_ h4_ h5_ h6_ h7_
           have HO_3 := n0_
           have BK645 := n1_
           have BK661 := n2_
           have GW661 := n3_
           have GE661 := n4_
           have NB645_661 := n5_
           have NB661_645 := n6_
           have HB := n7_
           clear n0_ n1_ n2_ n3_ n4_ n5_ n6_ n7_
           have hHeld : w198.cell? ⟨gb645, 0, none⟩ = some (.int .i64 a0_0) ∧ w198.cell? ⟨gb645, 1, none⟩ = some (.slice A0_1 l0_1.length c0_1) ∧ w198.cell? ⟨gb645, 2, none⟩ = some (.slice A0_2 l0_2.length c0_2) ∧ w198.cell? ⟨gb645, 3, none⟩ = some (.slice (some ad657) l0_3.length c0_3) ∧ w198.cell? ⟨gb645, 4, none⟩ = some (.string a0_4) ∧ w198.cell? (ad657.add (x5_2).toNat) = some (.int .i64 (rd l0_3 x5_2)) := hS_
           refine norm_ (a' := ?_) ?_ ?_
           rotate_left
           ·simp only [putAll, Act.put, List.setIfInBounds_toArray, List.set_cons_zero, List.set_cons_succ]
            rfl
           refine one_ (i := 13) (N := none) #[I,I,I,I,I,I,I,I,I,I,I,I,I,I,O] rfl rfl (one_of HT_.out (by kernel_rfl)) (by decide) (fun K hK => ?_)
           have hs199 : w198.cell? ⟨gb661, 0, none⟩ = some (.int .i64 0) := (blk_cell BK661.out 0).trans rfl
           have hfs199 := blk_frozen BK661.out 0
           have hns199_0 := NB645_661.out
           have hms199_0 := NB661_645.out
           have hs200 : w198.cell? ⟨gb661, 1, none⟩ = some (.int .i64 0) := (blk_cell BK661.out 1).trans rfl
           have hfs200 := blk_frozen BK661.out 1
           have hns200_0 := NB645_661.out
           have hms200_0 := NB661_645.out
           refine skip_ (w1 := ?_) (by rfl) rfl ?_ ?_
           rotate_left
           ·go_simp
            rfl
           refine hK.out _ _ ⟨(cf2 NB645_661.out hHeld.1), (cf2 NB645_661.out hHeld.2.1), (cf2 NB645_661.out hHeld.2.2.1), (cf2 NB645_661.out hHeld.2.2.2.1), (cf2 NB645_661.out hHeld.2.2.2.2.1), ((cell_far (p := ⟨gb661, _, none⟩) (by first | exact Nat.ne_of_lt (Nat.lt_of_lt_of_le (by have := World.block_lt_of_cell? _ _ hw657_0; first | rwa [add_block] at this | exact this) GW661.out) | (rw [add_block]; exact Nat.ne_of_lt (Nat.lt_of_lt_of_le (by have := World.block_lt_of_cell? _ _ hw657_0; first | rwa [add_block] at this | exact this) GW661.out)) | (show (Addr.add _ _).block ≠ _; rw [add_block]; exact Nat.ne_of_lt (Nat.lt_of_lt_of_le (by have := World.block_lt_of_cell? _ _ hw657_0; first | rwa [add_block] at this | exact this) GW661.out)) | (dsimp only; exact Nat.ne_of_lt (Nat.lt_of_lt_of_le (by have := World.block_lt_of_cell? _ _ hw657_0; first | rwa [add_block] at this | exact this) GW661.out))) _).trans (((cell_far (p := ⟨gb661, _, none⟩) (by first | exact Nat.ne_of_lt (Nat.lt_of_lt_of_le (by have := World.block_lt_of_cell? _ _ hw657_0; first | rwa [add_block] at this | exact this) GW661.out) | (rw [add_block]; exact Nat.ne_of_lt (Nat.lt_of_lt_of_le (by have := World.block_lt_of_cell? _ _ hw657_0; first | rwa [add_block] at this | exact this) GW661.out)) | (show (Addr.add _ _).block ≠ _; rw [add_block]; exact Nat.ne_of_lt (Nat.lt_of_lt_of_le (by have := World.block_lt_of_cell? _ _ hw657_0; first | rwa [add_block] at this | exact this) GW661.out)) | (dsimp only; exact Nat.ne_of_lt (Nat.lt_of_lt_of_le (by have := World.block_lt_of_cell? _ _ hw657_0; first | rwa [add_block] at this | exact this) GW661.out))) _).trans (hHeld.2.2.2.2.2))))⟩ (fun hHeld => ?_)
           clear hK K
           refine pz (i := 14) (N := some 8) #[I,I,I,I,I,I,I,I,I,I,I,I,I,I,I] ?_
           refine done_ (done_of HT_.out (by kernel_rfl)) ?_
           try go_wp2_with (first | ((with_reducible refine gate_dst (N := 10) rfl ?_); refine box_event ?hg (N := 10) ?hd (cs := #[.int .i64 0, .int .i64 0]) (t := 77) ?hr ?_; (case hd => rfl); (case hg => rfl); (case hr => first | (go_simp; done) | (go_simp; rfl)); intro gb662 hg w201 hbox hb; replace HO_3 := Aside0.mk (Kd.R_below (Kd.R_elderB (by (with_reducible repeat (first | apply Kd.R_alloc | apply Kd.R_drewN | apply Kd.R_drew)); exact (Kd.R_mono (Kd.R_far (p := ⟨gb661, 1, none⟩) (Kd.R_far (p := ⟨gb661, 0, none⟩) (Kd.R_mono HO_3.out (fun k_ hk => (⟨hk, hk⟩ : _ ∧ k_ ≠ gb661))) (fun _ hk => hk.2) (.int .i64 t658)) (fun _ hk => hk.2) (.int .i64 t659)) (fun _ h_ => h_.1))) gb662 (Nat.le_of_eq hg.symm)) hb); have BK662 := Aside0.mk (hbox); have GW662 := Aside0.mk ((by rw [hg]; exact (below_size bo) : w.heap.size ≤ gb662)); have GE662 := Aside0.mk ((by rw [hg]; exact (below_size bo) : w.heap.size ≤ gb662)); replace HB := Aside0.mk (below_step bo hb); have NB645_662 := Aside0.mk ((by rw [hg]; exact Nat.ne_of_lt (blk_lt (g := gb645) (o := .cells #[.int .i64 a0_0, .slice A0_1 l0_1.length c0_1, .slice A0_2 l0_2.length c0_2, .slice (some ad657) l0_3.length c0_3, .string a0_4] 55 (0, 0)) (bf BK645.out)) : gb645 ≠ gb662)); have NB662_645 := Aside0.mk ((by rw [hg]; exact Nat.ne_of_gt (blk_lt (g := gb645) (o := .cells #[.int .i64 a0_0, .slice A0_1 l0_1.length c0_1, .slice A0_2 l0_2.length c0_2, .slice (some ad657) l0_3.length c0_3, .string a0_4] 55 (0, 0)) (bf BK645.out)) : gb662 ≠ gb645)); replace BK645 := Aside0.mk (bB BK645.out hb); have NB661_662 := Aside0.mk ((by rw [hg]; exact Nat.ne_of_lt (blk_lt (g := gb661) (o := .cells #[.int .i64 t658, .int .i64 t659] 77 (0, 0)) (by (with_reducible repeat (first | refine blk_drewN ?_ _ | refine blk_drew ?_ | refine blk_alloc ?_ _)); refine blk_put (cs := #[.int .i64 t658, .int .i64 0]) ?_ 1 _ rfl; (with_reducible repeat (first | refine blk_drewN ?_ _ | refine blk_drew ?_ | refine blk_alloc ?_ _)); refine blk_put (cs := #[.int .i64 0, .int .i64 0]) ?_ 0 _ rfl; (with_reducible repeat (first | refine blk_drewN ?_ _ | refine blk_drew ?_ | refine blk_alloc ?_ _)); exact BK661.out)) : gb661 ≠ gb662)); have NB662_661 := Aside0.mk ((by rw [hg]; exact Nat.ne_of_gt (blk_lt (g := gb661) (o := .cells #[.int .i64 t658, .int .i64 t659] 77 (0, 0)) (by (with_reducible repeat (first | refine blk_drewN ?_ _ | refine blk_drew ?_ | refine blk_alloc ?_ _)); refine blk_put (cs := #[.int .i64 t658, .int .i64 0]) ?_ 1 _ rfl; (with_reducible repeat (first | refine blk_drewN ?_ _ | refine blk_drew ?_ | refine blk_alloc ?_ _)); refine blk_put (cs := #[.int .i64 0, .int .i64 0]) ?_ 0 _ rfl; (with_reducible repeat (first | refine blk_drewN ?_ _ | refine blk_drew ?_ | refine blk_alloc ?_ _)); exact BK661.out)) : gb662 ≠ gb661)); replace BK661 := Aside0.mk (blk_below (g := gb661) (o := .cells #[.int .i64 t658, .int .i64 t659] 77 (0, 0)) (by (with_reducible repeat (first | refine blk_drewN ?_ _ | refine blk_drew ?_ | refine blk_alloc ?_ _)); refine blk_put (cs := #[.int .i64 t658, .int .i64 0]) ?_ 1 _ rfl; (with_reducible repeat (first | refine blk_drewN ?_ _ | refine blk_drew ?_ | refine blk_alloc ?_ _)); refine blk_put (cs := #[.int .i64 0, .int .i64 0]) ?_ 0 _ rfl; (with_reducible repeat (first | refine blk_drewN ?_ _ | refine blk_drew ?_ | refine blk_alloc ?_ _)); exact BK661.out) hb); clear hb hbox hg; have hnb202 := NB662_645.out; have hnc202 := NB645_662.out; have hnb203 := NB662_661.out; have hnc203 := NB661_662.out; obtain ⟨hcz204_0, hcz204_1⟩ := cl2 BK662.out; obtain ⟨hfz204_0, hfz204_1⟩ := fz2 BK662.out) | ((with_reducible refine gate_store (t := 77) (p := 10) rfl ?_); refine store_event (t := 77) (p := 10) (v := ?vo_w205) (w1 := ((w201.setCell ⟨gb662, 0, none⟩ (.int .i64 0)).setCell ⟨gb662, 1, none⟩ (.int .i64 0))) ?hg ?ho ?hn ?hr ?_; (case ho => rfl); (case hg => rfl); (case hn => rfl); (case hr => first | (go_simp; done) | (go_simp; rfl)); intro w205 hw; have n0_ : Aside0 (Kd.R k77 77 w205 w.heap.size (fun k_ => k_ ≠ gb661 ∧ k_ ≠ gb662) (.slice Ao193 x3_6.length co193) x3_6) := ⟨(by rw [hw]; exact (by (with_reducible repeat (first | apply Kd.R_alloc | apply Kd.R_drewN | apply Kd.R_drew)); exact Kd.R_mono (Kd.R_far (p := ⟨gb662, 1, none⟩) (Kd.R_far (p := ⟨gb662, 0, none⟩) (Kd.R_mono HO_3.out (fun k_ hk => (⟨hk, hk.2⟩ : _ ∧ k_ ≠ gb662))) (fun _ hk => hk.2) (.int .i64 0)) (fun _ hk => hk.2) (.int .i64 0)) (fun _ hk => ⟨hk.1.1, hk.1.2⟩)))⟩; have n1_ : Aside0 (w205.heap[gb645]? = some (.cells #[.int .i64 a0_0, .slice A0_1 l0_1.length c0_1, .slice A0_2 l0_2.length c0_2, .slice (some ad657) l0_3.length c0_3, .string a0_4] 55 (0, 0))) := ⟨(by rw [hw]; exact (bf BK645.out))⟩; have n2_ : Aside0 (w205.heap[gb661]? = some (.cells #[.int .i64 t658, .int .i64 t659] 77 (0, 0))) := ⟨(by rw [hw]; exact (bf BK661.out))⟩; have n3_ : Aside0 (w205.heap[gb662]? = some (.cells #[.int .i64 0, .int .i64 0] 77 (0, 0))) := ⟨(by rw [hw]; exact (by (with_reducible repeat (first | refine blk_drewN ?_ _ | refine blk_drew ?_ | refine blk_alloc ?_ _)); refine blk_put (cs := #[.int .i64 0, .int .i64 0]) ?_ 1 _ rfl; (with_reducible repeat (first | refine blk_drewN ?_ _ | refine blk_drew ?_ | refine blk_alloc ?_ _)); refine blk_put (cs := #[.int .i64 0, .int .i64 0]) ?_ 0 _ rfl; (with_reducible repeat (first | refine blk_drewN ?_ _ | refine blk_drew ?_ | refine blk_alloc ?_ _)); exact BK662.out))⟩; have n4_ : Aside0 (Below w.heap.size w w205) := ⟨(by rw [hw]; exact bo)⟩; clear hw; clear HO_3; clear BK645; clear BK661; clear BK662; clear HB; have HO_3 := n0_; have BK645 := n1_; have BK661 := n2_; have BK662 := n3_; have HB := n4_; clear n0_ n1_ n2_ n3_ n4_; have q206 : (x6_4 : Int) ≤ ((x3_6.length : Int) : Int) := od; obtain ⟨i0206, hi0206, _, hsz206, _⟩ := info_parts info77; have hroom206 : x3_6.length ≤ co193 := (Kd.R_reads' HO_3.out).2.1; have hC206 : Kd.C k77 _ Ao193 x3_6.length x3_6 := (Kd.R_reads' HO_3.out).2.2; have hcut206 := cut_to (P := Try.prog) 75 77 .i64 Try.underlying75 hi0206 Ao193 x3_6.length co193 x6_4 (od) q206 hroom206; have hr206 := Kd.C_take (m := (x6_4 : Int).toNat) hC206 (by omega); have hy206 : y653.length = (x6_4 : Int).toNat := (by rw [Ny653.out, List.length_take]; omega); rw [← Ny653.out] at hr206; rw [← hy206] at hcut206; have HR666 := Aside0.mk hr206; have HC666 := Aside0.mk (show y653.length ≤ co193 from by omega); clear hr206 hC206 hroom206 hi0206 hsz206; have KY206 := Aside0.mk hy206; clear hy206; have KL206 := Aside0.mk (show (x6_4 : Int).toNat ≤ x3_6.length from by omega); replace q206 := eq_true q206) | ((with_reducible refine gate_callee (f := 50) rfl ?_); refine goesL_ (some 74) rfl rfl Try.func50 (by kernel_rfl) rfl #[.slice Ao193 y653.length co193] rfl aa ?_; (with_reducible refine (fairwayref10_Risen.calls k4 _ _ y653 false _ ?side1 ?side2 A33.out).mono ?_); (case side1 => exact (ck HR666.out)); (case side2 => exact HC666.out); rintro e w' ⟨rfl, ⟨nd, rfl⟩⟩; refine ⟨_, rfl, ?_⟩) | ((with_reducible refine gate_callee (f := 52) rfl ?_); refine goesL_ (some 91) rfl rfl Try.func52 (by kernel_rfl) rfl #[.int .i64 t660] rfl aa ?_; (with_reducible refine (fairwaylaw12_num.calls t660 t677 _ A156.out).mono ?_); rintro e w' ⟨rfl, ⟨nd, rfl⟩⟩; refine ⟨_, rfl, ?_⟩))
           go_ret
           exact ⟨er, bo⟩
          rw [if_pos c157] at H
          have c157b0 : (t677 == 1) = true := beq_iff_eq.mpr c157
          have c157b1 : (t677 != 1) = false := bne_eq_false_iff_eq.mpr c157
          clear c157
          by_cases c158 : (!(t658 == 0) || (!(t659 == 0))) = true
          ·rw [if_pos c158] at H
           have c158b0 : (!(t658 == 0) || (!(t659 == 0))) = true := c158
           clear c158
           obtain rfl := Option.some.inj H
           obtain ⟨Ao159, co159, eo159⟩ := Kd.R_slice HO_3.out
           subst eo159
           try go_wp2
           replace HO_3 := Aside0.mk (Kd.R_drew HO_3.out)
           replace BK645 := Aside0.mk (blk_drew BK645.out)
           replace HB := Aside0.mk (below_drew1 HB.out)
           have q161 : (x6_4 : Int) ≤ ((x3_6.length : Int) : Int) := od
           obtain ⟨i0161, hi0161, _, hsz161, _⟩ := info_parts info77
           have hroom161 : x3_6.length ≤ co159 := (Kd.R_reads' HO_3.out).2.1
           have hC161 : Kd.C k77 _ Ao159 x3_6.length x3_6 := (Kd.R_reads' HO_3.out).2.2
           have hcut161 := cut_to (P := Try.prog) 75 77 .i64 Try.underlying75 hi0161 Ao159 x3_6.length co159 x6_4 (od) q161 hroom161
           have hr161 := Kd.C_take (m := (x6_4 : Int).toNat) hC161 (by omega)
           have hy161 : y653.length = (x6_4 : Int).toNat := (by rw [Ny653.out, List.length_take]; omega)
           rw [← Ny653.out] at hr161
           rw [← hy161] at hcut161
           have HR656 := Aside0.mk hr161
           have HC656 := Aside0.mk (show y653.length ≤ co159 from by omega)
           clear hr161 hC161 hroom161 hi0161 hsz161
           have KY161 := Aside0.mk hy161
           clear hy161
           have KL161 := Aside0.mk (show (x6_4 : Int).toNat ≤ x3_6.length from by omega)
           replace q161 := eq_true q161
           have p657 : 0 ≤ (x5_2 : Int) := od
           have q657 : x5_2 < (l0_3.length : Int) := od
           obtain ⟨ad657, e657, hx657_0⟩ := Kd.at_int HR0_3.out x5_2 p657 q657
           have hw657_0 := hx657_0
           cases e657
           replace hx657_0 := cx HB.out hx657_0
           replace p657 := eq_true p657
           replace q657 := eq_true q657
           refine start_ (n := 15) (S := fun w' => w'.cell? ⟨gb645, 0, none⟩ = some (.int .i64 a0_0) ∧ w'.cell? ⟨gb645, 1, none⟩ = some (.slice A0_1 l0_1.length c0_1) ∧ w'.cell? ⟨gb645, 2, none⟩ = some (.slice A0_2 l0_2.length c0_2) ∧ w'.cell? ⟨gb645, 3, none⟩ = some (.slice (some ad657) l0_3.length c0_3) ∧ w'.cell? ⟨gb645, 4, none⟩ = some (.string a0_4) ∧ w'.cell? (ad657.add (x5_2).toNat) = some (.int .i64 (rd l0_3 x5_2))) (ds := []) #[O,O,O,O,O,O,O,O,O,O,O,O,O,O,O] (by kernel_rfl) rfl rfl ⟨(blk_cell BK645.out 0).trans rfl, (blk_cell BK645.out 1).trans rfl, (blk_cell BK645.out 2).trans rfl, (blk_cell BK645.out 3).trans rfl, (blk_cell BK645.out 4).trans rfl, (cx HB.out hw657_0 :)⟩ (fun hHeld => ?_); refine with_tabW fairwaylaw12_IndexFroms.tab14 fairwaylaw12_IndexFroms.bits14 (fun HT_ HW_ => ?_)
           generalize wr.drew = w160 at HO_3 BK645 HB HR656 hx657_0 hHeld ⊢
           refine pz (i := 0) (N := some 59) #[I,O,O,O,O,O,O,O,O,O,O,O,O,O,O] ?_
           refine pz (i := 1) (N := some 60) #[I,I,O,O,O,O,O,O,O,O,O,O,O,O,O] ?_
           refine pz (i := 2) (N := some 61) #[I,I,I,O,O,O,O,O,O,O,O,O,O,O,O] ?_
           refine pz (i := 3) (N := some 62) #[I,I,I,I,O,O,O,O,O,O,O,O,O,O,O] ?_
           refine pz (i := 5) (N := some 64) #[I,I,I,I,O,I,O,O,O,O,O,O,O,O,O] ?_
           refine tz (i := 4) (N := some 63) #[I,I,I,I,I,I,O,O,O,O,O,O,O,O,O] ?_
           refine pz (i := 6) (N := some 65) #[I,I,I,I,I,I,I,O,O,O,O,O,O,O,O] ?_
           refine tz (i := 7) (N := some 66) #[I,I,I,I,I,I,I,I,O,O,O,O,O,O,O] ?_
           refine join_ (σ := Nat) 2 #[I,I,I,I,I,I,I,I,I,I,I,I,I,O,O] (fun s_ => [(67, .tuple #[.agg #[.int .i64 t658, .int .i64 t659], .int .i64 t660]), (7, .pointer (some ⟨s_, 0, none⟩)), (58, .tuple #[.agg #[.int .i64 t658, .int .i64 t659], .int .i64 t660]), (68, .agg #[.int .i64 t658, .int .i64 t659]), (69, .int .i64 t660)]) (fun s_ w' => (w'.cell? ⟨gb645, 0, none⟩ = some (.int .i64 a0_0) ∧ w'.cell? ⟨gb645, 1, none⟩ = some (.slice A0_1 l0_1.length c0_1) ∧ w'.cell? ⟨gb645, 2, none⟩ = some (.slice A0_2 l0_2.length c0_2) ∧ w'.cell? ⟨gb645, 3, none⟩ = some (.slice (some ad657) l0_3.length c0_3) ∧ w'.cell? ⟨gb645, 4, none⟩ = some (.string a0_4) ∧ w'.cell? (ad657.add (x5_2).toNat) = some (.int .i64 (rd l0_3 x5_2))) ∧ (Kd.R k77 77 w' w.heap.size (fun k_ => k_ ≠ s_) (.slice Ao159 x3_6.length co159) x3_6) ∧ (w'.heap[gb645]? = some (.cells #[.int .i64 a0_0, .slice A0_1 l0_1.length c0_1, .slice A0_2 l0_2.length c0_2, .slice (some ad657) l0_3.length c0_3, .string a0_4] 55 (0, 0))) ∧ (w'.heap[s_]? = some (.cells #[.int .i64 0, .int .i64 0] 77 (0, 0))) ∧ (w.heap.size ≤ s_) ∧ (w.heap.size ≤ s_) ∧ (gb645 ≠ s_) ∧ (s_ ≠ gb645) ∧ (Below w.heap.size w w')) ?_ ?_
           rotate_left
           ·intro hCont
            refine two_ (i := 8) (j := 12) (Ni := some 67) (Nj := some 7) #[I,I,I,I,I,I,I,I,I,O,O,O,O,O,O] #[I,I,I,I,I,I,I,I,O,O,O,O,I,O,O] rfl rfl rfl rfl (two_of HT_.out (by kernel_rfl)) (by decide) (by decide) (fun K hK => ?_) (fun K hK => ?_)
            ·skip
             refine goes_ Try.func49 (by kernel_rfl) rfl #[.slice Ao159 y653.length co159, .int .i64 (rd l0_3 x5_2)] (by rfl) rfl rfl aa ?_
             with_reducible refine (index_From.calls k4 _ _ y653 (rd l0_3 x5_2) t658 t659 t660 _ ?side1 ?side2 A30.out).mono ?_
             (case side1 => exact (ck HR656.out))
             (case side2 => exact HC656.out)
             rintro e w162 ⟨rfl, hb⟩
             refine ⟨_, rfl, ?_⟩
             replace HO_3 := Aside0.mk (Kd.R_below (rk HO_3.out) hb)
             replace BK645 := Aside0.mk (bb BK645.out hb)
             replace HR656 := Aside0.mk (Kd.C_below (ck HR656.out) hb)
             replace HB := Aside0.mk (below_step bo hb)
             (try clear hb)
             (try clear hb2)
             (try clear hk)
             (try clear hi)
             refine hK.out _ _ ⟨(blk_cell BK645.out 0).trans rfl, (blk_cell BK645.out 1).trans rfl, (blk_cell BK645.out 2).trans rfl, (blk_cell BK645.out 3).trans rfl, (blk_cell BK645.out 4).trans rfl, (cx HB.out hw657_0 :)⟩ (fun hHeld => ?_)
             clear hK K
             refine nz (N := (some 67)) ?_
             refine pz (i := 9) (N := some 58) #[I,I,I,I,I,I,I,I,I,I,O,O,O,O,O] ?_
             refine pz (i := 10) (N := some 68) #[I,I,I,I,I,I,I,I,I,I,I,O,O,O,O] ?_
             refine pz (i := 11) (N := some 69) #[I,I,I,I,I,I,I,I,I,I,I,I,O,O,O] ?_
             refine one_ (i := 12) (N := some 7) #[I,I,I,I,I,I,I,I,I,I,I,I,I,O,O] rfl rfl (one_of HT_.out (by kernel_rfl)) (by decide) (fun K hK => ?_)
             refine box_step ?hg (N := 7) ?hd (cs := #[.int .i64 0, .int .i64 0]) (t := 77) ?hr ?_; (case hd => rfl); (case hg => rfl); (case hr => first | (go_simp; done) | (go_simp; rfl))
             intro gb661 hg w163 hbox hb
             replace HO_3 := Aside0.mk (Kd.R_below (Kd.R_elderB (rk HO_3.out) gb661 (Nat.le_of_eq hg.symm)) hb)
             replace HR656 := Aside0.mk (Kd.C_below (ck HR656.out) hb)
             have BK661 := Aside0.mk (hbox)
             have GW661 := Aside0.mk ((by rw [hg]; exact (below_size bo) : w.heap.size ≤ gb661))
             have GE661 := Aside0.mk ((by rw [hg]; exact (below_size bo) : w.heap.size ≤ gb661))
             replace HB := Aside0.mk (below_step bo hb)
             have NB645_661 := Aside0.mk (nl BK645.out hg)
             have NB661_645 := Aside0.mk (ng BK645.out hg)
             replace BK645 := Aside0.mk (bb BK645.out hb)
             clear hb hbox hg
             refine hK.out _ _ ⟨(blk_cell BK645.out 0).trans rfl, (blk_cell BK645.out 1).trans rfl, (blk_cell BK645.out 2).trans rfl, (blk_cell BK645.out 3).trans rfl, (blk_cell BK645.out 4).trans rfl, (cx HB.out hw657_0 :)⟩ (fun hHeld => ?_)
             clear hK K
             refine nz (N := (some 7)) ?_
             exact norm_ (by simp only [putAll, Act.put, List.setIfInBounds_toArray, List.set_cons_zero, List.set_cons_succ]) (hCont (gb661) _ ⟨hHeld, (by (with_reducible repeat (first | apply Kd.R_alloc | apply Kd.R_drewN | apply Kd.R_drew)); exact Kd.R_mono HO_3.out (fun _ hk => hk.2)), (bk BK645.out), (bk BK661.out), GW661.out, GE661.out, NB645_661.out, NB661_645.out, bo⟩)
            skip
            refine box_step ?hg (N := 7) ?hd (cs := #[.int .i64 0, .int .i64 0]) (t := 77) ?hr ?_; (case hd => rfl); (case hg => rfl); (case hr => first | (go_simp; done) | (go_simp; rfl))
            intro gb661 hg w162 hbox hb
            replace HO_3 := Aside0.mk (Kd.R_below (Kd.R_elderB (rk HO_3.out) gb661 (Nat.le_of_eq hg.symm)) hb)
            replace HR656 := Aside0.mk (Kd.C_below (ck HR656.out) hb)
            have BK661 := Aside0.mk (hbox)
            have GW661 := Aside0.mk ((by rw [hg]; exact (below_size bo) : w.heap.size ≤ gb661))
            have GE661 := Aside0.mk ((by rw [hg]; exact (below_size bo) : w.heap.size ≤ gb661))
            replace HB := Aside0.mk (below_step bo hb)
            have NB645_661 := Aside0.mk (nl BK645.out hg)
            have NB661_645 := Aside0.mk (ng BK645.out hg)
            replace BK645 := Aside0.mk (bb BK645.out hb)
            clear hb hbox hg
            refine hK.out _ _ ⟨(blk_cell BK645.out 0).trans rfl, (blk_cell BK645.out 1).trans rfl, (blk_cell BK645.out 2).trans rfl, (blk_cell BK645.out 3).trans rfl, (blk_cell BK645.out 4).trans rfl, (cx HB.out hw657_0 :)⟩ (fun hHeld => ?_)
            clear hK K
            refine nz (N := (some 7)) ?_
            refine one_ (i := 8) (N := some 67) #[I,I,I,I,I,I,I,I,I,O,O,O,I,O,O] rfl rfl (one_of HT_.out (by kernel_rfl)) (by decide) (fun K hK => ?_)
            refine goes_ Try.func49 (by kernel_rfl) rfl #[.slice Ao159 y653.length co159, .int .i64 (rd l0_3 x5_2)] (by rfl) rfl rfl aa ?_
            with_reducible refine (index_From.calls k4 _ _ y653 (rd l0_3 x5_2) t658 t659 t660 _ ?side1 ?side2 A30.out).mono ?_
            (case side1 => exact (ck HR656.out))
            (case side2 => exact HC656.out)
            rintro e w163 ⟨rfl, hb⟩
            refine ⟨_, rfl, ?_⟩
            replace HO_3 := Aside0.mk (Kd.R_below (rk HO_3.out) hb)
            replace BK645 := Aside0.mk (bb BK645.out hb)
            replace HR656 := Aside0.mk (Kd.C_below (ck HR656.out) hb)
            replace BK661 := Aside0.mk (bb BK661.out hb)
            replace HB := Aside0.mk (below_step bo hb)
            (try clear hb)
            (try clear hb2)
            (try clear hk)
            (try clear hi)
            refine hK.out _ _ ⟨(blk_cell BK645.out 0).trans rfl, (blk_cell BK645.out 1).trans rfl, (blk_cell BK645.out 2).trans rfl, (blk_cell BK645.out 3).trans rfl, (blk_cell BK645.out 4).trans rfl, (cx HB.out hw657_0 :)⟩ (fun hHeld => ?_)
            clear hK K
            refine nz (N := (some 67)) ?_
            refine pz (i := 9) (N := some 58) #[I,I,I,I,I,I,I,I,I,I,O,O,I,O,O] ?_
            refine pz (i := 10) (N := some 68) #[I,I,I,I,I,I,I,I,I,I,I,O,I,O,O] ?_
            refine pz (i := 11) (N := some 69) #[I,I,I,I,I,I,I,I,I,I,I,I,I,O,O] ?_
            exact norm_ (by simp only [putAll, Act.put, List.setIfInBounds_toArray, List.set_cons_zero, List.set_cons_succ]) (hCont (gb661) _ ⟨hHeld, (by (with_reducible repeat (first | apply Kd.R_alloc | apply Kd.R_drewN | apply Kd.R_drew)); exact Kd.R_mono HO_3.out (fun _ hk => hk.2)), (bk BK645.out), (bk BK661.out), GW661.out, GE661.out, NB645_661.out, NB661_645.out, bo⟩)
           rintro gb661 w164 ⟨hS_, h0_, h1_, h2_, h3_, h4_, h5_, h6_, h7_⟩
           have n0_ : Aside0 (Kd.R k77 77 w164 w.heap.size (fun k_ => k_ ≠ gb661) (.slice Ao159 x3_6.length co159) x3_6) := ⟨h0_⟩
           have n1_ : Aside0 (w164.heap[gb645]? = some (.cells #[.int .i64 a0_0, .slice A0_1 l0_1.length c0_1, .slice A0_2 l0_2.length c0_2, .slice (some ad657) l0_3.length c0_3, .string a0_4] 55 (0, 0))) := ⟨h1_⟩
           have n2_ : Aside0 (w164.heap[gb661]? = some (.cells #[.int .i64 0, .int .i64 0] 77 (0, 0))) := ⟨h2_⟩
           have n3_ : Aside0 (w.heap.size ≤ gb661) := ⟨h3_⟩
           have n4_ : Aside0 (w.heap.size ≤ gb661) := ⟨h4_⟩
           have n5_ : Aside0 (gb645 ≠ gb661) := ⟨h5_⟩
           have n6_ : Aside0 (gb661 ≠ gb645) := ⟨h6_⟩
           have n7_ : Aside0 (Below w.heap.size w w164) := ⟨h7_⟩
           clear HO_3
           clear BK645
           clear HB
           clear h0_ h1_ h2_ h3_ h4_ h5_ h6_ h7_
           have HO_3 := n0_
           have BK645 := n1_
           have BK661 := n2_
           have GW661 := n3_
           have GE661 := n4_
           have NB645_661 := n5_
           have NB661_645 := n6_
           have HB := n7_
           clear n0_ n1_ n2_ n3_ n4_ n5_ n6_ n7_
           have hHeld : w164.cell? ⟨gb645, 0, none⟩ = some (.int .i64 a0_0) ∧ w164.cell? ⟨gb645, 1, none⟩ = some (.slice A0_1 l0_1.length c0_1) ∧ w164.cell? ⟨gb645, 2, none⟩ = some (.slice A0_2 l0_2.length c0_2) ∧ w164.cell? ⟨gb645, 3, none⟩ = some (.slice (some ad657) l0_3.length c0_3) ∧ w164.cell? ⟨gb645, 4, none⟩ = some (.string a0_4) ∧ w164.cell? (ad657.add (x5_2).toNat) = some (.int .i64 (rd l0_3 x5_2)) := hS_
           refine norm_ (a' := ?_) ?_ ?_
           rotate_left
           ·simp only [putAll, Act.put, List.setIfInBounds_toArray, List.set_cons_zero, List.set_cons_succ]
            rfl
           refine one_ (i := 13) (N := none) #[I,I,I,I,I,I,I,I,I,I,I,I,I,I,O] rfl rfl (one_of HT_.out (by kernel_rfl)) (by decide) (fun K hK => ?_)
           have hs165 : w164.cell? ⟨gb661, 0, none⟩ = some (.int .i64 0) := (blk_cell BK661.out 0).trans rfl
           have hfs165 := blk_frozen BK661.out 0
           have hns165_0 := NB645_661.out
           have hms165_0 := NB661_645.out
           have hs166 : w164.cell? ⟨gb661, 1, none⟩ = some (.int .i64 0) := (blk_cell BK661.out 1).trans rfl
           have hfs166 := blk_frozen BK661.out 1
           have hns166_0 := NB645_661.out
           have hms166_0 := NB661_645.out
           refine skip_ (w1 := ?_) (by rfl) rfl ?_ ?_
           rotate_left
           ·go_simp
            rfl
           refine hK.out _ _ ⟨(cf2 NB645_661.out hHeld.1), (cf2 NB645_661.out hHeld.2.1), (cf2 NB645_661.out hHeld.2.2.1), (cf2 NB645_661.out hHeld.2.2.2.1), (cf2 NB645_661.out hHeld.2.2.2.2.1), ((cell_far (p := ⟨gb661, _, none⟩) (by first | exact Nat.ne_of_lt (Nat.lt_of_lt_of_le (by have := World.block_lt_of_cell? _ _ hw657_0; first | rwa [add_block] at this | exact this) GW661.out) | (rw [add_block]; exact Nat.ne_of_lt (Nat.lt_of_lt_of_le (by have := World.block_lt_of_cell? _ _ hw657_0; first | rwa [add_block] at this | exact this) GW661.out)) | (show (Addr.add _ _).block ≠ _; rw [add_block]; exact Nat.ne_of_lt (Nat.lt_of_lt_of_le (by have := World.block_lt_of_cell? _ _ hw657_0; first | rwa [add_block] at this | exact this) GW661.out)) | (dsimp only; exact Nat.ne_of_lt (Nat.lt_of_lt_of_le (by have := World.block_lt_of_cell? _ _ hw657_0; first | rwa [add_block] at this | exact this) GW661.out))) _).trans (((cell_far (p := ⟨gb661, _, none⟩) (by first | exact Nat.ne_of_lt (Nat.lt_of_lt_of_le (by have := World.block_lt_of_cell? _ _ hw657_0; first | rwa [add_block] at this | exact this) GW661.out) | (rw [add_block]; exact Nat.ne_of_lt (Nat.lt_of_lt_of_le (by have := World.block_lt_of_cell? _ _ hw657_0; first | rwa [add_block] at this | exact this) GW661.out)) | (show (Addr.add _ _).block ≠ _; rw [add_block]; exact Nat.ne_of_lt (Nat.lt_of_lt_of_le (by have := World.block_lt_of_cell? _ _ hw657_0; first | rwa [add_block] at this | exact this) GW661.out)) | (dsimp only; exact Nat.ne_of_lt (Nat.lt_of_lt_of_le (by have := World.block_lt_of_cell? _ _ hw657_0; first | rwa [add_block] at this | exact this) GW661.out))) _).trans (hHeld.2.2.2.2.2))))⟩ (fun hHeld => ?_)
           clear hK K
           refine pz (i := 14) (N := some 8) #[I,I,I,I,I,I,I,I,I,I,I,I,I,I,I] ?_
           refine done_ (done_of HT_.out (by kernel_rfl)) ?_
           try go_wp2_with (first | ((with_reducible refine gate_dst (N := 10) rfl ?_); refine box_event ?hg (N := 10) ?hd (cs := #[.int .i64 0, .int .i64 0]) (t := 77) ?hr ?_; (case hd => rfl); (case hg => rfl); (case hr => first | (go_simp; done) | (go_simp; rfl)); intro gb662 hg w167 hbox hb; replace HO_3 := Aside0.mk (Kd.R_below (Kd.R_elderB (by (with_reducible repeat (first | apply Kd.R_alloc | apply Kd.R_drewN | apply Kd.R_drew)); exact (Kd.R_mono (Kd.R_far (p := ⟨gb661, 1, none⟩) (Kd.R_far (p := ⟨gb661, 0, none⟩) (Kd.R_mono HO_3.out (fun k_ hk => (⟨hk, hk⟩ : _ ∧ k_ ≠ gb661))) (fun _ hk => hk.2) (.int .i64 t658)) (fun _ hk => hk.2) (.int .i64 t659)) (fun _ h_ => h_.1))) gb662 (Nat.le_of_eq hg.symm)) hb); have BK662 := Aside0.mk (hbox); have GW662 := Aside0.mk ((by rw [hg]; exact (below_size bo) : w.heap.size ≤ gb662)); have GE662 := Aside0.mk ((by rw [hg]; exact (below_size bo) : w.heap.size ≤ gb662)); replace HB := Aside0.mk (below_step bo hb); have NB645_662 := Aside0.mk ((by rw [hg]; exact Nat.ne_of_lt (blk_lt (g := gb645) (o := .cells #[.int .i64 a0_0, .slice A0_1 l0_1.length c0_1, .slice A0_2 l0_2.length c0_2, .slice (some ad657) l0_3.length c0_3, .string a0_4] 55 (0, 0)) (bf BK645.out)) : gb645 ≠ gb662)); have NB662_645 := Aside0.mk ((by rw [hg]; exact Nat.ne_of_gt (blk_lt (g := gb645) (o := .cells #[.int .i64 a0_0, .slice A0_1 l0_1.length c0_1, .slice A0_2 l0_2.length c0_2, .slice (some ad657) l0_3.length c0_3, .string a0_4] 55 (0, 0)) (bf BK645.out)) : gb662 ≠ gb645)); replace BK645 := Aside0.mk (bB BK645.out hb); have NB661_662 := Aside0.mk ((by rw [hg]; exact Nat.ne_of_lt (blk_lt (g := gb661) (o := .cells #[.int .i64 t658, .int .i64 t659] 77 (0, 0)) (by (with_reducible repeat (first | refine blk_drewN ?_ _ | refine blk_drew ?_ | refine blk_alloc ?_ _)); refine blk_put (cs := #[.int .i64 t658, .int .i64 0]) ?_ 1 _ rfl; (with_reducible repeat (first | refine blk_drewN ?_ _ | refine blk_drew ?_ | refine blk_alloc ?_ _)); refine blk_put (cs := #[.int .i64 0, .int .i64 0]) ?_ 0 _ rfl; (with_reducible repeat (first | refine blk_drewN ?_ _ | refine blk_drew ?_ | refine blk_alloc ?_ _)); exact BK661.out)) : gb661 ≠ gb662)); have NB662_661 := Aside0.mk ((by rw [hg]; exact Nat.ne_of_gt (blk_lt (g := gb661) (o := .cells #[.int .i64 t658, .int .i64 t659] 77 (0, 0)) (by (with_reducible repeat (first | refine blk_drewN ?_ _ | refine blk_drew ?_ | refine blk_alloc ?_ _)); refine blk_put (cs := #[.int .i64 t658, .int .i64 0]) ?_ 1 _ rfl; (with_reducible repeat (first | refine blk_drewN ?_ _ | refine blk_drew ?_ | refine blk_alloc ?_ _)); refine blk_put (cs := #[.int .i64 0, .int .i64 0]) ?_ 0 _ rfl; (with_reducible repeat (first | refine blk_drewN ?_ _ | refine blk_drew ?_ | refine blk_alloc ?_ _)); exact BK661.out)) : gb662 ≠ gb661)); replace BK661 := Aside0.mk (blk_below (g := gb661) (o := .cells #[.int .i64 t658, .int .i64 t659] 77 (0, 0)) (by (with_reducible repeat (first | refine blk_drewN ?_ _ | refine blk_drew ?_ | refine blk_alloc ?_ _)); refine blk_put (cs := #[.int .i64 t658, .int .i64 0]) ?_ 1 _ rfl; (with_reducible repeat (first | refine blk_drewN ?_ _ | refine blk_drew ?_ | refine blk_alloc ?_ _)); refine blk_put (cs := #[.int .i64 0, .int .i64 0]) ?_ 0 _ rfl; (with_reducible repeat (first | refine blk_drewN ?_ _ | refine blk_drew ?_ | refine blk_alloc ?_ _)); exact BK661.out) hb); clear hb hbox hg; have hnb168 := NB662_645.out; have hnc168 := NB645_662.out; have hnb169 := NB662_661.out; have hnc169 := NB661_662.out; obtain ⟨hcz170_0, hcz170_1⟩ := cl2 BK662.out; obtain ⟨hfz170_0, hfz170_1⟩ := fz2 BK662.out) | ((with_reducible refine gate_store (t := 77) (p := 10) rfl ?_); refine store_event (t := 77) (p := 10) (v := ?vo_w171) (w1 := ((w167.setCell ⟨gb662, 0, none⟩ (.int .i64 0)).setCell ⟨gb662, 1, none⟩ (.int .i64 0))) ?hg ?ho ?hn ?hr ?_; (case ho => rfl); (case hg => rfl); (case hn => rfl); (case hr => first | (go_simp; done) | (go_simp; rfl)); intro w171 hw; have n0_ : Aside0 (Kd.R k77 77 w171 w.heap.size (fun k_ => k_ ≠ gb661 ∧ k_ ≠ gb662) (.slice Ao159 x3_6.length co159) x3_6) := ⟨(by rw [hw]; exact (by (with_reducible repeat (first | apply Kd.R_alloc | apply Kd.R_drewN | apply Kd.R_drew)); exact Kd.R_mono (Kd.R_far (p := ⟨gb662, 1, none⟩) (Kd.R_far (p := ⟨gb662, 0, none⟩) (Kd.R_mono HO_3.out (fun k_ hk => (⟨hk, hk.2⟩ : _ ∧ k_ ≠ gb662))) (fun _ hk => hk.2) (.int .i64 0)) (fun _ hk => hk.2) (.int .i64 0)) (fun _ hk => ⟨hk.1.1, hk.1.2⟩)))⟩; have n1_ : Aside0 (w171.heap[gb645]? = some (.cells #[.int .i64 a0_0, .slice A0_1 l0_1.length c0_1, .slice A0_2 l0_2.length c0_2, .slice (some ad657) l0_3.length c0_3, .string a0_4] 55 (0, 0))) := ⟨(by rw [hw]; exact (bf BK645.out))⟩; have n2_ : Aside0 (w171.heap[gb661]? = some (.cells #[.int .i64 t658, .int .i64 t659] 77 (0, 0))) := ⟨(by rw [hw]; exact (bf BK661.out))⟩; have n3_ : Aside0 (w171.heap[gb662]? = some (.cells #[.int .i64 0, .int .i64 0] 77 (0, 0))) := ⟨(by rw [hw]; exact (by (with_reducible repeat (first | refine blk_drewN ?_ _ | refine blk_drew ?_ | refine blk_alloc ?_ _)); refine blk_put (cs := #[.int .i64 0, .int .i64 0]) ?_ 1 _ rfl; (with_reducible repeat (first | refine blk_drewN ?_ _ | refine blk_drew ?_ | refine blk_alloc ?_ _)); refine blk_put (cs := #[.int .i64 0, .int .i64 0]) ?_ 0 _ rfl; (with_reducible repeat (first | refine blk_drewN ?_ _ | refine blk_drew ?_ | refine blk_alloc ?_ _)); exact BK662.out))⟩; have n4_ : Aside0 (Below w.heap.size w w171) := ⟨(by rw [hw]; exact bo)⟩; clear hw; clear HO_3; clear BK645; clear BK661; clear BK662; clear HB; have HO_3 := n0_; have BK645 := n1_; have BK661 := n2_; have BK662 := n3_; have HB := n4_; clear n0_ n1_ n2_ n3_ n4_; have q172 : (x6_4 : Int) ≤ ((x3_6.length : Int) : Int) := od; obtain ⟨i0172, hi0172, _, hsz172, _⟩ := info_parts info77; have hroom172 : x3_6.length ≤ co159 := (Kd.R_reads' HO_3.out).2.1; have hC172 : Kd.C k77 _ Ao159 x3_6.length x3_6 := (Kd.R_reads' HO_3.out).2.2; have hcut172 := cut_to (P := Try.prog) 75 77 .i64 Try.underlying75 hi0172 Ao159 x3_6.length co159 x6_4 (od) q172 hroom172; have hr172 := Kd.C_take (m := (x6_4 : Int).toNat) hC172 (by omega); have hy172 : y653.length = (x6_4 : Int).toNat := (by rw [Ny653.out, List.length_take]; omega); rw [← Ny653.out] at hr172; rw [← hy172] at hcut172; have HR666 := Aside0.mk hr172; have HC666 := Aside0.mk (show y653.length ≤ co159 from by omega); clear hr172 hC172 hroom172 hi0172 hsz172; have KY172 := Aside0.mk hy172; clear hy172; have KL172 := Aside0.mk (show (x6_4 : Int).toNat ≤ x3_6.length from by omega); replace q172 := eq_true q172) | ((with_reducible refine gate_callee (f := 50) rfl ?_); refine goesL_ (some 74) rfl rfl Try.func50 (by kernel_rfl) rfl #[.slice Ao159 y653.length co159] rfl aa ?_; (with_reducible refine (fairwayref10_Risen.calls k4 _ _ y653 false _ ?side1 ?side2 A33.out).mono ?_); (case side1 => exact (ck HR666.out)); (case side2 => exact HC666.out); rintro e w' ⟨rfl, ⟨nd, rfl⟩⟩; refine ⟨_, rfl, ?_⟩) | ((with_reducible refine gate_callee (f := 52) rfl ?_); refine goesL_ (some 91) rfl rfl Try.func52 (by kernel_rfl) rfl #[.int .i64 t660] rfl aa ?_; (with_reducible refine (fairwaylaw12_num.calls t660 t677 _ A156.out).mono ?_); rintro e w' ⟨rfl, ⟨nd, rfl⟩⟩; refine ⟨_, rfl, ?_⟩; have hnb173 := NB661_645.out; have hnc173 := NB645_661.out; obtain ⟨hcz174_0, hcz174_1⟩ := cl2 BK661.out; obtain ⟨hfz174_0, hfz174_1⟩ := fz2 BK661.out; obtain ⟨hcz175_0, hcz175_1⟩ := cl2 BK662.out; obtain ⟨hfz175_0, hfz175_1⟩ := fz2 BK662.out))
           go_ret
           exact ⟨er, bo⟩
          rw [if_neg c158] at H
          have c158b0 : (!(t658 == 0) || (!(t659 == 0))) = false := by simpa using c158
          clear c158
          have H' := Aside0.mk H
          clear H
          obtain ⟨Ao176, co176, eo176⟩ := Kd.R_slice HO_3.out
          subst eo176
          try go_wp2
          replace HO_3 := Aside0.mk (Kd.R_drew HO_3.out)
          replace BK645 := Aside0.mk (blk_drew BK645.out)
          replace HB := Aside0.mk (below_drew1 HB.out)
          have q178 : (x6_4 : Int) ≤ ((x3_6.length : Int) : Int) := od
          obtain ⟨i0178, hi0178, _, hsz178, _⟩ := info_parts info77
          have hroom178 : x3_6.length ≤ co176 := (Kd.R_reads' HO_3.out).2.1
          have hC178 : Kd.C k77 _ Ao176 x3_6.length x3_6 := (Kd.R_reads' HO_3.out).2.2
          have hcut178 := cut_to (P := Try.prog) 75 77 .i64 Try.underlying75 hi0178 Ao176 x3_6.length co176 x6_4 (od) q178 hroom178
          have hr178 := Kd.C_take (m := (x6_4 : Int).toNat) hC178 (by omega)
          have hy178 : y653.length = (x6_4 : Int).toNat := (by rw [Ny653.out, List.length_take]; omega)
          rw [← Ny653.out] at hr178
          rw [← hy178] at hcut178
          have HR656 := Aside0.mk hr178
          have HC656 := Aside0.mk (show y653.length ≤ co176 from by omega)
          clear hr178 hC178 hroom178 hi0178 hsz178
          have KY178 := Aside0.mk hy178
          clear hy178
          have KL178 := Aside0.mk (show (x6_4 : Int).toNat ≤ x3_6.length from by omega)
          replace q178 := eq_true q178
          have p657 : 0 ≤ (x5_2 : Int) := od
          have q657 : x5_2 < (l0_3.length : Int) := od
          obtain ⟨ad657, e657, hx657_0⟩ := Kd.at_int HR0_3.out x5_2 p657 q657
          have hw657_0 := hx657_0
          cases e657
          replace hx657_0 := cx HB.out hx657_0
          replace p657 := eq_true p657
          replace q657 := eq_true q657
          refine start_ (n := 15) (S := fun w' => w'.cell? ⟨gb645, 0, none⟩ = some (.int .i64 a0_0) ∧ w'.cell? ⟨gb645, 1, none⟩ = some (.slice A0_1 l0_1.length c0_1) ∧ w'.cell? ⟨gb645, 2, none⟩ = some (.slice A0_2 l0_2.length c0_2) ∧ w'.cell? ⟨gb645, 3, none⟩ = some (.slice (some ad657) l0_3.length c0_3) ∧ w'.cell? ⟨gb645, 4, none⟩ = some (.string a0_4) ∧ w'.cell? (ad657.add (x5_2).toNat) = some (.int .i64 (rd l0_3 x5_2))) (ds := []) #[O,O,O,O,O,O,O,O,O,O,O,O,O,O,O] (by kernel_rfl) rfl rfl ⟨(blk_cell BK645.out 0).trans rfl, (blk_cell BK645.out 1).trans rfl, (blk_cell BK645.out 2).trans rfl, (blk_cell BK645.out 3).trans rfl, (blk_cell BK645.out 4).trans rfl, (cx HB.out hw657_0 :)⟩ (fun hHeld => ?_); refine with_tabW fairwaylaw12_IndexFroms.tab14 fairwaylaw12_IndexFroms.bits14 (fun HT_ HW_ => ?_)
          generalize wr.drew = w177 at HO_3 BK645 HB HR656 hx657_0 hHeld ⊢
          refine pz (i := 0) (N := some 59) #[I,O,O,O,O,O,O,O,O,O,O,O,O,O,O] ?_
          refine pz (i := 1) (N := some 60) #[I,I,O,O,O,O,O,O,O,O,O,O,O,O,O] ?_
          refine pz (i := 2) (N := some 61) #[I,I,I,O,O,O,O,O,O,O,O,O,O,O,O] ?_
          refine pz (i := 3) (N := some 62) #[I,I,I,I,O,O,O,O,O,O,O,O,O,O,O] ?_
          refine pz (i := 5) (N := some 64) #[I,I,I,I,O,I,O,O,O,O,O,O,O,O,O] ?_
          refine tz (i := 4) (N := some 63) #[I,I,I,I,I,I,O,O,O,O,O,O,O,O,O] ?_
          refine pz (i := 6) (N := some 65) #[I,I,I,I,I,I,I,O,O,O,O,O,O,O,O] ?_
          refine tz (i := 7) (N := some 66) #[I,I,I,I,I,I,I,I,O,O,O,O,O,O,O] ?_
          refine join_ (σ := Nat) 2 #[I,I,I,I,I,I,I,I,I,I,I,I,I,O,O] (fun s_ => [(67, .tuple #[.agg #[.int .i64 t658, .int .i64 t659], .int .i64 t660]), (7, .pointer (some ⟨s_, 0, none⟩)), (58, .tuple #[.agg #[.int .i64 t658, .int .i64 t659], .int .i64 t660]), (68, .agg #[.int .i64 t658, .int .i64 t659]), (69, .int .i64 t660)]) (fun s_ w' => (w'.cell? ⟨gb645, 0, none⟩ = some (.int .i64 a0_0) ∧ w'.cell? ⟨gb645, 1, none⟩ = some (.slice A0_1 l0_1.length c0_1) ∧ w'.cell? ⟨gb645, 2, none⟩ = some (.slice A0_2 l0_2.length c0_2) ∧ w'.cell? ⟨gb645, 3, none⟩ = some (.slice (some ad657) l0_3.length c0_3) ∧ w'.cell? ⟨gb645, 4, none⟩ = some (.string a0_4) ∧ w'.cell? (ad657.add (x5_2).toNat) = some (.int .i64 (rd l0_3 x5_2))) ∧ (Kd.R k77 77 w' w.heap.size (fun k_ => k_ ≠ s_) (.slice Ao176 x3_6.length co176) x3_6) ∧ (w'.heap[gb645]? = some (.cells #[.int .i64 a0_0, .slice A0_1 l0_1.length c0_1, .slice A0_2 l0_2.length c0_2, .slice (some ad657) l0_3.length c0_3, .string a0_4] 55 (0, 0))) ∧ (w'.heap[s_]? = some (.cells #[.int .i64 0, .int .i64 0] 77 (0, 0))) ∧ (w.heap.size ≤ s_) ∧ (w.heap.size ≤ s_) ∧ (gb645 ≠ s_) ∧ (s_ ≠ gb645) ∧ (Below w.heap.size w w')) ?_ ?_
          rotate_left
          ·intro hCont
           refine two_ (i := 8) (j := 12) (Ni := some 67) (Nj := some 7) #[I,I,I,I,I,I,I,I,I,O,O,O,O,O,O] #[I,I,I,I,I,I,I,I,O,O,O,O,I,O,O] rfl rfl rfl rfl (two_of HT_.out (by kernel_rfl)) (by decide) (by decide) (fun K hK => ?_) (fun K hK => ?_)
           ·skip
            refine goes_ Try.func49 (by kernel_rfl) rfl #[.slice Ao176 y653.length co176, .int .i64 (rd l0_3 x5_2)] (by rfl) rfl rfl aa ?_
            with_reducible refine (index_From.calls k4 _ _ y653 (rd l0_3 x5_2) t658 t659 t660 _ ?side1 ?side2 A30.out).mono ?_
            (case side1 => exact (ck HR656.out))
            (case side2 => exact HC656.out)
            rintro e w179 ⟨rfl, hb⟩
            refine ⟨_, rfl, ?_⟩
            replace HO_3 := Aside0.mk (Kd.R_below (rk HO_3.out) hb)
            replace BK645 := Aside0.mk (bb BK645.out hb)
            replace HR656 := Aside0.mk (Kd.C_below (ck HR656.out) hb)
            replace HB := Aside0.mk (below_step bo hb)
            (try clear hb)
            (try clear hb2)
            (try clear hk)
            (try clear hi)
            refine hK.out _ _ ⟨(blk_cell BK645.out 0).trans rfl, (blk_cell BK645.out 1).trans rfl, (blk_cell BK645.out 2).trans rfl, (blk_cell BK645.out 3).trans rfl, (blk_cell BK645.out 4).trans rfl, (cx HB.out hw657_0 :)⟩ (fun hHeld => ?_)
            clear hK K
            refine nz (N := (some 67)) ?_
            refine pz (i := 9) (N := some 58) #[I,I,I,I,I,I,I,I,I,I,O,O,O,O,O] ?_
            refine pz (i := 10) (N := some 68) #[I,I,I,I,I,I,I,I,I,I,I,O,O,O,O] ?_
            refine pz (i := 11) (N := some 69) #[I,I,I,I,I,I,I,I,I,I,I,I,O,O,O] ?_
            refine one_ (i := 12) (N := some 7) #[I,I,I,I,I,I,I,I,I,I,I,I,I,O,O] rfl rfl (one_of HT_.out (by kernel_rfl)) (by decide) (fun K hK => ?_)
            refine box_step ?hg (N := 7) ?hd (cs := #[.int .i64 0, .int .i64 0]) (t := 77) ?hr ?_; (case hd => rfl); (case hg => rfl); (case hr => first | (go_simp; done) | (go_simp; rfl))
            intro gb661 hg w180 hbox hb
            replace HO_3 := Aside0.mk (Kd.R_below (Kd.R_elderB (rk HO_3.out) gb661 (Nat.le_of_eq hg.symm)) hb)
            replace HR656 := Aside0.mk (Kd.C_below (ck HR656.out) hb)
            have BK661 := Aside0.mk (hbox)
            have GW661 := Aside0.mk ((by rw [hg]; exact (below_size bo) : w.heap.size ≤ gb661))
            have GE661 := Aside0.mk ((by rw [hg]; exact (below_size bo) : w.heap.size ≤ gb661))
            replace HB := Aside0.mk (below_step bo hb)
            have NB645_661 := Aside0.mk (nl BK645.out hg)
            have NB661_645 := Aside0.mk (ng BK645.out hg)
            replace BK645 := Aside0.mk (bb BK645.out hb)
            clear hb hbox hg
            refine hK.out _ _ ⟨(blk_cell BK645.out 0).trans rfl, (blk_cell BK645.out 1).trans rfl, (blk_cell BK645.out 2).trans rfl, (blk_cell BK645.out 3).trans rfl, (blk_cell BK645.out 4).trans rfl, (cx HB.out hw657_0 :)⟩ (fun hHeld => ?_)
            clear hK K
            refine nz (N := (some 7)) ?_
            exact norm_ (by simp only [putAll, Act.put, List.setIfInBounds_toArray, List.set_cons_zero, List.set_cons_succ]) (hCont (gb661) _ ⟨hHeld, (by (with_reducible repeat (first | apply Kd.R_alloc | apply Kd.R_drewN | apply Kd.R_drew)); exact Kd.R_mono HO_3.out (fun _ hk => hk.2)), (bk BK645.out), (bk BK661.out), GW661.out, GE661.out, NB645_661.out, NB661_645.out, bo⟩)
           skip
           refine box_step ?hg (N := 7) ?hd (cs := #[.int .i64 0, .int .i64 0]) (t := 77) ?hr ?_; (case hd => rfl); (case hg => rfl); (case hr => first | (go_simp; done) | (go_simp; rfl))
           intro gb661 hg w179 hbox hb
           replace HO_3 := Aside0.mk (Kd.R_below (Kd.R_elderB (rk HO_3.out) gb661 (Nat.le_of_eq hg.symm)) hb)
           replace HR656 := Aside0.mk (Kd.C_below (ck HR656.out) hb)
           have BK661 := Aside0.mk (hbox)
           have GW661 := Aside0.mk ((by rw [hg]; exact (below_size bo) : w.heap.size ≤ gb661))
           have GE661 := Aside0.mk ((by rw [hg]; exact (below_size bo) : w.heap.size ≤ gb661))
           replace HB := Aside0.mk (below_step bo hb)
           have NB645_661 := Aside0.mk (nl BK645.out hg)
           have NB661_645 := Aside0.mk (ng BK645.out hg)
           replace BK645 := Aside0.mk (bb BK645.out hb)
           clear hb hbox hg
           refine hK.out _ _ ⟨(blk_cell BK645.out 0).trans rfl, (blk_cell BK645.out 1).trans rfl, (blk_cell BK645.out 2).trans rfl, (blk_cell BK645.out 3).trans rfl, (blk_cell BK645.out 4).trans rfl, (cx HB.out hw657_0 :)⟩ (fun hHeld => ?_)
           clear hK K
           refine nz (N := (some 7)) ?_
           refine one_ (i := 8) (N := some 67) #[I,I,I,I,I,I,I,I,I,O,O,O,I,O,O] rfl rfl (one_of HT_.out (by kernel_rfl)) (by decide) (fun K hK => ?_)
           refine goes_ Try.func49 (by kernel_rfl) rfl #[.slice Ao176 y653.length co176, .int .i64 (rd l0_3 x5_2)] (by rfl) rfl rfl aa ?_
           with_reducible refine (index_From.calls k4 _ _ y653 (rd l0_3 x5_2) t658 t659 t660 _ ?side1 ?side2 A30.out).mono ?_
           (case side1 => exact (ck HR656.out))
           (case side2 => exact HC656.out)
           rintro e w180 ⟨rfl, hb⟩
           refine ⟨_, rfl, ?_⟩
           replace HO_3 := Aside0.mk (Kd.R_below (rk HO_3.out) hb)
           replace BK645 := Aside0.mk (bb BK645.out hb)
           replace HR656 := Aside0.mk (Kd.C_below (ck HR656.out) hb)
           replace BK661 := Aside0.mk (bb BK661.out hb)
           replace HB := Aside0.mk (below_step bo hb)
           (try clear hb)
           (try clear hb2)
           (try clear hk)
           (try clear hi)
           refine hK.out _ _ ⟨(blk_cell BK645.out 0).trans rfl, (blk_cell BK645.out 1).trans rfl, (blk_cell BK645.out 2).trans rfl, (blk_cell BK645.out 3).trans rfl, (blk_cell BK645.out 4).trans rfl, (cx HB.out hw657_0 :)⟩ (fun hHeld => ?_)
           clear hK K
           refine nz (N := (some 67)) ?_
           refine pz (i := 9) (N := some 58) #[I,I,I,I,I,I,I,I,I,I,O,O,I,O,O] ?_
           refine pz (i := 10) (N := some 68) #[I,I,I,I,I,I,I,I,I,I,I,O,I,O,O] ?_
           refine pz (i := 11) (N := some 69) #[I,I,I,I,I,I,I,I,I,I,I,I,I,O,O] ?_
           exact norm_ (by simp only [putAll, Act.put, List.setIfInBounds_toArray, List.set_cons_zero, List.set_cons_succ]) (hCont (gb661) _ ⟨hHeld, (by (with_reducible repeat (first | apply Kd.R_alloc | apply Kd.R_drewN | apply Kd.R_drew)); exact Kd.R_mono HO_3.out (fun _ hk => hk.2)), (bk BK645.out), (bk BK661.out), GW661.out, GE661.out, NB645_661.out, NB661_645.out, bo⟩)
          rintro gb661 w181 ⟨hS_, h0_, h1_, h2_, h3_, h4_, h5_, h6_, h7_⟩
          have n0_ : Aside0 (Kd.R k77 77 w181 w.heap.size (fun k_ => k_ ≠ gb661) (.slice Ao176 x3_6.length co176) x3_6) := ⟨h0_⟩
          have n1_ : Aside0 (w181.heap[gb645]? = some (.cells #[.int .i64 a0_0, .slice A0_1 l0_1.length c0_1, .slice A0_2 l0_2.length c0_2, .slice (some ad657) l0_3.length c0_3, .string a0_4] 55 (0, 0))) := ⟨h1_⟩
          have n2_ : Aside0 (w181.heap[gb661]? = some (.cells #[.int .i64 0, .int .i64 0] 77 (0, 0))) := ⟨h2_⟩
          have n3_ : Aside0 (w.heap.size ≤ gb661) := ⟨h3_⟩
          have n4_ : Aside0 (w.heap.size ≤ gb661) := ⟨h4_⟩
          have n5_ : Aside0 (gb645 ≠ gb661) := ⟨h5_⟩
          have n6_ : Aside0 (gb661 ≠ gb645) := ⟨h6_⟩
          have n7_ : Aside0 (Below w.heap.size w w181) := ⟨h7_⟩
          clear HO_3
          clear BK645
          clear HB
          clear h0_ h1_ h2_ h3_ h4_ h5_ h6_ h7_
          have HO_3 := n0_
          have BK645 := n1_
          have BK661 := n2_
          have GW661 := n3_
          have GE661 := n4_
          have NB645_661 := n5_
          have NB661_645 := n6_
          have HB := n7_
          clear n0_ n1_ n2_ n3_ n4_ n5_ n6_ n7_
          have hHeld : w181.cell? ⟨gb645, 0, none⟩ = some (.int .i64 a0_0) ∧ w181.cell? ⟨gb645, 1, none⟩ = some (.slice A0_1 l0_1.length c0_1) ∧ w181.cell? ⟨gb645, 2, none⟩ = some (.slice A0_2 l0_2.length c0_2) ∧ w181.cell? ⟨gb645, 3, none⟩ = some (.slice (some ad657) l0_3.length c0_3) ∧ w181.cell? ⟨gb645, 4, none⟩ = some (.string a0_4) ∧ w181.cell? (ad657.add (x5_2).toNat) = some (.int .i64 (rd l0_3 x5_2)) := hS_
          refine norm_ (a' := ?_) ?_ ?_
          rotate_left
          ·simp only [putAll, Act.put, List.setIfInBounds_toArray, List.set_cons_zero, List.set_cons_succ]
           rfl
          refine one_ (i := 13) (N := none) #[I,I,I,I,I,I,I,I,I,I,I,I,I,I,O] rfl rfl (one_of HT_.out (by kernel_rfl)) (by decide) (fun K hK => ?_)
          have hs182 : w181.cell? ⟨gb661, 0, none⟩ = some (.int .i64 0) := (blk_cell BK661.out 0).trans rfl
          have hfs182 := blk_frozen BK661.out 0
          have hns182_0 := NB645_661.out
          have hms182_0 := NB661_645.out
          have hs183 : w181.cell? ⟨gb661, 1, none⟩ = some (.int .i64 0) := (blk_cell BK661.out 1).trans rfl
          have hfs183 := blk_frozen BK661.out 1
          have hns183_0 := NB645_661.out
          have hms183_0 := NB661_645.out
          refine skip_ (w1 := ?_) (by rfl) rfl ?_ ?_
          rotate_left
          ·go_simp
           rfl
          refine hK.out _ _ ⟨(cf2 NB645_661.out hHeld.1), (cf2 NB645_661.out hHeld.2.1), (cf2 NB645_661.out hHeld.2.2.1), (cf2 NB645_661.out hHeld.2.2.2.1), (cf2 NB645_661.out hHeld.2.2.2.2.1), ((cell_far (p := ⟨gb661, _, none⟩) (by first | exact Nat.ne_of_lt (Nat.lt_of_lt_of_le (by have := World.block_lt_of_cell? _ _ hw657_0; first | rwa [add_block] at this | exact this) GW661.out) | (rw [add_block]; exact Nat.ne_of_lt (Nat.lt_of_lt_of_le (by have := World.block_lt_of_cell? _ _ hw657_0; first | rwa [add_block] at this | exact this) GW661.out)) | (show (Addr.add _ _).block ≠ _; rw [add_block]; exact Nat.ne_of_lt (Nat.lt_of_lt_of_le (by have := World.block_lt_of_cell? _ _ hw657_0; first | rwa [add_block] at this | exact this) GW661.out)) | (dsimp only; exact Nat.ne_of_lt (Nat.lt_of_lt_of_le (by have := World.block_lt_of_cell? _ _ hw657_0; first | rwa [add_block] at this | exact this) GW661.out))) _).trans (((cell_far (p := ⟨gb661, _, none⟩) (by first | exact Nat.ne_of_lt (Nat.lt_of_lt_of_le (by have := World.block_lt_of_cell? _ _ hw657_0; first | rwa [add_block] at this | exact this) GW661.out) | (rw [add_block]; exact Nat.ne_of_lt (Nat.lt_of_lt_of_le (by have := World.block_lt_of_cell? _ _ hw657_0; first | rwa [add_block] at this | exact this) GW661.out)) | (show (Addr.add _ _).block ≠ _; rw [add_block]; exact Nat.ne_of_lt (Nat.lt_of_lt_of_le (by have := World.block_lt_of_cell? _ _ hw657_0; first | rwa [add_block] at this | exact this) GW661.out)) | (dsimp only; exact Nat.ne_of_lt (Nat.lt_of_lt_of_le (by have := World.block_lt_of_cell? _ _ hw657_0; first | rwa [add_block] at this | exact this) GW661.out))) _).trans (hHeld.2.2.2.2.2))))⟩ (fun hHeld => ?_)
          clear hK K
          refine pz (i := 14) (N := some 8) #[I,I,I,I,I,I,I,I,I,I,I,I,I,I,I] ?_
          refine done_ (done_of HT_.out (by kernel_rfl)) ?_
          try go_wp2_with (first | ((with_reducible refine gate_dst (N := 10) rfl ?_); refine box_event ?hg (N := 10) ?hd (cs := #[.int .i64 0, .int .i64 0]) (t := 77) ?hr ?_; (case hd => rfl); (case hg => rfl); (case hr => first | (go_simp; done) | (go_simp; rfl)); intro gb662 hg w184 hbox hb; replace HO_3 := Aside0.mk (Kd.R_below (Kd.R_elderB (by (with_reducible repeat (first | apply Kd.R_alloc | apply Kd.R_drewN | apply Kd.R_drew)); exact (Kd.R_mono (Kd.R_far (p := ⟨gb661, 1, none⟩) (Kd.R_far (p := ⟨gb661, 0, none⟩) (Kd.R_mono HO_3.out (fun k_ hk => (⟨hk, hk⟩ : _ ∧ k_ ≠ gb661))) (fun _ hk => hk.2) (.int .i64 t658)) (fun _ hk => hk.2) (.int .i64 t659)) (fun _ h_ => h_.1))) gb662 (Nat.le_of_eq hg.symm)) hb); have BK662 := Aside0.mk (hbox); have GW662 := Aside0.mk ((by rw [hg]; exact (below_size bo) : w.heap.size ≤ gb662)); have GE662 := Aside0.mk ((by rw [hg]; exact (below_size bo) : w.heap.size ≤ gb662)); replace HB := Aside0.mk (below_step bo hb); have NB645_662 := Aside0.mk ((by rw [hg]; exact Nat.ne_of_lt (blk_lt (g := gb645) (o := .cells #[.int .i64 a0_0, .slice A0_1 l0_1.length c0_1, .slice A0_2 l0_2.length c0_2, .slice (some ad657) l0_3.length c0_3, .string a0_4] 55 (0, 0)) (bf BK645.out)) : gb645 ≠ gb662)); have NB662_645 := Aside0.mk ((by rw [hg]; exact Nat.ne_of_gt (blk_lt (g := gb645) (o := .cells #[.int .i64 a0_0, .slice A0_1 l0_1.length c0_1, .slice A0_2 l0_2.length c0_2, .slice (some ad657) l0_3.length c0_3, .string a0_4] 55 (0, 0)) (bf BK645.out)) : gb662 ≠ gb645)); replace BK645 := Aside0.mk (bB BK645.out hb); have NB661_662 := Aside0.mk ((by rw [hg]; exact Nat.ne_of_lt (blk_lt (g := gb661) (o := .cells #[.int .i64 t658, .int .i64 t659] 77 (0, 0)) (by (with_reducible repeat (first | refine blk_drewN ?_ _ | refine blk_drew ?_ | refine blk_alloc ?_ _)); refine blk_put (cs := #[.int .i64 t658, .int .i64 0]) ?_ 1 _ rfl; (with_reducible repeat (first | refine blk_drewN ?_ _ | refine blk_drew ?_ | refine blk_alloc ?_ _)); refine blk_put (cs := #[.int .i64 0, .int .i64 0]) ?_ 0 _ rfl; (with_reducible repeat (first | refine blk_drewN ?_ _ | refine blk_drew ?_ | refine blk_alloc ?_ _)); exact BK661.out)) : gb661 ≠ gb662)); have NB662_661 := Aside0.mk ((by rw [hg]; exact Nat.ne_of_gt (blk_lt (g := gb661) (o := .cells #[.int .i64 t658, .int .i64 t659] 77 (0, 0)) (by (with_reducible repeat (first | refine blk_drewN ?_ _ | refine blk_drew ?_ | refine blk_alloc ?_ _)); refine blk_put (cs := #[.int .i64 t658, .int .i64 0]) ?_ 1 _ rfl; (with_reducible repeat (first | refine blk_drewN ?_ _ | refine blk_drew ?_ | refine blk_alloc ?_ _)); refine blk_put (cs := #[.int .i64 0, .int .i64 0]) ?_ 0 _ rfl; (with_reducible repeat (first | refine blk_drewN ?_ _ | refine blk_drew ?_ | refine blk_alloc ?_ _)); exact BK661.out)) : gb662 ≠ gb661)); replace BK661 := Aside0.mk (blk_below (g := gb661) (o := .cells #[.int .i64 t658, .int .i64 t659] 77 (0, 0)) (by (with_reducible repeat (first | refine blk_drewN ?_ _ | refine blk_drew ?_ | refine blk_alloc ?_ _)); refine blk_put (cs := #[.int .i64 t658, .int .i64 0]) ?_ 1 _ rfl; (with_reducible repeat (first | refine blk_drewN ?_ _ | refine blk_drew ?_ | refine blk_alloc ?_ _)); refine blk_put (cs := #[.int .i64 0, .int .i64 0]) ?_ 0 _ rfl; (with_reducible repeat (first | refine blk_drewN ?_ _ | refine blk_drew ?_ | refine blk_alloc ?_ _)); exact BK661.out) hb); clear hb hbox hg; have hnb185 := NB662_645.out; have hnc185 := NB645_662.out; have hnb186 := NB662_661.out; have hnc186 := NB661_662.out; obtain ⟨hcz187_0, hcz187_1⟩ := cl2 BK662.out; obtain ⟨hfz187_0, hfz187_1⟩ := fz2 BK662.out) | ((with_reducible refine gate_store (t := 77) (p := 10) rfl ?_); refine store_event (t := 77) (p := 10) (v := ?vo_w188) (w1 := ((w184.setCell ⟨gb662, 0, none⟩ (.int .i64 0)).setCell ⟨gb662, 1, none⟩ (.int .i64 0))) ?hg ?ho ?hn ?hr ?_; (case ho => rfl); (case hg => rfl); (case hn => rfl); (case hr => first | (go_simp; done) | (go_simp; rfl)); intro w188 hw; have n0_ : Aside0 (Kd.R k77 77 w188 w.heap.size (fun k_ => k_ ≠ gb661 ∧ k_ ≠ gb662) (.slice Ao176 x3_6.length co176) x3_6) := ⟨(by rw [hw]; exact (by (with_reducible repeat (first | apply Kd.R_alloc | apply Kd.R_drewN | apply Kd.R_drew)); exact Kd.R_mono (Kd.R_far (p := ⟨gb662, 1, none⟩) (Kd.R_far (p := ⟨gb662, 0, none⟩) (Kd.R_mono HO_3.out (fun k_ hk => (⟨hk, hk.2⟩ : _ ∧ k_ ≠ gb662))) (fun _ hk => hk.2) (.int .i64 0)) (fun _ hk => hk.2) (.int .i64 0)) (fun _ hk => ⟨hk.1.1, hk.1.2⟩)))⟩; have n1_ : Aside0 (w188.heap[gb645]? = some (.cells #[.int .i64 a0_0, .slice A0_1 l0_1.length c0_1, .slice A0_2 l0_2.length c0_2, .slice (some ad657) l0_3.length c0_3, .string a0_4] 55 (0, 0))) := ⟨(by rw [hw]; exact (bf BK645.out))⟩; have n2_ : Aside0 (w188.heap[gb661]? = some (.cells #[.int .i64 t658, .int .i64 t659] 77 (0, 0))) := ⟨(by rw [hw]; exact (bf BK661.out))⟩; have n3_ : Aside0 (w188.heap[gb662]? = some (.cells #[.int .i64 0, .int .i64 0] 77 (0, 0))) := ⟨(by rw [hw]; exact (by (with_reducible repeat (first | refine blk_drewN ?_ _ | refine blk_drew ?_ | refine blk_alloc ?_ _)); refine blk_put (cs := #[.int .i64 0, .int .i64 0]) ?_ 1 _ rfl; (with_reducible repeat (first | refine blk_drewN ?_ _ | refine blk_drew ?_ | refine blk_alloc ?_ _)); refine blk_put (cs := #[.int .i64 0, .int .i64 0]) ?_ 0 _ rfl; (with_reducible repeat (first | refine blk_drewN ?_ _ | refine blk_drew ?_ | refine blk_alloc ?_ _)); exact BK662.out))⟩; have n4_ : Aside0 (Below w.heap.size w w188) := ⟨(by rw [hw]; exact bo)⟩; clear hw; clear HO_3; clear BK645; clear BK661; clear BK662; clear HB; have HO_3 := n0_; have BK645 := n1_; have BK661 := n2_; have BK662 := n3_; have HB := n4_; clear n0_ n1_ n2_ n3_ n4_; have q189 : (x6_4 : Int) ≤ ((x3_6.length : Int) : Int) := od; obtain ⟨i0189, hi0189, _, hsz189, _⟩ := info_parts info77; have hroom189 : x3_6.length ≤ co176 := (Kd.R_reads' HO_3.out).2.1; have hC189 : Kd.C k77 _ Ao176 x3_6.length x3_6 := (Kd.R_reads' HO_3.out).2.2; have hcut189 := cut_to (P := Try.prog) 75 77 .i64 Try.underlying75 hi0189 Ao176 x3_6.length co176 x6_4 (od) q189 hroom189; have hr189 := Kd.C_take (m := (x6_4 : Int).toNat) hC189 (by omega); have hy189 : y653.length = (x6_4 : Int).toNat := (by rw [Ny653.out, List.length_take]; omega); rw [← Ny653.out] at hr189; rw [← hy189] at hcut189; have HR666 := Aside0.mk hr189; have HC666 := Aside0.mk (show y653.length ≤ co176 from by omega); clear hr189 hC189 hroom189 hi0189 hsz189; have KY189 := Aside0.mk hy189; clear hy189; have KL189 := Aside0.mk (show (x6_4 : Int).toNat ≤ x3_6.length from by omega); replace q189 := eq_true q189) | ((with_reducible refine gate_callee (f := 50) rfl ?_); refine goesL_ (some 74) rfl rfl Try.func50 (by kernel_rfl) rfl #[.slice Ao176 y653.length co176] rfl aa ?_; (with_reducible refine (fairwayref10_Risen.calls k4 _ _ y653 false _ ?side1 ?side2 A33.out).mono ?_); (case side1 => exact (ck HR666.out)); (case side2 => exact HC666.out); rintro e w' ⟨rfl, ⟨nd, rfl⟩⟩; refine ⟨_, rfl, ?_⟩) | ((with_reducible refine gate_callee (f := 52) rfl ?_); refine goesL_ (some 91) rfl rfl Try.func52 (by kernel_rfl) rfl #[.int .i64 t660] rfl aa ?_; (with_reducible refine (fairwaylaw12_num.calls t660 t677 _ A156.out).mono ?_); rintro e w' ⟨rfl, ⟨nd, rfl⟩⟩; refine ⟨_, rfl, ?_⟩; have hnb190 := NB661_645.out; have hnc190 := NB645_661.out; obtain ⟨hcz191_0, hcz191_1⟩ := cl2 BK661.out; obtain ⟨hfz191_0, hfz191_1⟩ := fz2 BK661.out; obtain ⟨hcz192_0, hcz192_1⟩ := cl2 BK662.out; obtain ⟨hfz192_0, hfz192_1⟩ := fz2 BK662.out))
          go_roundg k4
          case measure => have := HJ6.out; have := HK2.out; have := HJ19.out; have := HK4.out; omega
          case rel => exact ⟨(wrap64 (x6_4 + 1)), ap, H', ⟨by have := HJ6.out; have := HK2.out; have := HJ19.out; have := HK4.out; omega⟩, ⟨by (with_reducible repeat (first | apply Kd.R_alloc | apply Kd.R_drewN | apply Kd.R_drew)); exact Kd.R_mono HO_3.out (fun _ hk => trivial)⟩, ⟨by (with_reducible repeat (first | refine blk_drewN ?_ _ | refine blk_drew ?_ | refine blk_alloc ?_ _)); exact BK645.out⟩, ⟨bo⟩⟩
         subst c34
         have H1 : ((fairwayref10_From.f k4 (x3_6.take (x6_4 : Int).toNat) (rd l0_3 x5_2)).bind fun t673 => (if t673 ≥ 0 then (if 0 ≤ t673 then (if t673 < (x3_6.length : Int) then ((fairwaylaw12_num.f t660).bind fun t675 => (if t675 = 0 then (if (!(t658 == ((rd_T77 x3_6 t673).f0)) || (!(t659 == ((rd_T77 x3_6 t673).f1)))) = true then (some false) else (fairwaylaw12_IndexFroms.l2 k4 x3_6 x5_2 (wrap64 (x6_4 + 1)) a0_0 l0_1 l0_2 l0_3 a0_4)) else (some false))) else (none)) else (none)) else ((fairwaylaw12_num.f t660).bind fun t676 => (if t676 = 0 then (if (!(t658 == 0) || (!(t659 == 0))) = true then (some false) else (fairwaylaw12_IndexFroms.l2 k4 x3_6 x5_2 (wrap64 (x6_4 + 1)) a0_0 l0_1 l0_2 l0_3 a0_4)) else (some false))))) = some r := by rw [if_pos rfl] at H; exact H
         clear H
         have H := H1
         clear H1
         have c35b0 := eq_true (od : 0 ≤ x6_4)
         have c36b0 := eq_true (od : x6_4 ≤ (x3_6.length : Int))
         have hy653 := Ny653.out
         replace H : ((fairwayref10_From.f k4 y653 (rd l0_3 x5_2)).bind fun t673 => (if t673 ≥ 0 then (if 0 ≤ t673 then (if t673 < (x3_6.length : Int) then ((fairwaylaw12_num.f t660).bind fun t675 => (if t675 = 0 then (if (!(t658 == ((rd_T77 x3_6 t673).f0)) || (!(t659 == ((rd_T77 x3_6 t673).f1)))) = true then (some false) else (fairwaylaw12_IndexFroms.l2 k4 x3_6 x5_2 (wrap64 (x6_4 + 1)) a0_0 l0_1 l0_2 l0_3 a0_4)) else (some false))) else (none)) else (none)) else ((fairwaylaw12_num.f t660).bind fun t676 => (if t676 = 0 then (if (!(t658 == 0) || (!(t659 == 0))) = true then (some false) else (fairwaylaw12_IndexFroms.l2 k4 x3_6 x5_2 (wrap64 (x6_4 + 1)) a0_0 l0_1 l0_2 l0_3 a0_4)) else (some false))))) = some r := by first | (rw [hy653]; with_reducible exact H) | (have H2_ := (Option.bind_some _ _).symm.trans H; rw [hy653]; with_reducible exact H2_) | (have H2_ := (Option.bind_some _ _).symm.trans H; with_reducible exact H2_) | with_reducible exact H | (rw [hy653]; exact H) | exact H
         have Ny653 := Aside0.mk hy653
         clear hy653
         replace H := Option.bind_eq_some_iff.mp H
         obtain ⟨t673, A370, H⟩ := H
         try dsimp only at H
         have A37 := Aside0.mk A370
         clear A370
         by_cases c38 : t673 ≥ 0
         rotate_left
         ·rw [if_neg c38] at H
          have c38b0 : decide (0 ≤ t673) = false := decide_eq_false c38
          clear c38
          replace H := Option.bind_eq_some_iff.mp H
          obtain ⟨t676, A990, H⟩ := H
          try dsimp only at H
          have A99 := Aside0.mk A990
          clear A990
          by_cases c100 : t676 = 0
          rotate_left
          ·rw [if_neg c100] at H
           have c100b0 : (t676 == 0) = false := beq_eq_false_iff_ne.mpr c100
           have c100b1 : (t676 != 0) = true := bne_iff_ne.mpr c100
           obtain rfl := Option.some.inj H
           obtain ⟨Ao140, co140, eo140⟩ := Kd.R_slice HO_3.out
           subst eo140
           try go_wp2
           replace HO_3 := Aside0.mk (Kd.R_drew HO_3.out)
           replace BK645 := Aside0.mk (blk_drew BK645.out)
           replace HB := Aside0.mk (below_drew1 HB.out)
           have q142 : (x6_4 : Int) ≤ ((x3_6.length : Int) : Int) := od
           obtain ⟨i0142, hi0142, _, hsz142, _⟩ := info_parts info77
           have hroom142 : x3_6.length ≤ co140 := (Kd.R_reads' HO_3.out).2.1
           have hC142 : Kd.C k77 _ Ao140 x3_6.length x3_6 := (Kd.R_reads' HO_3.out).2.2
           have hcut142 := cut_to (P := Try.prog) 75 77 .i64 Try.underlying75 hi0142 Ao140 x3_6.length co140 x6_4 (od) q142 hroom142
           have hr142 := Kd.C_take (m := (x6_4 : Int).toNat) hC142 (by omega)
           have hy142 : y653.length = (x6_4 : Int).toNat := (by rw [Ny653.out, List.length_take]; omega)
           rw [← Ny653.out] at hr142
           rw [← hy142] at hcut142
           have HR656 := Aside0.mk hr142
           have HC656 := Aside0.mk (show y653.length ≤ co140 from by omega)
           clear hr142 hC142 hroom142 hi0142 hsz142
           have KY142 := Aside0.mk hy142
           clear hy142
           have KL142 := Aside0.mk (show (x6_4 : Int).toNat ≤ x3_6.length from by omega)
           replace q142 := eq_true q142
           have p657 : 0 ≤ (x5_2 : Int) := od
           have q657 : x5_2 < (l0_3.length : Int) := od
           obtain ⟨ad657, e657, hx657_0⟩ := Kd.at_int HR0_3.out x5_2 p657 q657
           have hw657_0 := hx657_0
           cases e657
           replace hx657_0 := cx HB.out hx657_0
           replace p657 := eq_true p657
           replace q657 := eq_true q657
           refine start_ (n := 15) (S := fun w' => w'.cell? ⟨gb645, 0, none⟩ = some (.int .i64 a0_0) ∧ w'.cell? ⟨gb645, 1, none⟩ = some (.slice A0_1 l0_1.length c0_1) ∧ w'.cell? ⟨gb645, 2, none⟩ = some (.slice A0_2 l0_2.length c0_2) ∧ w'.cell? ⟨gb645, 3, none⟩ = some (.slice (some ad657) l0_3.length c0_3) ∧ w'.cell? ⟨gb645, 4, none⟩ = some (.string a0_4) ∧ w'.cell? (ad657.add (x5_2).toNat) = some (.int .i64 (rd l0_3 x5_2))) (ds := []) #[O,O,O,O,O,O,O,O,O,O,O,O,O,O,O] (by kernel_rfl) rfl rfl ⟨(blk_cell BK645.out 0).trans rfl, (blk_cell BK645.out 1).trans rfl, (blk_cell BK645.out 2).trans rfl, (blk_cell BK645.out 3).trans rfl, (blk_cell BK645.out 4).trans rfl, (cx HB.out hw657_0 :)⟩ (fun hHeld => ?_); refine with_tabW fairwaylaw12_IndexFroms.tab14 fairwaylaw12_IndexFroms.bits14 (fun HT_ HW_ => ?_)
           generalize wr.drew = w141 at HO_3 BK645 HB HR656 hx657_0 hHeld ⊢
           refine pz (i := 0) (N := some 59) #[I,O,O,O,O,O,O,O,O,O,O,O,O,O,O] ?_
           refine pz (i := 1) (N := some 60) #[I,I,O,O,O,O,O,O,O,O,O,O,O,O,O] ?_
           refine pz (i := 2) (N := some 61) #[I,I,I,O,O,O,O,O,O,O,O,O,O,O,O] ?_
           refine pz (i := 3) (N := some 62) #[I,I,I,I,O,O,O,O,O,O,O,O,O,O,O] ?_
           refine pz (i := 5) (N := some 64) #[I,I,I,I,O,I,O,O,O,O,O,O,O,O,O] ?_
           refine tz (i := 4) (N := some 63) #[I,I,I,I,I,I,O,O,O,O,O,O,O,O,O] ?_
           refine pz (i := 6) (N := some 65) #[I,I,I,I,I,I,I,O,O,O,O,O,O,O,O] ?_
           refine tz (i := 7) (N := some 66) #[I,I,I,I,I,I,I,I,O,O,O,O,O,O,O] ?_
           refine join_ (σ := Nat) 2 #[I,I,I,I,I,I,I,I,I,I,I,I,I,O,O] (fun s_ => [(67, .tuple #[.agg #[.int .i64 t658, .int .i64 t659], .int .i64 t660]), (7, .pointer (some ⟨s_, 0, none⟩)), (58, .tuple #[.agg #[.int .i64 t658, .int .i64 t659], .int .i64 t660]), (68, .agg #[.int .i64 t658, .int .i64 t659]), (69, .int .i64 t660)]) (fun s_ w' => (w'.cell? ⟨gb645, 0, none⟩ = some (.int .i64 a0_0) ∧ w'.cell? ⟨gb645, 1, none⟩ = some (.slice A0_1 l0_1.length c0_1) ∧ w'.cell? ⟨gb645, 2, none⟩ = some (.slice A0_2 l0_2.length c0_2) ∧ w'.cell? ⟨gb645, 3, none⟩ = some (.slice (some ad657) l0_3.length c0_3) ∧ w'.cell? ⟨gb645, 4, none⟩ = some (.string a0_4) ∧ w'.cell? (ad657.add (x5_2).toNat) = some (.int .i64 (rd l0_3 x5_2))) ∧ (Kd.R k77 77 w' w.heap.size (fun k_ => k_ ≠ s_) (.slice Ao140 x3_6.length co140) x3_6) ∧ (w'.heap[gb645]? = some (.cells #[.int .i64 a0_0, .slice A0_1 l0_1.length c0_1, .slice A0_2 l0_2.length c0_2, .slice (some ad657) l0_3.length c0_3, .string a0_4] 55 (0, 0))) ∧ (w'.heap[s_]? = some (.cells #[.int .i64 0, .int .i64 0] 77 (0, 0))) ∧ (w.heap.size ≤ s_) ∧ (w.heap.size ≤ s_) ∧ (gb645 ≠ s_) ∧ (s_ ≠ gb645) ∧ (Below w.heap.size w w')) ?_ ?_
           rotate_left
           ·intro hCont
            refine two_ (i := 8) (j := 12) (Ni := some 67) (Nj := some 7) #[I,I,I,I,I,I,I,I,I,O,O,O,O,O,O] #[I,I,I,I,I,I,I,I,O,O,O,O,I,O,O] rfl rfl rfl rfl (two_of HT_.out (by kernel_rfl)) (by decide) (by decide) (fun K hK => ?_) (fun K hK => ?_)
            ·skip
             refine goes_ Try.func49 (by kernel_rfl) rfl #[.slice Ao140 y653.length co140, .int .i64 (rd l0_3 x5_2)] (by rfl) rfl rfl aa ?_
             with_reducible refine (index_From.calls k4 _ _ y653 (rd l0_3 x5_2) t658 t659 t660 _ ?side1 ?side2 A30.out).mono ?_
             (case side1 => exact (ck HR656.out))
             (case side2 => exact HC656.out)
             rintro e w143 ⟨rfl, hb⟩
             refine ⟨_, rfl, ?_⟩
             replace HO_3 := Aside0.mk (Kd.R_below (rk HO_3.out) hb)
             replace BK645 := Aside0.mk (bb BK645.out hb)
             replace HR656 := Aside0.mk (Kd.C_below (ck HR656.out) hb)
             replace HB := Aside0.mk (below_step bo hb)
             (try clear hb)
             (try clear hb2)
             (try clear hk)
             (try clear hi)
             refine hK.out _ _ ⟨(blk_cell BK645.out 0).trans rfl, (blk_cell BK645.out 1).trans rfl, (blk_cell BK645.out 2).trans rfl, (blk_cell BK645.out 3).trans rfl, (blk_cell BK645.out 4).trans rfl, (cx HB.out hw657_0 :)⟩ (fun hHeld => ?_)
             clear hK K
             refine nz (N := (some 67)) ?_
             refine pz (i := 9) (N := some 58) #[I,I,I,I,I,I,I,I,I,I,O,O,O,O,O] ?_
             refine pz (i := 10) (N := some 68) #[I,I,I,I,I,I,I,I,I,I,I,O,O,O,O] ?_
             refine pz (i := 11) (N := some 69) #[I,I,I,I,I,I,I,I,I,I,I,I,O,O,O] ?_
             refine one_ (i := 12) (N := some 7) #[I,I,I,I,I,I,I,I,I,I,I,I,I,O,O] rfl rfl (one_of HT_.out (by kernel_rfl)) (by decide) (fun K hK => ?_)
             refine box_step ?hg (N := 7) ?hd (cs := #[.int .i64 0, .int .i64 0]) (t := 77) ?hr ?_; (case hd => rfl); (case hg => rfl); (case hr => first | (go_simp; done) | (go_simp; rfl))
             intro gb661 hg w144 hbox hb
             replace HO_3 := Aside0.mk (Kd.R_below (Kd.R_elderB (rk HO_3.out) gb661 (Nat.le_of_eq hg.symm)) hb)
             replace HR656 := Aside0.mk (Kd.C_below (ck HR656.out) hb)
             have BK661 := Aside0.mk (hbox)
             have GW661 := Aside0.mk ((by rw [hg]; exact (below_size bo) : w.heap.size ≤ gb661))
             have GE661 := Aside0.mk ((by rw [hg]; exact (below_size bo) : w.heap.size ≤ gb661))
             replace HB := Aside0.mk (below_step bo hb)
             have NB645_661 := Aside0.mk (nl BK645.out hg)
             have NB661_645 := Aside0.mk (ng BK645.out hg)
             replace BK645 := Aside0.mk (bb BK645.out hb)
             clear hb hbox hg
             refine hK.out _ _ ⟨(blk_cell BK645.out 0).trans rfl, (blk_cell BK645.out 1).trans rfl, (blk_cell BK645.out 2).trans rfl, (blk_cell BK645.out 3).trans rfl, (blk_cell BK645.out 4).trans rfl, (cx HB.out hw657_0 :)⟩ (fun hHeld => ?_)
             clear hK K
             refine nz (N := (some 7)) ?_
             exact norm_ (by simp only [putAll, Act.put, List.setIfInBounds_toArray, List.set_cons_zero, List.set_cons_succ]) (hCont (gb661) _ ⟨hHeld, (by (with_reducible repeat (first | apply Kd.R_alloc | apply Kd.R_drewN | apply Kd.R_drew)); exact Kd.R_mono HO_3.out (fun _ hk => hk.2)), (bk BK645.out), (bk BK661.out), GW661.out, GE661.out, NB645_661.out, NB661_645.out, bo⟩)
            skip
            refine box_step ?hg (N := 7) ?hd (cs := #[.int .i64 0, .int .i64 0]) (t := 77) ?hr ?_; (case hd => rfl); (case hg => rfl); (case hr => first | (go_simp; done) | (go_simp; rfl))
            intro gb661 hg w143 hbox hb
            replace HO_3 := Aside0.mk (Kd.R_below (Kd.R_elderB (rk HO_3.out) gb661 (Nat.le_of_eq hg.symm)) hb)
            replace HR656 := Aside0.mk (Kd.C_below (ck HR656.out) hb)
            have BK661 := Aside0.mk (hbox)
            have GW661 := Aside0.mk ((by rw [hg]; exact (below_size bo) : w.heap.size ≤ gb661))
            have GE661 := Aside0.mk ((by rw [hg]; exact (below_size bo) : w.heap.size ≤ gb661))
            replace HB := Aside0.mk (below_step bo hb)
            have NB645_661 := Aside0.mk (nl BK645.out hg)
            have NB661_645 := Aside0.mk (ng BK645.out hg)
            replace BK645 := Aside0.mk (bb BK645.out hb)
            clear hb hbox hg
            refine hK.out _ _ ⟨(blk_cell BK645.out 0).trans rfl, (blk_cell BK645.out 1).trans rfl, (blk_cell BK645.out 2).trans rfl, (blk_cell BK645.out 3).trans rfl, (blk_cell BK645.out 4).trans rfl, (cx HB.out hw657_0 :)⟩ (fun hHeld => ?_)
            clear hK K
            refine nz (N := (some 7)) ?_
            refine one_ (i := 8) (N := some 67) #[I,I,I,I,I,I,I,I,I,O,O,O,I,O,O] rfl rfl (one_of HT_.out (by kernel_rfl)) (by decide) (fun K hK => ?_)
            refine goes_ Try.func49 (by kernel_rfl) rfl #[.slice Ao140 y653.length co140, .int .i64 (rd l0_3 x5_2)] (by rfl) rfl rfl aa ?_
            with_reducible refine (index_From.calls k4 _ _ y653 (rd l0_3 x5_2) t658 t659 t660 _ ?side1 ?side2 A30.out).mono ?_
            (case side1 => exact (ck HR656.out))
            (case side2 => exact HC656.out)
            rintro e w144 ⟨rfl, hb⟩
            refine ⟨_, rfl, ?_⟩
            replace HO_3 := Aside0.mk (Kd.R_below (rk HO_3.out) hb)
            replace BK645 := Aside0.mk (bb BK645.out hb)
            replace HR656 := Aside0.mk (Kd.C_below (ck HR656.out) hb)
            replace BK661 := Aside0.mk (bb BK661.out hb)
            replace HB := Aside0.mk (below_step bo hb)
            (try clear hb)
            (try clear hb2)
            (try clear hk)
            (try clear hi)
            refine hK.out _ _ ⟨(blk_cell BK645.out 0).trans rfl, (blk_cell BK645.out 1).trans rfl, (blk_cell BK645.out 2).trans rfl, (blk_cell BK645.out 3).trans rfl, (blk_cell BK645.out 4).trans rfl, (cx HB.out hw657_0 :)⟩ (fun hHeld => ?_)
            clear hK K
            refine nz (N := (some 67)) ?_
            refine pz (i := 9) (N := some 58) #[I,I,I,I,I,I,I,I,I,I,O,O,I,O,O] ?_
            refine pz (i := 10) (N := some 68) #[I,I,I,I,I,I,I,I,I,I,I,O,I,O,O] ?_
            refine pz (i := 11) (N := some 69) #[I,I,I,I,I,I,I,I,I,I,I,I,I,O,O] ?_
            exact norm_ (by simp only [putAll, Act.put, List.setIfInBounds_toArray, List.set_cons_zero, List.set_cons_succ]) (hCont (gb661) _ ⟨hHeld, (by (with_reducible repeat (first | apply Kd.R_alloc | apply Kd.R_drewN | apply Kd.R_drew)); exact Kd.R_mono HO_3.out (fun _ hk => hk.2)), (bk BK645.out), (bk BK661.out), GW661.out, GE661.out, NB645_661.out, NB661_645.out, bo⟩)
           rintro gb661 w145 ⟨hS_, h0_, h1_, h2_, h3_, h4_, h5_, h6_, h7_⟩
           have n0_ : Aside0 (Kd.R k77 77 w145 w.heap.size (fun k_ => k_ ≠ gb661) (.slice Ao140 x3_6.length co140) x3_6) := ⟨h0_⟩
           have n1_ : Aside0 (w145.heap[gb645]? = some (.cells #[.int .i64 a0_0, .slice A0_1 l0_1.length c0_1, .slice A0_2 l0_2.length c0_2, .slice (some ad657) l0_3.length c0_3, .string a0_4] 55 (0, 0))) := ⟨h1_⟩
           have n2_ : Aside0 (w145.heap[gb661]? = some (.cells #[.int .i64 0, .int .i64 0] 77 (0, 0))) := ⟨h2_⟩
           have n3_ : Aside0 (w.heap.size ≤ gb661) := ⟨h3_⟩
           have n4_ : Aside0 (w.heap.size ≤ gb661) := ⟨h4_⟩
           have n5_ : Aside0 (gb645 ≠ gb661) := ⟨h5_⟩
           have n6_ : Aside0 (gb661 ≠ gb645) := ⟨h6_⟩
           have n7_ : Aside0 (Below w.heap.size w w145) := ⟨h7_⟩
           clear HO_3
           clear BK645
           clear HB
           clear h0_ h1_ h2_ h3_ h4_ h5_ h6_ h7_
           have HO_3 := n0_
           have BK645 := n1_
           have BK661 := n2_
           have GW661 := n3_
           have GE661 := n4_
           have NB645_661 := n5_
           have NB661_645 := n6_
           have HB := n7_
           clear n0_ n1_ n2_ n3_ n4_ n5_ n6_ n7_
           have hHeld : w145.cell? ⟨gb645, 0, none⟩ = some (.int .i64 a0_0) ∧ w145.cell? ⟨gb645, 1, none⟩ = some (.slice A0_1 l0_1.length c0_1) ∧ w145.cell? ⟨gb645, 2, none⟩ = some (.slice A0_2 l0_2.length c0_2) ∧ w145.cell? ⟨gb645, 3, none⟩ = some (.slice (some ad657) l0_3.length c0_3) ∧ w145.cell? ⟨gb645, 4, none⟩ = some (.string a0_4) ∧ w145.cell? (ad657.add (x5_2).toNat) = some (.int .i64 (rd l0_3 x5_2)) := hS_
           refine norm_ (a' := ?_) ?_ ?_
           rotate_left
           ·simp only [putAll, Act.put, List.setIfInBounds_toArray, List.set_cons_zero, List.set_cons_succ]
            rfl
           refine one_ (i := 13) (N := none) #[I,I,I,I,I,I,I,I,I,I,I,I,I,I,O] rfl rfl (one_of HT_.out (by kernel_rfl)) (by decide) (fun K hK => ?_)
           have hs146 : w145.cell? ⟨gb661, 0, none⟩ = some (.int .i64 0) := (blk_cell BK661.out 0).trans rfl
           have hfs146 := blk_frozen BK661.out 0
           have hns146_0 := NB645_661.out
           have hms146_0 := NB661_645.out
           have hs147 : w145.cell? ⟨gb661, 1, none⟩ = some (.int .i64 0) := (blk_cell BK661.out 1).trans rfl
           have hfs147 := blk_frozen BK661.out 1
           have hns147_0 := NB645_661.out
           have hms147_0 := NB661_645.out
           refine skip_ (w1 := ?_) (by rfl) rfl ?_ ?_
           rotate_left
           ·go_simp
            rfl
           refine hK.out _ _ ⟨(cf2 NB645_661.out hHeld.1), (cf2 NB645_661.out hHeld.2.1), (cf2 NB645_661.out hHeld.2.2.1), (cf2 NB645_661.out hHeld.2.2.2.1), (cf2 NB645_661.out hHeld.2.2.2.2.1), ((cell_far (p := ⟨gb661, _, none⟩) (by first | exact Nat.ne_of_lt (Nat.lt_of_lt_of_le (by have := World.block_lt_of_cell? _ _ hw657_0; first | rwa [add_block] at this | exact this) GW661.out) | (rw [add_block]; exact Nat.ne_of_lt (Nat.lt_of_lt_of_le (by have := World.block_lt_of_cell? _ _ hw657_0; first | rwa [add_block] at this | exact this) GW661.out)) | (show (Addr.add _ _).block ≠ _; rw [add_block]; exact Nat.ne_of_lt (Nat.lt_of_lt_of_le (by have := World.block_lt_of_cell? _ _ hw657_0; first | rwa [add_block] at this | exact this) GW661.out)) | (dsimp only; exact Nat.ne_of_lt (Nat.lt_of_lt_of_le (by have := World.block_lt_of_cell? _ _ hw657_0; first | rwa [add_block] at this | exact this) GW661.out))) _).trans (((cell_far (p := ⟨gb661, _, none⟩) (by first | exact Nat.ne_of_lt (Nat.lt_of_lt_of_le (by have := World.block_lt_of_cell? _ _ hw657_0; first | rwa [add_block] at this | exact this) GW661.out) | (rw [add_block]; exact Nat.ne_of_lt (Nat.lt_of_lt_of_le (by have := World.block_lt_of_cell? _ _ hw657_0; first | rwa [add_block] at this | exact this) GW661.out)) | (show (Addr.add _ _).block ≠ _; rw [add_block]; exact Nat.ne_of_lt (Nat.lt_of_lt_of_le (by have := World.block_lt_of_cell? _ _ hw657_0; first | rwa [add_block] at this | exact this) GW661.out)) | (dsimp only; exact Nat.ne_of_lt (Nat.lt_of_lt_of_le (by have := World.block_lt_of_cell? _ _ hw657_0; first | rwa [add_block] at this | exact this) GW661.out))) _).trans (hHeld.2.2.2.2.2))))⟩ (fun hHeld => ?_)
           clear hK K
           refine pz (i := 14) (N := some 8) #[I,I,I,I,I,I,I,I,I,I,I,I,I,I,I] ?_
           refine done_ (done_of HT_.out (by kernel_rfl)) ?_
           try go_wp2_with (first | ((with_reducible refine gate_dst (N := 10) rfl ?_); refine box_event ?hg (N := 10) ?hd (cs := #[.int .i64 0, .int .i64 0]) (t := 77) ?hr ?_; (case hd => rfl); (case hg => rfl); (case hr => first | (go_simp; done) | (go_simp; rfl)); intro gb662 hg w148 hbox hb; replace HO_3 := Aside0.mk (Kd.R_below (Kd.R_elderB (by (with_reducible repeat (first | apply Kd.R_alloc | apply Kd.R_drewN | apply Kd.R_drew)); exact (Kd.R_mono (Kd.R_far (p := ⟨gb661, 1, none⟩) (Kd.R_far (p := ⟨gb661, 0, none⟩) (Kd.R_mono HO_3.out (fun k_ hk => (⟨hk, hk⟩ : _ ∧ k_ ≠ gb661))) (fun _ hk => hk.2) (.int .i64 t658)) (fun _ hk => hk.2) (.int .i64 t659)) (fun _ h_ => h_.1))) gb662 (Nat.le_of_eq hg.symm)) hb); have BK662 := Aside0.mk (hbox); have GW662 := Aside0.mk ((by rw [hg]; exact (below_size bo) : w.heap.size ≤ gb662)); have GE662 := Aside0.mk ((by rw [hg]; exact (below_size bo) : w.heap.size ≤ gb662)); replace HB := Aside0.mk (below_step bo hb); have NB645_662 := Aside0.mk ((by rw [hg]; exact Nat.ne_of_lt (blk_lt (g := gb645) (o := .cells #[.int .i64 a0_0, .slice A0_1 l0_1.length c0_1, .slice A0_2 l0_2.length c0_2, .slice (some ad657) l0_3.length c0_3, .string a0_4] 55 (0, 0)) (bf BK645.out)) : gb645 ≠ gb662)); have NB662_645 := Aside0.mk ((by rw [hg]; exact Nat.ne_of_gt (blk_lt (g := gb645) (o := .cells #[.int .i64 a0_0, .slice A0_1 l0_1.length c0_1, .slice A0_2 l0_2.length c0_2, .slice (some ad657) l0_3.length c0_3, .string a0_4] 55 (0, 0)) (bf BK645.out)) : gb662 ≠ gb645)); replace BK645 := Aside0.mk (bB BK645.out hb); have NB661_662 := Aside0.mk ((by rw [hg]; exact Nat.ne_of_lt (blk_lt (g := gb661) (o := .cells #[.int .i64 t658, .int .i64 t659] 77 (0, 0)) (by (with_reducible repeat (first | refine blk_drewN ?_ _ | refine blk_drew ?_ | refine blk_alloc ?_ _)); refine blk_put (cs := #[.int .i64 t658, .int .i64 0]) ?_ 1 _ rfl; (with_reducible repeat (first | refine blk_drewN ?_ _ | refine blk_drew ?_ | refine blk_alloc ?_ _)); refine blk_put (cs := #[.int .i64 0, .int .i64 0]) ?_ 0 _ rfl; (with_reducible repeat (first | refine blk_drewN ?_ _ | refine blk_drew ?_ | refine blk_alloc ?_ _)); exact BK661.out)) : gb661 ≠ gb662)); have NB662_661 := Aside0.mk ((by rw [hg]; exact Nat.ne_of_gt (blk_lt (g := gb661) (o := .cells #[.int .i64 t658, .int .i64 t659] 77 (0, 0)) (by (with_reducible repeat (first | refine blk_drewN ?_ _ | refine blk_drew ?_ | refine blk_alloc ?_ _)); refine blk_put (cs := #[.int .i64 t658, .int .i64 0]) ?_ 1 _ rfl; (with_reducible repeat (first | refine blk_drewN ?_ _ | refine blk_drew ?_ | refine blk_alloc ?_ _)); refine blk_put (cs := #[.int .i64 0, .int .i64 0]) ?_ 0 _ rfl; (with_reducible repeat (first | refine blk_drewN ?_ _ | refine blk_drew ?_ | refine blk_alloc ?_ _)); exact BK661.out)) : gb662 ≠ gb661)); replace BK661 := Aside0.mk (blk_below (g := gb661) (o := .cells #[.int .i64 t658, .int .i64 t659] 77 (0, 0)) (by (with_reducible repeat (first | refine blk_drewN ?_ _ | refine blk_drew ?_ | refine blk_alloc ?_ _)); refine blk_put (cs := #[.int .i64 t658, .int .i64 0]) ?_ 1 _ rfl; (with_reducible repeat (first | refine blk_drewN ?_ _ | refine blk_drew ?_ | refine blk_alloc ?_ _)); refine blk_put (cs := #[.int .i64 0, .int .i64 0]) ?_ 0 _ rfl; (with_reducible repeat (first | refine blk_drewN ?_ _ | refine blk_drew ?_ | refine blk_alloc ?_ _)); exact BK661.out) hb); clear hb hbox hg; have hnb149 := NB662_645.out; have hnc149 := NB645_662.out; have hnb150 := NB662_661.out; have hnc150 := NB661_662.out; obtain ⟨hcz151_0, hcz151_1⟩ := cl2 BK662.out; obtain ⟨hfz151_0, hfz151_1⟩ := fz2 BK662.out) | ((with_reducible refine gate_store (t := 77) (p := 10) rfl ?_); refine store_event (t := 77) (p := 10) (v := ?vo_w152) (w1 := ((w148.setCell ⟨gb662, 0, none⟩ (.int .i64 0)).setCell ⟨gb662, 1, none⟩ (.int .i64 0))) ?hg ?ho ?hn ?hr ?_; (case ho => rfl); (case hg => rfl); (case hn => rfl); (case hr => first | (go_simp; done) | (go_simp; rfl)); intro w152 hw; have n0_ : Aside0 (Kd.R k77 77 w152 w.heap.size (fun k_ => k_ ≠ gb661 ∧ k_ ≠ gb662) (.slice Ao140 x3_6.length co140) x3_6) := ⟨(by rw [hw]; exact (by (with_reducible repeat (first | apply Kd.R_alloc | apply Kd.R_drewN | apply Kd.R_drew)); exact Kd.R_mono (Kd.R_far (p := ⟨gb662, 1, none⟩) (Kd.R_far (p := ⟨gb662, 0, none⟩) (Kd.R_mono HO_3.out (fun k_ hk => (⟨hk, hk.2⟩ : _ ∧ k_ ≠ gb662))) (fun _ hk => hk.2) (.int .i64 0)) (fun _ hk => hk.2) (.int .i64 0)) (fun _ hk => ⟨hk.1.1, hk.1.2⟩)))⟩; have n1_ : Aside0 (w152.heap[gb645]? = some (.cells #[.int .i64 a0_0, .slice A0_1 l0_1.length c0_1, .slice A0_2 l0_2.length c0_2, .slice (some ad657) l0_3.length c0_3, .string a0_4] 55 (0, 0))) := ⟨(by rw [hw]; exact (bf BK645.out))⟩; have n2_ : Aside0 (w152.heap[gb661]? = some (.cells #[.int .i64 t658, .int .i64 t659] 77 (0, 0))) := ⟨(by rw [hw]; exact (bf BK661.out))⟩; have n3_ : Aside0 (w152.heap[gb662]? = some (.cells #[.int .i64 0, .int .i64 0] 77 (0, 0))) := ⟨(by rw [hw]; exact (by (with_reducible repeat (first | refine blk_drewN ?_ _ | refine blk_drew ?_ | refine blk_alloc ?_ _)); refine blk_put (cs := #[.int .i64 0, .int .i64 0]) ?_ 1 _ rfl; (with_reducible repeat (first | refine blk_drewN ?_ _ | refine blk_drew ?_ | refine blk_alloc ?_ _)); refine blk_put (cs := #[.int .i64 0, .int .i64 0]) ?_ 0 _ rfl; (with_reducible repeat (first | refine blk_drewN ?_ _ | refine blk_drew ?_ | refine blk_alloc ?_ _)); exact BK662.out))⟩; have n4_ : Aside0 (Below w.heap.size w w152) := ⟨(by rw [hw]; exact bo)⟩; clear hw; clear HO_3; clear BK645; clear BK661; clear BK662; clear HB; have HO_3 := n0_; have BK645 := n1_; have BK661 := n2_; have BK662 := n3_; have HB := n4_; clear n0_ n1_ n2_ n3_ n4_; have q153 : (x6_4 : Int) ≤ ((x3_6.length : Int) : Int) := od; obtain ⟨i0153, hi0153, _, hsz153, _⟩ := info_parts info77; have hroom153 : x3_6.length ≤ co140 := (Kd.R_reads' HO_3.out).2.1; have hC153 : Kd.C k77 _ Ao140 x3_6.length x3_6 := (Kd.R_reads' HO_3.out).2.2; have hcut153 := cut_to (P := Try.prog) 75 77 .i64 Try.underlying75 hi0153 Ao140 x3_6.length co140 x6_4 (od) q153 hroom153; have hr153 := Kd.C_take (m := (x6_4 : Int).toNat) hC153 (by omega); have hy153 : y653.length = (x6_4 : Int).toNat := (by rw [Ny653.out, List.length_take]; omega); rw [← Ny653.out] at hr153; rw [← hy153] at hcut153; have HR666 := Aside0.mk hr153; have HC666 := Aside0.mk (show y653.length ≤ co140 from by omega); clear hr153 hC153 hroom153 hi0153 hsz153; have KY153 := Aside0.mk hy153; clear hy153; have KL153 := Aside0.mk (show (x6_4 : Int).toNat ≤ x3_6.length from by omega); replace q153 := eq_true q153) | ((with_reducible refine gate_callee (f := 50) rfl ?_); refine goesL_ (some 74) rfl rfl Try.func50 (by kernel_rfl) rfl #[.slice Ao140 y653.length co140] rfl aa ?_; (with_reducible refine (fairwayref10_Risen.calls k4 _ _ y653 true _ ?side1 ?side2 A33.out).mono ?_); (case side1 => exact (ck HR666.out)); (case side2 => exact HC666.out); rintro e w' ⟨rfl, ⟨nd, rfl⟩⟩; refine ⟨_, rfl, ?_⟩))
           (try (rw [drewN_self w152]; generalize hq_ : World.drewN w152 _ = w152; have n0_ : Aside0 (Kd.R k77 77 w152 w.heap.size (fun k_ => k_ ≠ gb661 ∧ k_ ≠ gb662) (.slice Ao140 x3_6.length co140) x3_6) := ⟨by rw [← hq_]; exact (rk HO_3.out)⟩; have n1_ : Aside0 (w152.heap[gb645]? = some (.cells #[.int .i64 a0_0, .slice A0_1 l0_1.length c0_1, .slice A0_2 l0_2.length c0_2, .slice (some ad657) l0_3.length c0_3, .string a0_4] 55 (0, 0))) := ⟨by rw [← hq_]; exact (bk BK645.out)⟩; have n2_ : Aside0 (w152.heap[gb661]? = some (.cells #[.int .i64 t658, .int .i64 t659] 77 (0, 0))) := ⟨by rw [← hq_]; exact (bk BK661.out)⟩; have n3_ : Aside0 (w152.heap[gb662]? = some (.cells #[.int .i64 0, .int .i64 0] 77 (0, 0))) := ⟨by rw [← hq_]; exact (bk BK662.out)⟩; have n4_ : Aside0 (Below w.heap.size w w152) := ⟨by rw [← hq_]; exact bo⟩; have n5_ : Aside0 (Kd.C k77 w152 Ao140 y653.length y653) := ⟨by rw [← hq_]; exact (ck HR666.out)⟩; clear HO_3 BK645 BK661 BK662 HB HR666 hq_; have HO_3 := n0_; have BK645 := n1_; have BK661 := n2_; have BK662 := n3_; have HB := n4_; have HR666 := n5_; clear n0_ n1_ n2_ n3_ n4_ n5_))
           replace HO_3 := Aside0.mk (Kd.R_drew HO_3.out)
           replace BK645 := Aside0.mk (blk_drew BK645.out)
           replace BK661 := Aside0.mk (blk_drew BK661.out)
           replace BK662 := Aside0.mk (blk_drew BK662.out)
           replace HR666 := Aside0.mk (Kd.C_drew HR666.out)
           replace HB := Aside0.mk (below_drew1 HB.out)
           have q155 : (x6_4 : Int) ≤ ((x3_6.length : Int) : Int) := od
           obtain ⟨i0155, hi0155, _, hsz155, _⟩ := info_parts info77
           have hroom155 : x3_6.length ≤ co140 := (Kd.R_reads' HO_3.out).2.1
           have hC155 : Kd.C k77 _ Ao140 x3_6.length x3_6 := (Kd.R_reads' HO_3.out).2.2
           have hcut155 := cut_to (P := Try.prog) 75 77 .i64 Try.underlying75 hi0155 Ao140 x3_6.length co140 x6_4 (od) q155 hroom155
           have hr155 := Kd.C_take (m := (x6_4 : Int).toNat) hC155 (by omega)
           have hy155 : y653.length = (x6_4 : Int).toNat := (by rw [Ny653.out, List.length_take]; omega)
           rw [← Ny653.out] at hr155
           rw [← hy155] at hcut155
           have HR671 := Aside0.mk hr155
           have HC671 := Aside0.mk (show y653.length ≤ co140 from by omega)
           clear hr155 hC155 hroom155 hi0155 hsz155
           have KY155 := Aside0.mk hy155
           clear hy155
           have KL155 := Aside0.mk (show (x6_4 : Int).toNat ≤ x3_6.length from by omega)
           replace q155 := eq_true q155
           have p672 : 0 ≤ (x5_2 : Int) := od
           have q672 : x5_2 < (l0_3.length : Int) := od
           obtain ⟨ad672, e672, hx672_0⟩ := Kd.at_int HR0_3.out x5_2 p672 q672
           have hw672_0 := hx672_0
           obtain rfl : ad657 = ad672 := (by injection e672)
           replace hx672_0 := cx HB.out hx672_0
           replace p672 := eq_true p672
           replace q672 := eq_true q672
           refine start_ (n := 10) (S := fun w' => w'.cell? ⟨gb645, 0, none⟩ = some (.int .i64 a0_0) ∧ w'.cell? ⟨gb645, 1, none⟩ = some (.slice A0_1 l0_1.length c0_1) ∧ w'.cell? ⟨gb645, 2, none⟩ = some (.slice A0_2 l0_2.length c0_2) ∧ w'.cell? ⟨gb645, 3, none⟩ = some (.slice (some ad657) l0_3.length c0_3) ∧ w'.cell? ⟨gb645, 4, none⟩ = some (.string a0_4) ∧ w'.cell? (ad657.add (x5_2).toNat) = some (.int .i64 (rd l0_3 x5_2))) (ds := []) #[O,O,O,O,O,O,O,O,O,O] (by kernel_rfl) rfl rfl ⟨(blk_cell BK645.out 0).trans rfl, (blk_cell BK645.out 1).trans rfl, (blk_cell BK645.out 2).trans rfl, (blk_cell BK645.out 3).trans rfl, (blk_cell BK645.out 4).trans rfl, (cx HB.out hw672_0 :)⟩ (fun hHeld => ?_); refine with_tabW fairwaylaw12_IndexFroms.tab18 fairwaylaw12_IndexFroms.bits18 (fun HT_ HW_ => ?_)
           generalize w152.drew = w154 at HO_3 BK645 BK661 BK662 HR666 HB HR671 hx672_0 hHeld ⊢
           refine pz (i := 0) (N := some 75) #[I,O,O,O,O,O,O,O,O,O] ?_
           refine pz (i := 1) (N := some 76) #[I,I,O,O,O,O,O,O,O,O] ?_
           refine pz (i := 2) (N := some 77) #[I,I,I,O,O,O,O,O,O,O] ?_
           refine pz (i := 3) (N := some 78) #[I,I,I,I,O,O,O,O,O,O] ?_
           refine pz (i := 5) (N := some 80) #[I,I,I,I,O,I,O,O,O,O] ?_
           refine tz (i := 4) (N := some 79) #[I,I,I,I,I,I,O,O,O,O] ?_
           refine pz (i := 6) (N := some 81) #[I,I,I,I,I,I,I,O,O,O] ?_
           refine tz (i := 7) (N := some 82) #[I,I,I,I,I,I,I,I,O,O] ?_
           refine one_ (i := 8) (N := some 83) #[I,I,I,I,I,I,I,I,I,O] rfl rfl (one_of HT_.out (by kernel_rfl)) (by decide) (fun K hK => ?_)
           refine goes_ Try.func51 (by kernel_rfl) rfl #[.slice Ao140 y653.length co140, .int .i64 (rd l0_3 x5_2)] (by rfl) rfl rfl aa ?_
           with_reducible refine (fairwayref10_From.calls k4 _ _ y653 (rd l0_3 x5_2) t673 _ ?side1 ?side2 A37.out).mono ?_
           (case side1 => exact (ck HR671.out))
           (case side2 => exact HC671.out)
           rintro e w' ⟨rfl, ⟨nd, rfl⟩⟩
           refine ⟨_, rfl, ?_⟩
           refine hK.out _ _ ⟨(blk_cell BK645.out 0).trans rfl, (blk_cell BK645.out 1).trans rfl, (blk_cell BK645.out 2).trans rfl, (blk_cell BK645.out 3).trans rfl, (blk_cell BK645.out 4).trans rfl, (cx HB.out hw672_0 :)⟩ (fun hHeld => ?_)
           clear hK K
           refine nz (N := (some 83)) ?_
           refine pz (i := 9) (N := some 11) #[I,I,I,I,I,I,I,I,I,I] ?_
           refine done_ (done_of HT_.out (by kernel_rfl)) ?_
           try go_wp2_with (first | ((with_reducible refine gate_callee (f := 52) rfl ?_); refine goesL_ (some 91) rfl rfl Try.func52 (by kernel_rfl) rfl #[.int .i64 t660] rfl aa ?_; (with_reducible refine (fairwaylaw12_num.calls t660 t676 _ A99.out).mono ?_); rintro e w' ⟨rfl, ⟨nd, rfl⟩⟩; refine ⟨_, rfl, ?_⟩))
           go_ret
           exact ⟨er, bo⟩
          rw [if_pos c100] at H
          have c100b0 : (t676 == 0) = true := beq_iff_eq.mpr c100
          have c100b1 : (t676 != 0) = false := bne_eq_false_iff_eq.mpr c100
          clear c100
          by_cases c101 : (!(t658 == 0) || (!(t659 == 0))) = true
          ·rw [if_pos c101] at H
           have c101b0 : (!(t658 == 0) || (!(t659 == 0))) = true := c101
           clear c101
           obtain rfl := Option.some.inj H
           obtain ⟨Ao102, co102, eo102⟩ := Kd.R_slice HO_3.out
           subst eo102
           try go_wp2
           replace HO_3 := Aside0.mk (Kd.R_drew HO_3.out)
           replace BK645 := Aside0.mk (blk_drew BK645.out)
           replace HB := Aside0.mk (below_drew1 HB.out)
           have q104 : (x6_4 : Int) ≤ ((x3_6.length : Int) : Int) := od
           obtain ⟨i0104, hi0104, _, hsz104, _⟩ := info_parts info77
           have hroom104 : x3_6.length ≤ co102 := (Kd.R_reads' HO_3.out).2.1
           have hC104 : Kd.C k77 _ Ao102 x3_6.length x3_6 := (Kd.R_reads' HO_3.out).2.2
           have hcut104 := cut_to (P := Try.prog) 75 77 .i64 Try.underlying75 hi0104 Ao102 x3_6.length co102 x6_4 (od) q104 hroom104
           have hr104 := Kd.C_take (m := (x6_4 : Int).toNat) hC104 (by omega)
           have hy104 : y653.length = (x6_4 : Int).toNat := (by rw [Ny653.out, List.length_take]; omega)
           rw [← Ny653.out] at hr104
           rw [← hy104] at hcut104
           have HR656 := Aside0.mk hr104
           have HC656 := Aside0.mk (show y653.length ≤ co102 from by omega)
           clear hr104 hC104 hroom104 hi0104 hsz104
           have KY104 := Aside0.mk hy104
           clear hy104
           have KL104 := Aside0.mk (show (x6_4 : Int).toNat ≤ x3_6.length from by omega)
           replace q104 := eq_true q104
           have p657 : 0 ≤ (x5_2 : Int) := od
           have q657 : x5_2 < (l0_3.length : Int) := od
           obtain ⟨ad657, e657, hx657_0⟩ := Kd.at_int HR0_3.out x5_2 p657 q657
           have hw657_0 := hx657_0
           cases e657
           replace hx657_0 := cx HB.out hx657_0
           replace p657 := eq_true p657
           replace q657 := eq_true q657
           refine start_ (n := 15) (S := fun w' => w'.cell? ⟨gb645, 0, none⟩ = some (.int .i64 a0_0) ∧ w'.cell? ⟨gb645, 1, none⟩ = some (.slice A0_1 l0_1.length c0_1) ∧ w'.cell? ⟨gb645, 2, none⟩ = some (.slice A0_2 l0_2.length c0_2) ∧ w'.cell? ⟨gb645, 3, none⟩ = some (.slice (some ad657) l0_3.length c0_3) ∧ w'.cell? ⟨gb645, 4, none⟩ = some (.string a0_4) ∧ w'.cell? (ad657.add (x5_2).toNat) = some (.int .i64 (rd l0_3 x5_2))) (ds := []) #[O,O,O,O,O,O,O,O,O,O,O,O,O,O,O] (by kernel_rfl) rfl rfl ⟨(blk_cell BK645.out 0).trans rfl, (blk_cell BK645.out 1).trans rfl, (blk_cell BK645.out 2).trans rfl, (blk_cell BK645.out 3).trans rfl, (blk_cell BK645.out 4).trans rfl, (cx HB.out hw657_0 :)⟩ (fun hHeld => ?_); refine with_tabW fairwaylaw12_IndexFroms.tab14 fairwaylaw12_IndexFroms.bits14 (fun HT_ HW_ => ?_)
           generalize wr.drew = w103 at HO_3 BK645 HB HR656 hx657_0 hHeld ⊢
           refine pz (i := 0) (N := some 59) #[I,O,O,O,O,O,O,O,O,O,O,O,O,O,O] ?_
           refine pz (i := 1) (N := some 60) #[I,I,O,O,O,O,O,O,O,O,O,O,O,O,O] ?_
           refine pz (i := 2) (N := some 61) #[I,I,I,O,O,O,O,O,O,O,O,O,O,O,O] ?_
           refine pz (i := 3) (N := some 62) #[I,I,I,I,O,O,O,O,O,O,O,O,O,O,O] ?_
           refine pz (i := 5) (N := some 64) #[I,I,I,I,O,I,O,O,O,O,O,O,O,O,O] ?_
           refine tz (i := 4) (N := some 63) #[I,I,I,I,I,I,O,O,O,O,O,O,O,O,O] ?_
           refine pz (i := 6) (N := some 65) #[I,I,I,I,I,I,I,O,O,O,O,O,O,O,O] ?_
           refine tz (i := 7) (N := some 66) #[I,I,I,I,I,I,I,I,O,O,O,O,O,O,O] ?_
           refine join_ (σ := Nat) 2 #[I,I,I,I,I,I,I,I,I,I,I,I,I,O,O] (fun s_ => [(67, .tuple #[.agg #[.int .i64 t658, .int .i64 t659], .int .i64 t660]), (7, .pointer (some ⟨s_, 0, none⟩)), (58, .tuple #[.agg #[.int .i64 t658, .int .i64 t659], .int .i64 t660]), (68, .agg #[.int .i64 t658, .int .i64 t659]), (69, .int .i64 t660)]) (fun s_ w' => (w'.cell? ⟨gb645, 0, none⟩ = some (.int .i64 a0_0) ∧ w'.cell? ⟨gb645, 1, none⟩ = some (.slice A0_1 l0_1.length c0_1) ∧ w'.cell? ⟨gb645, 2, none⟩ = some (.slice A0_2 l0_2.length c0_2) ∧ w'.cell? ⟨gb645, 3, none⟩ = some (.slice (some ad657) l0_3.length c0_3) ∧ w'.cell? ⟨gb645, 4, none⟩ = some (.string a0_4) ∧ w'.cell? (ad657.add (x5_2).toNat) = some (.int .i64 (rd l0_3 x5_2))) ∧ (Kd.R k77 77 w' w.heap.size (fun k_ => k_ ≠ s_) (.slice Ao102 x3_6.length co102) x3_6) ∧ (w'.heap[gb645]? = some (.cells #[.int .i64 a0_0, .slice A0_1 l0_1.length c0_1, .slice A0_2 l0_2.length c0_2, .slice (some ad657) l0_3.length c0_3, .string a0_4] 55 (0, 0))) ∧ (w'.heap[s_]? = some (.cells #[.int .i64 0, .int .i64 0] 77 (0, 0))) ∧ (w.heap.size ≤ s_) ∧ (w.heap.size ≤ s_) ∧ (gb645 ≠ s_) ∧ (s_ ≠ gb645) ∧ (Below w.heap.size w w')) ?_ ?_
           rotate_left
           ·intro hCont
            refine two_ (i := 8) (j := 12) (Ni := some 67) (Nj := some 7) #[I,I,I,I,I,I,I,I,I,O,O,O,O,O,O] #[I,I,I,I,I,I,I,I,O,O,O,O,I,O,O] rfl rfl rfl rfl (two_of HT_.out (by kernel_rfl)) (by decide) (by decide) (fun K hK => ?_) (fun K hK => ?_)
            ·skip
             refine goes_ Try.func49 (by kernel_rfl) rfl #[.slice Ao102 y653.length co102, .int .i64 (rd l0_3 x5_2)] (by rfl) rfl rfl aa ?_
             with_reducible refine (index_From.calls k4 _ _ y653 (rd l0_3 x5_2) t658 t659 t660 _ ?side1 ?side2 A30.out).mono ?_
             (case side1 => exact (ck HR656.out))
             (case side2 => exact HC656.out)
             rintro e w105 ⟨rfl, hb⟩
             refine ⟨_, rfl, ?_⟩
             replace HO_3 := Aside0.mk (Kd.R_below (rk HO_3.out) hb)
             replace BK645 := Aside0.mk (bb BK645.out hb)
             replace HR656 := Aside0.mk (Kd.C_below (ck HR656.out) hb)
             replace HB := Aside0.mk (below_step bo hb)
             (try clear hb)
             (try clear hb2)
             (try clear hk)
             (try clear hi)
             refine hK.out _ _ ⟨(blk_cell BK645.out 0).trans rfl, (blk_cell BK645.out 1).trans rfl, (blk_cell BK645.out 2).trans rfl, (blk_cell BK645.out 3).trans rfl, (blk_cell BK645.out 4).trans rfl, (cx HB.out hw657_0 :)⟩ (fun hHeld => ?_)
             clear hK K
             refine nz (N := (some 67)) ?_
             refine pz (i := 9) (N := some 58) #[I,I,I,I,I,I,I,I,I,I,O,O,O,O,O] ?_
             refine pz (i := 10) (N := some 68) #[I,I,I,I,I,I,I,I,I,I,I,O,O,O,O] ?_
             refine pz (i := 11) (N := some 69) #[I,I,I,I,I,I,I,I,I,I,I,I,O,O,O] ?_
             refine one_ (i := 12) (N := some 7) #[I,I,I,I,I,I,I,I,I,I,I,I,I,O,O] rfl rfl (one_of HT_.out (by kernel_rfl)) (by decide) (fun K hK => ?_)
             refine box_step ?hg (N := 7) ?hd (cs := #[.int .i64 0, .int .i64 0]) (t := 77) ?hr ?_; (case hd => rfl); (case hg => rfl); (case hr => first | (go_simp; done) | (go_simp; rfl))
             intro gb661 hg w106 hbox hb
             replace HO_3 := Aside0.mk (Kd.R_below (Kd.R_elderB (rk HO_3.out) gb661 (Nat.le_of_eq hg.symm)) hb)
             replace HR656 := Aside0.mk (Kd.C_below (ck HR656.out) hb)
             have BK661 := Aside0.mk (hbox)
             have GW661 := Aside0.mk ((by rw [hg]; exact (below_size bo) : w.heap.size ≤ gb661))
             have GE661 := Aside0.mk ((by rw [hg]; exact (below_size bo) : w.heap.size ≤ gb661))
             replace HB := Aside0.mk (below_step bo hb)
             have NB645_661 := Aside0.mk (nl BK645.out hg)
             have NB661_645 := Aside0.mk (ng BK645.out hg)
             replace BK645 := Aside0.mk (bb BK645.out hb)
             clear hb hbox hg
             refine hK.out _ _ ⟨(blk_cell BK645.out 0).trans rfl, (blk_cell BK645.out 1).trans rfl, (blk_cell BK645.out 2).trans rfl, (blk_cell BK645.out 3).trans rfl, (blk_cell BK645.out 4).trans rfl, (cx HB.out hw657_0 :)⟩ (fun hHeld => ?_)
             clear hK K
             refine nz (N := (some 7)) ?_
             exact norm_ (by simp only [putAll, Act.put, List.setIfInBounds_toArray, List.set_cons_zero, List.set_cons_succ]) (hCont (gb661) _ ⟨hHeld, (by (with_reducible repeat (first | apply Kd.R_alloc | apply Kd.R_drewN | apply Kd.R_drew)); exact Kd.R_mono HO_3.out (fun _ hk => hk.2)), (bk BK645.out), (bk BK661.out), GW661.out, GE661.out, NB645_661.out, NB661_645.out, bo⟩)
            skip
            refine box_step ?hg (N := 7) ?hd (cs := #[.int .i64 0, .int .i64 0]) (t := 77) ?hr ?_; (case hd => rfl); (case hg => rfl); (case hr => first | (go_simp; done) | (go_simp; rfl))
            intro gb661 hg w105 hbox hb
            replace HO_3 := Aside0.mk (Kd.R_below (Kd.R_elderB (rk HO_3.out) gb661 (Nat.le_of_eq hg.symm)) hb)
            replace HR656 := Aside0.mk (Kd.C_below (ck HR656.out) hb)
            have BK661 := Aside0.mk (hbox)
            have GW661 := Aside0.mk ((by rw [hg]; exact (below_size bo) : w.heap.size ≤ gb661))
            have GE661 := Aside0.mk ((by rw [hg]; exact (below_size bo) : w.heap.size ≤ gb661))
            replace HB := Aside0.mk (below_step bo hb)
            have NB645_661 := Aside0.mk (nl BK645.out hg)
            have NB661_645 := Aside0.mk (ng BK645.out hg)
            replace BK645 := Aside0.mk (bb BK645.out hb)
            clear hb hbox hg
            refine hK.out _ _ ⟨(blk_cell BK645.out 0).trans rfl, (blk_cell BK645.out 1).trans rfl, (blk_cell BK645.out 2).trans rfl, (blk_cell BK645.out 3).trans rfl, (blk_cell BK645.out 4).trans rfl, (cx HB.out hw657_0 :)⟩ (fun hHeld => ?_)
            clear hK K
            refine nz (N := (some 7)) ?_
            refine one_ (i := 8) (N := some 67) #[I,I,I,I,I,I,I,I,I,O,O,O,I,O,O] rfl rfl (one_of HT_.out (by kernel_rfl)) (by decide) (fun K hK => ?_)
            refine goes_ Try.func49 (by kernel_rfl) rfl #[.slice Ao102 y653.length co102, .int .i64 (rd l0_3 x5_2)] (by rfl) rfl rfl aa ?_
            with_reducible refine (index_From.calls k4 _ _ y653 (rd l0_3 x5_2) t658 t659 t660 _ ?side1 ?side2 A30.out).mono ?_
            (case side1 => exact (ck HR656.out))
            (case side2 => exact HC656.out)
            rintro e w106 ⟨rfl, hb⟩
            refine ⟨_, rfl, ?_⟩
            replace HO_3 := Aside0.mk (Kd.R_below (rk HO_3.out) hb)
            replace BK645 := Aside0.mk (bb BK645.out hb)
            replace HR656 := Aside0.mk (Kd.C_below (ck HR656.out) hb)
            replace BK661 := Aside0.mk (bb BK661.out hb)
            replace HB := Aside0.mk (below_step bo hb)
            (try clear hb)
            (try clear hb2)
            (try clear hk)
            (try clear hi)
            refine hK.out _ _ ⟨(blk_cell BK645.out 0).trans rfl, (blk_cell BK645.out 1).trans rfl, (blk_cell BK645.out 2).trans rfl, (blk_cell BK645.out 3).trans rfl, (blk_cell BK645.out 4).trans rfl, (cx HB.out hw657_0 :)⟩ (fun hHeld => ?_)
            clear hK K
            refine nz (N := (some 67)) ?_
            refine pz (i := 9) (N := some 58) #[I,I,I,I,I,I,I,I,I,I,O,O,I,O,O] ?_
            refine pz (i := 10) (N := some 68) #[I,I,I,I,I,I,I,I,I,I,I,O,I,O,O] ?_
            refine pz (i := 11) (N := some 69) #[I,I,I,I,I,I,I,I,I,I,I,I,I,O,O] ?_
            exact norm_ (by simp only [putAll, Act.put, List.setIfInBounds_toArray, List.set_cons_zero, List.set_cons_succ]) (hCont (gb661) _ ⟨hHeld, (by (with_reducible repeat (first | apply Kd.R_alloc | apply Kd.R_drewN | apply Kd.R_drew)); exact Kd.R_mono HO_3.out (fun _ hk => hk.2)), (bk BK645.out), (bk BK661.out), GW661.out, GE661.out, NB645_661.out, NB661_645.out, bo⟩)
           rintro gb661 w107 ⟨hS_, h0_, h1_, h2_, h3_, h4_, h5_, h6_, h7_⟩
           have n0_ : Aside0 (Kd.R k77 77 w107 w.heap.size (fun k_ => k_ ≠ gb661) (.slice Ao102 x3_6.length co102) x3_6) := ⟨h0_⟩
           have n1_ : Aside0 (w107.heap[gb645]? = some (.cells #[.int .i64 a0_0, .slice A0_1 l0_1.length c0_1, .slice A0_2 l0_2.length c0_2, .slice (some ad657) l0_3.length c0_3, .string a0_4] 55 (0, 0))) := ⟨h1_⟩
           have n2_ : Aside0 (w107.heap[gb661]? = some (.cells #[.int .i64 0, .int .i64 0] 77 (0, 0))) := ⟨h2_⟩
           have n3_ : Aside0 (w.heap.size ≤ gb661) := ⟨h3_⟩
           have n4_ : Aside0 (w.heap.size ≤ gb661) := ⟨h4_⟩
           have n5_ : Aside0 (gb645 ≠ gb661) := ⟨h5_⟩
           have n6_ : Aside0 (gb661 ≠ gb645) := ⟨h6_⟩
           have n7_ : Aside0 (Below w.heap.size w w107) := ⟨h7_⟩
           clear HO_3
           clear BK645
           clear HB
           clear h0_ h1_ h2_ h3_ h4_ h5_ h6_ h7_
           have HO_3 := n0_
           have BK645 := n1_
           have BK661 := n2_
           have GW661 := n3_
           have GE661 := n4_
           have NB645_661 := n5_
           have NB661_645 := n6_
           have HB := n7_
           clear n0_ n1_ n2_ n3_ n4_ n5_ n6_ n7_
           have hHeld : w107.cell? ⟨gb645, 0, none⟩ = some (.int .i64 a0_0) ∧ w107.cell? ⟨gb645, 1, none⟩ = some (.slice A0_1 l0_1.length c0_1) ∧ w107.cell? ⟨gb645, 2, none⟩ = some (.slice A0_2 l0_2.length c0_2) ∧ w107.cell? ⟨gb645, 3, none⟩ = some (.slice (some ad657) l0_3.length c0_3) ∧ w107.cell? ⟨gb645, 4, none⟩ = some (.string a0_4) ∧ w107.cell? (ad657.add (x5_2).toNat) = some (.int .i64 (rd l0_3 x5_2)) := hS_
           refine norm_ (a' := ?_) ?_ ?_
           rotate_left
           ·simp only [putAll, Act.put, List.setIfInBounds_toArray, List.set_cons_zero, List.set_cons_succ]
            rfl
           refine one_ (i := 13) (N := none) #[I,I,I,I,I,I,I,I,I,I,I,I,I,I,O] rfl rfl (one_of HT_.out (by kernel_rfl)) (by decide) (fun K hK => ?_)
           have hs108 : w107.cell? ⟨gb661, 0, none⟩ = some (.int .i64 0) := (blk_cell BK661.out 0).trans rfl
           have hfs108 := blk_frozen BK661.out 0
           have hns108_0 := NB645_661.out
           have hms108_0 := NB661_645.out
           have hs109 : w107.cell? ⟨gb661, 1, none⟩ = some (.int .i64 0) := (blk_cell BK661.out 1).trans rfl
           have hfs109 := blk_frozen BK661.out 1
           have hns109_0 := NB645_661.out
           have hms109_0 := NB661_645.out
           refine skip_ (w1 := ?_) (by rfl) rfl ?_ ?_
           rotate_left
           ·go_simp
            rfl
           refine hK.out _ _ ⟨(cf2 NB645_661.out hHeld.1), (cf2 NB645_661.out hHeld.2.1), (cf2 NB645_661.out hHeld.2.2.1), (cf2 NB645_661.out hHeld.2.2.2.1), (cf2 NB645_661.out hHeld.2.2.2.2.1), ((cell_far (p := ⟨gb661, _, none⟩) (by first | exact Nat.ne_of_lt (Nat.lt_of_lt_of_le (by have := World.block_lt_of_cell? _ _ hw657_0; first | rwa [add_block] at this | exact this) GW661.out) | (rw [add_block]; exact Nat.ne_of_lt (Nat.lt_of_lt_of_le (by have := World.block_lt_of_cell? _ _ hw657_0; first | rwa [add_block] at this | exact this) GW661.out)) | (show (Addr.add _ _).block ≠ _; rw [add_block]; exact Nat.ne_of_lt (Nat.lt_of_lt_of_le (by have := World.block_lt_of_cell? _ _ hw657_0; first | rwa [add_block] at this | exact this) GW661.out)) | (dsimp only; exact Nat.ne_of_lt (Nat.lt_of_lt_of_le (by have := World.block_lt_of_cell? _ _ hw657_0; first | rwa [add_block] at this | exact this) GW661.out))) _).trans (((cell_far (p := ⟨gb661, _, none⟩) (by first | exact Nat.ne_of_lt (Nat.lt_of_lt_of_le (by have := World.block_lt_of_cell? _ _ hw657_0; first | rwa [add_block] at this | exact this) GW661.out) | (rw [add_block]; exact Nat.ne_of_lt (Nat.lt_of_lt_of_le (by have := World.block_lt_of_cell? _ _ hw657_0; first | rwa [add_block] at this | exact this) GW661.out)) | (show (Addr.add _ _).block ≠ _; rw [add_block]; exact Nat.ne_of_lt (Nat.lt_of_lt_of_le (by have := World.block_lt_of_cell? _ _ hw657_0; first | rwa [add_block] at this | exact this) GW661.out)) | (dsimp only; exact Nat.ne_of_lt (Nat.lt_of_lt_of_le (by have := World.block_lt_of_cell? _ _ hw657_0; first | rwa [add_block] at this | exact this) GW661.out))) _).trans (hHeld.2.2.2.2.2))))⟩ (fun hHeld => ?_)
           clear hK K
           refine pz (i := 14) (N := some 8) #[I,I,I,I,I,I,I,I,I,I,I,I,I,I,I] ?_
           refine done_ (done_of HT_.out (by kernel_rfl)) ?_
           try go_wp2_with (first | ((with_reducible refine gate_dst (N := 10) rfl ?_); refine box_event ?hg (N := 10) ?hd (cs := #[.int .i64 0, .int .i64 0]) (t := 77) ?hr ?_; (case hd => rfl); (case hg => rfl); (case hr => first | (go_simp; done) | (go_simp; rfl)); intro gb662 hg w110 hbox hb; replace HO_3 := Aside0.mk (Kd.R_below (Kd.R_elderB (by (with_reducible repeat (first | apply Kd.R_alloc | apply Kd.R_drewN | apply Kd.R_drew)); exact (Kd.R_mono (Kd.R_far (p := ⟨gb661, 1, none⟩) (Kd.R_far (p := ⟨gb661, 0, none⟩) (Kd.R_mono HO_3.out (fun k_ hk => (⟨hk, hk⟩ : _ ∧ k_ ≠ gb661))) (fun _ hk => hk.2) (.int .i64 t658)) (fun _ hk => hk.2) (.int .i64 t659)) (fun _ h_ => h_.1))) gb662 (Nat.le_of_eq hg.symm)) hb); have BK662 := Aside0.mk (hbox); have GW662 := Aside0.mk ((by rw [hg]; exact (below_size bo) : w.heap.size ≤ gb662)); have GE662 := Aside0.mk ((by rw [hg]; exact (below_size bo) : w.heap.size ≤ gb662)); replace HB := Aside0.mk (below_step bo hb); have NB645_662 := Aside0.mk ((by rw [hg]; exact Nat.ne_of_lt (blk_lt (g := gb645) (o := .cells #[.int .i64 a0_0, .slice A0_1 l0_1.length c0_1, .slice A0_2 l0_2.length c0_2, .slice (some ad657) l0_3.length c0_3, .string a0_4] 55 (0, 0)) (bf BK645.out)) : gb645 ≠ gb662)); have NB662_645 := Aside0.mk ((by rw [hg]; exact Nat.ne_of_gt (blk_lt (g := gb645) (o := .cells #[.int .i64 a0_0, .slice A0_1 l0_1.length c0_1, .slice A0_2 l0_2.length c0_2, .slice (some ad657) l0_3.length c0_3, .string a0_4] 55 (0, 0)) (bf BK645.out)) : gb662 ≠ gb645)); replace BK645 := Aside0.mk (bB BK645.out hb); have NB661_662 := Aside0.mk ((by rw [hg]; exact Nat.ne_of_lt (blk_lt (g := gb661) (o := .cells #[.int .i64 t658, .int .i64 t659] 77 (0, 0)) (by (with_reducible repeat (first | refine blk_drewN ?_ _ | refine blk_drew ?_ | refine blk_alloc ?_ _)); refine blk_put (cs := #[.int .i64 t658, .int .i64 0]) ?_ 1 _ rfl; (with_reducible repeat (first | refine blk_drewN ?_ _ | refine blk_drew ?_ | refine blk_alloc ?_ _)); refine blk_put (cs := #[.int .i64 0, .int .i64 0]) ?_ 0 _ rfl; (with_reducible repeat (first | refine blk_drewN ?_ _ | refine blk_drew ?_ | refine blk_alloc ?_ _)); exact BK661.out)) : gb661 ≠ gb662)); have NB662_661 := Aside0.mk ((by rw [hg]; exact Nat.ne_of_gt (blk_lt (g := gb661) (o := .cells #[.int .i64 t658, .int .i64 t659] 77 (0, 0)) (by (with_reducible repeat (first | refine blk_drewN ?_ _ | refine blk_drew ?_ | refine blk_alloc ?_ _)); refine blk_put (cs := #[.int .i64 t658, .int .i64 0]) ?_ 1 _ rfl; (with_reducible repeat (first | refine blk_drewN ?_ _ | refine blk_drew ?_ | refine blk_alloc ?_ _)); refine blk_put (cs := #[.int .i64 0, .int .i64 0]) ?_ 0 _ rfl; (with_reducible repeat (first | refine blk_drewN ?_ _ | refine blk_drew ?_ | refine blk_alloc ?_ _)); exact BK661.out)) : gb662 ≠ gb661)); replace BK661 := Aside0.mk (blk_below (g := gb661) (o := .cells #[.int .i64 t658, .int .i64 t659] 77 (0, 0)) (by (with_reducible repeat (first | refine blk_drewN ?_ _ | refine blk_drew ?_ | refine blk_alloc ?_ _)); refine blk_put (cs := #[.int .i64 t658, .int .i64 0]) ?_ 1 _ rfl; (with_reducible repeat (first | refine blk_drewN ?_ _ | refine blk_drew ?_ | refine blk_alloc ?_ _)); refine blk_put (cs := #[.int .i64 0, .int .i64 0]) ?_ 0 _ rfl; (with_reducible repeat (first | refine blk_drewN ?_ _ | refine blk_drew ?_ | refine blk_alloc ?_ _)); exact BK661.out) hb); clear hb hbox hg; have hnb111 := NB662_645.out; have hnc111 := NB645_662.out; have hnb112 := NB662_661.out; have hnc112 := NB661_662.out; obtain ⟨hcz113_0, hcz113_1⟩ := cl2 BK662.out; obtain ⟨hfz113_0, hfz113_1⟩ := fz2 BK662.out) | ((with_reducible refine gate_store (t := 77) (p := 10) rfl ?_); refine store_event (t := 77) (p := 10) (v := ?vo_w114) (w1 := ((w110.setCell ⟨gb662, 0, none⟩ (.int .i64 0)).setCell ⟨gb662, 1, none⟩ (.int .i64 0))) ?hg ?ho ?hn ?hr ?_; (case ho => rfl); (case hg => rfl); (case hn => rfl); (case hr => first | (go_simp; done) | (go_simp; rfl)); intro w114 hw; have n0_ : Aside0 (Kd.R k77 77 w114 w.heap.size (fun k_ => k_ ≠ gb661 ∧ k_ ≠ gb662) (.slice Ao102 x3_6.length co102) x3_6) := ⟨(by rw [hw]; exact (by (with_reducible repeat (first | apply Kd.R_alloc | apply Kd.R_drewN | apply Kd.R_drew)); exact Kd.R_mono (Kd.R_far (p := ⟨gb662, 1, none⟩) (Kd.R_far (p := ⟨gb662, 0, none⟩) (Kd.R_mono HO_3.out (fun k_ hk => (⟨hk, hk.2⟩ : _ ∧ k_ ≠ gb662))) (fun _ hk => hk.2) (.int .i64 0)) (fun _ hk => hk.2) (.int .i64 0)) (fun _ hk => ⟨hk.1.1, hk.1.2⟩)))⟩; have n1_ : Aside0 (w114.heap[gb645]? = some (.cells #[.int .i64 a0_0, .slice A0_1 l0_1.length c0_1, .slice A0_2 l0_2.length c0_2, .slice (some ad657) l0_3.length c0_3, .string a0_4] 55 (0, 0))) := ⟨(by rw [hw]; exact (bf BK645.out))⟩; have n2_ : Aside0 (w114.heap[gb661]? = some (.cells #[.int .i64 t658, .int .i64 t659] 77 (0, 0))) := ⟨(by rw [hw]; exact (bf BK661.out))⟩; have n3_ : Aside0 (w114.heap[gb662]? = some (.cells #[.int .i64 0, .int .i64 0] 77 (0, 0))) := ⟨(by rw [hw]; exact (by (with_reducible repeat (first | refine blk_drewN ?_ _ | refine blk_drew ?_ | refine blk_alloc ?_ _)); refine blk_put (cs := #[.int .i64 0, .int .i64 0]) ?_ 1 _ rfl; (with_reducible repeat (first | refine blk_drewN ?_ _ | refine blk_drew ?_ | refine blk_alloc ?_ _)); refine blk_put (cs := #[.int .i64 0, .int .i64 0]) ?_ 0 _ rfl; (with_reducible repeat (first | refine blk_drewN ?_ _ | refine blk_drew ?_ | refine blk_alloc ?_ _)); exact BK662.out))⟩; have n4_ : Aside0 (Below w.heap.size w w114) := ⟨(by rw [hw]; exact bo)⟩; clear hw; clear HO_3; clear BK645; clear BK661; clear BK662; clear HB; have HO_3 := n0_; have BK645 := n1_; have BK661 := n2_; have BK662 := n3_; have HB := n4_; clear n0_ n1_ n2_ n3_ n4_; have q115 : (x6_4 : Int) ≤ ((x3_6.length : Int) : Int) := od; obtain ⟨i0115, hi0115, _, hsz115, _⟩ := info_parts info77; have hroom115 : x3_6.length ≤ co102 := (Kd.R_reads' HO_3.out).2.1; have hC115 : Kd.C k77 _ Ao102 x3_6.length x3_6 := (Kd.R_reads' HO_3.out).2.2; have hcut115 := cut_to (P := Try.prog) 75 77 .i64 Try.underlying75 hi0115 Ao102 x3_6.length co102 x6_4 (od) q115 hroom115; have hr115 := Kd.C_take (m := (x6_4 : Int).toNat) hC115 (by omega); have hy115 : y653.length = (x6_4 : Int).toNat := (by rw [Ny653.out, List.length_take]; omega); rw [← Ny653.out] at hr115; rw [← hy115] at hcut115; have HR666 := Aside0.mk hr115; have HC666 := Aside0.mk (show y653.length ≤ co102 from by omega); clear hr115 hC115 hroom115 hi0115 hsz115; have KY115 := Aside0.mk hy115; clear hy115; have KL115 := Aside0.mk (show (x6_4 : Int).toNat ≤ x3_6.length from by omega); replace q115 := eq_true q115) | ((with_reducible refine gate_callee (f := 50) rfl ?_); refine goesL_ (some 74) rfl rfl Try.func50 (by kernel_rfl) rfl #[.slice Ao102 y653.length co102] rfl aa ?_; (with_reducible refine (fairwayref10_Risen.calls k4 _ _ y653 true _ ?side1 ?side2 A33.out).mono ?_); (case side1 => exact (ck HR666.out)); (case side2 => exact HC666.out); rintro e w' ⟨rfl, ⟨nd, rfl⟩⟩; refine ⟨_, rfl, ?_⟩))
           (try (rw [drewN_self w114]; generalize hq_ : World.drewN w114 _ = w114; have n0_ : Aside0 (Kd.R k77 77 w114 w.heap.size (fun k_ => k_ ≠ gb661 ∧ k_ ≠ gb662) (.slice Ao102 x3_6.length co102) x3_6) := ⟨by rw [← hq_]; exact (rk HO_3.out)⟩; have n1_ : Aside0 (w114.heap[gb645]? = some (.cells #[.int .i64 a0_0, .slice A0_1 l0_1.length c0_1, .slice A0_2 l0_2.length c0_2, .slice (some ad657) l0_3.length c0_3, .string a0_4] 55 (0, 0))) := ⟨by rw [← hq_]; exact (bk BK645.out)⟩; have n2_ : Aside0 (w114.heap[gb661]? = some (.cells #[.int .i64 t658, .int .i64 t659] 77 (0, 0))) := ⟨by rw [← hq_]; exact (bk BK661.out)⟩; have n3_ : Aside0 (w114.heap[gb662]? = some (.cells #[.int .i64 0, .int .i64 0] 77 (0, 0))) := ⟨by rw [← hq_]; exact (bk BK662.out)⟩; have n4_ : Aside0 (Below w.heap.size w w114) := ⟨by rw [← hq_]; exact bo⟩; have n5_ : Aside0 (Kd.C k77 w114 Ao102 y653.length y653) := ⟨by rw [← hq_]; exact (ck HR666.out)⟩; clear HO_3 BK645 BK661 BK662 HB HR666 hq_; have HO_3 := n0_; have BK645 := n1_; have BK661 := n2_; have BK662 := n3_; have HB := n4_; have HR666 := n5_; clear n0_ n1_ n2_ n3_ n4_ n5_))
           replace HO_3 := Aside0.mk (Kd.R_drew HO_3.out)
           replace BK645 := Aside0.mk (blk_drew BK645.out)
           replace BK661 := Aside0.mk (blk_drew BK661.out)
           replace BK662 := Aside0.mk (blk_drew BK662.out)
           replace HR666 := Aside0.mk (Kd.C_drew HR666.out)
           replace HB := Aside0.mk (below_drew1 HB.out)
           have q117 : (x6_4 : Int) ≤ ((x3_6.length : Int) : Int) := od
           obtain ⟨i0117, hi0117, _, hsz117, _⟩ := info_parts info77
           have hroom117 : x3_6.length ≤ co102 := (Kd.R_reads' HO_3.out).2.1
           have hC117 : Kd.C k77 _ Ao102 x3_6.length x3_6 := (Kd.R_reads' HO_3.out).2.2
           have hcut117 := cut_to (P := Try.prog) 75 77 .i64 Try.underlying75 hi0117 Ao102 x3_6.length co102 x6_4 (od) q117 hroom117
           have hr117 := Kd.C_take (m := (x6_4 : Int).toNat) hC117 (by omega)
           have hy117 : y653.length = (x6_4 : Int).toNat := (by rw [Ny653.out, List.length_take]; omega)
           rw [← Ny653.out] at hr117
           rw [← hy117] at hcut117
           have HR671 := Aside0.mk hr117
           have HC671 := Aside0.mk (show y653.length ≤ co102 from by omega)
           clear hr117 hC117 hroom117 hi0117 hsz117
           have KY117 := Aside0.mk hy117
           clear hy117
           have KL117 := Aside0.mk (show (x6_4 : Int).toNat ≤ x3_6.length from by omega)
           replace q117 := eq_true q117
           have p672 : 0 ≤ (x5_2 : Int) := od
           have q672 : x5_2 < (l0_3.length : Int) := od
           obtain ⟨ad672, e672, hx672_0⟩ := Kd.at_int HR0_3.out x5_2 p672 q672
           have hw672_0 := hx672_0
           obtain rfl : ad657 = ad672 := (by injection e672)
           replace hx672_0 := cx HB.out hx672_0
           replace p672 := eq_true p672
           replace q672 := eq_true q672
           refine start_ (n := 10) (S := fun w' => w'.cell? ⟨gb645, 0, none⟩ = some (.int .i64 a0_0) ∧ w'.cell? ⟨gb645, 1, none⟩ = some (.slice A0_1 l0_1.length c0_1) ∧ w'.cell? ⟨gb645, 2, none⟩ = some (.slice A0_2 l0_2.length c0_2) ∧ w'.cell? ⟨gb645, 3, none⟩ = some (.slice (some ad657) l0_3.length c0_3) ∧ w'.cell? ⟨gb645, 4, none⟩ = some (.string a0_4) ∧ w'.cell? (ad657.add (x5_2).toNat) = some (.int .i64 (rd l0_3 x5_2))) (ds := []) #[O,O,O,O,O,O,O,O,O,O] (by kernel_rfl) rfl rfl ⟨(blk_cell BK645.out 0).trans rfl, (blk_cell BK645.out 1).trans rfl, (blk_cell BK645.out 2).trans rfl, (blk_cell BK645.out 3).trans rfl, (blk_cell BK645.out 4).trans rfl, (cx HB.out hw672_0 :)⟩ (fun hHeld => ?_); refine with_tabW fairwaylaw12_IndexFroms.tab18 fairwaylaw12_IndexFroms.bits18 (fun HT_ HW_ => ?_)
           generalize w114.drew = w116 at HO_3 BK645 BK661 BK662 HR666 HB HR671 hx672_0 hHeld ⊢
           refine pz (i := 0) (N := some 75) #[I,O,O,O,O,O,O,O,O,O] ?_
           refine pz (i := 1) (N := some 76) #[I,I,O,O,O,O,O,O,O,O] ?_
           refine pz (i := 2) (N := some 77) #[I,I,I,O,O,O,O,O,O,O] ?_
           refine pz (i := 3) (N := some 78) #[I,I,I,I,O,O,O,O,O,O] ?_
           refine pz (i := 5) (N := some 80) #[I,I,I,I,O,I,O,O,O,O] ?_
           refine tz (i := 4) (N := some 79) #[I,I,I,I,I,I,O,O,O,O] ?_
           refine pz (i := 6) (N := some 81) #[I,I,I,I,I,I,I,O,O,O] ?_
           refine tz (i := 7) (N := some 82) #[I,I,I,I,I,I,I,I,O,O] ?_
           refine one_ (i := 8) (N := some 83) #[I,I,I,I,I,I,I,I,I,O] rfl rfl (one_of HT_.out (by kernel_rfl)) (by decide) (fun K hK => ?_)
           refine goes_ Try.func51 (by kernel_rfl) rfl #[.slice Ao102 y653.length co102, .int .i64 (rd l0_3 x5_2)] (by rfl) rfl rfl aa ?_
           with_reducible refine (fairwayref10_From.calls k4 _ _ y653 (rd l0_3 x5_2) t673 _ ?side1 ?side2 A37.out).mono ?_
           (case side1 => exact (ck HR671.out))
           (case side2 => exact HC671.out)
           rintro e w' ⟨rfl, ⟨nd, rfl⟩⟩
           refine ⟨_, rfl, ?_⟩
           refine hK.out _ _ ⟨(blk_cell BK645.out 0).trans rfl, (blk_cell BK645.out 1).trans rfl, (blk_cell BK645.out 2).trans rfl, (blk_cell BK645.out 3).trans rfl, (blk_cell BK645.out 4).trans rfl, (cx HB.out hw672_0 :)⟩ (fun hHeld => ?_)
           clear hK K
           refine nz (N := (some 83)) ?_
           refine pz (i := 9) (N := some 11) #[I,I,I,I,I,I,I,I,I,I] ?_
           refine done_ (done_of HT_.out (by kernel_rfl)) ?_
           try go_wp2_with (first | ((with_reducible refine gate_callee (f := 52) rfl ?_); refine goesL_ (some 91) rfl rfl Try.func52 (by kernel_rfl) rfl #[.int .i64 t660] rfl aa ?_; (with_reducible refine (fairwaylaw12_num.calls t660 t676 _ A99.out).mono ?_); rintro e w' ⟨rfl, ⟨nd, rfl⟩⟩; refine ⟨_, rfl, ?_⟩; have hnb118 := NB661_645.out; have hnc118 := NB645_661.out; obtain ⟨hcz119_0, hcz119_1⟩ := cl2 BK661.out; obtain ⟨hfz119_0, hfz119_1⟩ := fz2 BK661.out; obtain ⟨hcz120_0, hcz120_1⟩ := cl2 BK662.out; obtain ⟨hfz120_0, hfz120_1⟩ := fz2 BK662.out))
           go_ret
           exact ⟨er, bo⟩
          rw [if_neg c101] at H
          have c101b0 : (!(t658 == 0) || (!(t659 == 0))) = false := by simpa using c101
          clear c101
          have H' := Aside0.mk H
          clear H
          obtain ⟨Ao121, co121, eo121⟩ := Kd.R_slice HO_3.out
          subst eo121
          try go_wp2
          replace HO_3 := Aside0.mk (Kd.R_drew HO_3.out)
          replace BK645 := Aside0.mk (blk_drew BK645.out)
          replace HB := Aside0.mk (below_drew1 HB.out)
          have q123 : (x6_4 : Int) ≤ ((x3_6.length : Int) : Int) := od
          obtain ⟨i0123, hi0123, _, hsz123, _⟩ := info_parts info77
          have hroom123 : x3_6.length ≤ co121 := (Kd.R_reads' HO_3.out).2.1
          have hC123 : Kd.C k77 _ Ao121 x3_6.length x3_6 := (Kd.R_reads' HO_3.out).2.2
          have hcut123 := cut_to (P := Try.prog) 75 77 .i64 Try.underlying75 hi0123 Ao121 x3_6.length co121 x6_4 (od) q123 hroom123
          have hr123 := Kd.C_take (m := (x6_4 : Int).toNat) hC123 (by omega)
          have hy123 : y653.length = (x6_4 : Int).toNat := (by rw [Ny653.out, List.length_take]; omega)
          rw [← Ny653.out] at hr123
          rw [← hy123] at hcut123
          have HR656 := Aside0.mk hr123
          have HC656 := Aside0.mk (show y653.length ≤ co121 from by omega)
          clear hr123 hC123 hroom123 hi0123 hsz123
          have KY123 := Aside0.mk hy123
          clear hy123
          have KL123 := Aside0.mk (show (x6_4 : Int).toNat ≤ x3_6.length from by omega)
          replace q123 := eq_true q123
          have p657 : 0 ≤ (x5_2 : Int) := od
          have q657 : x5_2 < (l0_3.length : Int) := od
          obtain ⟨ad657, e657, hx657_0⟩ := Kd.at_int HR0_3.out x5_2 p657 q657
          have hw657_0 := hx657_0
          cases e657
          replace hx657_0 := cx HB.out hx657_0
          replace p657 := eq_true p657
          replace q657 := eq_true q657
          refine start_ (n := 15) (S := fun w' => w'.cell? ⟨gb645, 0, none⟩ = some (.int .i64 a0_0) ∧ w'.cell? ⟨gb645, 1, none⟩ = some (.slice A0_1 l0_1.length c0_1) ∧ w'.cell? ⟨gb645, 2, none⟩ = some (.slice A0_2 l0_2.length c0_2) ∧ w'.cell? ⟨gb645, 3, none⟩ = some (.slice (some ad657) l0_3.length c0_3) ∧ w'.cell? ⟨gb645, 4, none⟩ = some (.string a0_4) ∧ w'.cell? (ad657.add (x5_2).toNat) = some (.int .i64 (rd l0_3 x5_2))) (ds := []) #[O,O,O,O,O,O,O,O,O,O,O,O,O,O,O] (by kernel_rfl) rfl rfl ⟨(blk_cell BK645.out 0).trans rfl, (blk_cell BK645.out 1).trans rfl, (blk_cell BK645.out 2).trans rfl, (blk_cell BK645.out 3).trans rfl, (blk_cell BK645.out 4).trans rfl, (cx HB.out hw657_0 :)⟩ (fun hHeld => ?_); refine with_tabW fairwaylaw12_IndexFroms.tab14 fairwaylaw12_IndexFroms.bits14 (fun HT_ HW_ => ?_)
          generalize wr.drew = w122 at HO_3 BK645 HB HR656 hx657_0 hHeld ⊢
          refine pz (i := 0) (N := some 59) #[I,O,O,O,O,O,O,O,O,O,O,O,O,O,O] ?_
          refine pz (i := 1) (N := some 60) #[I,I,O,O,O,O,O,O,O,O,O,O,O,O,O] ?_
          refine pz (i := 2) (N := some 61) #[I,I,I,O,O,O,O,O,O,O,O,O,O,O,O] ?_
          refine pz (i := 3) (N := some 62) #[I,I,I,I,O,O,O,O,O,O,O,O,O,O,O] ?_
          refine pz (i := 5) (N := some 64) #[I,I,I,I,O,I,O,O,O,O,O,O,O,O,O] ?_
          refine tz (i := 4) (N := some 63) #[I,I,I,I,I,I,O,O,O,O,O,O,O,O,O] ?_
          refine pz (i := 6) (N := some 65) #[I,I,I,I,I,I,I,O,O,O,O,O,O,O,O] ?_
          refine tz (i := 7) (N := some 66) #[I,I,I,I,I,I,I,I,O,O,O,O,O,O,O] ?_
          refine join_ (σ := Nat) 2 #[I,I,I,I,I,I,I,I,I,I,I,I,I,O,O] (fun s_ => [(67, .tuple #[.agg #[.int .i64 t658, .int .i64 t659], .int .i64 t660]), (7, .pointer (some ⟨s_, 0, none⟩)), (58, .tuple #[.agg #[.int .i64 t658, .int .i64 t659], .int .i64 t660]), (68, .agg #[.int .i64 t658, .int .i64 t659]), (69, .int .i64 t660)]) (fun s_ w' => (w'.cell? ⟨gb645, 0, none⟩ = some (.int .i64 a0_0) ∧ w'.cell? ⟨gb645, 1, none⟩ = some (.slice A0_1 l0_1.length c0_1) ∧ w'.cell? ⟨gb645, 2, none⟩ = some (.slice A0_2 l0_2.length c0_2) ∧ w'.cell? ⟨gb645, 3, none⟩ = some (.slice (some ad657) l0_3.length c0_3) ∧ w'.cell? ⟨gb645, 4, none⟩ = some (.string a0_4) ∧ w'.cell? (ad657.add (x5_2).toNat) = some (.int .i64 (rd l0_3 x5_2))) ∧ (Kd.R k77 77 w' w.heap.size (fun k_ => k_ ≠ s_) (.slice Ao121 x3_6.length co121) x3_6) ∧ (w'.heap[gb645]? = some (.cells #[.int .i64 a0_0, .slice A0_1 l0_1.length c0_1, .slice A0_2 l0_2.length c0_2, .slice (some ad657) l0_3.length c0_3, .string a0_4] 55 (0, 0))) ∧ (w'.heap[s_]? = some (.cells #[.int .i64 0, .int .i64 0] 77 (0, 0))) ∧ (w.heap.size ≤ s_) ∧ (w.heap.size ≤ s_) ∧ (gb645 ≠ s_) ∧ (s_ ≠ gb645) ∧ (Below w.heap.size w w')) ?_ ?_
          rotate_left
          ·intro hCont
           refine two_ (i := 8) (j := 12) (Ni := some 67) (Nj := some 7) #[I,I,I,I,I,I,I,I,I,O,O,O,O,O,O] #[I,I,I,I,I,I,I,I,O,O,O,O,I,O,O] rfl rfl rfl rfl (two_of HT_.out (by kernel_rfl)) (by decide) (by decide) (fun K hK => ?_) (fun K hK => ?_)
           ·skip
            refine goes_ Try.func49 (by kernel_rfl) rfl #[.slice Ao121 y653.length co121, .int .i64 (rd l0_3 x5_2)] (by rfl) rfl rfl aa ?_
            with_reducible refine (index_From.calls k4 _ _ y653 (rd l0_3 x5_2) t658 t659 t660 _ ?side1 ?side2 A30.out).mono ?_
            (case side1 => exact (ck HR656.out))
            (case side2 => exact HC656.out)
            rintro e w124 ⟨rfl, hb⟩
            refine ⟨_, rfl, ?_⟩
            replace HO_3 := Aside0.mk (Kd.R_below (rk HO_3.out) hb)
            replace BK645 := Aside0.mk (bb BK645.out hb)
            replace HR656 := Aside0.mk (Kd.C_below (ck HR656.out) hb)
            replace HB := Aside0.mk (below_step bo hb)
            (try clear hb)
            (try clear hb2)
            (try clear hk)
            (try clear hi)
            refine hK.out _ _ ⟨(blk_cell BK645.out 0).trans rfl, (blk_cell BK645.out 1).trans rfl, (blk_cell BK645.out 2).trans rfl, (blk_cell BK645.out 3).trans rfl, (blk_cell BK645.out 4).trans rfl, (cx HB.out hw657_0 :)⟩ (fun hHeld => ?_)
            clear hK K
            refine nz (N := (some 67)) ?_
            refine pz (i := 9) (N := some 58) #[I,I,I,I,I,I,I,I,I,I,O,O,O,O,O] ?_
            refine pz (i := 10) (N := some 68) #[I,I,I,I,I,I,I,I,I,I,I,O,O,O,O] ?_
            refine pz (i := 11) (N := some 69) #[I,I,I,I,I,I,I,I,I,I,I,I,O,O,O] ?_
            refine one_ (i := 12) (N := some 7) #[I,I,I,I,I,I,I,I,I,I,I,I,I,O,O] rfl rfl (one_of HT_.out (by kernel_rfl)) (by decide) (fun K hK => ?_)
            refine box_step ?hg (N := 7) ?hd (cs := #[.int .i64 0, .int .i64 0]) (t := 77) ?hr ?_; (case hd => rfl); (case hg => rfl); (case hr => first | (go_simp; done) | (go_simp; rfl))
            intro gb661 hg w125 hbox hb
            replace HO_3 := Aside0.mk (Kd.R_below (Kd.R_elderB (rk HO_3.out) gb661 (Nat.le_of_eq hg.symm)) hb)
            replace HR656 := Aside0.mk (Kd.C_below (ck HR656.out) hb)
            have BK661 := Aside0.mk (hbox)
            have GW661 := Aside0.mk ((by rw [hg]; exact (below_size bo) : w.heap.size ≤ gb661))
            have GE661 := Aside0.mk ((by rw [hg]; exact (below_size bo) : w.heap.size ≤ gb661))
            replace HB := Aside0.mk (below_step bo hb)
            have NB645_661 := Aside0.mk (nl BK645.out hg)
            have NB661_645 := Aside0.mk (ng BK645.out hg)
            replace BK645 := Aside0.mk (bb BK645.out hb)
            clear hb hbox hg
            refine hK.out _ _ ⟨(blk_cell BK645.out 0).trans rfl, (blk_cell BK645.out 1).trans rfl, (blk_cell BK645.out 2).trans rfl, (blk_cell BK645.out 3).trans rfl, (blk_cell BK645.out 4).trans rfl, (cx HB.out hw657_0 :)⟩ (fun hHeld => ?_)
            clear hK K
            refine nz (N := (some 7)) ?_
            exact norm_ (by simp only [putAll, Act.put, List.setIfInBounds_toArray, List.set_cons_zero, List.set_cons_succ]) (hCont (gb661) _ ⟨hHeld, (by (with_reducible repeat (first | apply Kd.R_alloc | apply Kd.R_drewN | apply Kd.R_drew)); exact Kd.R_mono HO_3.out (fun _ hk => hk.2)), (bk BK645.out), (bk BK661.out), GW661.out, GE661.out, NB645_661.out, NB661_645.out, bo⟩)
           skip
           refine box_step ?hg (N := 7) ?hd (cs := #[.int .i64 0, .int .i64 0]) (t := 77) ?hr ?_; (case hd => rfl); (case hg => rfl); (case hr => first | (go_simp; done) | (go_simp; rfl))
           intro gb661 hg w124 hbox hb
           replace HO_3 := Aside0.mk (Kd.R_below (Kd.R_elderB (rk HO_3.out) gb661 (Nat.le_of_eq hg.symm)) hb)
           replace HR656 := Aside0.mk (Kd.C_below (ck HR656.out) hb)
           have BK661 := Aside0.mk (hbox)
           have GW661 := Aside0.mk ((by rw [hg]; exact (below_size bo) : w.heap.size ≤ gb661))
           have GE661 := Aside0.mk ((by rw [hg]; exact (below_size bo) : w.heap.size ≤ gb661))
           replace HB := Aside0.mk (below_step bo hb)
           have NB645_661 := Aside0.mk (nl BK645.out hg)
           have NB661_645 := Aside0.mk (ng BK645.out hg)
           replace BK645 := Aside0.mk (bb BK645.out hb)
           clear hb hbox hg
           refine hK.out _ _ ⟨(blk_cell BK645.out 0).trans rfl, (blk_cell BK645.out 1).trans rfl, (blk_cell BK645.out 2).trans rfl, (blk_cell BK645.out 3).trans rfl, (blk_cell BK645.out 4).trans rfl, (cx HB.out hw657_0 :)⟩ (fun hHeld => ?_)
           clear hK K
           refine nz (N := (some 7)) ?_
           refine one_ (i := 8) (N := some 67) #[I,I,I,I,I,I,I,I,I,O,O,O,I,O,O] rfl rfl (one_of HT_.out (by kernel_rfl)) (by decide) (fun K hK => ?_)
           refine goes_ Try.func49 (by kernel_rfl) rfl #[.slice Ao121 y653.length co121, .int .i64 (rd l0_3 x5_2)] (by rfl) rfl rfl aa ?_
           with_reducible refine (index_From.calls k4 _ _ y653 (rd l0_3 x5_2) t658 t659 t660 _ ?side1 ?side2 A30.out).mono ?_
           (case side1 => exact (ck HR656.out))
           (case side2 => exact HC656.out)
           rintro e w125 ⟨rfl, hb⟩
           refine ⟨_, rfl, ?_⟩
           replace HO_3 := Aside0.mk (Kd.R_below (rk HO_3.out) hb)
           replace BK645 := Aside0.mk (bb BK645.out hb)
           replace HR656 := Aside0.mk (Kd.C_below (ck HR656.out) hb)
           replace BK661 := Aside0.mk (bb BK661.out hb)
           replace HB := Aside0.mk (below_step bo hb)
           (try clear hb)
           (try clear hb2)
           (try clear hk)
           (try clear hi)
           refine hK.out _ _ ⟨(blk_cell BK645.out 0).trans rfl, (blk_cell BK645.out 1).trans rfl, (blk_cell BK645.out 2).trans rfl, (blk_cell BK645.out 3).trans rfl, (blk_cell BK645.out 4).trans rfl, (cx HB.out hw657_0 :)⟩ (fun hHeld => ?_)
           clear hK K
           refine nz (N := (some 67)) ?_
           refine pz (i := 9) (N := some 58) #[I,I,I,I,I,I,I,I,I,I,O,O,I,O,O] ?_
           refine pz (i := 10) (N := some 68) #[I,I,I,I,I,I,I,I,I,I,I,O,I,O,O] ?_
           refine pz (i := 11) (N := some 69) #[I,I,I,I,I,I,I,I,I,I,I,I,I,O,O] ?_
           exact norm_ (by simp only [putAll, Act.put, List.setIfInBounds_toArray, List.set_cons_zero, List.set_cons_succ]) (hCont (gb661) _ ⟨hHeld, (by (with_reducible repeat (first | apply Kd.R_alloc | apply Kd.R_drewN | apply Kd.R_drew)); exact Kd.R_mono HO_3.out (fun _ hk => hk.2)), (bk BK645.out), (bk BK661.out), GW661.out, GE661.out, NB645_661.out, NB661_645.out, bo⟩)
          rintro gb661 w126 ⟨hS_, h0_, h1_, h2_, h3_, h4_, h5_, h6_, h7_⟩
          have n0_ : Aside0 (Kd.R k77 77 w126 w.heap.size (fun k_ => k_ ≠ gb661) (.slice Ao121 x3_6.length co121) x3_6) := ⟨h0_⟩
          have n1_ : Aside0 (w126.heap[gb645]? = some (.cells #[.int .i64 a0_0, .slice A0_1 l0_1.length c0_1, .slice A0_2 l0_2.length c0_2, .slice (some ad657) l0_3.length c0_3, .string a0_4] 55 (0, 0))) := ⟨h1_⟩
          have n2_ : Aside0 (w126.heap[gb661]? = some (.cells #[.int .i64 0, .int .i64 0] 77 (0, 0))) := ⟨h2_⟩
          have n3_ : Aside0 (w.heap.size ≤ gb661) := ⟨h3_⟩
          have n4_ : Aside0 (w.heap.size ≤ gb661) := ⟨h4_⟩
          have n5_ : Aside0 (gb645 ≠ gb661) := ⟨h5_⟩
          have n6_ : Aside0 (gb661 ≠ gb645) := ⟨h6_⟩
          have n7_ : Aside0 (Below w.heap.size w w126) := ⟨h7_⟩
          clear HO_3
          clear BK645
          clear HB
          clear h0_ h1_ h2_ h3_ h4_ h5_ h6_ h7_
          have HO_3 := n0_
          have BK645 := n1_
          have BK661 := n2_
          have GW661 := n3_
          have GE661 := n4_
          have NB645_661 := n5_
          have NB661_645 := n6_
          have HB := n7_
          clear n0_ n1_ n2_ n3_ n4_ n5_ n6_ n7_
          have hHeld : w126.cell? ⟨gb645, 0, none⟩ = some (.int .i64 a0_0) ∧ w126.cell? ⟨gb645, 1, none⟩ = some (.slice A0_1 l0_1.length c0_1) ∧ w126.cell? ⟨gb645, 2, none⟩ = some (.slice A0_2 l0_2.length c0_2) ∧ w126.cell? ⟨gb645, 3, none⟩ = some (.slice (some ad657) l0_3.length c0_3) ∧ w126.cell? ⟨gb645, 4, none⟩ = some (.string a0_4) ∧ w126.cell? (ad657.add (x5_2).toNat) = some (.int .i64 (rd l0_3 x5_2)) := hS_
          refine norm_ (a' := ?_) ?_ ?_
          rotate_left
          ·simp only [putAll, Act.put, List.setIfInBounds_toArray, List.set_cons_zero, List.set_cons_succ]
           rfl
          refine one_ (i := 13) (N := none) #[I,I,I,I,I,I,I,I,I,I,I,I,I,I,O] rfl rfl (one_of HT_.out (by kernel_rfl)) (by decide) (fun K hK => ?_)
          have hs127 : w126.cell? ⟨gb661, 0, none⟩ = some (.int .i64 0) := (blk_cell BK661.out 0).trans rfl
          have hfs127 := blk_frozen BK661.out 0
          have hns127_0 := NB645_661.out
          have hms127_0 := NB661_645.out
          have hs128 : w126.cell? ⟨gb661, 1, none⟩ = some (.int .i64 0) := (blk_cell BK661.out 1).trans rfl
          have hfs128 := blk_frozen BK661.out 1
          have hns128_0 := NB645_661.out
          have hms128_0 := NB661_645.out
          refine skip_ (w1 := ?_) (by rfl) rfl ?_ ?_
          rotate_left
          ·go_simp
           rfl
          refine hK.out _ _ ⟨(cf2 NB645_661.out hHeld.1), (cf2 NB645_661.out hHeld.2.1), (cf2 NB645_661.out hHeld.2.2.1), (cf2 NB645_661.out hHeld.2.2.2.1), (cf2 NB645_661.out hHeld.2.2.2.2.1), ((cell_far (p := ⟨gb661, _, none⟩) (by first | exact Nat.ne_of_lt (Nat.lt_of_lt_of_le (by have := World.block_lt_of_cell? _ _ hw657_0; first | rwa [add_block] at this | exact this) GW661.out) | (rw [add_block]; exact Nat.ne_of_lt (Nat.lt_of_lt_of_le (by have := World.block_lt_of_cell? _ _ hw657_0; first | rwa [add_block] at this | exact this) GW661.out)) | (show (Addr.add _ _).block ≠ _; rw [add_block]; exact Nat.ne_of_lt (Nat.lt_of_lt_of_le (by have := World.block_lt_of_cell? _ _ hw657_0; first | rwa [add_block] at this | exact this) GW661.out)) | (dsimp only; exact Nat.ne_of_lt (Nat.lt_of_lt_of_le (by have := World.block_lt_of_cell? _ _ hw657_0; first | rwa [add_block] at this | exact this) GW661.out))) _).trans (((cell_far (p := ⟨gb661, _, none⟩) (by first | exact Nat.ne_of_lt (Nat.lt_of_lt_of_le (by have := World.block_lt_of_cell? _ _ hw657_0; first | rwa [add_block] at this | exact this) GW661.out) | (rw [add_block]; exact Nat.ne_of_lt (Nat.lt_of_lt_of_le (by have := World.block_lt_of_cell? _ _ hw657_0; first | rwa [add_block] at this | exact this) GW661.out)) | (show (Addr.add _ _).block ≠ _; rw [add_block]; exact Nat.ne_of_lt (Nat.lt_of_lt_of_le (by have := World.block_lt_of_cell? _ _ hw657_0; first | rwa [add_block] at this | exact this) GW661.out)) | (dsimp only; exact Nat.ne_of_lt (Nat.lt_of_lt_of_le (by have := World.block_lt_of_cell? _ _ hw657_0; first | rwa [add_block] at this | exact this) GW661.out))) _).trans (hHeld.2.2.2.2.2))))⟩ (fun hHeld => ?_)
          clear hK K
          refine pz (i := 14) (N := some 8) #[I,I,I,I,I,I,I,I,I,I,I,I,I,I,I] ?_
          refine done_ (done_of HT_.out (by kernel_rfl)) ?_
          try go_wp2_with (first | ((with_reducible refine gate_dst (N := 10) rfl ?_); refine box_event ?hg (N := 10) ?hd (cs := #[.int .i64 0, .int .i64 0]) (t := 77) ?hr ?_; (case hd => rfl); (case hg => rfl); (case hr => first | (go_simp; done) | (go_simp; rfl)); intro gb662 hg w129 hbox hb; replace HO_3 := Aside0.mk (Kd.R_below (Kd.R_elderB (by (with_reducible repeat (first | apply Kd.R_alloc | apply Kd.R_drewN | apply Kd.R_drew)); exact (Kd.R_mono (Kd.R_far (p := ⟨gb661, 1, none⟩) (Kd.R_far (p := ⟨gb661, 0, none⟩) (Kd.R_mono HO_3.out (fun k_ hk => (⟨hk, hk⟩ : _ ∧ k_ ≠ gb661))) (fun _ hk => hk.2) (.int .i64 t658)) (fun _ hk => hk.2) (.int .i64 t659)) (fun _ h_ => h_.1))) gb662 (Nat.le_of_eq hg.symm)) hb); have BK662 := Aside0.mk (hbox); have GW662 := Aside0.mk ((by rw [hg]; exact (below_size bo) : w.heap.size ≤ gb662)); have GE662 := Aside0.mk ((by rw [hg]; exact (below_size bo) : w.heap.size ≤ gb662)); replace HB := Aside0.mk (below_step bo hb); have NB645_662 := Aside0.mk ((by rw [hg]; exact Nat.ne_of_lt (blk_lt (g := gb645) (o := .cells #[.int .i64 a0_0, .slice A0_1 l0_1.length c0_1, .slice A0_2 l0_2.length c0_2, .slice (some ad657) l0_3.length c0_3, .string a0_4] 55 (0, 0)) (bf BK645.out)) : gb645 ≠ gb662)); have NB662_645 := Aside0.mk ((by rw [hg]; exact Nat.ne_of_gt (blk_lt (g := gb645) (o := .cells #[.int .i64 a0_0, .slice A0_1 l0_1.length c0_1, .slice A0_2 l0_2.length c0_2, .slice (some ad657) l0_3.length c0_3, .string a0_4] 55 (0, 0)) (bf BK645.out)) : gb662 ≠ gb645)); replace BK645 := Aside0.mk (bB BK645.out hb); have NB661_662 := Aside0.mk ((by rw [hg]; exact Nat.ne_of_lt (blk_lt (g := gb661) (o := .cells #[.int .i64 t658, .int .i64 t659] 77 (0, 0)) (by (with_reducible repeat (first | refine blk_drewN ?_ _ | refine blk_drew ?_ | refine blk_alloc ?_ _)); refine blk_put (cs := #[.int .i64 t658, .int .i64 0]) ?_ 1 _ rfl; (with_reducible repeat (first | refine blk_drewN ?_ _ | refine blk_drew ?_ | refine blk_alloc ?_ _)); refine blk_put (cs := #[.int .i64 0, .int .i64 0]) ?_ 0 _ rfl; (with_reducible repeat (first | refine blk_drewN ?_ _ | refine blk_drew ?_ | refine blk_alloc ?_ _)); exact BK661.out)) : gb661 ≠ gb662)); have NB662_661 := Aside0.mk ((by rw [hg]; exact Nat.ne_of_gt (blk_lt (g := gb661) (o := .cells #[.int .i64 t658, .int .i64 t659] 77 (0, 0)) (by (with_reducible repeat (first | refine blk_drewN ?_ _ | refine blk_drew ?_ | refine blk_alloc ?_ _)); refine blk_put (cs := #[.int .i64 t658, .int .i64 0]) ?_ 1 _ rfl; (with_reducible repeat (first | refine blk_drewN ?_ _ | refine blk_drew ?_ | refine blk_alloc ?_ _)); refine blk_put (cs := #[.int .i64 0, .int .i64 0]) ?_ 0 _ rfl; (with_reducible repeat (first | refine blk_drewN ?_ _ | refine blk_drew ?_ | refine blk_alloc ?_ _)); exact BK661.out)) : gb662 ≠ gb661)); replace BK661 := Aside0.mk (blk_below (g := gb661) (o := .cells #[.int .i64 t658, .int .i64 t659] 77 (0, 0)) (by (with_reducible repeat (first | refine blk_drewN ?_ _ | refine blk_drew ?_ | refine blk_alloc ?_ _)); refine blk_put (cs := #[.int .i64 t658, .int .i64 0]) ?_ 1 _ rfl; (with_reducible repeat (first | refine blk_drewN ?_ _ | refine blk_drew ?_ | refine blk_alloc ?_ _)); refine blk_put (cs := #[.int .i64 0, .int .i64 0]) ?_ 0 _ rfl; (with_reducible repeat (first | refine blk_drewN ?_ _ | refine blk_drew ?_ | refine blk_alloc ?_ _)); exact BK661.out) hb); clear hb hbox hg; have hnb130 := NB662_645.out; have hnc130 := NB645_662.out; have hnb131 := NB662_661.out; have hnc131 := NB661_662.out; obtain ⟨hcz132_0, hcz132_1⟩ := cl2 BK662.out; obtain ⟨hfz132_0, hfz132_1⟩ := fz2 BK662.out) | ((with_reducible refine gate_store (t := 77) (p := 10) rfl ?_); refine store_event (t := 77) (p := 10) (v := ?vo_w133) (w1 := ((w129.setCell ⟨gb662, 0, none⟩ (.int .i64 0)).setCell ⟨gb662, 1, none⟩ (.int .i64 0))) ?hg ?ho ?hn ?hr ?_; (case ho => rfl); (case hg => rfl); (case hn => rfl); (case hr => first | (go_simp; done) | (go_simp; rfl)); intro w133 hw; have n0_ : Aside0 (Kd.R k77 77 w133 w.heap.size (fun k_ => k_ ≠ gb661 ∧ k_ ≠ gb662) (.slice Ao121 x3_6.length co121) x3_6) := ⟨(by rw [hw]; exact (by (with_reducible repeat (first | apply Kd.R_alloc | apply Kd.R_drewN | apply Kd.R_drew)); exact Kd.R_mono (Kd.R_far (p := ⟨gb662, 1, none⟩) (Kd.R_far (p := ⟨gb662, 0, none⟩) (Kd.R_mono HO_3.out (fun k_ hk => (⟨hk, hk.2⟩ : _ ∧ k_ ≠ gb662))) (fun _ hk => hk.2) (.int .i64 0)) (fun _ hk => hk.2) (.int .i64 0)) (fun _ hk => ⟨hk.1.1, hk.1.2⟩)))⟩; have n1_ : Aside0 (w133.heap[gb645]? = some (.cells #[.int .i64 a0_0, .slice A0_1 l0_1.length c0_1, .slice A0_2 l0_2.length c0_2, .slice (some ad657) l0_3.length c0_3, .string a0_4] 55 (0, 0))) := ⟨(by rw [hw]; exact (bf BK645.out))⟩; have n2_ : Aside0 (w133.heap[gb661]? = some (.cells #[.int .i64 t658, .int .i64 t659] 77 (0, 0))) := ⟨(by rw [hw]; exact (bf BK661.out))⟩; have n3_ : Aside0 (w133.heap[gb662]? = some (.cells #[.int .i64 0, .int .i64 0] 77 (0, 0))) := ⟨(by rw [hw]; exact (by (with_reducible repeat (first | refine blk_drewN ?_ _ | refine blk_drew ?_ | refine blk_alloc ?_ _)); refine blk_put (cs := #[.int .i64 0, .int .i64 0]) ?_ 1 _ rfl; (with_reducible repeat (first | refine blk_drewN ?_ _ | refine blk_drew ?_ | refine blk_alloc ?_ _)); refine blk_put (cs := #[.int .i64 0, .int .i64 0]) ?_ 0 _ rfl; (with_reducible repeat (first | refine blk_drewN ?_ _ | refine blk_drew ?_ | refine blk_alloc ?_ _)); exact BK662.out))⟩; have n4_ : Aside0 (Below w.heap.size w w133) := ⟨(by rw [hw]; exact bo)⟩; clear hw; clear HO_3; clear BK645; clear BK661; clear BK662; clear HB; have HO_3 := n0_; have BK645 := n1_; have BK661 := n2_; have BK662 := n3_; have HB := n4_; clear n0_ n1_ n2_ n3_ n4_; have q134 : (x6_4 : Int) ≤ ((x3_6.length : Int) : Int) := od; obtain ⟨i0134, hi0134, _, hsz134, _⟩ := info_parts info77; have hroom134 : x3_6.length ≤ co121 := (Kd.R_reads' HO_3.out).2.1; have hC134 : Kd.C k77 _ Ao121 x3_6.length x3_6 := (Kd.R_reads' HO_3.out).2.2; have hcut134 := cut_to (P := Try.prog) 75 77 .i64 Try.underlying75 hi0134 Ao121 x3_6.length co121 x6_4 (od) q134 hroom134; have hr134 := Kd.C_take (m := (x6_4 : Int).toNat) hC134 (by omega); have hy134 : y653.length = (x6_4 : Int).toNat := (by rw [Ny653.out, List.length_take]; omega); rw [← Ny653.out] at hr134; rw [← hy134] at hcut134; have HR666 := Aside0.mk hr134; have HC666 := Aside0.mk (show y653.length ≤ co121 from by omega); clear hr134 hC134 hroom134 hi0134 hsz134; have KY134 := Aside0.mk hy134; clear hy134; have KL134 := Aside0.mk (show (x6_4 : Int).toNat ≤ x3_6.length from by omega); replace q134 := eq_true q134) | ((with_reducible refine gate_callee (f := 50) rfl ?_); refine goesL_ (some 74) rfl rfl Try.func50 (by kernel_rfl) rfl #[.slice Ao121 y653.length co121] rfl aa ?_; (with_reducible refine (fairwayref10_Risen.calls k4 _ _ y653 true _ ?side1 ?side2 A33.out).mono ?_); (case side1 => exact (ck HR666.out)); (case side2 => exact HC666.out); rintro e w' ⟨rfl, ⟨nd, rfl⟩⟩; refine ⟨_, rfl, ?_⟩))
          (try (rw [drewN_self w133]; generalize hq_ : World.drewN w133 _ = w133; have n0_ : Aside0 (Kd.R k77 77 w133 w.heap.size (fun k_ => k_ ≠ gb661 ∧ k_ ≠ gb662) (.slice Ao121 x3_6.length co121) x3_6) := ⟨by rw [← hq_]; exact (rk HO_3.out)⟩; have n1_ : Aside0 (w133.heap[gb645]? = some (.cells #[.int .i64 a0_0, .slice A0_1 l0_1.length c0_1, .slice A0_2 l0_2.length c0_2, .slice (some ad657) l0_3.length c0_3, .string a0_4] 55 (0, 0))) := ⟨by rw [← hq_]; exact (bk BK645.out)⟩; have n2_ : Aside0 (w133.heap[gb661]? = some (.cells #[.int .i64 t658, .int .i64 t659] 77 (0, 0))) := ⟨by rw [← hq_]; exact (bk BK661.out)⟩; have n3_ : Aside0 (w133.heap[gb662]? = some (.cells #[.int .i64 0, .int .i64 0] 77 (0, 0))) := ⟨by rw [← hq_]; exact (bk BK662.out)⟩; have n4_ : Aside0 (Below w.heap.size w w133) := ⟨by rw [← hq_]; exact bo⟩; have n5_ : Aside0 (Kd.C k77 w133 Ao121 y653.length y653) := ⟨by rw [← hq_]; exact (ck HR666.out)⟩; clear HO_3 BK645 BK661 BK662 HB HR666 hq_; have HO_3 := n0_; have BK645 := n1_; have BK661 := n2_; have BK662 := n3_; have HB := n4_; have HR666 := n5_; clear n0_ n1_ n2_ n3_ n4_ n5_))
          replace HO_3 := Aside0.mk (Kd.R_drew HO_3.out)
          replace BK645 := Aside0.mk (blk_drew BK645.out)
          replace BK661 := Aside0.mk (blk_drew BK661.out)
          replace BK662 := Aside0.mk (blk_drew BK662.out)
          replace HR666 := Aside0.mk (Kd.C_drew HR666.out)
          replace HB := Aside0.mk (below_drew1 HB.out)
          have q136 : (x6_4 : Int) ≤ ((x3_6.length : Int) : Int) := od
          obtain ⟨i0136, hi0136, _, hsz136, _⟩ := info_parts info77
          have hroom136 : x3_6.length ≤ co121 := (Kd.R_reads' HO_3.out).2.1
          have hC136 : Kd.C k77 _ Ao121 x3_6.length x3_6 := (Kd.R_reads' HO_3.out).2.2
          have hcut136 := cut_to (P := Try.prog) 75 77 .i64 Try.underlying75 hi0136 Ao121 x3_6.length co121 x6_4 (od) q136 hroom136
          have hr136 := Kd.C_take (m := (x6_4 : Int).toNat) hC136 (by omega)
          have hy136 : y653.length = (x6_4 : Int).toNat := (by rw [Ny653.out, List.length_take]; omega)
          rw [← Ny653.out] at hr136
          rw [← hy136] at hcut136
          have HR671 := Aside0.mk hr136
          have HC671 := Aside0.mk (show y653.length ≤ co121 from by omega)
          clear hr136 hC136 hroom136 hi0136 hsz136
          have KY136 := Aside0.mk hy136
          clear hy136
          have KL136 := Aside0.mk (show (x6_4 : Int).toNat ≤ x3_6.length from by omega)
          replace q136 := eq_true q136
          have p672 : 0 ≤ (x5_2 : Int) := od
          have q672 : x5_2 < (l0_3.length : Int) := od
          obtain ⟨ad672, e672, hx672_0⟩ := Kd.at_int HR0_3.out x5_2 p672 q672
          have hw672_0 := hx672_0
          obtain rfl : ad657 = ad672 := (by injection e672)
          replace hx672_0 := cx HB.out hx672_0
          replace p672 := eq_true p672
          replace q672 := eq_true q672
          refine start_ (n := 10) (S := fun w' => w'.cell? ⟨gb645, 0, none⟩ = some (.int .i64 a0_0) ∧ w'.cell? ⟨gb645, 1, none⟩ = some (.slice A0_1 l0_1.length c0_1) ∧ w'.cell? ⟨gb645, 2, none⟩ = some (.slice A0_2 l0_2.length c0_2) ∧ w'.cell? ⟨gb645, 3, none⟩ = some (.slice (some ad657) l0_3.length c0_3) ∧ w'.cell? ⟨gb645, 4, none⟩ = some (.string a0_4) ∧ w'.cell? (ad657.add (x5_2).toNat) = some (.int .i64 (rd l0_3 x5_2))) (ds := []) #[O,O,O,O,O,O,O,O,O,O] (by kernel_rfl) rfl rfl ⟨(blk_cell BK645.out 0).trans rfl, (blk_cell BK645.out 1).trans rfl, (blk_cell BK645.out 2).trans rfl, (blk_cell BK645.out 3).trans rfl, (blk_cell BK645.out 4).trans rfl, (cx HB.out hw672_0 :)⟩ (fun hHeld => ?_); refine with_tabW fairwaylaw12_IndexFroms.tab18 fairwaylaw12_IndexFroms.bits18 (fun HT_ HW_ => ?_)
          generalize w133.drew = w135 at HO_3 BK645 BK661 BK662 HR666 HB HR671 hx672_0 hHeld ⊢
          refine pz (i := 0) (N := some 75) #[I,O,O,O,O,O,O,O,O,O] ?_
          refine pz (i := 1) (N := some 76) #[I,I,O,O,O,O,O,O,O,O] ?_
          refine pz (i := 2) (N := some 77) #[I,I,I,O,O,O,O,O,O,O] ?_
          refine pz (i := 3) (N := some 78) #[I,I,I,I,O,O,O,O,O,O] ?_
          refine pz (i := 5) (N := some 80) #[I,I,I,I,O,I,O,O,O,O] ?_
          refine tz (i := 4) (N := some 79) #[I,I,I,I,I,I,O,O,O,O] ?_
          refine pz (i := 6) (N := some 81) #[I,I,I,I,I,I,I,O,O,O] ?_
          refine tz (i := 7) (N := some 82) #[I,I,I,I,I,I,I,I,O,O] ?_
          refine one_ (i := 8) (N := some 83) #[I,I,I,I,I,I,I,I,I,O] rfl rfl (one_of HT_.out (by kernel_rfl)) (by decide) (fun K hK => ?_)
          refine goes_ Try.func51 (by kernel_rfl) rfl #[.slice Ao121 y653.length co121, .int .i64 (rd l0_3 x5_2)] (by rfl) rfl rfl aa ?_
          with_reducible refine (fairwayref10_From.calls k4 _ _ y653 (rd l0_3 x5_2) t673 _ ?side1 ?side2 A37.out).mono ?_
          (case side1 => exact (ck HR671.out))
          (case side2 => exact HC671.out)
          rintro e w' ⟨rfl, ⟨nd, rfl⟩⟩
          refine ⟨_, rfl, ?_⟩
          refine hK.out _ _ ⟨(blk_cell BK645.out 0).trans rfl, (blk_cell BK645.out 1).trans rfl, (blk_cell BK645.out 2).trans rfl, (blk_cell BK645.out 3).trans rfl, (blk_cell BK645.out 4).trans rfl, (cx HB.out hw672_0 :)⟩ (fun hHeld => ?_)
          clear hK K
          refine nz (N := (some 83)) ?_
          refine pz (i := 9) (N := some 11) #[I,I,I,I,I,I,I,I,I,I] ?_
          refine done_ (done_of HT_.out (by kernel_rfl)) ?_
          try go_wp2_with (first | ((with_reducible refine gate_callee (f := 52) rfl ?_); refine goesL_ (some 91) rfl rfl Try.func52 (by kernel_rfl) rfl #[.int .i64 t660] rfl aa ?_; (with_reducible refine (fairwaylaw12_num.calls t660 t676 _ A99.out).mono ?_); rintro e w' ⟨rfl, ⟨nd, rfl⟩⟩; refine ⟨_, rfl, ?_⟩; have hnb137 := NB661_645.out; have hnc137 := NB645_661.out; obtain ⟨hcz138_0, hcz138_1⟩ := cl2 BK661.out; obtain ⟨hfz138_0, hfz138_1⟩ := fz2 BK661.out; obtain ⟨hcz139_0, hcz139_1⟩ := cl2 BK662.out; obtain ⟨hfz139_0, hfz139_1⟩ := fz2 BK662.out))
          go_roundg k4
          case measure => have := HJ6.out; have := HK2.out; have := HJ19.out; have := HK4.out; omega
          case rel => exact ⟨(wrap64 (x6_4 + 1)), ap, H', ⟨by have := HJ6.out; have := HK2.out; have := HJ19.out; have := HK4.out; omega⟩, ⟨by (with_reducible repeat (first | apply Kd.R_alloc | apply Kd.R_drewN | apply Kd.R_drew)); exact Kd.R_mono HO_3.out (fun _ hk => trivial)⟩, ⟨by (with_reducible repeat (first | refine blk_drewN ?_ _ | refine blk_drew ?_ | refine blk_alloc ?_ _)); exact BK645.out⟩, ⟨bo⟩⟩
         rw [if_pos c38] at H
         have c38b0 : decide (0 ≤ t673) = true := decide_eq_true c38
         clear c38
         by_cases c39 : 0 ≤ t673
         rotate_left
         ·rw [if_neg c39] at H
          exact absurd H (by simp)
         rw [if_pos c39] at H
         have c39b0 : decide (0 ≤ t673) = true := decide_eq_true c39
         clear c39
         by_cases c40 : t673 < (x3_6.length : Int)
         rotate_left
         ·rw [if_neg c40] at H
          exact absurd H (by simp)
         rw [if_pos c40] at H
         have c40b0 : decide (t673 < (x3_6.length : Int)) = true := decide_eq_true c40
         clear c40
         replace H := Option.bind_eq_some_iff.mp H
         obtain ⟨t675, A410, H⟩ := H
         try dsimp only at H
         have A41 := Aside0.mk A410
         clear A410
         by_cases c42 : t675 = 0
         rotate_left
         ·rw [if_neg c42] at H
          have c42b0 : (t675 == 0) = false := beq_eq_false_iff_ne.mpr c42
          have c42b1 : (t675 != 0) = true := bne_iff_ne.mpr c42
          obtain rfl := Option.some.inj H
          obtain ⟨Ao82, co82, eo82⟩ := Kd.R_slice HO_3.out
          subst eo82
          try go_wp2
          replace HO_3 := Aside0.mk (Kd.R_drew HO_3.out)
          replace BK645 := Aside0.mk (blk_drew BK645.out)
          replace HB := Aside0.mk (below_drew1 HB.out)
          have q84 : (x6_4 : Int) ≤ ((x3_6.length : Int) : Int) := od
          obtain ⟨i084, hi084, _, hsz84, _⟩ := info_parts info77
          have hroom84 : x3_6.length ≤ co82 := (Kd.R_reads' HO_3.out).2.1
          have hC84 : Kd.C k77 _ Ao82 x3_6.length x3_6 := (Kd.R_reads' HO_3.out).2.2
          have hcut84 := cut_to (P := Try.prog) 75 77 .i64 Try.underlying75 hi084 Ao82 x3_6.length co82 x6_4 (od) q84 hroom84
          have hr84 := Kd.C_take (m := (x6_4 : Int).toNat) hC84 (by omega)
          have hy84 : y653.length = (x6_4 : Int).toNat := (by rw [Ny653.out, List.length_take]; omega)
          rw [← Ny653.out] at hr84
          rw [← hy84] at hcut84
          have HR656 := Aside0.mk hr84
          have HC656 := Aside0.mk (show y653.length ≤ co82 from by omega)
          clear hr84 hC84 hroom84 hi084 hsz84
          have KY84 := Aside0.mk hy84
          clear hy84
          have KL84 := Aside0.mk (show (x6_4 : Int).toNat ≤ x3_6.length from by omega)
          replace q84 := eq_true q84
          have p657 : 0 ≤ (x5_2 : Int) := od
          have q657 : x5_2 < (l0_3.length : Int) := od
          obtain ⟨ad657, e657, hx657_0⟩ := Kd.at_int HR0_3.out x5_2 p657 q657
          have hw657_0 := hx657_0
          cases e657
          replace hx657_0 := cx HB.out hx657_0
          replace p657 := eq_true p657
          replace q657 := eq_true q657
          refine start_ (n := 15) (S := fun w' => w'.cell? ⟨gb645, 0, none⟩ = some (.int .i64 a0_0) ∧ w'.cell? ⟨gb645, 1, none⟩ = some (.slice A0_1 l0_1.length c0_1) ∧ w'.cell? ⟨gb645, 2, none⟩ = some (.slice A0_2 l0_2.length c0_2) ∧ w'.cell? ⟨gb645, 3, none⟩ = some (.slice (some ad657) l0_3.length c0_3) ∧ w'.cell? ⟨gb645, 4, none⟩ = some (.string a0_4) ∧ w'.cell? (ad657.add (x5_2).toNat) = some (.int .i64 (rd l0_3 x5_2))) (ds := []) #[O,O,O,O,O,O,O,O,O,O,O,O,O,O,O] (by kernel_rfl) rfl rfl ⟨(blk_cell BK645.out 0).trans rfl, (blk_cell BK645.out 1).trans rfl, (blk_cell BK645.out 2).trans rfl, (blk_cell BK645.out 3).trans rfl, (blk_cell BK645.out 4).trans rfl, (cx HB.out hw657_0 :)⟩ (fun hHeld => ?_); refine with_tabW fairwaylaw12_IndexFroms.tab14 fairwaylaw12_IndexFroms.bits14 (fun HT_ HW_ => ?_)
          generalize wr.drew = w83 at HO_3 BK645 HB HR656 hx657_0 hHeld ⊢
          refine pz (i := 0) (N := some 59) #[I,O,O,O,O,O,O,O,O,O,O,O,O,O,O] ?_
          refine pz (i := 1) (N := some 60) #[I,I,O,O,O,O,O,O,O,O,O,O,O,O,O] ?_
          refine pz (i := 2) (N := some 61) #[I,I,I,O,O,O,O,O,O,O,O,O,O,O,O] ?_
          refine pz (i := 3) (N := some 62) #[I,I,I,I,O,O,O,O,O,O,O,O,O,O,O] ?_
          refine pz (i := 5) (N := some 64) #[I,I,I,I,O,I,O,O,O,O,O,O,O,O,O] ?_
          refine tz (i := 4) (N := some 63) #[I,I,I,I,I,I,O,O,O,O,O,O,O,O,O] ?_
          refine pz (i := 6) (N := some 65) #[I,I,I,I,I,I,I,O,O,O,O,O,O,O,O] ?_
          refine tz (i := 7) (N := some 66) #[I,I,I,I,I,I,I,I,O,O,O,O,O,O,O] ?_
          refine join_ (σ := Nat) 2 #[I,I,I,I,I,I,I,I,I,I,I,I,I,O,O] (fun s_ => [(67, .tuple #[.agg #[.int .i64 t658, .int .i64 t659], .int .i64 t660]), (7, .pointer (some ⟨s_, 0, none⟩)), (58, .tuple #[.agg #[.int .i64 t658, .int .i64 t659], .int .i64 t660]), (68, .agg #[.int .i64 t658, .int .i64 t659]), (69, .int .i64 t660)]) (fun s_ w' => (w'.cell? ⟨gb645, 0, none⟩ = some (.int .i64 a0_0) ∧ w'.cell? ⟨gb645, 1, none⟩ = some (.slice A0_1 l0_1.length c0_1) ∧ w'.cell? ⟨gb645, 2, none⟩ = some (.slice A0_2 l0_2.length c0_2) ∧ w'.cell? ⟨gb645, 3, none⟩ = some (.slice (some ad657) l0_3.length c0_3) ∧ w'.cell? ⟨gb645, 4, none⟩ = some (.string a0_4) ∧ w'.cell? (ad657.add (x5_2).toNat) = some (.int .i64 (rd l0_3 x5_2))) ∧ (Kd.R k77 77 w' w.heap.size (fun k_ => k_ ≠ s_) (.slice Ao82 x3_6.length co82) x3_6) ∧ (w'.heap[gb645]? = some (.cells #[.int .i64 a0_0, .slice A0_1 l0_1.length c0_1, .slice A0_2 l0_2.length c0_2, .slice (some ad657) l0_3.length c0_3, .string a0_4] 55 (0, 0))) ∧ (w'.heap[s_]? = some (.cells #[.int .i64 0, .int .i64 0] 77 (0, 0))) ∧ (w.heap.size ≤ s_) ∧ (w.heap.size ≤ s_) ∧ (gb645 ≠ s_) ∧ (s_ ≠ gb645) ∧ (Below w.heap.size w w')) ?_ ?_
          rotate_left
          ·intro hCont
           refine two_ (i := 8) (j := 12) (Ni := some 67) (Nj := some 7) #[I,I,I,I,I,I,I,I,I,O,O,O,O,O,O] #[I,I,I,I,I,I,I,I,O,O,O,O,I,O,O] rfl rfl rfl rfl (two_of HT_.out (by kernel_rfl)) (by decide) (by decide) (fun K hK => ?_) (fun K hK => ?_)
           ·skip
            refine goes_ Try.func49 (by kernel_rfl) rfl #[.slice Ao82 y653.length co82, .int .i64 (rd l0_3 x5_2)] (by rfl) rfl rfl aa ?_
            with_reducible refine (index_From.calls k4 _ _ y653 (rd l0_3 x5_2) t658 t659 t660 _ ?side1 ?side2 A30.out).mono ?_
            (case side1 => exact (ck HR656.out))
            (case side2 => exact HC656.out)
            rintro e w85 ⟨rfl, hb⟩
            refine ⟨_, rfl, ?_⟩
            replace HO_3 := Aside0.mk (Kd.R_below (rk HO_3.out) hb)
            replace BK645 := Aside0.mk (bb BK645.out hb)
            replace HR656 := Aside0.mk (Kd.C_below (ck HR656.out) hb)
            replace HB := Aside0.mk (below_step bo hb)
            (try clear hb)
            (try clear hb2)
            (try clear hk)
            (try clear hi)
            refine hK.out _ _ ⟨(blk_cell BK645.out 0).trans rfl, (blk_cell BK645.out 1).trans rfl, (blk_cell BK645.out 2).trans rfl, (blk_cell BK645.out 3).trans rfl, (blk_cell BK645.out 4).trans rfl, (cx HB.out hw657_0 :)⟩ (fun hHeld => ?_)
            clear hK K
            refine nz (N := (some 67)) ?_
            refine pz (i := 9) (N := some 58) #[I,I,I,I,I,I,I,I,I,I,O,O,O,O,O] ?_
            refine pz (i := 10) (N := some 68) #[I,I,I,I,I,I,I,I,I,I,I,O,O,O,O] ?_
            refine pz (i := 11) (N := some 69) #[I,I,I,I,I,I,I,I,I,I,I,I,O,O,O] ?_
            refine one_ (i := 12) (N := some 7) #[I,I,I,I,I,I,I,I,I,I,I,I,I,O,O] rfl rfl (one_of HT_.out (by kernel_rfl)) (by decide) (fun K hK => ?_)
            refine box_step ?hg (N := 7) ?hd (cs := #[.int .i64 0, .int .i64 0]) (t := 77) ?hr ?_; (case hd => rfl); (case hg => rfl); (case hr => first | (go_simp; done) | (go_simp; rfl))
            intro gb661 hg w86 hbox hb
            replace HO_3 := Aside0.mk (Kd.R_below (Kd.R_elderB (rk HO_3.out) gb661 (Nat.le_of_eq hg.symm)) hb)
            replace HR656 := Aside0.mk (Kd.C_below (ck HR656.out) hb)
            have BK661 := Aside0.mk (hbox)
            have GW661 := Aside0.mk ((by rw [hg]; exact (below_size bo) : w.heap.size ≤ gb661))
            have GE661 := Aside0.mk ((by rw [hg]; exact (below_size bo) : w.heap.size ≤ gb661))
            replace HB := Aside0.mk (below_step bo hb)
            have NB645_661 := Aside0.mk (nl BK645.out hg)
            have NB661_645 := Aside0.mk (ng BK645.out hg)
            replace BK645 := Aside0.mk (bb BK645.out hb)
            clear hb hbox hg
            refine hK.out _ _ ⟨(blk_cell BK645.out 0).trans rfl, (blk_cell BK645.out 1).trans rfl, (blk_cell BK645.out 2).trans rfl, (blk_cell BK645.out 3).trans rfl, (blk_cell BK645.out 4).trans rfl, (cx HB.out hw657_0 :)⟩ (fun hHeld => ?_)
            clear hK K
            refine nz (N := (some 7)) ?_
            exact norm_ (by simp only [putAll, Act.put, List.setIfInBounds_toArray, List.set_cons_zero, List.set_cons_succ]) (hCont (gb661) _ ⟨hHeld, (by (with_reducible repeat (first | apply Kd.R_alloc | apply Kd.R_drewN | apply Kd.R_drew)); exact Kd.R_mono HO_3.out (fun _ hk => hk.2)), (bk BK645.out), (bk BK661.out), GW661.out, GE661.out, NB645_661.out, NB661_645.out, bo⟩)
           skip
           refine box_step ?hg (N := 7) ?hd (cs := #[.int .i64 0, .int .i64 0]) (t := 77) ?hr ?_; (case hd => rfl); (case hg => rfl); (case hr => first | (go_simp; done) | (go_simp; rfl))
           intro gb661 hg w85 hbox hb
           replace HO_3 := Aside0.mk (Kd.R_below (Kd.R_elderB (rk HO_3.out) gb661 (Nat.le_of_eq hg.symm)) hb)
           replace HR656 := Aside0.mk (Kd.C_below (ck HR656.out) hb)
           have BK661 := Aside0.mk (hbox)
           have GW661 := Aside0.mk ((by rw [hg]; exact (below_size bo) : w.heap.size ≤ gb661))
           have GE661 := Aside0.mk ((by rw [hg]; exact (below_size bo) : w.heap.size ≤ gb661))
           replace HB := Aside0.mk (below_step bo hb)
           have NB645_661 := Aside0.mk (nl BK645.out hg)
           have NB661_645 := Aside0.mk (ng BK645.out hg)
           replace BK645 := Aside0.mk (bb BK645.out hb)
           clear hb hbox hg
           refine hK.out _ _ ⟨(blk_cell BK645.out 0).trans rfl, (blk_cell BK645.out 1).trans rfl, (blk_cell BK645.out 2).trans rfl, (blk_cell BK645.out 3).trans rfl, (blk_cell BK645.out 4).trans rfl, (cx HB.out hw657_0 :)⟩ (fun hHeld => ?_)
           clear hK K
           refine nz (N := (some 7)) ?_
           refine one_ (i := 8) (N := some 67) #[I,I,I,I,I,I,I,I,I,O,O,O,I,O,O] rfl rfl (one_of HT_.out (by kernel_rfl)) (by decide) (fun K hK => ?_)
           refine goes_ Try.func49 (by kernel_rfl) rfl #[.slice Ao82 y653.length co82, .int .i64 (rd l0_3 x5_2)] (by rfl) rfl rfl aa ?_
           with_reducible refine (index_From.calls k4 _ _ y653 (rd l0_3 x5_2) t658 t659 t660 _ ?side1 ?side2 A30.out).mono ?_
           (case side1 => exact (ck HR656.out))
           (case side2 => exact HC656.out)
           rintro e w86 ⟨rfl, hb⟩
           refine ⟨_, rfl, ?_⟩
           replace HO_3 := Aside0.mk (Kd.R_below (rk HO_3.out) hb)
           replace BK645 := Aside0.mk (bb BK645.out hb)
           replace HR656 := Aside0.mk (Kd.C_below (ck HR656.out) hb)
           replace BK661 := Aside0.mk (bb BK661.out hb)
           replace HB := Aside0.mk (below_step bo hb)
           (try clear hb)
           (try clear hb2)
           (try clear hk)
           (try clear hi)
           refine hK.out _ _ ⟨(blk_cell BK645.out 0).trans rfl, (blk_cell BK645.out 1).trans rfl, (blk_cell BK645.out 2).trans rfl, (blk_cell BK645.out 3).trans rfl, (blk_cell BK645.out 4).trans rfl, (cx HB.out hw657_0 :)⟩ (fun hHeld => ?_)
           clear hK K
           refine nz (N := (some 67)) ?_
           refine pz (i := 9) (N := some 58) #[I,I,I,I,I,I,I,I,I,I,O,O,I,O,O] ?_
           refine pz (i := 10) (N := some 68) #[I,I,I,I,I,I,I,I,I,I,I,O,I,O,O] ?_
           refine pz (i := 11) (N := some 69) #[I,I,I,I,I,I,I,I,I,I,I,I,I,O,O] ?_
           exact norm_ (by simp only [putAll, Act.put, List.setIfInBounds_toArray, List.set_cons_zero, List.set_cons_succ]) (hCont (gb661) _ ⟨hHeld, (by (with_reducible repeat (first | apply Kd.R_alloc | apply Kd.R_drewN | apply Kd.R_drew)); exact Kd.R_mono HO_3.out (fun _ hk => hk.2)), (bk BK645.out), (bk BK661.out), GW661.out, GE661.out, NB645_661.out, NB661_645.out, bo⟩)
          rintro gb661 w87 ⟨hS_, h0_, h1_, h2_, h3_, h4_, h5_, h6_, h7_⟩
          have n0_ : Aside0 (Kd.R k77 77 w87 w.heap.size (fun k_ => k_ ≠ gb661) (.slice Ao82 x3_6.length co82) x3_6) := ⟨h0_⟩
          have n1_ : Aside0 (w87.heap[gb645]? = some (.cells #[.int .i64 a0_0, .slice A0_1 l0_1.length c0_1, .slice A0_2 l0_2.length c0_2, .slice (some ad657) l0_3.length c0_3, .string a0_4] 55 (0, 0))) := ⟨h1_⟩
          have n2_ : Aside0 (w87.heap[gb661]? = some (.cells #[.int .i64 0, .int .i64 0] 77 (0, 0))) := ⟨h2_⟩
          have n3_ : Aside0 (w.heap.size ≤ gb661) := ⟨h3_⟩
          have n4_ : Aside0 (w.heap.size ≤ gb661) := ⟨h4_⟩
          have n5_ : Aside0 (gb645 ≠ gb661) := ⟨h5_⟩
          have n6_ : Aside0 (gb661 ≠ gb645) := ⟨h6_⟩
          have n7_ : Aside0 (Below w.heap.size w w87) := ⟨h7_⟩
          clear HO_3
          clear BK645
          clear HB
          clear h0_ h1_ h2_ h3_ h4_ h5_ h6_ h7_
          have HO_3 := n0_
          have BK645 := n1_
          have BK661 := n2_
          have GW661 := n3_
          have GE661 := n4_
          have NB645_661 := n5_
          have NB661_645 := n6_
          have HB := n7_
          clear n0_ n1_ n2_ n3_ n4_ n5_ n6_ n7_
          have hHeld : w87.cell? ⟨gb645, 0, none⟩ = some (.int .i64 a0_0) ∧ w87.cell? ⟨gb645, 1, none⟩ = some (.slice A0_1 l0_1.length c0_1) ∧ w87.cell? ⟨gb645, 2, none⟩ = some (.slice A0_2 l0_2.length c0_2) ∧ w87.cell? ⟨gb645, 3, none⟩ = some (.slice (some ad657) l0_3.length c0_3) ∧ w87.cell? ⟨gb645, 4, none⟩ = some (.string a0_4) ∧ w87.cell? (ad657.add (x5_2).toNat) = some (.int .i64 (rd l0_3 x5_2)) := hS_
          refine norm_ (a' := ?_) ?_ ?_
          rotate_left
          ·simp only [putAll, Act.put, List.setIfInBounds_toArray, List.set_cons_zero, List.set_cons_succ]
           rfl
          refine one_ (i := 13) (N := none) #[I,I,I,I,I,I,I,I,I,I,I,I,I,I,O] rfl rfl (one_of HT_.out (by kernel_rfl)) (by decide) (fun K hK => ?_)
          have hs88 : w87.cell? ⟨gb661, 0, none⟩ = some (.int .i64 0) := (blk_cell BK661.out 0).trans rfl
          have hfs88 := blk_frozen BK661.out 0
          have hns88_0 := NB645_661.out
          have hms88_0 := NB661_645.out
          have hs89 : w87.cell? ⟨gb661, 1, none⟩ = some (.int .i64 0) := (blk_cell BK661.out 1).trans rfl
          have hfs89 := blk_frozen BK661.out 1
          have hns89_0 := NB645_661.out
          have hms89_0 := NB661_645.out
          refine skip_ (w1 := ?_) (by rfl) rfl ?_ ?_
          rotate_left
          ·go_simp
           rfl
          refine hK.out _ _ ⟨(cf2 NB645_661.out hHeld.1), (cf2 NB645_661.out hHeld.2.1), (cf2 NB645_661.out hHeld.2.2.1), (cf2 NB645_661.out hHeld.2.2.2.1), (cf2 NB645_661.out hHeld.2.2.2.2.1), ((cell_far (p := ⟨gb661, _, none⟩) (by first | exact Nat.ne_of_lt (Nat.lt_of_lt_of_le (by have := World.block_lt_of_cell? _ _ hw657_0; first | rwa [add_block] at this | exact this) GW661.out) | (rw [add_block]; exact Nat.ne_of_lt (Nat.lt_of_lt_of_le (by have := World.block_lt_of_cell? _ _ hw657_0; first | rwa [add_block] at this | exact this) GW661.out)) | (show (Addr.add _ _).block ≠ _; rw [add_block]; exact Nat.ne_of_lt (Nat.lt_of_lt_of_le (by have := World.block_lt_of_cell? _ _ hw657_0; first | rwa [add_block] at this | exact this) GW661.out)) | (dsimp only; exact Nat.ne_of_lt (Nat.lt_of_lt_of_le (by have := World.block_lt_of_cell? _ _ hw657_0; first | rwa [add_block] at this | exact this) GW661.out))) _).trans (((cell_far (p := ⟨gb661, _, none⟩) (by first | exact Nat.ne_of_lt (Nat.lt_of_lt_of_le (by have := World.block_lt_of_cell? _ _ hw657_0; first | rwa [add_block] at this | exact this) GW661.out) | (rw [add_block]; exact Nat.ne_of_lt (Nat.lt_of_lt_of_le (by have := World.block_lt_of_cell? _ _ hw657_0; first | rwa [add_block] at this | exact this) GW661.out)) | (show (Addr.add _ _).block ≠ _; rw [add_block]; exact Nat.ne_of_lt (Nat.lt_of_lt_of_le (by have := World.block_lt_of_cell? _ _ hw657_0; first | rwa [add_block] at this | exact this) GW661.out)) | (dsimp only; exact Nat.ne_of_lt (Nat.lt_of_lt_of_le (by have := World.block_lt_of_cell? _ _ hw657_0; first | rwa [add_block] at this | exact this) GW661.out))) _).trans (hHeld.2.2.2.2.2))))⟩ (fun hHeld => ?_)
          clear hK K
          refine pz (i := 14) (N := some 8) #[I,I,I,I,I,I,I,I,I,I,I,I,I,I,I] ?_
          refine done_ (done_of HT_.out (by kernel_rfl)) ?_
          try go_wp2_with (first | ((with_reducible refine gate_dst (N := 10) rfl ?_); refine box_event ?hg (N := 10) ?hd (cs := #[.int .i64 0, .int .i64 0]) (t := 77) ?hr ?_; (case hd => rfl); (case hg => rfl); (case hr => first | (go_simp; done) | (go_simp; rfl)); intro gb662 hg w90 hbox hb; replace HO_3 := Aside0.mk (Kd.R_below (Kd.R_elderB (by (with_reducible repeat (first | apply Kd.R_alloc | apply Kd.R_drewN | apply Kd.R_drew)); exact (Kd.R_mono (Kd.R_far (p := ⟨gb661, 1, none⟩) (Kd.R_far (p := ⟨gb661, 0, none⟩) (Kd.R_mono HO_3.out (fun k_ hk => (⟨hk, hk⟩ : _ ∧ k_ ≠ gb661))) (fun _ hk => hk.2) (.int .i64 t658)) (fun _ hk => hk.2) (.int .i64 t659)) (fun _ h_ => h_.1))) gb662 (Nat.le_of_eq hg.symm)) hb); have BK662 := Aside0.mk (hbox); have GW662 := Aside0.mk ((by rw [hg]; exact (below_size bo) : w.heap.size ≤ gb662)); have GE662 := Aside0.mk ((by rw [hg]; exact (below_size bo) : w.heap.size ≤ gb662)); replace HB := Aside0.mk (below_step bo hb); have NB645_662 := Aside0.mk ((by rw [hg]; exact Nat.ne_of_lt (blk_lt (g := gb645) (o := .cells #[.int .i64 a0_0, .slice A0_1 l0_1.length c0_1, .slice A0_2 l0_2.length c0_2, .slice (some ad657) l0_3.length c0_3, .string a0_4] 55 (0, 0)) (bf BK645.out)) : gb645 ≠ gb662)); have NB662_645 := Aside0.mk ((by rw [hg]; exact Nat.ne_of_gt (blk_lt (g := gb645) (o := .cells #[.int .i64 a0_0, .slice A0_1 l0_1.length c0_1, .slice A0_2 l0_2.length c0_2, .slice (some ad657) l0_3.length c0_3, .string a0_4] 55 (0, 0)) (bf BK645.out)) : gb662 ≠ gb645)); replace BK645 := Aside0.mk (bB BK645.out hb); have NB661_662 := Aside0.mk ((by rw [hg]; exact Nat.ne_of_lt (blk_lt (g := gb661) (o := .cells #[.int .i64 t658, .int .i64 t659] 77 (0, 0)) (by (with_reducible repeat (first | refine blk_drewN ?_ _ | refine blk_drew ?_ | refine blk_alloc ?_ _)); refine blk_put (cs := #[.int .i64 t658, .int .i64 0]) ?_ 1 _ rfl; (with_reducible repeat (first | refine blk_drewN ?_ _ | refine blk_drew ?_ | refine blk_alloc ?_ _)); refine blk_put (cs := #[.int .i64 0, .int .i64 0]) ?_ 0 _ rfl; (with_reducible repeat (first | refine blk_drewN ?_ _ | refine blk_drew ?_ | refine blk_alloc ?_ _)); exact BK661.out)) : gb661 ≠ gb662)); have NB662_661 := Aside0.mk ((by rw [hg]; exact Nat.ne_of_gt (blk_lt (g := gb661) (o := .cells #[.int .i64 t658, .int .i64 t659] 77 (0, 0)) (by (with_reducible repeat (first | refine blk_drewN ?_ _ | refine blk_drew ?_ | refine blk_alloc ?_ _)); refine blk_put (cs := #[.int .i64 t658, .int .i64 0]) ?_ 1 _ rfl; (with_reducible repeat (first | refine blk_drewN ?_ _ | refine blk_drew ?_ | refine blk_alloc ?_ _)); refine blk_put (cs := #[.int .i64 0, .int .i64 0]) ?_ 0 _ rfl; (with_reducible repeat (first | refine blk_drewN ?_ _ | refine blk_drew ?_ | refine blk_alloc ?_ _)); exact BK661.out)) : gb662 ≠ gb661)); replace BK661 := Aside0.mk (blk_below (g := gb661) (o := .cells #[.int .i64 t658, .int .i64 t659] 77 (0, 0)) (by (with_reducible repeat (first | refine blk_drewN ?_ _ | refine blk_drew ?_ | refine blk_alloc ?_ _)); refine blk_put (cs := #[.int .i64 t658, .int .i64 0]) ?_ 1 _ rfl; (with_reducible repeat (first | refine blk_drewN ?_ _ | refine blk_drew ?_ | refine blk_alloc ?_ _)); refine blk_put (cs := #[.int .i64 0, .int .i64 0]) ?_ 0 _ rfl; (with_reducible repeat (first | refine blk_drewN ?_ _ | refine blk_drew ?_ | refine blk_alloc ?_ _)); exact BK661.out) hb); clear hb hbox hg; have hnb91 := NB662_645.out; have hnc91 := NB645_662.out; have hnb92 := NB662_661.out; have hnc92 := NB661_662.out; obtain ⟨hcz93_0, hcz93_1⟩ := cl2 BK662.out; obtain ⟨hfz93_0, hfz93_1⟩ := fz2 BK662.out) | ((with_reducible refine gate_store (t := 77) (p := 10) rfl ?_); refine store_event (t := 77) (p := 10) (v := ?vo_w94) (w1 := ((w90.setCell ⟨gb662, 0, none⟩ (.int .i64 0)).setCell ⟨gb662, 1, none⟩ (.int .i64 0))) ?hg ?ho ?hn ?hr ?_; (case ho => rfl); (case hg => rfl); (case hn => rfl); (case hr => first | (go_simp; done) | (go_simp; rfl)); intro w94 hw; have n0_ : Aside0 (Kd.R k77 77 w94 w.heap.size (fun k_ => k_ ≠ gb661 ∧ k_ ≠ gb662) (.slice Ao82 x3_6.length co82) x3_6) := ⟨(by rw [hw]; exact (by (with_reducible repeat (first | apply Kd.R_alloc | apply Kd.R_drewN | apply Kd.R_drew)); exact Kd.R_mono (Kd.R_far (p := ⟨gb662, 1, none⟩) (Kd.R_far (p := ⟨gb662, 0, none⟩) (Kd.R_mono HO_3.out (fun k_ hk => (⟨hk, hk.2⟩ : _ ∧ k_ ≠ gb662))) (fun _ hk => hk.2) (.int .i64 0)) (fun _ hk => hk.2) (.int .i64 0)) (fun _ hk => ⟨hk.1.1, hk.1.2⟩)))⟩; have n1_ : Aside0 (w94.heap[gb645]? = some (.cells #[.int .i64 a0_0, .slice A0_1 l0_1.length c0_1, .slice A0_2 l0_2.length c0_2, .slice (some ad657) l0_3.length c0_3, .string a0_4] 55 (0, 0))) := ⟨(by rw [hw]; exact (bf BK645.out))⟩; have n2_ : Aside0 (w94.heap[gb661]? = some (.cells #[.int .i64 t658, .int .i64 t659] 77 (0, 0))) := ⟨(by rw [hw]; exact (bf BK661.out))⟩; have n3_ : Aside0 (w94.heap[gb662]? = some (.cells #[.int .i64 0, .int .i64 0] 77 (0, 0))) := ⟨(by rw [hw]; exact (by (with_reducible repeat (first | refine blk_drewN ?_ _ | refine blk_drew ?_ | refine blk_alloc ?_ _)); refine blk_put (cs := #[.int .i64 0, .int .i64 0]) ?_ 1 _ rfl; (with_reducible repeat (first | refine blk_drewN ?_ _ | refine blk_drew ?_ | refine blk_alloc ?_ _)); refine blk_put (cs := #[.int .i64 0, .int .i64 0]) ?_ 0 _ rfl; (with_reducible repeat (first | refine blk_drewN ?_ _ | refine blk_drew ?_ | refine blk_alloc ?_ _)); exact BK662.out))⟩; have n4_ : Aside0 (Below w.heap.size w w94) := ⟨(by rw [hw]; exact bo)⟩; clear hw; clear HO_3; clear BK645; clear BK661; clear BK662; clear HB; have HO_3 := n0_; have BK645 := n1_; have BK661 := n2_; have BK662 := n3_; have HB := n4_; clear n0_ n1_ n2_ n3_ n4_; have q95 : (x6_4 : Int) ≤ ((x3_6.length : Int) : Int) := od; obtain ⟨i095, hi095, _, hsz95, _⟩ := info_parts info77; have hroom95 : x3_6.length ≤ co82 := (Kd.R_reads' HO_3.out).2.1; have hC95 : Kd.C k77 _ Ao82 x3_6.length x3_6 := (Kd.R_reads' HO_3.out).2.2; have hcut95 := cut_to (P := Try.prog) 75 77 .i64 Try.underlying75 hi095 Ao82 x3_6.length co82 x6_4 (od) q95 hroom95; have hr95 := Kd.C_take (m := (x6_4 : Int).toNat) hC95 (by omega); have hy95 : y653.length = (x6_4 : Int).toNat := (by rw [Ny653.out, List.length_take]; omega); rw [← Ny653.out] at hr95; rw [← hy95] at hcut95; have HR666 := Aside0.mk hr95; have HC666 := Aside0.mk (show y653.length ≤ co82 from by omega); clear hr95 hC95 hroom95 hi095 hsz95; have KY95 := Aside0.mk hy95; clear hy95; have KL95 := Aside0.mk (show (x6_4 : Int).toNat ≤ x3_6.length from by omega); replace q95 := eq_true q95) | ((with_reducible refine gate_callee (f := 50) rfl ?_); refine goesL_ (some 74) rfl rfl Try.func50 (by kernel_rfl) rfl #[.slice Ao82 y653.length co82] rfl aa ?_; (with_reducible refine (fairwayref10_Risen.calls k4 _ _ y653 true _ ?side1 ?side2 A33.out).mono ?_); (case side1 => exact (ck HR666.out)); (case side2 => exact HC666.out); rintro e w' ⟨rfl, ⟨nd, rfl⟩⟩; refine ⟨_, rfl, ?_⟩; (try (rw [drewN_self w94]; generalize hq_ : World.drewN w94 _ = w94; have n0_ : Aside0 (Kd.R k77 77 w94 w.heap.size (fun k_ => k_ ≠ gb661 ∧ k_ ≠ gb662) (.slice Ao82 x3_6.length co82) x3_6) := ⟨by rw [← hq_]; exact (rk HO_3.out)⟩; have n1_ : Aside0 (w94.heap[gb645]? = some (.cells #[.int .i64 a0_0, .slice A0_1 l0_1.length c0_1, .slice A0_2 l0_2.length c0_2, .slice (some ad657) l0_3.length c0_3, .string a0_4] 55 (0, 0))) := ⟨by rw [← hq_]; exact (bk BK645.out)⟩; have n2_ : Aside0 (w94.heap[gb661]? = some (.cells #[.int .i64 t658, .int .i64 t659] 77 (0, 0))) := ⟨by rw [← hq_]; exact (bk BK661.out)⟩; have n3_ : Aside0 (w94.heap[gb662]? = some (.cells #[.int .i64 0, .int .i64 0] 77 (0, 0))) := ⟨by rw [← hq_]; exact (bk BK662.out)⟩; have n4_ : Aside0 (Below w.heap.size w w94) := ⟨by rw [← hq_]; exact bo⟩; have n5_ : Aside0 (Kd.C k77 w94 Ao82 y653.length y653) := ⟨by rw [← hq_]; exact (ck HR666.out)⟩; clear HO_3 BK645 BK661 BK662 HB HR666 hq_; have HO_3 := n0_; have BK645 := n1_; have BK661 := n2_; have BK662 := n3_; have HB := n4_; have HR666 := n5_; clear n0_ n1_ n2_ n3_ n4_ n5_))))
          replace HO_3 := Aside0.mk (Kd.R_drew HO_3.out)
          replace BK645 := Aside0.mk (blk_drew BK645.out)
          replace BK661 := Aside0.mk (blk_drew BK661.out)
          replace BK662 := Aside0.mk (blk_drew BK662.out)
          replace HR666 := Aside0.mk (Kd.C_drew HR666.out)
          replace HB := Aside0.mk (below_drew1 HB.out)
          have q97 : (x6_4 : Int) ≤ ((x3_6.length : Int) : Int) := od
          obtain ⟨i097, hi097, _, hsz97, _⟩ := info_parts info77
          have hroom97 : x3_6.length ≤ co82 := (Kd.R_reads' HO_3.out).2.1
          have hC97 : Kd.C k77 _ Ao82 x3_6.length x3_6 := (Kd.R_reads' HO_3.out).2.2
          have hcut97 := cut_to (P := Try.prog) 75 77 .i64 Try.underlying75 hi097 Ao82 x3_6.length co82 x6_4 (od) q97 hroom97
          have hr97 := Kd.C_take (m := (x6_4 : Int).toNat) hC97 (by omega)
          have hy97 : y653.length = (x6_4 : Int).toNat := (by rw [Ny653.out, List.length_take]; omega)
          rw [← Ny653.out] at hr97
          rw [← hy97] at hcut97
          have HR671 := Aside0.mk hr97
          have HC671 := Aside0.mk (show y653.length ≤ co82 from by omega)
          clear hr97 hC97 hroom97 hi097 hsz97
          have KY97 := Aside0.mk hy97
          clear hy97
          have KL97 := Aside0.mk (show (x6_4 : Int).toNat ≤ x3_6.length from by omega)
          replace q97 := eq_true q97
          have p672 : 0 ≤ (x5_2 : Int) := od
          have q672 : x5_2 < (l0_3.length : Int) := od
          obtain ⟨ad672, e672, hx672_0⟩ := Kd.at_int HR0_3.out x5_2 p672 q672
          have hw672_0 := hx672_0
          obtain rfl : ad657 = ad672 := (by injection e672)
          replace hx672_0 := cx HB.out hx672_0
          replace p672 := eq_true p672
          replace q672 := eq_true q672
          refine start_ (n := 10) (S := fun w' => w'.cell? ⟨gb645, 0, none⟩ = some (.int .i64 a0_0) ∧ w'.cell? ⟨gb645, 1, none⟩ = some (.slice A0_1 l0_1.length c0_1) ∧ w'.cell? ⟨gb645, 2, none⟩ = some (.slice A0_2 l0_2.length c0_2) ∧ w'.cell? ⟨gb645, 3, none⟩ = some (.slice (some ad657) l0_3.length c0_3) ∧ w'.cell? ⟨gb645, 4, none⟩ = some (.string a0_4) ∧ w'.cell? (ad657.add (x5_2).toNat) = some (.int .i64 (rd l0_3 x5_2))) (ds := []) #[O,O,O,O,O,O,O,O,O,O] (by kernel_rfl) rfl rfl ⟨(blk_cell BK645.out 0).trans rfl, (blk_cell BK645.out 1).trans rfl, (blk_cell BK645.out 2).trans rfl, (blk_cell BK645.out 3).trans rfl, (blk_cell BK645.out 4).trans rfl, (cx HB.out hw672_0 :)⟩ (fun hHeld => ?_); refine with_tabW fairwaylaw12_IndexFroms.tab18 fairwaylaw12_IndexFroms.bits18 (fun HT_ HW_ => ?_)
          generalize w94.drew = w96 at HO_3 BK645 BK661 BK662 HR666 HB HR671 hx672_0 hHeld ⊢
          refine pz (i := 0) (N := some 75) #[I,O,O,O,O,O,O,O,O,O] ?_
          refine pz (i := 1) (N := some 76) #[I,I,O,O,O,O,O,O,O,O] ?_
          refine pz (i := 2) (N := some 77) #[I,I,I,O,O,O,O,O,O,O] ?_
          refine pz (i := 3) (N := some 78) #[I,I,I,I,O,O,O,O,O,O] ?_
          refine pz (i := 5) (N := some 80) #[I,I,I,I,O,I,O,O,O,O] ?_
          refine tz (i := 4) (N := some 79) #[I,I,I,I,I,I,O,O,O,O] ?_
          refine pz (i := 6) (N := some 81) #[I,I,I,I,I,I,I,O,O,O] ?_
          refine tz (i := 7) (N := some 82) #[I,I,I,I,I,I,I,I,O,O] ?_
          refine one_ (i := 8) (N := some 83) #[I,I,I,I,I,I,I,I,I,O] rfl rfl (one_of HT_.out (by kernel_rfl)) (by decide) (fun K hK => ?_)
          refine goes_ Try.func51 (by kernel_rfl) rfl #[.slice Ao82 y653.length co82, .int .i64 (rd l0_3 x5_2)] (by rfl) rfl rfl aa ?_
          with_reducible refine (fairwayref10_From.calls k4 _ _ y653 (rd l0_3 x5_2) t673 _ ?side1 ?side2 A37.out).mono ?_
          (case side1 => exact (ck HR671.out))
          (case side2 => exact HC671.out)
          rintro e w' ⟨rfl, ⟨nd, rfl⟩⟩
          refine ⟨_, rfl, ?_⟩
          refine hK.out _ _ ⟨(blk_cell BK645.out 0).trans rfl, (blk_cell BK645.out 1).trans rfl, (blk_cell BK645.out 2).trans rfl, (blk_cell BK645.out 3).trans rfl, (blk_cell BK645.out 4).trans rfl, (cx HB.out hw672_0 :)⟩ (fun hHeld => ?_)
          clear hK K
          refine nz (N := (some 83)) ?_
          refine pz (i := 9) (N := some 11) #[I,I,I,I,I,I,I,I,I,I] ?_
          refine done_ (done_of HT_.out (by kernel_rfl)) ?_
          have p674 : 0 ≤ (t673 : Int) := od
          have q674 : t673 < (x3_6.length : Int) := od
          obtain ⟨ad674, e674, hx674_0, hx674_1⟩ := at_T77 (Kd.R_reads' HO_3.out).2.2 t673 p674 q674
          cases e674
          replace p674 := eq_true p674
          replace q674 := eq_true q674
          have hcz98_0 : w96.cell? ⟨gb662, 0, none⟩ = some (.int .i64 0) := (blk_cell BK662.out 0).trans rfl
          have hcz98_1 : w96.cell? ⟨gb662, 1, none⟩ = some (.int .i64 0) := (blk_cell BK662.out 1).trans rfl
          have hfz98_0 := blk_frozen BK662.out 0
          have hfz98_1 := blk_frozen BK662.out 1
          try go_wp2_with (first | ((with_reducible refine gate_callee (f := 52) rfl ?_); refine goesL_ (some 91) rfl rfl Try.func52 (by kernel_rfl) rfl #[.int .i64 t660] rfl aa ?_; (with_reducible refine (fairwaylaw12_num.calls t660 t675 _ A41.out).mono ?_); rintro e w' ⟨rfl, ⟨nd, rfl⟩⟩; refine ⟨_, rfl, ?_⟩))
          go_ret
          exact ⟨er, bo⟩
         rw [if_pos c42] at H
         have c42b0 : (t675 == 0) = true := beq_iff_eq.mpr c42
         have c42b1 : (t675 != 0) = false := bne_eq_false_iff_eq.mpr c42
         clear c42
         by_cases c43 : (!(t658 == ((rd_T77 x3_6 t673).f0)) || (!(t659 == ((rd_T77 x3_6 t673).f1)))) = true
         ·rw [if_pos c43] at H
          have c43b0 : (!(t658 == ((rd_T77 x3_6 t673).f0)) || (!(t659 == ((rd_T77 x3_6 t673).f1)))) = true := c43
          clear c43
          obtain rfl := Option.some.inj H
          obtain ⟨Ao44, co44, eo44⟩ := Kd.R_slice HO_3.out
          subst eo44
          try go_wp2
          replace HO_3 := Aside0.mk (Kd.R_drew HO_3.out)
          replace BK645 := Aside0.mk (blk_drew BK645.out)
          replace HB := Aside0.mk (below_drew1 HB.out)
          have q46 : (x6_4 : Int) ≤ ((x3_6.length : Int) : Int) := od
          obtain ⟨i046, hi046, _, hsz46, _⟩ := info_parts info77
          have hroom46 : x3_6.length ≤ co44 := (Kd.R_reads' HO_3.out).2.1
          have hC46 : Kd.C k77 _ Ao44 x3_6.length x3_6 := (Kd.R_reads' HO_3.out).2.2
          have hcut46 := cut_to (P := Try.prog) 75 77 .i64 Try.underlying75 hi046 Ao44 x3_6.length co44 x6_4 (od) q46 hroom46
          have hr46 := Kd.C_take (m := (x6_4 : Int).toNat) hC46 (by omega)
          have hy46 : y653.length = (x6_4 : Int).toNat := (by rw [Ny653.out, List.length_take]; omega)
          rw [← Ny653.out] at hr46
          rw [← hy46] at hcut46
          have HR656 := Aside0.mk hr46
          have HC656 := Aside0.mk (show y653.length ≤ co44 from by omega)
          clear hr46 hC46 hroom46 hi046 hsz46
          have KY46 := Aside0.mk hy46
          clear hy46
          have KL46 := Aside0.mk (show (x6_4 : Int).toNat ≤ x3_6.length from by omega)
          replace q46 := eq_true q46
          have p657 : 0 ≤ (x5_2 : Int) := od
          have q657 : x5_2 < (l0_3.length : Int) := od
          obtain ⟨ad657, e657, hx657_0⟩ := Kd.at_int HR0_3.out x5_2 p657 q657
          have hw657_0 := hx657_0
          cases e657
          replace hx657_0 := cx HB.out hx657_0
          replace p657 := eq_true p657
          replace q657 := eq_true q657
          refine start_ (n := 15) (S := fun w' => w'.cell? ⟨gb645, 0, none⟩ = some (.int .i64 a0_0) ∧ w'.cell? ⟨gb645, 1, none⟩ = some (.slice A0_1 l0_1.length c0_1) ∧ w'.cell? ⟨gb645, 2, none⟩ = some (.slice A0_2 l0_2.length c0_2) ∧ w'.cell? ⟨gb645, 3, none⟩ = some (.slice (some ad657) l0_3.length c0_3) ∧ w'.cell? ⟨gb645, 4, none⟩ = some (.string a0_4) ∧ w'.cell? (ad657.add (x5_2).toNat) = some (.int .i64 (rd l0_3 x5_2))) (ds := []) #[O,O,O,O,O,O,O,O,O,O,O,O,O,O,O] (by kernel_rfl) rfl rfl ⟨(blk_cell BK645.out 0).trans rfl, (blk_cell BK645.out 1).trans rfl, (blk_cell BK645.out 2).trans rfl, (blk_cell BK645.out 3).trans rfl, (blk_cell BK645.out 4).trans rfl, (cx HB.out hw657_0 :)⟩ (fun hHeld => ?_); refine with_tabW fairwaylaw12_IndexFroms.tab14 fairwaylaw12_IndexFroms.bits14 (fun HT_ HW_ => ?_)
          generalize wr.drew = w45 at HO_3 BK645 HB HR656 hx657_0 hHeld ⊢
          refine pz (i := 0) (N := some 59) #[I,O,O,O,O,O,O,O,O,O,O,O,O,O,O] ?_
          refine pz (i := 1) (N := some 60) #[I,I,O,O,O,O,O,O,O,O,O,O,O,O,O] ?_
          refine pz (i := 2) (N := some 61) #[I,I,I,O,O,O,O,O,O,O,O,O,O,O,O] ?_
          refine pz (i := 3) (N := some 62) #[I,I,I,I,O,O,O,O,O,O,O,O,O,O,O] ?_
          refine pz (i := 5) (N := some 64) #[I,I,I,I,O,I,O,O,O,O,O,O,O,O,O] ?_
          refine tz (i := 4) (N := some 63) #[I,I,I,I,I,I,O,O,O,O,O,O,O,O,O] ?_
          refine pz (i := 6) (N := some 65) #[I,I,I,I,I,I,I,O,O,O,O,O,O,O,O] ?_
          refine tz (i := 7) (N := some 66) #[I,I,I,I,I,I,I,I,O,O,O,O,O,O,O] ?_
          refine join_ (σ := Nat) 2 #[I,I,I,I,I,I,I,I,I,I,I,I,I,O,O] (fun s_ => [(67, .tuple #[.agg #[.int .i64 t658, .int .i64 t659], .int .i64 t660]), (7, .pointer (some ⟨s_, 0, none⟩)), (58, .tuple #[.agg #[.int .i64 t658, .int .i64 t659], .int .i64 t660]), (68, .agg #[.int .i64 t658, .int .i64 t659]), (69, .int .i64 t660)]) (fun s_ w' => (w'.cell? ⟨gb645, 0, none⟩ = some (.int .i64 a0_0) ∧ w'.cell? ⟨gb645, 1, none⟩ = some (.slice A0_1 l0_1.length c0_1) ∧ w'.cell? ⟨gb645, 2, none⟩ = some (.slice A0_2 l0_2.length c0_2) ∧ w'.cell? ⟨gb645, 3, none⟩ = some (.slice (some ad657) l0_3.length c0_3) ∧ w'.cell? ⟨gb645, 4, none⟩ = some (.string a0_4) ∧ w'.cell? (ad657.add (x5_2).toNat) = some (.int .i64 (rd l0_3 x5_2))) ∧ (Kd.R k77 77 w' w.heap.size (fun k_ => k_ ≠ s_) (.slice Ao44 x3_6.length co44) x3_6) ∧ (w'.heap[gb645]? = some (.cells #[.int .i64 a0_0, .slice A0_1 l0_1.length c0_1, .slice A0_2 l0_2.length c0_2, .slice (some ad657) l0_3.length c0_3, .string a0_4] 55 (0, 0))) ∧ (w'.heap[s_]? = some (.cells #[.int .i64 0, .int .i64 0] 77 (0, 0))) ∧ (w.heap.size ≤ s_) ∧ (w.heap.size ≤ s_) ∧ (gb645 ≠ s_) ∧ (s_ ≠ gb645) ∧ (Below w.heap.size w w')) ?_ ?_
          rotate_left
          ·intro hCont
           refine two_ (i := 8) (j := 12) (Ni := some 67) (Nj := some 7) #[I,I,I,I,I,I,I,I,I,O,O,O,O,O,O] #[I,I,I,I,I,I,I,I,O,O,O,O,I,O,O] rfl rfl rfl rfl (two_of HT_.out (by kernel_rfl)) (by decide) (by decide) (fun K hK => ?_) (fun K hK => ?_)
           ·skip
            refine goes_ Try.func49 (by kernel_rfl) rfl #[.slice Ao44 y653.length co44, .int .i64 (rd l0_3 x5_2)] (by rfl) rfl rfl aa ?_
            with_reducible refine (index_From.calls k4 _ _ y653 (rd l0_3 x5_2) t658 t659 t660 _ ?side1 ?side2 A30.out).mono ?_
            (case side1 => exact (ck HR656.out))
            (case side2 => exact HC656.out)
            rintro e w47 ⟨rfl, hb⟩
            refine ⟨_, rfl, ?_⟩
            replace HO_3 := Aside0.mk (Kd.R_below (rk HO_3.out) hb)
            replace BK645 := Aside0.mk (bb BK645.out hb)
            replace HR656 := Aside0.mk (Kd.C_below (ck HR656.out) hb)
            replace HB := Aside0.mk (below_step bo hb)
            (try clear hb)
            (try clear hb2)
            (try clear hk)
            (try clear hi)
            refine hK.out _ _ ⟨(blk_cell BK645.out 0).trans rfl, (blk_cell BK645.out 1).trans rfl, (blk_cell BK645.out 2).trans rfl, (blk_cell BK645.out 3).trans rfl, (blk_cell BK645.out 4).trans rfl, (cx HB.out hw657_0 :)⟩ (fun hHeld => ?_)
            clear hK K
            refine nz (N := (some 67)) ?_
            refine pz (i := 9) (N := some 58) #[I,I,I,I,I,I,I,I,I,I,O,O,O,O,O] ?_
            refine pz (i := 10) (N := some 68) #[I,I,I,I,I,I,I,I,I,I,I,O,O,O,O] ?_
            refine pz (i := 11) (N := some 69) #[I,I,I,I,I,I,I,I,I,I,I,I,O,O,O] ?_
            refine one_ (i := 12) (N := some 7) #[I,I,I,I,I,I,I,I,I,I,I,I,I,O,O] rfl rfl (one_of HT_.out (by kernel_rfl)) (by decide) (fun K hK => ?_)
            refine box_step ?hg (N := 7) ?hd (cs := #[.int .i64 0, .int .i64 0]) (t := 77) ?hr ?_; (case hd => rfl); (case hg => rfl); (case hr => first | (go_simp; done) | (go_simp; rfl))
            intro gb661 hg w48 hbox hb
            replace HO_3 := Aside0.mk (Kd.R_below (Kd.R_elderB (rk HO_3.out) gb661 (Nat.le_of_eq hg.symm)) hb)
            replace HR656 := Aside0.mk (Kd.C_below (ck HR656.out) hb)
            have BK661 := Aside0.mk (hbox)
            have GW661 := Aside0.mk ((by rw [hg]; exact (below_size bo) : w.heap.size ≤ gb661))
            have GE661 := Aside0.mk ((by rw [hg]; exact (below_size bo) : w.heap.size ≤ gb661))
            replace HB := Aside0.mk (below_step bo hb)
            have NB645_661 := Aside0.mk (nl BK645.out hg)
            have NB661_645 := Aside0.mk (ng BK645.out hg)
            replace BK645 := Aside0.mk (bb BK645.out hb)
            clear hb hbox hg
            refine hK.out _ _ ⟨(blk_cell BK645.out 0).trans rfl, (blk_cell BK645.out 1).trans rfl, (blk_cell BK645.out 2).trans rfl, (blk_cell BK645.out 3).trans rfl, (blk_cell BK645.out 4).trans rfl, (cx HB.out hw657_0 :)⟩ (fun hHeld => ?_)
            clear hK K
            refine nz (N := (some 7)) ?_
            exact norm_ (by simp only [putAll, Act.put, List.setIfInBounds_toArray, List.set_cons_zero, List.set_cons_succ]) (hCont (gb661) _ ⟨hHeld, (by (with_reducible repeat (first | apply Kd.R_alloc | apply Kd.R_drewN | apply Kd.R_drew)); exact Kd.R_mono HO_3.out (fun _ hk => hk.2)), (bk BK645.out), (bk BK661.out), GW661.out, GE661.out, NB645_661.out, NB661_645.out, bo⟩)
           skip
           refine box_step ?hg (N := 7) ?hd (cs := #[.int .i64 0, .int .i64 0]) (t := 77) ?hr ?_; (case hd => rfl); (case hg => rfl); (case hr => first | (go_simp; done) | (go_simp; rfl))
           intro gb661 hg w47 hbox hb
           replace HO_3 := Aside0.mk (Kd.R_below (Kd.R_elderB (rk HO_3.out) gb661 (Nat.le_of_eq hg.symm)) hb)
           replace HR656 := Aside0.mk (Kd.C_below (ck HR656.out) hb)
           have BK661 := Aside0.mk (hbox)
           have GW661 := Aside0.mk ((by rw [hg]; exact (below_size bo) : w.heap.size ≤ gb661))
           have GE661 := Aside0.mk ((by rw [hg]; exact (below_size bo) : w.heap.size ≤ gb661))
           replace HB := Aside0.mk (below_step bo hb)
           have NB645_661 := Aside0.mk (nl BK645.out hg)
           have NB661_645 := Aside0.mk (ng BK645.out hg)
           replace BK645 := Aside0.mk (bb BK645.out hb)
           clear hb hbox hg
           refine hK.out _ _ ⟨(blk_cell BK645.out 0).trans rfl, (blk_cell BK645.out 1).trans rfl, (blk_cell BK645.out 2).trans rfl, (blk_cell BK645.out 3).trans rfl, (blk_cell BK645.out 4).trans rfl, (cx HB.out hw657_0 :)⟩ (fun hHeld => ?_)
           clear hK K
           refine nz (N := (some 7)) ?_
           refine one_ (i := 8) (N := some 67) #[I,I,I,I,I,I,I,I,I,O,O,O,I,O,O] rfl rfl (one_of HT_.out (by kernel_rfl)) (by decide) (fun K hK => ?_)
           refine goes_ Try.func49 (by kernel_rfl) rfl #[.slice Ao44 y653.length co44, .int .i64 (rd l0_3 x5_2)] (by rfl) rfl rfl aa ?_
           with_reducible refine (index_From.calls k4 _ _ y653 (rd l0_3 x5_2) t658 t659 t660 _ ?side1 ?side2 A30.out).mono ?_
           (case side1 => exact (ck HR656.out))
           (case side2 => exact HC656.out)
           rintro e w48 ⟨rfl, hb⟩
           refine ⟨_, rfl, ?_⟩
           replace HO_3 := Aside0.mk (Kd.R_below (rk HO_3.out) hb)
           replace BK645 := Aside0.mk (bb BK645.out hb)
           replace HR656 := Aside0.mk (Kd.C_below (ck HR656.out) hb)
           replace BK661 := Aside0.mk (bb BK661.out hb)
           replace HB := Aside0.mk (below_step bo hb)
           (try clear hb)
           (try clear hb2)
           (try clear hk)
           (try clear hi)
           refine hK.out _ _ ⟨(blk_cell BK645.out 0).trans rfl, (blk_cell BK645.out 1).trans rfl, (blk_cell BK645.out 2).trans rfl, (blk_cell BK645.out 3).trans rfl, (blk_cell BK645.out 4).trans rfl, (cx HB.out hw657_0 :)⟩ (fun hHeld => ?_)
           clear hK K
           refine nz (N := (some 67)) ?_
           refine pz (i := 9) (N := some 58) #[I,I,I,I,I,I,I,I,I,I,O,O,I,O,O] ?_
           refine pz (i := 10) (N := some 68) #[I,I,I,I,I,I,I,I,I,I,I,O,I,O,O] ?_
           refine pz (i := 11) (N := some 69) #[I,I,I,I,I,I,I,I,I,I,I,I,I,O,O] ?_
           exact norm_ (by simp only [putAll, Act.put, List.setIfInBounds_toArray, List.set_cons_zero, List.set_cons_succ]) (hCont (gb661) _ ⟨hHeld, (by (with_reducible repeat (first | apply Kd.R_alloc | apply Kd.R_drewN | apply Kd.R_drew)); exact Kd.R_mono HO_3.out (fun _ hk => hk.2)), (bk BK645.out), (bk BK661.out), GW661.out, GE661.out, NB645_661.out, NB661_645.out, bo⟩)
          rintro gb661 w49 ⟨hS_, h0_, h1_, h2_, h3_, h4_, h5_, h6_, h7_⟩
          have n0_ : Aside0 (Kd.R k77 77 w49 w.heap.size (fun k_ => k_ ≠ gb661) (.slice Ao44 x3_6.length co44) x3_6) := ⟨h0_⟩
          have n1_ : Aside0 (w49.heap[gb645]? = some (.cells #[.int .i64 a0_0, .slice A0_1 l0_1.length c0_1, .slice A0_2 l0_2.length c0_2, .slice (some ad657) l0_3.length c0_3, .string a0_4] 55 (0, 0))) := ⟨h1_⟩
          have n2_ : Aside0 (w49.heap[gb661]? = some (.cells #[.int .i64 0, .int .i64 0] 77 (0, 0))) := ⟨h2_⟩
          have n3_ : Aside0 (w.heap.size ≤ gb661) := ⟨h3_⟩
          have n4_ : Aside0 (w.heap.size ≤ gb661) := ⟨h4_⟩
          have n5_ : Aside0 (gb645 ≠ gb661) := ⟨h5_⟩
          have n6_ : Aside0 (gb661 ≠ gb645) := ⟨h6_⟩
          have n7_ : Aside0 (Below w.heap.size w w49) := ⟨h7_⟩
          clear HO_3
          clear BK645
          clear HB
          clear h0_ h1_ h2_ h3_ h4_ h5_ h6_ h7_
          have HO_3 := n0_
          have BK645 := n1_
          have BK661 := n2_
          have GW661 := n3_
          have GE661 := n4_
          have NB645_661 := n5_
          have NB661_645 := n6_
          have HB := n7_
          clear n0_ n1_ n2_ n3_ n4_ n5_ n6_ n7_
          have hHeld : w49.cell? ⟨gb645, 0, none⟩ = some (.int .i64 a0_0) ∧ w49.cell? ⟨gb645, 1, none⟩ = some (.slice A0_1 l0_1.length c0_1) ∧ w49.cell? ⟨gb645, 2, none⟩ = some (.slice A0_2 l0_2.length c0_2) ∧ w49.cell? ⟨gb645, 3, none⟩ = some (.slice (some ad657) l0_3.length c0_3) ∧ w49.cell? ⟨gb645, 4, none⟩ = some (.string a0_4) ∧ w49.cell? (ad657.add (x5_2).toNat) = some (.int .i64 (rd l0_3 x5_2)) := hS_
          refine norm_ (a' := ?_) ?_ ?_
          rotate_left
          ·simp only [putAll, Act.put, List.setIfInBounds_toArray, List.set_cons_zero, List.set_cons_succ]
           rfl
          refine one_ (i := 13) (N := none) #[I,I,I,I,I,I,I,I,I,I,I,I,I,I,O] rfl rfl (one_of HT_.out (by kernel_rfl)) (by decide) (fun K hK => ?_)
          have hs50 : w49.cell? ⟨gb661, 0, none⟩ = some (.int .i64 0) := (blk_cell BK661.out 0).trans rfl
          have hfs50 := blk_frozen BK661.out 0
          have hns50_0 := NB645_661.out
          have hms50_0 := NB661_645.out
          have hs51 : w49.cell? ⟨gb661, 1, none⟩ = some (.int .i64 0) := (blk_cell BK661.out 1).trans rfl
          have hfs51 := blk_frozen BK661.out 1
          have hns51_0 := NB645_661.out
          have hms51_0 := NB661_645.out
          refine skip_ (w1 := ?_) (by rfl) rfl ?_ ?_
          rotate_left
          ·go_simp
           rfl
          refine hK.out _ _ ⟨(cf2 NB645_661.out hHeld.1), (cf2 NB645_661.out hHeld.2.1), (cf2 NB645_661.out hHeld.2.2.1), (cf2 NB645_661.out hHeld.2.2.2.1), (cf2 NB645_661.out hHeld.2.2.2.2.1), ((cell_far (p := ⟨gb661, _, none⟩) (by first | exact Nat.ne_of_lt (Nat.lt_of_lt_of_le (by have := World.block_lt_of_cell? _ _ hw657_0; first | rwa [add_block] at this | exact this) GW661.out) | (rw [add_block]; exact Nat.ne_of_lt (Nat.lt_of_lt_of_le (by have := World.block_lt_of_cell? _ _ hw657_0; first | rwa [add_block] at this | exact this) GW661.out)) | (show (Addr.add _ _).block ≠ _; rw [add_block]; exact Nat.ne_of_lt (Nat.lt_of_lt_of_le (by have := World.block_lt_of_cell? _ _ hw657_0; first | rwa [add_block] at this | exact this) GW661.out)) | (dsimp only; exact Nat.ne_of_lt (Nat.lt_of_lt_of_le (by have := World.block_lt_of_cell? _ _ hw657_0; first | rwa [add_block] at this | exact this) GW661.out))) _).trans (((cell_far (p := ⟨gb661, _, none⟩) (by first | exact Nat.ne_of_lt (Nat.lt_of_lt_of_le (by have := World.block_lt_of_cell? _ _ hw657_0; first | rwa [add_block] at this | exact this) GW661.out) | (rw [add_block]; exact Nat.ne_of_lt (Nat.lt_of_lt_of_le (by have := World.block_lt_of_cell? _ _ hw657_0; first | rwa [add_block] at this | exact this) GW661.out)) | (show (Addr.add _ _).block ≠ _; rw [add_block]; exact Nat.ne_of_lt (Nat.lt_of_lt_of_le (by have := World.block_lt_of_cell? _ _ hw657_0; first | rwa [add_block] at this | exact this) GW661.out)) | (dsimp only; exact Nat.ne_of_lt (Nat.lt_of_lt_of_le (by have := World.block_lt_of_cell? _ _ hw657_0; first | rwa [add_block] at this | exact this) GW661.out))) _).trans (hHeld.2.2.2.2.2))))⟩ (fun hHeld => ?_)
          clear hK K
          refine pz (i := 14) (N := some 8) #[I,I,I,I,I,I,I,I,I,I,I,I,I,I,I] ?_
          refine done_ (done_of HT_.out (by kernel_rfl)) ?_
          try go_wp2_with (first | ((with_reducible refine gate_dst (N := 10) rfl ?_); refine box_event ?hg (N := 10) ?hd (cs := #[.int .i64 0, .int .i64 0]) (t := 77) ?hr ?_; (case hd => rfl); (case hg => rfl); (case hr => first | (go_simp; done) | (go_simp; rfl)); intro gb662 hg w52 hbox hb; replace HO_3 := Aside0.mk (Kd.R_below (Kd.R_elderB (by (with_reducible repeat (first | apply Kd.R_alloc | apply Kd.R_drewN | apply Kd.R_drew)); exact (Kd.R_mono (Kd.R_far (p := ⟨gb661, 1, none⟩) (Kd.R_far (p := ⟨gb661, 0, none⟩) (Kd.R_mono HO_3.out (fun k_ hk => (⟨hk, hk⟩ : _ ∧ k_ ≠ gb661))) (fun _ hk => hk.2) (.int .i64 t658)) (fun _ hk => hk.2) (.int .i64 t659)) (fun _ h_ => h_.1))) gb662 (Nat.le_of_eq hg.symm)) hb); have BK662 := Aside0.mk (hbox); have GW662 := Aside0.mk ((by rw [hg]; exact (below_size bo) : w.heap.size ≤ gb662)); have GE662 := Aside0.mk ((by rw [hg]; exact (below_size bo) : w.heap.size ≤ gb662)); replace HB := Aside0.mk (below_step bo hb); have NB645_662 := Aside0.mk ((by rw [hg]; exact Nat.ne_of_lt (blk_lt (g := gb645) (o := .cells #[.int .i64 a0_0, .slice A0_1 l0_1.length c0_1, .slice A0_2 l0_2.length c0_2, .slice (some ad657) l0_3.length c0_3, .string a0_4] 55 (0, 0)) (bf BK645.out)) : gb645 ≠ gb662)); have NB662_645 := Aside0.mk ((by rw [hg]; exact Nat.ne_of_gt (blk_lt (g := gb645) (o := .cells #[.int .i64 a0_0, .slice A0_1 l0_1.length c0_1, .slice A0_2 l0_2.length c0_2, .slice (some ad657) l0_3.length c0_3, .string a0_4] 55 (0, 0)) (bf BK645.out)) : gb662 ≠ gb645)); replace BK645 := Aside0.mk (bB BK645.out hb); have NB661_662 := Aside0.mk ((by rw [hg]; exact Nat.ne_of_lt (blk_lt (g := gb661) (o := .cells #[.int .i64 t658, .int .i64 t659] 77 (0, 0)) (by (with_reducible repeat (first | refine blk_drewN ?_ _ | refine blk_drew ?_ | refine blk_alloc ?_ _)); refine blk_put (cs := #[.int .i64 t658, .int .i64 0]) ?_ 1 _ rfl; (with_reducible repeat (first | refine blk_drewN ?_ _ | refine blk_drew ?_ | refine blk_alloc ?_ _)); refine blk_put (cs := #[.int .i64 0, .int .i64 0]) ?_ 0 _ rfl; (with_reducible repeat (first | refine blk_drewN ?_ _ | refine blk_drew ?_ | refine blk_alloc ?_ _)); exact BK661.out)) : gb661 ≠ gb662)); have NB662_661 := Aside0.mk ((by rw [hg]; exact Nat.ne_of_gt (blk_lt (g := gb661) (o := .cells #[.int .i64 t658, .int .i64 t659] 77 (0, 0)) (by (with_reducible repeat (first | refine blk_drewN ?_ _ | refine blk_drew ?_ | refine blk_alloc ?_ _)); refine blk_put (cs := #[.int .i64 t658, .int .i64 0]) ?_ 1 _ rfl; (with_reducible repeat (first | refine blk_drewN ?_ _ | refine blk_drew ?_ | refine blk_alloc ?_ _)); refine blk_put (cs := #[.int .i64 0, .int .i64 0]) ?_ 0 _ rfl; (with_reducible repeat (first | refine blk_drewN ?_ _ | refine blk_drew ?_ | refine blk_alloc ?_ _)); exact BK661.out)) : gb662 ≠ gb661)); replace BK661 := Aside0.mk (blk_below (g := gb661) (o := .cells #[.int .i64 t658, .int .i64 t659] 77 (0, 0)) (by (with_reducible repeat (first | refine blk_drewN ?_ _ | refine blk_drew ?_ | refine blk_alloc ?_ _)); refine blk_put (cs := #[.int .i64 t658, .int .i64 0]) ?_ 1 _ rfl; (with_reducible repeat (first | refine blk_drewN ?_ _ | refine blk_drew ?_ | refine blk_alloc ?_ _)); refine blk_put (cs := #[.int .i64 0, .int .i64 0]) ?_ 0 _ rfl; (with_reducible repeat (first | refine blk_drewN ?_ _ | refine blk_drew ?_ | refine blk_alloc ?_ _)); exact BK661.out) hb); clear hb hbox hg; have hnb53 := NB662_645.out; have hnc53 := NB645_662.out; have hnb54 := NB662_661.out; have hnc54 := NB661_662.out; obtain ⟨hcz55_0, hcz55_1⟩ := cl2 BK662.out; obtain ⟨hfz55_0, hfz55_1⟩ := fz2 BK662.out) | ((with_reducible refine gate_store (t := 77) (p := 10) rfl ?_); refine store_event (t := 77) (p := 10) (v := ?vo_w56) (w1 := ((w52.setCell ⟨gb662, 0, none⟩ (.int .i64 0)).setCell ⟨gb662, 1, none⟩ (.int .i64 0))) ?hg ?ho ?hn ?hr ?_; (case ho => rfl); (case hg => rfl); (case hn => rfl); (case hr => first | (go_simp; done) | (go_simp; rfl)); intro w56 hw; have n0_ : Aside0 (Kd.R k77 77 w56 w.heap.size (fun k_ => k_ ≠ gb661 ∧ k_ ≠ gb662) (.slice Ao44 x3_6.length co44) x3_6) := ⟨(by rw [hw]; exact (by (with_reducible repeat (first | apply Kd.R_alloc | apply Kd.R_drewN | apply Kd.R_drew)); exact Kd.R_mono (Kd.R_far (p := ⟨gb662, 1, none⟩) (Kd.R_far (p := ⟨gb662, 0, none⟩) (Kd.R_mono HO_3.out (fun k_ hk => (⟨hk, hk.2⟩ : _ ∧ k_ ≠ gb662))) (fun _ hk => hk.2) (.int .i64 0)) (fun _ hk => hk.2) (.int .i64 0)) (fun _ hk => ⟨hk.1.1, hk.1.2⟩)))⟩; have n1_ : Aside0 (w56.heap[gb645]? = some (.cells #[.int .i64 a0_0, .slice A0_1 l0_1.length c0_1, .slice A0_2 l0_2.length c0_2, .slice (some ad657) l0_3.length c0_3, .string a0_4] 55 (0, 0))) := ⟨(by rw [hw]; exact (bf BK645.out))⟩; have n2_ : Aside0 (w56.heap[gb661]? = some (.cells #[.int .i64 t658, .int .i64 t659] 77 (0, 0))) := ⟨(by rw [hw]; exact (bf BK661.out))⟩; have n3_ : Aside0 (w56.heap[gb662]? = some (.cells #[.int .i64 0, .int .i64 0] 77 (0, 0))) := ⟨(by rw [hw]; exact (by (with_reducible repeat (first | refine blk_drewN ?_ _ | refine blk_drew ?_ | refine blk_alloc ?_ _)); refine blk_put (cs := #[.int .i64 0, .int .i64 0]) ?_ 1 _ rfl; (with_reducible repeat (first | refine blk_drewN ?_ _ | refine blk_drew ?_ | refine blk_alloc ?_ _)); refine blk_put (cs := #[.int .i64 0, .int .i64 0]) ?_ 0 _ rfl; (with_reducible repeat (first | refine blk_drewN ?_ _ | refine blk_drew ?_ | refine blk_alloc ?_ _)); exact BK662.out))⟩; have n4_ : Aside0 (Below w.heap.size w w56) := ⟨(by rw [hw]; exact bo)⟩; clear hw; clear HO_3; clear BK645; clear BK661; clear BK662; clear HB; have HO_3 := n0_; have BK645 := n1_; have BK661 := n2_; have BK662 := n3_; have HB := n4_; clear n0_ n1_ n2_ n3_ n4_; have q57 : (x6_4 : Int) ≤ ((x3_6.length : Int) : Int) := od; obtain ⟨i057, hi057, _, hsz57, _⟩ := info_parts info77; have hroom57 : x3_6.length ≤ co44 := (Kd.R_reads' HO_3.out).2.1; have hC57 : Kd.C k77 _ Ao44 x3_6.length x3_6 := (Kd.R_reads' HO_3.out).2.2; have hcut57 := cut_to (P := Try.prog) 75 77 .i64 Try.underlying75 hi057 Ao44 x3_6.length co44 x6_4 (od) q57 hroom57; have hr57 := Kd.C_take (m := (x6_4 : Int).toNat) hC57 (by omega); have hy57 : y653.length = (x6_4 : Int).toNat := (by rw [Ny653.out, List.length_take]; omega); rw [← Ny653.out] at hr57; rw [← hy57] at hcut57; have HR666 := Aside0.mk hr57; have HC666 := Aside0.mk (show y653.length ≤ co44 from by omega); clear hr57 hC57 hroom57 hi057 hsz57; have KY57 := Aside0.mk hy57; clear hy57; have KL57 := Aside0.mk (show (x6_4 : Int).toNat ≤ x3_6.length from by omega); replace q57 := eq_true q57) | ((with_reducible refine gate_callee (f := 50) rfl ?_); refine goesL_ (some 74) rfl rfl Try.func50 (by kernel_rfl) rfl #[.slice Ao44 y653.length co44] rfl aa ?_; (with_reducible refine (fairwayref10_Risen.calls k4 _ _ y653 true _ ?side1 ?side2 A33.out).mono ?_); (case side1 => exact (ck HR666.out)); (case side2 => exact HC666.out); rintro e w' ⟨rfl, ⟨nd, rfl⟩⟩; refine ⟨_, rfl, ?_⟩; (try (rw [drewN_self w56]; generalize hq_ : World.drewN w56 _ = w56; have n0_ : Aside0 (Kd.R k77 77 w56 w.heap.size (fun k_ => k_ ≠ gb661 ∧ k_ ≠ gb662) (.slice Ao44 x3_6.length co44) x3_6) := ⟨by rw [← hq_]; exact (rk HO_3.out)⟩; have n1_ : Aside0 (w56.heap[gb645]? = some (.cells #[.int .i64 a0_0, .slice A0_1 l0_1.length c0_1, .slice A0_2 l0_2.length c0_2, .slice (some ad657) l0_3.length c0_3, .string a0_4] 55 (0, 0))) := ⟨by rw [← hq_]; exact (bk BK645.out)⟩; have n2_ : Aside0 (w56.heap[gb661]? = some (.cells #[.int .i64 t658, .int .i64 t659] 77 (0, 0))) := ⟨by rw [← hq_]; exact (bk BK661.out)⟩; have n3_ : Aside0 (w56.heap[gb662]? = some (.cells #[.int .i64 0, .int .i64 0] 77 (0, 0))) := ⟨by rw [← hq_]; exact (bk BK662.out)⟩; have n4_ : Aside0 (Below w.heap.size w w56) := ⟨by rw [← hq_]; exact bo⟩; have n5_ : Aside0 (Kd.C k77 w56 Ao44 y653.length y653) := ⟨by rw [← hq_]; exact (ck HR666.out)⟩; clear HO_3 BK645 BK661 BK662 HB HR666 hq_; have HO_3 := n0_; have BK645 := n1_; have BK661 := n2_; have BK662 := n3_; have HB := n4_; have HR666 := n5_; clear n0_ n1_ n2_ n3_ n4_ n5_))))
          replace HO_3 := Aside0.mk (Kd.R_drew HO_3.out)
          replace BK645 := Aside0.mk (blk_drew BK645.out)
          replace BK661 := Aside0.mk (blk_drew BK661.out)
          replace BK662 := Aside0.mk (blk_drew BK662.out)
          replace HR666 := Aside0.mk (Kd.C_drew HR666.out)
          replace HB := Aside0.mk (below_drew1 HB.out)
          have q59 : (x6_4 : Int) ≤ ((x3_6.length : Int) : Int) := od
          obtain ⟨i059, hi059, _, hsz59, _⟩ := info_parts info77
          have hroom59 : x3_6.length ≤ co44 := (Kd.R_reads' HO_3.out).2.1
          have hC59 : Kd.C k77 _ Ao44 x3_6.length x3_6 := (Kd.R_reads' HO_3.out).2.2
          have hcut59 := cut_to (P := Try.prog) 75 77 .i64 Try.underlying75 hi059 Ao44 x3_6.length co44 x6_4 (od) q59 hroom59
          have hr59 := Kd.C_take (m := (x6_4 : Int).toNat) hC59 (by omega)
          have hy59 : y653.length = (x6_4 : Int).toNat := (by rw [Ny653.out, List.length_take]; omega)
          rw [← Ny653.out] at hr59
          rw [← hy59] at hcut59
          have HR671 := Aside0.mk hr59
          have HC671 := Aside0.mk (show y653.length ≤ co44 from by omega)
          clear hr59 hC59 hroom59 hi059 hsz59
          have KY59 := Aside0.mk hy59
          clear hy59
          have KL59 := Aside0.mk (show (x6_4 : Int).toNat ≤ x3_6.length from by omega)
          replace q59 := eq_true q59
          have p672 : 0 ≤ (x5_2 : Int) := od
          have q672 : x5_2 < (l0_3.length : Int) := od
          obtain ⟨ad672, e672, hx672_0⟩ := Kd.at_int HR0_3.out x5_2 p672 q672
          have hw672_0 := hx672_0
          obtain rfl : ad657 = ad672 := (by injection e672)
          replace hx672_0 := cx HB.out hx672_0
          replace p672 := eq_true p672
          replace q672 := eq_true q672
          refine start_ (n := 10) (S := fun w' => w'.cell? ⟨gb645, 0, none⟩ = some (.int .i64 a0_0) ∧ w'.cell? ⟨gb645, 1, none⟩ = some (.slice A0_1 l0_1.length c0_1) ∧ w'.cell? ⟨gb645, 2, none⟩ = some (.slice A0_2 l0_2.length c0_2) ∧ w'.cell? ⟨gb645, 3, none⟩ = some (.slice (some ad657) l0_3.length c0_3) ∧ w'.cell? ⟨gb645, 4, none⟩ = some (.string a0_4) ∧ w'.cell? (ad657.add (x5_2).toNat) = some (.int .i64 (rd l0_3 x5_2))) (ds := []) #[O,O,O,O,O,O,O,O,O,O] (by kernel_rfl) rfl rfl ⟨(blk_cell BK645.out 0).trans rfl, (blk_cell BK645.out 1).trans rfl, (blk_cell BK645.out 2).trans rfl, (blk_cell BK645.out 3).trans rfl, (blk_cell BK645.out 4).trans rfl, (cx HB.out hw672_0 :)⟩ (fun hHeld => ?_); refine with_tabW fairwaylaw12_IndexFroms.tab18 fairwaylaw12_IndexFroms.bits18 (fun HT_ HW_ => ?_)
          generalize w56.drew = w58 at HO_3 BK645 BK661 BK662 HR666 HB HR671 hx672_0 hHeld ⊢
          refine pz (i := 0) (N := some 75) #[I,O,O,O,O,O,O,O,O,O] ?_
          refine pz (i := 1) (N := some 76) #[I,I,O,O,O,O,O,O,O,O] ?_
          refine pz (i := 2) (N := some 77) #[I,I,I,O,O,O,O,O,O,O] ?_
          refine pz (i := 3) (N := some 78) #[I,I,I,I,O,O,O,O,O,O] ?_
          refine pz (i := 5) (N := some 80) #[I,I,I,I,O,I,O,O,O,O] ?_
          refine tz (i := 4) (N := some 79) #[I,I,I,I,I,I,O,O,O,O] ?_
          refine pz (i := 6) (N := some 81) #[I,I,I,I,I,I,I,O,O,O] ?_
          refine tz (i := 7) (N := some 82) #[I,I,I,I,I,I,I,I,O,O] ?_
          refine one_ (i := 8) (N := some 83) #[I,I,I,I,I,I,I,I,I,O] rfl rfl (one_of HT_.out (by kernel_rfl)) (by decide) (fun K hK => ?_)
          refine goes_ Try.func51 (by kernel_rfl) rfl #[.slice Ao44 y653.length co44, .int .i64 (rd l0_3 x5_2)] (by rfl) rfl rfl aa ?_
          with_reducible refine (fairwayref10_From.calls k4 _ _ y653 (rd l0_3 x5_2) t673 _ ?side1 ?side2 A37.out).mono ?_
          (case side1 => exact (ck HR671.out))
          (case side2 => exact HC671.out)
          rintro e w' ⟨rfl, ⟨nd, rfl⟩⟩
          refine ⟨_, rfl, ?_⟩
          refine hK.out _ _ ⟨(blk_cell BK645.out 0).trans rfl, (blk_cell BK645.out 1).trans rfl, (blk_cell BK645.out 2).trans rfl, (blk_cell BK645.out 3).trans rfl, (blk_cell BK645.out 4).trans rfl, (cx HB.out hw672_0 :)⟩ (fun hHeld => ?_)
          clear hK K
          refine nz (N := (some 83)) ?_
          refine pz (i := 9) (N := some 11) #[I,I,I,I,I,I,I,I,I,I] ?_
          refine done_ (done_of HT_.out (by kernel_rfl)) ?_
          have p674 : 0 ≤ (t673 : Int) := od
          have q674 : t673 < (x3_6.length : Int) := od
          obtain ⟨ad674, e674, hx674_0, hx674_1⟩ := at_T77 (Kd.R_reads' HO_3.out).2.2 t673 p674 q674
          cases e674
          replace p674 := eq_true p674
          replace q674 := eq_true q674
          have hcz60_0 : w58.cell? ⟨gb662, 0, none⟩ = some (.int .i64 0) := (blk_cell BK662.out 0).trans rfl
          have hcz60_1 : w58.cell? ⟨gb662, 1, none⟩ = some (.int .i64 0) := (blk_cell BK662.out 1).trans rfl
          have hfz60_0 := blk_frozen BK662.out 0
          have hfz60_1 := blk_frozen BK662.out 1
          try go_wp2_with (first | ((with_reducible refine gate_callee (f := 52) rfl ?_); refine goesL_ (some 91) rfl rfl Try.func52 (by kernel_rfl) rfl #[.int .i64 t660] rfl aa ?_; (with_reducible refine (fairwaylaw12_num.calls t660 t675 _ A41.out).mono ?_); rintro e w' ⟨rfl, ⟨nd, rfl⟩⟩; refine ⟨_, rfl, ?_⟩; have hnb61 := NB661_645.out; have hnc61 := NB645_661.out; obtain ⟨hcz62_0, hcz62_1⟩ := cl2 BK661.out; obtain ⟨hfz62_0, hfz62_1⟩ := fz2 BK661.out))
          go_ret
          exact ⟨er, bo⟩
         rw [if_neg c43] at H
         have c43b0 : (!(t658 == ((rd_T77 x3_6 t673).f0)) || (!(t659 == ((rd_T77 x3_6 t673).f1)))) = false := by simpa using c43
         clear c43
         have H' := Aside0.mk H
         clear H
         obtain ⟨Ao63, co63, eo63⟩ := Kd.R_slice HO_3.out
         subst eo63
         try go_wp2
         replace HO_3 := Aside0.mk (Kd.R_drew HO_3.out)
         replace BK645 := Aside0.mk (blk_drew BK645.out)
         replace HB := Aside0.mk (below_drew1 HB.out)
         have q65 : (x6_4 : Int) ≤ ((x3_6.length : Int) : Int) := od
         obtain ⟨i065, hi065, _, hsz65, _⟩ := info_parts info77
         have hroom65 : x3_6.length ≤ co63 := (Kd.R_reads' HO_3.out).2.1
         have hC65 : Kd.C k77 _ Ao63 x3_6.length x3_6 := (Kd.R_reads' HO_3.out).2.2
         have hcut65 := cut_to (P := Try.prog) 75 77 .i64 Try.underlying75 hi065 Ao63 x3_6.length co63 x6_4 (od) q65 hroom65
         have hr65 := Kd.C_take (m := (x6_4 : Int).toNat) hC65 (by omega)
         have hy65 : y653.length = (x6_4 : Int).toNat := (by rw [Ny653.out, List.length_take]; omega)
         rw [← Ny653.out] at hr65
         rw [← hy65] at hcut65
         have HR656 := Aside0.mk hr65
         have HC656 := Aside0.mk (show y653.length ≤ co63 from by omega)
         clear hr65 hC65 hroom65 hi065 hsz65
         have KY65 := Aside0.mk hy65
         clear hy65
         have KL65 := Aside0.mk (show (x6_4 : Int).toNat ≤ x3_6.length from by omega)
         replace q65 := eq_true q65
         have p657 : 0 ≤ (x5_2 : Int) := od
         have q657 : x5_2 < (l0_3.length : Int) := od
         obtain ⟨ad657, e657, hx657_0⟩ := Kd.at_int HR0_3.out x5_2 p657 q657
         have hw657_0 := hx657_0
         cases e657
         replace hx657_0 := cx HB.out hx657_0
         replace p657 := eq_true p657
         replace q657 := eq_true q657
         refine start_ (n := 15) (S := fun w' => w'.cell? ⟨gb645, 0, none⟩ = some (.int .i64 a0_0) ∧ w'.cell? ⟨gb645, 1, none⟩ = some (.slice A0_1 l0_1.length c0_1) ∧ w'.cell? ⟨gb645, 2, none⟩ = some (.slice A0_2 l0_2.length c0_2) ∧ w'.cell? ⟨gb645, 3, none⟩ = some (.slice (some ad657) l0_3.length c0_3) ∧ w'.cell? ⟨gb645, 4, none⟩ = some (.string a0_4) ∧ w'.cell? (ad657.add (x5_2).toNat) = some (.int .i64 (rd l0_3 x5_2))) (ds := []) #[O,O,O,O,O,O,O,O,O,O,O,O,O,O,O] (by kernel_rfl) rfl rfl ⟨(blk_cell BK645.out 0).trans rfl, (blk_cell BK645.out 1).trans rfl, (blk_cell BK645.out 2).trans rfl, (blk_cell BK645.out 3).trans rfl, (blk_cell BK645.out 4).trans rfl, (cx HB.out hw657_0 :)⟩ (fun hHeld => ?_); refine with_tabW fairwaylaw12_IndexFroms.tab14 fairwaylaw12_IndexFroms.bits14 (fun HT_ HW_ => ?_)
         generalize wr.drew = w64 at HO_3 BK645 HB HR656 hx657_0 hHeld ⊢
         refine pz (i := 0) (N := some 59) #[I,O,O,O,O,O,O,O,O,O,O,O,O,O,O] ?_
         refine pz (i := 1) (N := some 60) #[I,I,O,O,O,O,O,O,O,O,O,O,O,O,O] ?_
         refine pz (i := 2) (N := some 61) #[I,I,I,O,O,O,O,O,O,O,O,O,O,O,O] ?_
         refine pz (i := 3) (N := some 62) #[I,I,I,I,O,O,O,O,O,O,O,O,O,O,O] ?_
         refine pz (i := 5) (N := some 64) #[I,I,I,I,O,I,O,O,O,O,O,O,O,O,O] ?_
         refine tz (i := 4) (N := some 63) #[I,I,I,I,I,I,O,O,O,O,O,O,O,O,O] ?_
         refine pz (i := 6) (N := some 65) #[I,I,I,I,I,I,I,O,O,O,O,O,O,O,O] ?_
         refine tz (i := 7) (N := some 66) #[I,I,I,I,I,I,I,I,O,O,O,O,O,O,O] ?_
         refine join_ (σ := Nat) 2 #[I,I,I,I,I,I,I,I,I,I,I,I,I,O,O] (fun s_ => [(67, .tuple #[.agg #[.int .i64 t658, .int .i64 t659], .int .i64 t660]), (7, .pointer (some ⟨s_, 0, none⟩)), (58, .tuple #[.agg #[.int .i64 t658, .int .i64 t659], .int .i64 t660]), (68, .agg #[.int .i64 t658, .int .i64 t659]), (69, .int .i64 t660)]) (fun s_ w' => (w'.cell? ⟨gb645, 0, none⟩ = some (.int .i64 a0_0) ∧ w'.cell? ⟨gb645, 1, none⟩ = some (.slice A0_1 l0_1.length c0_1) ∧ w'.cell? ⟨gb645, 2, none⟩ = some (.slice A0_2 l0_2.length c0_2) ∧ w'.cell? ⟨gb645, 3, none⟩ = some (.slice (some ad657) l0_3.length c0_3) ∧ w'.cell? ⟨gb645, 4, none⟩ = some (.string a0_4) ∧ w'.cell? (ad657.add (x5_2).toNat) = some (.int .i64 (rd l0_3 x5_2))) ∧ (Kd.R k77 77 w' w.heap.size (fun k_ => k_ ≠ s_) (.slice Ao63 x3_6.length co63) x3_6) ∧ (w'.heap[gb645]? = some (.cells #[.int .i64 a0_0, .slice A0_1 l0_1.length c0_1, .slice A0_2 l0_2.length c0_2, .slice (some ad657) l0_3.length c0_3, .string a0_4] 55 (0, 0))) ∧ (w'.heap[s_]? = some (.cells #[.int .i64 0, .int .i64 0] 77 (0, 0))) ∧ (w.heap.size ≤ s_) ∧ (w.heap.size ≤ s_) ∧ (gb645 ≠ s_) ∧ (s_ ≠ gb645) ∧ (Below w.heap.size w w')) ?_ ?_
         rotate_left
         ·intro hCont
          refine two_ (i := 8) (j := 12) (Ni := some 67) (Nj := some 7) #[I,I,I,I,I,I,I,I,I,O,O,O,O,O,O] #[I,I,I,I,I,I,I,I,O,O,O,O,I,O,O] rfl rfl rfl rfl (two_of HT_.out (by kernel_rfl)) (by decide) (by decide) (fun K hK => ?_) (fun K hK => ?_)
          ·skip
           refine goes_ Try.func49 (by kernel_rfl) rfl #[.slice Ao63 y653.length co63, .int .i64 (rd l0_3 x5_2)] (by rfl) rfl rfl aa ?_
           with_reducible refine (index_From.calls k4 _ _ y653 (rd l0_3 x5_2) t658 t659 t660 _ ?side1 ?side2 A30.out).mono ?_
           (case side1 => exact (ck HR656.out))
           (case side2 => exact HC656.out)
           rintro e w66 ⟨rfl, hb⟩
           refine ⟨_, rfl, ?_⟩
           replace HO_3 := Aside0.mk (Kd.R_below (rk HO_3.out) hb)
           replace BK645 := Aside0.mk (bb BK645.out hb)
           replace HR656 := Aside0.mk (Kd.C_below (ck HR656.out) hb)
           replace HB := Aside0.mk (below_step bo hb)
           (try clear hb)
           (try clear hb2)
           (try clear hk)
           (try clear hi)
           refine hK.out _ _ ⟨(blk_cell BK645.out 0).trans rfl, (blk_cell BK645.out 1).trans rfl, (blk_cell BK645.out 2).trans rfl, (blk_cell BK645.out 3).trans rfl, (blk_cell BK645.out 4).trans rfl, (cx HB.out hw657_0 :)⟩ (fun hHeld => ?_)
           clear hK K
           refine nz (N := (some 67)) ?_
           refine pz (i := 9) (N := some 58) #[I,I,I,I,I,I,I,I,I,I,O,O,O,O,O] ?_
           refine pz (i := 10) (N := some 68) #[I,I,I,I,I,I,I,I,I,I,I,O,O,O,O] ?_
           refine pz (i := 11) (N := some 69) #[I,I,I,I,I,I,I,I,I,I,I,I,O,O,O] ?_
           refine one_ (i := 12) (N := some 7) #[I,I,I,I,I,I,I,I,I,I,I,I,I,O,O] rfl rfl (one_of HT_.out (by kernel_rfl)) (by decide) (fun K hK => ?_)
           refine box_step ?hg (N := 7) ?hd (cs := #[.int .i64 0, .int .i64 0]) (t := 77) ?hr ?_; (case hd => rfl); (case hg => rfl); (case hr => first | (go_simp; done) | (go_simp; rfl))
           intro gb661 hg w67 hbox hb
           replace HO_3 := Aside0.mk (Kd.R_below (Kd.R_elderB (rk HO_3.out) gb661 (Nat.le_of_eq hg.symm)) hb)
           replace HR656 := Aside0.mk (Kd.C_below (ck HR656.out) hb)
           have BK661 := Aside0.mk (hbox)
           have GW661 := Aside0.mk ((by rw [hg]; exact (below_size bo) : w.heap.size ≤ gb661))
           have GE661 := Aside0.mk ((by rw [hg]; exact (below_size bo) : w.heap.size ≤ gb661))
           replace HB := Aside0.mk (below_step bo hb)
           have NB645_661 := Aside0.mk (nl BK645.out hg)
           have NB661_645 := Aside0.mk (ng BK645.out hg)
           replace BK645 := Aside0.mk (bb BK645.out hb)
           clear hb hbox hg
           refine hK.out _ _ ⟨(blk_cell BK645.out 0).trans rfl, (blk_cell BK645.out 1).trans rfl, (blk_cell BK645.out 2).trans rfl, (blk_cell BK645.out 3).trans rfl, (blk_cell BK645.out 4).trans rfl, (cx HB.out hw657_0 :)⟩ (fun hHeld => ?_)
           clear hK K
           refine nz (N := (some 7)) ?_
           exact norm_ (by simp only [putAll, Act.put, List.setIfInBounds_toArray, List.set_cons_zero, List.set_cons_succ]) (hCont (gb661) _ ⟨hHeld, (by (with_reducible repeat (first | apply Kd.R_alloc | apply Kd.R_drewN | apply Kd.R_drew)); exact Kd.R_mono HO_3.out (fun _ hk => hk.2)), (bk BK645.out), (bk BK661.out), GW661.out, GE661.out, NB645_661.out, NB661_645.out, bo⟩)
          skip
          refine box_step ?hg (N := 7) ?hd (cs := #[.int .i64 0, .int .i64 0]) (t := 77) ?hr ?_; (case hd => rfl); (case hg => rfl); (case hr => first | (go_simp; done) | (go_simp; rfl))
          intro gb661 hg w66 hbox hb
          replace HO_3 := Aside0.mk (Kd.R_below (Kd.R_elderB (rk HO_3.out) gb661 (Nat.le_of_eq hg.symm)) hb)
          replace HR656 := Aside0.mk (Kd.C_below (ck HR656.out) hb)
          have BK661 := Aside0.mk (hbox)
          have GW661 := Aside0.mk ((by rw [hg]; exact (below_size bo) : w.heap.size ≤ gb661))
          have GE661 := Aside0.mk ((by rw [hg]; exact (below_size bo) : w.heap.size ≤ gb661))
          replace HB := Aside0.mk (below_step bo hb)
          have NB645_661 := Aside0.mk (nl BK645.out hg)
          have NB661_645 := Aside0.mk (ng BK645.out hg)
          replace BK645 := Aside0.mk (bb BK645.out hb)
          clear hb hbox hg
          refine hK.out _ _ ⟨(blk_cell BK645.out 0).trans rfl, (blk_cell BK645.out 1).trans rfl, (blk_cell BK645.out 2).trans rfl, (blk_cell BK645.out 3).trans rfl, (blk_cell BK645.out 4).trans rfl, (cx HB.out hw657_0 :)⟩ (fun hHeld => ?_)
          clear hK K
          refine nz (N := (some 7)) ?_
          refine one_ (i := 8) (N := some 67) #[I,I,I,I,I,I,I,I,I,O,O,O,I,O,O] rfl rfl (one_of HT_.out (by kernel_rfl)) (by decide) (fun K hK => ?_)
          refine goes_ Try.func49 (by kernel_rfl) rfl #[.slice Ao63 y653.length co63, .int .i64 (rd l0_3 x5_2)] (by rfl) rfl rfl aa ?_
          with_reducible refine (index_From.calls k4 _ _ y653 (rd l0_3 x5_2) t658 t659 t660 _ ?side1 ?side2 A30.out).mono ?_
          (case side1 => exact (ck HR656.out))
          (case side2 => exact HC656.out)
          rintro e w67 ⟨rfl, hb⟩
          refine ⟨_, rfl, ?_⟩
          replace HO_3 := Aside0.mk (Kd.R_below (rk HO_3.out) hb)
          replace BK645 := Aside0.mk (bb BK645.out hb)
          replace HR656 := Aside0.mk (Kd.C_below (ck HR656.out) hb)
          replace BK661 := Aside0.mk (bb BK661.out hb)
          replace HB := Aside0.mk (below_step bo hb)
          (try clear hb)
          (try clear hb2)
          (try clear hk)
          (try clear hi)
          refine hK.out _ _ ⟨(blk_cell BK645.out 0).trans rfl, (blk_cell BK645.out 1).trans rfl, (blk_cell BK645.out 2).trans rfl, (blk_cell BK645.out 3).trans rfl, (blk_cell BK645.out 4).trans rfl, (cx HB.out hw657_0 :)⟩ (fun hHeld => ?_)
          clear hK K
          refine nz (N := (some 67)) ?_
          refine pz (i := 9) (N := some 58) #[I,I,I,I,I,I,I,I,I,I,O,O,I,O,O] ?_
          refine pz (i := 10) (N := some 68) #[I,I,I,I,I,I,I,I,I,I,I,O,I,O,O] ?_
          refine pz (i := 11) (N := some 69) #[I,I,I,I,I,I,I,I,I,I,I,I,I,O,O] ?_
          exact norm_ (by simp only [putAll, Act.put, List.setIfInBounds_toArray, List.set_cons_zero, List.set_cons_succ]) (hCont (gb661) _ ⟨hHeld, (by (with_reducible repeat (first | apply Kd.R_alloc | apply Kd.R_drewN | apply Kd.R_drew)); exact Kd.R_mono HO_3.out (fun _ hk => hk.2)), (bk BK645.out), (bk BK661.out), GW661.out, GE661.out, NB645_661.out, NB661_645.out, bo⟩)
         rintro gb661 w68 ⟨hS_, h0_, h1_, h2_, h3_, h4_, h5_, h6_, h7_⟩
         have n0_ : Aside0 (Kd.R k77 77 w68 w.heap.size (fun k_ => k_ ≠ gb661) (.slice Ao63 x3_6.length co63) x3_6) := ⟨h0_⟩
         have n1_ : Aside0 (w68.heap[gb645]? = some (.cells #[.int .i64 a0_0, .slice A0_1 l0_1.length c0_1, .slice A0_2 l0_2.length c0_2, .slice (some ad657) l0_3.length c0_3, .string a0_4] 55 (0, 0))) := ⟨h1_⟩
         have n2_ : Aside0 (w68.heap[gb661]? = some (.cells #[.int .i64 0, .int .i64 0] 77 (0, 0))) := ⟨h2_⟩
         have n3_ : Aside0 (w.heap.size ≤ gb661) := ⟨h3_⟩
         have n4_ : Aside0 (w.heap.size ≤ gb661) := ⟨h4_⟩
         have n5_ : Aside0 (gb645 ≠ gb661) := ⟨h5_⟩
         have n6_ : Aside0 (gb661 ≠ gb645) := ⟨h6_⟩
         have n7_ : Aside0 (Below w.heap.size w w68) := ⟨h7_⟩
         clear HO_3
         clear BK645
         clear HB
         clear h0_ h1_ h2_ h3_ h4_ h5_ h6_ h7_
         have HO_3 := n0_
         have BK645 := n1_
         have BK661 := n2_
         have GW661 := n3_
         have GE661 := n4_
         have NB645_661 := n5_
         have NB661_645 := n6_
         have HB := n7_
         clear n0_ n1_ n2_ n3_ n4_ n5_ n6_ n7_
         have hHeld : w68.cell? ⟨gb645, 0, none⟩ = some (.int .i64 a0_0) ∧ w68.cell? ⟨gb645, 1, none⟩ = some (.slice A0_1 l0_1.length c0_1) ∧ w68.cell? ⟨gb645, 2, none⟩ = some (.slice A0_2 l0_2.length c0_2) ∧ w68.cell? ⟨gb645, 3, none⟩ = some (.slice (some ad657) l0_3.length c0_3) ∧ w68.cell? ⟨gb645, 4, none⟩ = some (.string a0_4) ∧ w68.cell? (ad657.add (x5_2).toNat) = some (.int .i64 (rd l0_3 x5_2)) := hS_
         refine norm_ (a' := ?_) ?_ ?_
         rotate_left
         ·simp only [putAll, Act.put, List.setIfInBounds_toArray, List.set_cons_zero, List.set_cons_succ]
          rfl
         refine one_ (i := 13) (N := none) #[I,I,I,I,I,I,I,I,I,I,I,I,I,I,O] rfl rfl (one_of HT_.out (by kernel_rfl)) (by decide) (fun K hK => ?_)
         have hs69 : w68.cell? ⟨gb661, 0, none⟩ = some (.int .i64 0) := (blk_cell BK661.out 0).trans rfl
         have hfs69 := blk_frozen BK661.out 0
         have hns69_0 := NB645_661.out
         have hms69_0 := NB661_645.out
         have hs70 : w68.cell? ⟨gb661, 1, none⟩ = some (.int .i64 0) := (blk_cell BK661.out 1).trans rfl
         have hfs70 := blk_frozen BK661.out 1
         have hns70_0 := NB645_661.out
         have hms70_0 := NB661_645.out
         refine skip_ (w1 := ?_) (by rfl) rfl ?_ ?_
         rotate_left
         ·go_simp
          rfl
         refine hK.out _ _ ⟨(cf2 NB645_661.out hHeld.1), (cf2 NB645_661.out hHeld.2.1), (cf2 NB645_661.out hHeld.2.2.1), (cf2 NB645_661.out hHeld.2.2.2.1), (cf2 NB645_661.out hHeld.2.2.2.2.1), ((cell_far (p := ⟨gb661, _, none⟩) (by first | exact Nat.ne_of_lt (Nat.lt_of_lt_of_le (by have := World.block_lt_of_cell? _ _ hw657_0; first | rwa [add_block] at this | exact this) GW661.out) | (rw [add_block]; exact Nat.ne_of_lt (Nat.lt_of_lt_of_le (by have := World.block_lt_of_cell? _ _ hw657_0; first | rwa [add_block] at this | exact this) GW661.out)) | (show (Addr.add _ _).block ≠ _; rw [add_block]; exact Nat.ne_of_lt (Nat.lt_of_lt_of_le (by have := World.block_lt_of_cell? _ _ hw657_0; first | rwa [add_block] at this | exact this) GW661.out)) | (dsimp only; exact Nat.ne_of_lt (Nat.lt_of_lt_of_le (by have := World.block_lt_of_cell? _ _ hw657_0; first | rwa [add_block] at this | exact this) GW661.out))) _).trans (((cell_far (p := ⟨gb661, _, none⟩) (by first | exact Nat.ne_of_lt (Nat.lt_of_lt_of_le (by have := World.block_lt_of_cell? _ _ hw657_0; first | rwa [add_block] at this | exact this) GW661.out) | (rw [add_block]; exact Nat.ne_of_lt (Nat.lt_of_lt_of_le (by have := World.block_lt_of_cell? _ _ hw657_0; first | rwa [add_block] at this | exact this) GW661.out)) | (show (Addr.add _ _).block ≠ _; rw [add_block]; exact Nat.ne_of_lt (Nat.lt_of_lt_of_le (by have := World.block_lt_of_cell? _ _ hw657_0; first | rwa [add_block] at this | exact this) GW661.out)) | (dsimp only; exact Nat.ne_of_lt (Nat.lt_of_lt_of_le (by have := World.block_lt_of_cell? _ _ hw657_0; first | rwa [add_block] at this | exact this) GW661.out))) _).trans (hHeld.2.2.2.2.2))))⟩ (fun hHeld => ?_)
         clear hK K
         refine pz (i := 14) (N := some 8) #[I,I,I,I,I,I,I,I,I,I,I,I,I,I,I] ?_
         refine done_ (done_of HT_.out (by kernel_rfl)) ?_
         try go_wp2_with (first | ((with_reducible refine gate_dst (N := 10) rfl ?_); refine box_event ?hg (N := 10) ?hd (cs := #[.int .i64 0, .int .i64 0]) (t := 77) ?hr ?_; (case hd => rfl); (case hg => rfl); (case hr => first | (go_simp; done) | (go_simp; rfl)); intro gb662 hg w71 hbox hb; replace HO_3 := Aside0.mk (Kd.R_below (Kd.R_elderB (by (with_reducible repeat (first | apply Kd.R_alloc | apply Kd.R_drewN | apply Kd.R_drew)); exact (Kd.R_mono (Kd.R_far (p := ⟨gb661, 1, none⟩) (Kd.R_far (p := ⟨gb661, 0, none⟩) (Kd.R_mono HO_3.out (fun k_ hk => (⟨hk, hk⟩ : _ ∧ k_ ≠ gb661))) (fun _ hk => hk.2) (.int .i64 t658)) (fun _ hk => hk.2) (.int .i64 t659)) (fun _ h_ => h_.1))) gb662 (Nat.le_of_eq hg.symm)) hb); have BK662 := Aside0.mk (hbox); have GW662 := Aside0.mk ((by rw [hg]; exact (below_size bo) : w.heap.size ≤ gb662)); have GE662 := Aside0.mk ((by rw [hg]; exact (below_size bo) : w.heap.size ≤ gb662)); replace HB := Aside0.mk (below_step bo hb); have NB645_662 := Aside0.mk ((by rw [hg]; exact Nat.ne_of_lt (blk_lt (g := gb645) (o := .cells #[.int .i64 a0_0, .slice A0_1 l0_1.length c0_1, .slice A0_2 l0_2.length c0_2, .slice (some ad657) l0_3.length c0_3, .string a0_4] 55 (0, 0)) (bf BK645.out)) : gb645 ≠ gb662)); have NB662_645 := Aside0.mk ((by rw [hg]; exact Nat.ne_of_gt (blk_lt (g := gb645) (o := .cells #[.int .i64 a0_0, .slice A0_1 l0_1.length c0_1, .slice A0_2 l0_2.length c0_2, .slice (some ad657) l0_3.length c0_3, .string a0_4] 55 (0, 0)) (bf BK645.out)) : gb662 ≠ gb645)); replace BK645 := Aside0.mk (bB BK645.out hb); have NB661_662 := Aside0.mk ((by rw [hg]; exact Nat.ne_of_lt (blk_lt (g := gb661) (o := .cells #[.int .i64 t658, .int .i64 t659] 77 (0, 0)) (by (with_reducible repeat (first | refine blk_drewN ?_ _ | refine blk_drew ?_ | refine blk_alloc ?_ _)); refine blk_put (cs := #[.int .i64 t658, .int .i64 0]) ?_ 1 _ rfl; (with_reducible repeat (first | refine blk_drewN ?_ _ | refine blk_drew ?_ | refine blk_alloc ?_ _)); refine blk_put (cs := #[.int .i64 0, .int .i64 0]) ?_ 0 _ rfl; (with_reducible repeat (first | refine blk_drewN ?_ _ | refine blk_drew ?_ | refine blk_alloc ?_ _)); exact BK661.out)) : gb661 ≠ gb662)); have NB662_661 := Aside0.mk ((by rw [hg]; exact Nat.ne_of_gt (blk_lt (g := gb661) (o := .cells #[.int .i64 t658, .int .i64 t659] 77 (0, 0)) (by (with_reducible repeat (first | refine blk_drewN ?_ _ | refine blk_drew ?_ | refine blk_alloc ?_ _)); refine blk_put (cs := #[.int .i64 t658, .int .i64 0]) ?_ 1 _ rfl; (with_reducible repeat (first | refine blk_drewN ?_ _ | refine blk_drew ?_ | refine blk_alloc ?_ _)); refine blk_put (cs := #[.int .i64 0, .int .i64 0]) ?_ 0 _ rfl; (with_reducible repeat (first | refine blk_drewN ?_ _ | refine blk_drew ?_ | refine blk_alloc ?_ _)); exact BK661.out)) : gb662 ≠ gb661)); replace BK661 := Aside0.mk (blk_below (g := gb661) (o := .cells #[.int .i64 t658, .int .i64 t659] 77 (0, 0)) (by (with_reducible repeat (first | refine blk_drewN ?_ _ | refine blk_drew ?_ | refine blk_alloc ?_ _)); refine blk_put (cs := #[.int .i64 t658, .int .i64 0]) ?_ 1 _ rfl; (with_reducible repeat (first | refine blk_drewN ?_ _ | refine blk_drew ?_ | refine blk_alloc ?_ _)); refine blk_put (cs := #[.int .i64 0, .int .i64 0]) ?_ 0 _ rfl; (with_reducible repeat (first | refine blk_drewN ?_ _ | refine blk_drew ?_ | refine blk_alloc ?_ _)); exact BK661.out) hb); clear hb hbox hg; have hnb72 := NB662_645.out; have hnc72 := NB645_662.out; have hnb73 := NB662_661.out; have hnc73 := NB661_662.out; obtain ⟨hcz74_0, hcz74_1⟩ := cl2 BK662.out; obtain ⟨hfz74_0, hfz74_1⟩ := fz2 BK662.out) | ((with_reducible refine gate_store (t := 77) (p := 10) rfl ?_); refine store_event (t := 77) (p := 10) (v := ?vo_w75) (w1 := ((w71.setCell ⟨gb662, 0, none⟩ (.int .i64 0)).setCell ⟨gb662, 1, none⟩ (.int .i64 0))) ?hg ?ho ?hn ?hr ?_; (case ho => rfl); (case hg => rfl); (case hn => rfl); (case hr => first | (go_simp; done) | (go_simp; rfl)); intro w75 hw; have n0_ : Aside0 (Kd.R k77 77 w75 w.heap.size (fun k_ => k_ ≠ gb661 ∧ k_ ≠ gb662) (.slice Ao63 x3_6.length co63) x3_6) := ⟨(by rw [hw]; exact (by (with_reducible repeat (first | apply Kd.R_alloc | apply Kd.R_drewN | apply Kd.R_drew)); exact Kd.R_mono (Kd.R_far (p := ⟨gb662, 1, none⟩) (Kd.R_far (p := ⟨gb662, 0, none⟩) (Kd.R_mono HO_3.out (fun k_ hk => (⟨hk, hk.2⟩ : _ ∧ k_ ≠ gb662))) (fun _ hk => hk.2) (.int .i64 0)) (fun _ hk => hk.2) (.int .i64 0)) (fun _ hk => ⟨hk.1.1, hk.1.2⟩)))⟩; have n1_ : Aside0 (w75.heap[gb645]? = some (.cells #[.int .i64 a0_0, .slice A0_1 l0_1.length c0_1, .slice A0_2 l0_2.length c0_2, .slice (some ad657) l0_3.length c0_3, .string a0_4] 55 (0, 0))) := ⟨(by rw [hw]; exact (bf BK645.out))⟩; have n2_ : Aside0 (w75.heap[gb661]? = some (.cells #[.int .i64 t658, .int .i64 t659] 77 (0, 0))) := ⟨(by rw [hw]; exact (bf BK661.out))⟩; have n3_ : Aside0 (w75.heap[gb662]? = some (.cells #[.int .i64 0, .int .i64 0] 77 (0, 0))) := ⟨(by rw [hw]; exact (by (with_reducible repeat (first | refine blk_drewN ?_ _ | refine blk_drew ?_ | refine blk_alloc ?_ _)); refine blk_put (cs := #[.int .i64 0, .int .i64 0]) ?_ 1 _ rfl; (with_reducible repeat (first | refine blk_drewN ?_ _ | refine blk_drew ?_ | refine blk_alloc ?_ _)); refine blk_put (cs := #[.int .i64 0, .int .i64 0]) ?_ 0 _ rfl; (with_reducible repeat (first | refine blk_drewN ?_ _ | refine blk_drew ?_ | refine blk_alloc ?_ _)); exact BK662.out))⟩; have n4_ : Aside0 (Below w.heap.size w w75) := ⟨(by rw [hw]; exact bo)⟩; clear hw; clear HO_3; clear BK645; clear BK661; clear BK662; clear HB; have HO_3 := n0_; have BK645 := n1_; have BK661 := n2_; have BK662 := n3_; have HB := n4_; clear n0_ n1_ n2_ n3_ n4_; have q76 : (x6_4 : Int) ≤ ((x3_6.length : Int) : Int) := od; obtain ⟨i076, hi076, _, hsz76, _⟩ := info_parts info77; have hroom76 : x3_6.length ≤ co63 := (Kd.R_reads' HO_3.out).2.1; have hC76 : Kd.C k77 _ Ao63 x3_6.length x3_6 := (Kd.R_reads' HO_3.out).2.2; have hcut76 := cut_to (P := Try.prog) 75 77 .i64 Try.underlying75 hi076 Ao63 x3_6.length co63 x6_4 (od) q76 hroom76; have hr76 := Kd.C_take (m := (x6_4 : Int).toNat) hC76 (by omega); have hy76 : y653.length = (x6_4 : Int).toNat := (by rw [Ny653.out, List.length_take]; omega); rw [← Ny653.out] at hr76; rw [← hy76] at hcut76; have HR666 := Aside0.mk hr76; have HC666 := Aside0.mk (show y653.length ≤ co63 from by omega); clear hr76 hC76 hroom76 hi076 hsz76; have KY76 := Aside0.mk hy76; clear hy76; have KL76 := Aside0.mk (show (x6_4 : Int).toNat ≤ x3_6.length from by omega); replace q76 := eq_true q76) | ((with_reducible refine gate_callee (f := 50) rfl ?_); refine goesL_ (some 74) rfl rfl Try.func50 (by kernel_rfl) rfl #[.slice Ao63 y653.length co63] rfl aa ?_; (with_reducible refine (fairwayref10_Risen.calls k4 _ _ y653 true _ ?side1 ?side2 A33.out).mono ?_); (case side1 => exact (ck HR666.out)); (case side2 => exact HC666.out); rintro e w' ⟨rfl, ⟨nd, rfl⟩⟩; refine ⟨_, rfl, ?_⟩; (try (rw [drewN_self w75]; generalize hq_ : World.drewN w75 _ = w75; have n0_ : Aside0 (Kd.R k77 77 w75 w.heap.size (fun k_ => k_ ≠ gb661 ∧ k_ ≠ gb662) (.slice Ao63 x3_6.length co63) x3_6) := ⟨by rw [← hq_]; exact (rk HO_3.out)⟩; have n1_ : Aside0 (w75.heap[gb645]? = some (.cells #[.int .i64 a0_0, .slice A0_1 l0_1.length c0_1, .slice A0_2 l0_2.length c0_2, .slice (some ad657) l0_3.length c0_3, .string a0_4] 55 (0, 0))) := ⟨by rw [← hq_]; exact (bk BK645.out)⟩; have n2_ : Aside0 (w75.heap[gb661]? = some (.cells #[.int .i64 t658, .int .i64 t659] 77 (0, 0))) := ⟨by rw [← hq_]; exact (bk BK661.out)⟩; have n3_ : Aside0 (w75.heap[gb662]? = some (.cells #[.int .i64 0, .int .i64 0] 77 (0, 0))) := ⟨by rw [← hq_]; exact (bk BK662.out)⟩; have n4_ : Aside0 (Below w.heap.size w w75) := ⟨by rw [← hq_]; exact bo⟩; have n5_ : Aside0 (Kd.C k77 w75 Ao63 y653.length y653) := ⟨by rw [← hq_]; exact (ck HR666.out)⟩; clear HO_3 BK645 BK661 BK662 HB HR666 hq_; have HO_3 := n0_; have BK645 := n1_; have BK661 := n2_; have BK662 := n3_; have HB := n4_; have HR666 := n5_; clear n0_ n1_ n2_ n3_ n4_ n5_))))
         replace HO_3 := Aside0.mk (Kd.R_drew HO_3.out)
         replace BK645 := Aside0.mk (blk_drew BK645.out)
         replace BK661 := Aside0.mk (blk_drew BK661.out)
         replace BK662 := Aside0.mk (blk_drew BK662.out)
         replace HR666 := Aside0.mk (Kd.C_drew HR666.out)
         replace HB := Aside0.mk (below_drew1 HB.out)
         have q78 : (x6_4 : Int) ≤ ((x3_6.length : Int) : Int) := od
         obtain ⟨i078, hi078, _, hsz78, _⟩ := info_parts info77
         have hroom78 : x3_6.length ≤ co63 := (Kd.R_reads' HO_3.out).2.1
         have hC78 : Kd.C k77 _ Ao63 x3_6.length x3_6 := (Kd.R_reads' HO_3.out).2.2
         have hcut78 := cut_to (P := Try.prog) 75 77 .i64 Try.underlying75 hi078 Ao63 x3_6.length co63 x6_4 (od) q78 hroom78
         have hr78 := Kd.C_take (m := (x6_4 : Int).toNat) hC78 (by omega)
         have hy78 : y653.length = (x6_4 : Int).toNat := (by rw [Ny653.out, List.length_take]; omega)
         rw [← Ny653.out] at hr78
         rw [← hy78] at hcut78
         have HR671 := Aside0.mk hr78
         have HC671 := Aside0.mk (show y653.length ≤ co63 from by omega)
         clear hr78 hC78 hroom78 hi078 hsz78
         have KY78 := Aside0.mk hy78
         clear hy78
         have KL78 := Aside0.mk (show (x6_4 : Int).toNat ≤ x3_6.length from by omega)
         replace q78 := eq_true q78
         have p672 : 0 ≤ (x5_2 : Int) := od
         have q672 : x5_2 < (l0_3.length : Int) := od
         obtain ⟨ad672, e672, hx672_0⟩ := Kd.at_int HR0_3.out x5_2 p672 q672
         have hw672_0 := hx672_0
         obtain rfl : ad657 = ad672 := (by injection e672)
         replace hx672_0 := cx HB.out hx672_0
         replace p672 := eq_true p672
         replace q672 := eq_true q672
         refine start_ (n := 10) (S := fun w' => w'.cell? ⟨gb645, 0, none⟩ = some (.int .i64 a0_0) ∧ w'.cell? ⟨gb645, 1, none⟩ = some (.slice A0_1 l0_1.length c0_1) ∧ w'.cell? ⟨gb645, 2, none⟩ = some (.slice A0_2 l0_2.length c0_2) ∧ w'.cell? ⟨gb645, 3, none⟩ = some (.slice (some ad657) l0_3.length c0_3) ∧ w'.cell? ⟨gb645, 4, none⟩ = some (.string a0_4) ∧ w'.cell? (ad657.add (x5_2).toNat) = some (.int .i64 (rd l0_3 x5_2))) (ds := []) #[O,O,O,O,O,O,O,O,O,O] (by kernel_rfl) rfl rfl ⟨(blk_cell BK645.out 0).trans rfl, (blk_cell BK645.out 1).trans rfl, (blk_cell BK645.out 2).trans rfl, (blk_cell BK645.out 3).trans rfl, (blk_cell BK645.out 4).trans rfl, (cx HB.out hw672_0 :)⟩ (fun hHeld => ?_); refine with_tabW fairwaylaw12_IndexFroms.tab18 fairwaylaw12_IndexFroms.bits18 (fun HT_ HW_ => ?_)
         generalize w75.drew = w77 at HO_3 BK645 BK661 BK662 HR666 HB HR671 hx672_0 hHeld ⊢
         refine pz (i := 0) (N := some 75) #[I,O,O,O,O,O,O,O,O,O] ?_
         refine pz (i := 1) (N := some 76) #[I,I,O,O,O,O,O,O,O,O] ?_
         refine pz (i := 2) (N := some 77) #[I,I,I,O,O,O,O,O,O,O] ?_
         refine pz (i := 3) (N := some 78) #[I,I,I,I,O,O,O,O,O,O] ?_
         refine pz (i := 5) (N := some 80) #[I,I,I,I,O,I,O,O,O,O] ?_
         refine tz (i := 4) (N := some 79) #[I,I,I,I,I,I,O,O,O,O] ?_
         refine pz (i := 6) (N := some 81) #[I,I,I,I,I,I,I,O,O,O] ?_
         refine tz (i := 7) (N := some 82) #[I,I,I,I,I,I,I,I,O,O] ?_
         refine one_ (i := 8) (N := some 83) #[I,I,I,I,I,I,I,I,I,O] rfl rfl (one_of HT_.out (by kernel_rfl)) (by decide) (fun K hK => ?_)
         refine goes_ Try.func51 (by kernel_rfl) rfl #[.slice Ao63 y653.length co63, .int .i64 (rd l0_3 x5_2)] (by rfl) rfl rfl aa ?_
         with_reducible refine (fairwayref10_From.calls k4 _ _ y653 (rd l0_3 x5_2) t673 _ ?side1 ?side2 A37.out).mono ?_
         (case side1 => exact (ck HR671.out))
         (case side2 => exact HC671.out)
         rintro e w' ⟨rfl, ⟨nd, rfl⟩⟩
         refine ⟨_, rfl, ?_⟩
         refine hK.out _ _ ⟨(blk_cell BK645.out 0).trans rfl, (blk_cell BK645.out 1).trans rfl, (blk_cell BK645.out 2).trans rfl, (blk_cell BK645.out 3).trans rfl, (blk_cell BK645.out 4).trans rfl, (cx HB.out hw672_0 :)⟩ (fun hHeld => ?_)
         clear hK K
         refine nz (N := (some 83)) ?_
         refine pz (i := 9) (N := some 11) #[I,I,I,I,I,I,I,I,I,I] ?_
         refine done_ (done_of HT_.out (by kernel_rfl)) ?_
         have p674 : 0 ≤ (t673 : Int) := od
         have q674 : t673 < (x3_6.length : Int) := od
         obtain ⟨ad674, e674, hx674_0, hx674_1⟩ := at_T77 (Kd.R_reads' HO_3.out).2.2 t673 p674 q674
         cases e674
         replace p674 := eq_true p674
         replace q674 := eq_true q674
         have hcz79_0 : w77.cell? ⟨gb662, 0, none⟩ = some (.int .i64 0) := (blk_cell BK662.out 0).trans rfl
         have hcz79_1 : w77.cell? ⟨gb662, 1, none⟩ = some (.int .i64 0) := (blk_cell BK662.out 1).trans rfl
         have hfz79_0 := blk_frozen BK662.out 0
         have hfz79_1 := blk_frozen BK662.out 1
         try go_wp2_with (first | ((with_reducible refine gate_callee (f := 52) rfl ?_); refine goesL_ (some 91) rfl rfl Try.func52 (by kernel_rfl) rfl #[.int .i64 t660] rfl aa ?_; (with_reducible refine (fairwaylaw12_num.calls t660 t675 _ A41.out).mono ?_); rintro e w' ⟨rfl, ⟨nd, rfl⟩⟩; refine ⟨_, rfl, ?_⟩; have hnb80 := NB661_645.out; have hnc80 := NB645_661.out; obtain ⟨hcz81_0, hcz81_1⟩ := cl2 BK661.out; obtain ⟨hfz81_0, hfz81_1⟩ := fz2 BK661.out))
         go_roundg k4
         case measure => have := HJ6.out; have := HK2.out; have := HJ19.out; have := HK4.out; omega
         case rel => exact ⟨(wrap64 (x6_4 + 1)), ap, H', ⟨by have := HJ6.out; have := HK2.out; have := HJ19.out; have := HK4.out; omega⟩, ⟨by (with_reducible repeat (first | apply Kd.R_alloc | apply Kd.R_drewN | apply Kd.R_drew)); exact Kd.R_mono (Kd.R_far (p := ⟨gb662, 1, none⟩) (Kd.R_far (p := ⟨gb662, 0, none⟩) (Kd.R_mono HO_3.out (fun k_ hk => (⟨hk, hk.2⟩ : _ ∧ k_ ≠ gb662))) (fun _ hk => hk.2) (.int .i64 ((rd_T77 x3_6 t673).f0))) (fun _ hk => hk.2) (.int .i64 ((rd_T77 x3_6 t673).f1))) (fun _ hk => trivial)⟩, ⟨by (with_reducible repeat (first | refine blk_drewN ?_ _ | refine blk_drew ?_ | refine blk_alloc ?_ _)); refine blk_far ?_ NB645_662.out _; (with_reducible repeat (first | refine blk_drewN ?_ _ | refine blk_drew ?_ | refine blk_alloc ?_ _)); refine blk_far ?_ NB645_662.out _; (with_reducible repeat (first | refine blk_drewN ?_ _ | refine blk_drew ?_ | refine blk_alloc ?_ _)); exact BK645.out⟩, ⟨bo⟩⟩

end Go.Proofs.Ytmabdfdmccbfnaa.P

