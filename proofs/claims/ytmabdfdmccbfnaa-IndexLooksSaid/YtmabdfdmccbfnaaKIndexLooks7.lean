/- The law IndexLooks: printed functions, their contracts, the plain laws and the row, part 7. -/
import Derived.Test.YtmabdfdmccbfnaaKIndexLooks6
import Derived.Test.YtmabdfdmccbfnaaKIndexLooks4
import Derived.Test.YtmabdfdmccbfnaaKIndexLooks5
-- written by a program of the proving session, out of the translation; Lean checks it
namespace Go.Proofs.Ytmabdfdmccbfnaa.P
open Go.RowKit Go.Proofs.Ytmabdfdmccbfnaa.Sq Go.Proofs.YtmabdfdmccbfnaaW.PrintWords Go.Proofs.YtmabdfdmccbfnaaW.PrintLast Go.Proofs.YtmabdfdmccbfnaaW.PrintMore
attribute [local go_sem] max2_int min2_int max_two min_two max_three min_three max_four min_four   -- for this text's walks alone
set_option linter.unusedVariables false
set_option linter.unusedSimpArgs false

attribute [local go_sem high] eqA25
set_option maxHeartbeats 8000000 in
set_option maxRecDepth 100000 in
theorem fairwaylaw12_IndexLooks.calls (k : Nat) (a0_0 : Int) (A0_1 : Option Addr) (c0_1 : Nat) (l0_1 : List (S25)) (A0_2 : Option Addr) (c0_2 : Nat) (l0_2 : List (S25)) (A0_3 : Option Addr) (c0_3 : Nat) (l0_3 : List Int) (a0_4 : ByteArray) (r : Bool) (w : World) (hr0_1 : Kd.C k25 w A0_1 l0_1.length l0_1) (hc0_1 : l0_1.length ≤ c0_1) (hr0_2 : Kd.C k25 w A0_2 l0_2.length l0_2) (hc0_2 : l0_2.length ≤ c0_2) (hr0_3 : Kd.C (Kd.int .i64) w A0_3 l0_3.length l0_3) (hc0_3 : l0_3.length ≤ c0_3) (h : fairwaylaw12_IndexLooks.f k a0_0 l0_1 l0_2 l0_3 a0_4 = some r) :
 Calls Try.prog 13 #[.agg #[.int .i64 a0_0, .slice A0_1 l0_1.length c0_1, .slice A0_2 l0_2.length c0_2, .slice A0_3 l0_3.length c0_3, .string a0_4]] w fun e w' => e = .returned (.bool r) ∧ Below w.heap.size w w' := by
 have hu55 := Try.underlying55
 have hu53 := Try.underlying53
 have hu25 := Try.underlying25
 have hu77 := Try.underlying77
 have HR0_1 := Aside0.mk hr0_1
 have HC0_1 := Aside0.mk hc0_1
 clear hr0_1 hc0_1
 have HR0_2 := Aside0.mk hr0_2
 have HC0_2 := Aside0.mk hc0_2
 clear hr0_2 hc0_2
 have HR0_3 := Aside0.mk hr0_3
 have HC0_3 := Aside0.mk hc0_3
 clear hr0_3 hc0_3
 have HB := Aside0.mk (Below.refl w.heap.size w)
 have H : ((fairwaylaw11_Heavy.f k a0_0 l0_1 l0_2 l0_3 a0_4).bind fun t748 => (if t748 = true then (some true) else (fairwaylaw12_IndexLooks.j0 k a0_0 l0_1 l0_2 l0_3 a0_4))) = some r := h
 clear h
 replace H := Option.bind_eq_some_iff.mp H
 obtain ⟨t748, A20, H⟩ := H
 replace H : (if t748 = true then (some true) else (fairwaylaw12_IndexLooks.j0 k a0_0 l0_1 l0_2 l0_3 a0_4)) = some r := H
 have A2 := Aside0.mk A20
 clear A20
 have HC3 := Aside0.mk H
 clear H
 go_enter Try.func13, Try.ntmps13
 go_upto_if 16 with (first | ((with_reducible refine gate_dst (N := 1) rfl ?_); refine box_event ?hg (N := 1) ?hd (cs := #[.int .i64 a0_0, .slice A0_1 l0_1.length c0_1, .slice A0_2 l0_2.length c0_2, .slice A0_3 l0_3.length c0_3, .string a0_4]) (t := 55) ?hr ?_; (case hd => rfl); (case hg => rfl); (case hr => first | (go_simp; done) | (go_simp; rfl)); intro gb747 hg w4 hbox hb; have BK747 := Aside0.mk (hbox); have GW747 := Aside0.mk ((by rw [hg]; exact (below_size bo) : w.heap.size ≤ gb747)); have GE747 := Aside0.mk ((by rw [hg]; exact (below_size bo) : w.heap.size ≤ gb747)); replace HB := Aside0.mk (below_step bo hb); clear hb hbox hg; obtain ⟨hcz5_0, hcz5_1, hcz5_2, hcz5_3, hcz5_4⟩ := cl5 BK747.out; obtain ⟨hfz5_0, hfz5_1, hfz5_2, hfz5_3, hfz5_4⟩ := fz5 BK747.out) | ((with_reducible refine gate_callee (f := 30) rfl ?_); refine goesL_ (some 16) rfl rfl Try.func30 (by kernel_rfl) rfl #[.agg #[.int .i64 a0_0, .slice A0_1 l0_1.length c0_1, .slice A0_2 l0_2.length c0_2, .slice A0_3 l0_3.length c0_3, .string a0_4]] rfl aa ?_; (with_reducible refine (fairwaylaw11_Heavy.calls k a0_0 _ _ l0_1 _ _ l0_2 _ _ l0_3 a0_4 t748 _ ?side1 ?side2 ?side3 ?side4 ?side5 ?side6 A2.out).mono ?_); (case side1 => repeat (first | exact (Kd.C_below HR0_1.out HB.out) | (with_reducible refine Kd.C_alloc ?_ _) | (with_reducible refine Kd.C_drewN ?_ _) | (with_reducible refine Kd.C_drew ?_))); (case side2 => exact HC0_1.out); (case side3 => repeat (first | exact (Kd.C_below HR0_2.out HB.out) | (with_reducible refine Kd.C_alloc ?_ _) | (with_reducible refine Kd.C_drewN ?_ _) | (with_reducible refine Kd.C_drew ?_))); (case side4 => exact HC0_2.out); (case side5 => repeat (first | exact (Kd.C_below HR0_3.out HB.out) | (with_reducible refine Kd.C_alloc ?_ _) | (with_reducible refine Kd.C_drewN ?_ _) | (with_reducible refine Kd.C_drew ?_))); (case side6 => exact HC0_3.out); rintro e w6 ⟨rfl, hb⟩; refine ⟨_, rfl, ?_⟩; replace BK747 := Aside0.mk (blk_below (g := gb747) (o := .cells #[.int .i64 a0_0, .slice A0_1 l0_1.length c0_1, .slice A0_2 l0_2.length c0_2, .slice A0_3 l0_3.length c0_3, .string a0_4] 55 (0, 0)) (bk BK747.out) hb); replace HB := Aside0.mk (below_step bo hb); (try clear hb); (try clear hb2); (try clear hk); (try clear hi)))
 (try simp only [Act.put, List.setIfInBounds_toArray, List.set_cons_zero, List.set_cons_succ])
 go_cut [] (fun wc => ∃ (kq : Nat), Aside0 (fairwaylaw12_IndexLooks.j0 kq a0_0 l0_1 l0_2 l0_3 a0_4 = some r) ∧ Aside0 (kq ≤ k) ∧ Aside0 (wc.heap[gb747]? = some (.cells #[.int .i64 a0_0, (.slice A0_1 l0_1.length c0_1), (.slice A0_2 l0_2.length c0_2), (.slice A0_3 l0_3.length c0_3), .string a0_4] 55 (0, 0))) ∧ Aside0 (Below w.heap.size w wc))
 case first => as_aux_lemma =>
  have H := HC3.out
  clear HC3
  by_cases c7 : t748 = true
  ·subst c7
   have H1 : (some true) = some r := by rw [if_pos rfl] at H; exact H
   clear H
   have H := H1
   clear H1
   obtain rfl := Option.some.inj H
   go_wp2
   go_ret
   exact ⟨er, bo⟩
  ·replace c7 := Bool.eq_false_iff.mpr c7
   subst c7
   have H1 : (fairwaylaw12_IndexLooks.j0 k a0_0 l0_1 l0_2 l0_3 a0_4) = some r := by rw [if_neg (show ¬ (false = true) by decide)] at H; exact H
   clear H
   have H := H1
   clear H1
   have H' := Aside0.mk H
   clear H
   go_wp2
   go_meet
   case rel => exact ⟨_, H', ⟨by first | omega | exact Nat.le_refl _⟩, ⟨by (with_reducible repeat (first | refine blk_drewN ?_ _ | refine blk_drew ?_ | refine blk_alloc ?_ _)); exact BK747.out⟩, ⟨bo⟩⟩
 case rest => as_aux_lemma =>
  clear HC3
  try clear c1
  try clear p2
  try clear c3
  try clear c7
  try clear hcz5_0
  try clear hcz5_1
  try clear hcz5_2
  try clear hcz5_3
  try clear hcz5_4
  try clear hfz5_0
  try clear hfz5_1
  try clear hfz5_2
  try clear hfz5_3
  try clear hfz5_4
  obtain ⟨kq, HA, HJ2, BK747, HB⟩ := hcut
  cases kq with
  | zero => exact absurd HA.out (by simp [fairwaylaw12_IndexLooks.j0])
  | succ kj2 =>
   have H := HA.out
   clear HA
   simp only [fairwaylaw12_IndexLooks.j0] at H
   replace H := Option.bind_eq_some_iff.mp H
   obtain ⟨t749, A80, H⟩ := H
   replace H : (if t749 = true then ((fairwayref10_Marks.f kj2 a0_0 l0_1).bind fun t750 => (fairwaylaw12_IndexLooks.j1 kj2 t749 t750 a0_0 l0_1 l0_2 l0_3 a0_4)) else (fairwaylaw12_IndexLooks.j1 kj2 t749 ([] : List (S77)) a0_0 l0_1 l0_2 l0_3 a0_4)) = some r := H
   have A8 := Aside0.mk A80
   clear A80
   have HC9 := Aside0.mk H
   clear H
   have hcz10_0 : wc.cell? ⟨gb747, 0, none⟩ = some (.int .i64 a0_0) := (blk_cell BK747.out 0).trans rfl
   have hcz10_1 : wc.cell? ⟨gb747, 1, none⟩ = some (.slice A0_1 l0_1.length c0_1) := (blk_cell BK747.out 1).trans rfl
   have hcz10_2 : wc.cell? ⟨gb747, 2, none⟩ = some (.slice A0_2 l0_2.length c0_2) := (blk_cell BK747.out 2).trans rfl
   have hcz10_3 : wc.cell? ⟨gb747, 3, none⟩ = some (.slice A0_3 l0_3.length c0_3) := (blk_cell BK747.out 3).trans rfl
   have hcz10_4 : wc.cell? ⟨gb747, 4, none⟩ = some (.string a0_4) := (blk_cell BK747.out 4).trans rfl
   have hfz10_0 := blk_frozen BK747.out 0
   have hfz10_1 := blk_frozen BK747.out 1
   have hfz10_2 := blk_frozen BK747.out 2
   have hfz10_3 := blk_frozen BK747.out 3
   have hfz10_4 := blk_frozen BK747.out 4
   go_upto_if 20 with (first | ((with_reducible refine gate_callee (f := 31) rfl ?_); refine goesL_ (some 19) rfl rfl Try.func31 (by kernel_rfl) rfl #[.agg #[.int .i64 a0_0, .slice A0_1 l0_1.length c0_1]] rfl aa ?_; (with_reducible refine (fairwayref10_Seg.calls kj2 a0_0 _ _ l0_1 t749 _ ?side1 ?side2 A8.out).mono ?_); (case side1 => repeat (first | exact (Kd.C_below HR0_1.out HB.out) | (with_reducible refine Kd.C_alloc ?_ _) | (with_reducible refine Kd.C_drewN ?_ _) | (with_reducible refine Kd.C_drew ?_))); (case side2 => exact HC0_1.out); rintro e w11 ⟨rfl, hb⟩; refine ⟨_, rfl, ?_⟩; replace BK747 := Aside0.mk (blk_below (g := gb747) (o := .cells #[.int .i64 a0_0, .slice A0_1 l0_1.length c0_1, .slice A0_2 l0_2.length c0_2, .slice A0_3 l0_3.length c0_3, .string a0_4] 55 (0, 0)) (bk BK747.out) hb); replace HB := Aside0.mk (below_step bo hb); (try clear hb); (try clear hb2); (try clear hk); (try clear hi)))
   (try simp only [Act.put, List.setIfInBounds_toArray, List.set_cons_zero, List.set_cons_succ])
   go_cut [4] (fun v4 wc => ∃ (kq : Nat) (x4_8 : List (S77)), Aside0 (fairwaylaw12_IndexLooks.j1 kq t749 x4_8 a0_0 l0_1 l0_2 l0_3 a0_4 = some r) ∧ Aside0 (kq ≤ kj2) ∧ Aside0 (Kd.R k77 77 wc w.heap.size (fun _ => True) v4 x4_8) ∧ Aside0 (wc.heap[gb747]? = some (.cells #[.int .i64 a0_0, (.slice A0_1 l0_1.length c0_1), (.slice A0_2 l0_2.length c0_2), (.slice A0_3 l0_3.length c0_3), .string a0_4] 55 (0, 0))) ∧ Aside0 (Below w.heap.size w wc))
   case first => as_aux_lemma =>
    have H := HC9.out
    clear HC9
    by_cases c12 : t749 = true
    ·subst c12
     have H1 : ((fairwayref10_Marks.f kj2 a0_0 l0_1).bind fun t750 => (fairwaylaw12_IndexLooks.j1 kj2 true t750 a0_0 l0_1 l0_2 l0_3 a0_4)) = some r := by rw [if_pos rfl] at H; exact H
     clear H
     have H := H1
     clear H1
     replace H := Option.bind_eq_some_iff.mp H
     obtain ⟨t750, A130, H⟩ := H
     replace H : (fairwaylaw12_IndexLooks.j1 kj2 true t750 a0_0 l0_1 l0_2 l0_3 a0_4) = some r := H
     have A13 := Aside0.mk A130
     clear A130
     have H' := Aside0.mk H
     clear H
     have hcz14_0 : w11.cell? ⟨gb747, 0, none⟩ = some (.int .i64 a0_0) := (blk_cell BK747.out 0).trans rfl
     have hcz14_1 : w11.cell? ⟨gb747, 1, none⟩ = some (.slice A0_1 l0_1.length c0_1) := (blk_cell BK747.out 1).trans rfl
     have hcz14_2 : w11.cell? ⟨gb747, 2, none⟩ = some (.slice A0_2 l0_2.length c0_2) := (blk_cell BK747.out 2).trans rfl
     have hcz14_3 : w11.cell? ⟨gb747, 3, none⟩ = some (.slice A0_3 l0_3.length c0_3) := (blk_cell BK747.out 3).trans rfl
     have hcz14_4 : w11.cell? ⟨gb747, 4, none⟩ = some (.string a0_4) := (blk_cell BK747.out 4).trans rfl
     have hfz14_0 := blk_frozen BK747.out 0
     have hfz14_1 := blk_frozen BK747.out 1
     have hfz14_2 := blk_frozen BK747.out 2
     have hfz14_3 := blk_frozen BK747.out 3
     have hfz14_4 := blk_frozen BK747.out 4
     go_wp2_with (first | ((with_reducible refine gate_callee (f := 56) rfl ?_); refine goesL_ (some 23) rfl rfl Try.func56 (by kernel_rfl) rfl #[.agg #[.int .i64 a0_0, .slice A0_1 l0_1.length c0_1]] rfl aa ?_; (with_reducible refine (fairwayref10_Marks.calls kj2 a0_0 _ _ l0_1 t750 _ ?side1 ?side2 A13.out).mono ?_); (case side1 => repeat (first | exact (Kd.C_below HR0_1.out HB.out) | (with_reducible refine Kd.C_alloc ?_ _) | (with_reducible refine Kd.C_drewN ?_ _) | (with_reducible refine Kd.C_drew ?_))); (case side2 => exact HC0_1.out); rintro e w15 ⟨v751, rfl, ho0, hb⟩; refine ⟨_, rfl, ?_⟩; have HO752 := Aside0.mk (Kd.R_lower ho0 (below_size bo)); replace BK747 := Aside0.mk (blk_below (g := gb747) (o := .cells #[.int .i64 a0_0, .slice A0_1 l0_1.length c0_1, .slice A0_2 l0_2.length c0_2, .slice A0_3 l0_3.length c0_3, .string a0_4] 55 (0, 0)) (bk BK747.out) hb); replace HB := Aside0.mk (below_step bo hb); (try clear hb); (try clear hb2); (try clear hk); (try clear hi); (try clear ho0)))
     go_meet
     case rel => exact ⟨_, (t750), H', ⟨by have := HJ2.out; first | omega | exact Nat.le_refl _⟩, ⟨by (with_reducible repeat (first | apply Kd.R_alloc | apply Kd.R_drewN | apply Kd.R_drew)); exact HO752.out⟩, ⟨by (with_reducible repeat (first | refine blk_drewN ?_ _ | refine blk_drew ?_ | refine blk_alloc ?_ _)); exact BK747.out⟩, ⟨bo⟩⟩
    ·replace c12 := Bool.eq_false_iff.mpr c12
     subst c12
     have H1 : (fairwaylaw12_IndexLooks.j1 kj2 false ([] : List (S77)) a0_0 l0_1 l0_2 l0_3 a0_4) = some r := by rw [if_neg (show ¬ (false = true) by decide)] at H; exact H
     clear H
     have H := H1
     clear H1
     have H' := Aside0.mk H
     clear H
     go_wp2
     go_meet
     case rel => exact ⟨_, (([] : List (S77))), H', ⟨by have := HJ2.out; first | omega | exact Nat.le_refl _⟩, ⟨by first | exact Kd.R_nil _ _ _ _ _ | exact Kd.N_nil _ _ _ _ _ | exact Kd.V_nil _ _ _ _ _ | exact Kd.Q_nil _ _ _ _ _ | exact Kd.S_nil _ _ _ _ _⟩, ⟨by (with_reducible repeat (first | refine blk_drewN ?_ _ | refine blk_drew ?_ | refine blk_alloc ?_ _)); exact BK747.out⟩, ⟨bo⟩⟩
   case rest => as_aux_lemma =>
    clear HC9
    try clear c1
    try clear p2
    try clear c3
    try clear c5
    try clear c7
    try clear c12
    try clear c13
    try clear hcz10_0
    try clear hcz10_1
    try clear hcz10_2
    try clear hcz10_3
    try clear hcz10_4
    try clear hcz14_0
    try clear hcz14_1
    try clear hcz14_2
    try clear hcz14_3
    try clear hcz14_4
    try clear hcz5_0
    try clear hcz5_1
    try clear hcz5_2
    try clear hcz5_3
    try clear hcz5_4
    try clear hfz10_0
    try clear hfz10_1
    try clear hfz10_2
    try clear hfz10_3
    try clear hfz10_4
    try clear hfz14_0
    try clear hfz14_1
    try clear hfz14_2
    try clear hfz14_3
    try clear hfz14_4
    try clear hfz5_0
    try clear hfz5_1
    try clear hfz5_2
    try clear hfz5_3
    try clear hfz5_4
    try clear p2
    obtain ⟨kq, x4_8, HA, HJ8, HO_4, BK747, HB⟩ := hcut
    cases kq with
    | zero => exact absurd HA.out (by simp [fairwaylaw12_IndexLooks.j1])
    | succ kj8 =>
     have H := HA.out
     clear HA
     simp only [fairwaylaw12_IndexLooks.j1] at H
     have HC16 := Aside0.mk H
     clear H
     go_upto_block 0 with (fail)
     go_cut [] (fun wc => ∃ (kq : Nat), Aside0 (fairwaylaw12_IndexLooks.j10 kq  = some r) ∧ Aside0 (kq ≤ kj8) ∧ Aside0 (wc.heap[gb747]? = some (.cells #[.int .i64 a0_0, (.slice A0_1 l0_1.length c0_1), (.slice A0_2 l0_2.length c0_2), (.slice A0_3 l0_3.length c0_3), .string a0_4] 55 (0, 0))) ∧ Aside0 (Below w.heap.size w wc))
     case first => as_aux_lemma =>
      have H := HC16.out
      clear HC16
      have H' := Aside0.mk H
      clear H
      go_wp2
      go_loopg [5] kj8 (fun kq v5 w' => ∃ (x5_3 : Int), v5 = .int .i64 x5_3 ∧ Aside0 (fairwaylaw12_IndexLooks.l0 kq t749 x4_8 x5_3 a0_0 l0_1 l0_2 l0_3 a0_4 = some r) ∧ Aside0 (kq ≤ kj8) ∧ Aside0 (Kd.R k77 77 w' w.heap.size (fun _ => True) u4 x4_8) ∧ Aside0 (w'.heap[gb747]? = some (.cells #[.int .i64 a0_0, (.slice A0_1 l0_1.length c0_1), (.slice A0_2 l0_2.length c0_2), (.slice A0_3 l0_3.length c0_3), .string a0_4] 55 (0, 0))) ∧ Aside0 (Below w.heap.size w w'))
      case atStart => exact ⟨(0), ap, H', ⟨Nat.le_refl _⟩, ⟨by (with_reducible repeat (first | apply Kd.R_alloc | apply Kd.R_drewN | apply Kd.R_drew)); exact HO_4.out⟩, ⟨by (with_reducible repeat (first | refine blk_drewN ?_ _ | refine blk_drew ?_ | refine blk_alloc ?_ _)); exact BK747.out⟩, ⟨bo⟩⟩
      case round =>
       clear H'
       try clear c1
       try clear p2
       try clear c3
       try clear c5
       try clear c7
       try clear c12
       try clear c13
       try clear hcz10_0
       try clear hcz10_1
       try clear hcz10_2
       try clear hcz10_3
       try clear hcz10_4
       try clear hcz14_0
       try clear hcz14_1
       try clear hcz14_2
       try clear hcz14_3
       try clear hcz14_4
       try clear hcz5_0
       try clear hcz5_1
       try clear hcz5_2
       try clear hcz5_3
       try clear hcz5_4
       try clear hfz10_0
       try clear hfz10_1
       try clear hfz10_2
       try clear hfz10_3
       try clear hfz10_4
       try clear hfz14_0
       try clear hfz14_1
       try clear hfz14_2
       try clear hfz14_3
       try clear hfz14_4
       try clear hfz5_0
       try clear hfz5_1
       try clear hfz5_2
       try clear hfz5_3
       try clear hfz5_4
       try clear p2
       obtain ⟨x5_3, rfl, HA, HK3, HO_4, BK747, HB⟩ := hrel
       cases gk with
       | zero => exact absurd HA.out (by simp [fairwaylaw12_IndexLooks.l0])
       | succ k3 =>
        have H := HA.out
        clear HA
        simp only [fairwaylaw12_IndexLooks.l0] at H
        have HC17 := Aside0.mk H
        clear H
        go_upto_region 8 with (fail)
        go_cut [32] (fun v32 wc => ∃ (kq : Nat) (x32_16 : Bool), v32 = .bool x32_16 ∧ Aside0 (fairwaylaw12_IndexLooks.j3 kq t749 x4_8 x5_3 x32_16 a0_0 l0_1 l0_2 l0_3 a0_4 = some r) ∧ Aside0 (kq ≤ k3) ∧ Aside0 (Kd.R k77 77 wc w.heap.size (fun _ => True) u4 x4_8) ∧ Aside0 (wc.heap[gb747]? = some (.cells #[.int .i64 a0_0, (.slice A0_1 l0_1.length c0_1), (.slice A0_2 l0_2.length c0_2), (.slice A0_3 l0_3.length c0_3), .string a0_4] 55 (0, 0))) ∧ Aside0 (Below w.heap.size w wc))
        case first => as_aux_lemma =>
         have H := HC17.out
         clear HC17
         by_cases c18 : x5_3 < (l0_3.length : Int)
         ·rw [if_pos c18] at H
          have c18b0 : decide (x5_3 < (l0_3.length : Int)) = true := decide_eq_true c18
          clear c18
          (first | rw [c18b0] | (simp only [i64_w, i32_w]; rw [c18b0]) | skip)
          have H' := Aside0.mk H
          clear H
          have hcz19_0 : wr.cell? ⟨gb747, 0, none⟩ = some (.int .i64 a0_0) := (blk_cell BK747.out 0).trans rfl
          have hcz19_1 : wr.cell? ⟨gb747, 1, none⟩ = some (.slice A0_1 l0_1.length c0_1) := (blk_cell BK747.out 1).trans rfl
          have hcz19_2 : wr.cell? ⟨gb747, 2, none⟩ = some (.slice A0_2 l0_2.length c0_2) := (blk_cell BK747.out 2).trans rfl
          have hcz19_3 : wr.cell? ⟨gb747, 3, none⟩ = some (.slice A0_3 l0_3.length c0_3) := (blk_cell BK747.out 3).trans rfl
          have hcz19_4 : wr.cell? ⟨gb747, 4, none⟩ = some (.string a0_4) := (blk_cell BK747.out 4).trans rfl
          have hfz19_0 := blk_frozen BK747.out 0
          have hfz19_1 := blk_frozen BK747.out 1
          have hfz19_2 := blk_frozen BK747.out 2
          have hfz19_3 := blk_frozen BK747.out 3
          have hfz19_4 := blk_frozen BK747.out 4
          go_wp2
          go_meet
          case rel => exact ⟨_, (decide (x5_3 < 20)), ap, H', ⟨by have := HJ2.out; have := HJ8.out; have := HK3.out; first | omega | exact Nat.le_refl _⟩, ⟨by (with_reducible repeat (first | apply Kd.R_alloc | apply Kd.R_drewN | apply Kd.R_drew)); exact HO_4.out⟩, ⟨by (with_reducible repeat (first | refine blk_drewN ?_ _ | refine blk_drew ?_ | refine blk_alloc ?_ _)); exact BK747.out⟩, ⟨bo⟩⟩
         ·rw [if_neg c18] at H
          have c18b0 : decide (x5_3 < (l0_3.length : Int)) = false := decide_eq_false c18
          clear c18
          (first | rw [c18b0] | (simp only [i64_w, i32_w]; rw [c18b0]) | skip)
          have H' := Aside0.mk H
          clear H
          have hcz20_0 : wr.cell? ⟨gb747, 0, none⟩ = some (.int .i64 a0_0) := (blk_cell BK747.out 0).trans rfl
          have hcz20_1 : wr.cell? ⟨gb747, 1, none⟩ = some (.slice A0_1 l0_1.length c0_1) := (blk_cell BK747.out 1).trans rfl
          have hcz20_2 : wr.cell? ⟨gb747, 2, none⟩ = some (.slice A0_2 l0_2.length c0_2) := (blk_cell BK747.out 2).trans rfl
          have hcz20_3 : wr.cell? ⟨gb747, 3, none⟩ = some (.slice A0_3 l0_3.length c0_3) := (blk_cell BK747.out 3).trans rfl
          have hcz20_4 : wr.cell? ⟨gb747, 4, none⟩ = some (.string a0_4) := (blk_cell BK747.out 4).trans rfl
          have hfz20_0 := blk_frozen BK747.out 0
          have hfz20_1 := blk_frozen BK747.out 1
          have hfz20_2 := blk_frozen BK747.out 2
          have hfz20_3 := blk_frozen BK747.out 3
          have hfz20_4 := blk_frozen BK747.out 4
          go_wp2
          go_meet
          case rel => exact ⟨_, (false), ap, H', ⟨by have := HJ2.out; have := HJ8.out; have := HK3.out; first | omega | exact Nat.le_refl _⟩, ⟨by (with_reducible repeat (first | apply Kd.R_alloc | apply Kd.R_drewN | apply Kd.R_drew)); exact HO_4.out⟩, ⟨by (with_reducible repeat (first | refine blk_drewN ?_ _ | refine blk_drew ?_ | refine blk_alloc ?_ _)); exact BK747.out⟩, ⟨bo⟩⟩
        case rest => as_aux_lemma =>
         clear HC17
         try clear c1
         try clear p2
         try clear c3
         try clear c5
         try clear c7
         try clear c12
         try clear c13
         try clear c18
         try clear c18b0
         try clear hcz10_0
         try clear hcz10_1
         try clear hcz10_2
         try clear hcz10_3
         try clear hcz10_4
         try clear hcz14_0
         try clear hcz14_1
         try clear hcz14_2
         try clear hcz14_3
         try clear hcz14_4
         try clear hcz19_0
         try clear hcz19_1
         try clear hcz19_2
         try clear hcz19_3
         try clear hcz19_4
         try clear hcz20_0
         try clear hcz20_1
         try clear hcz20_2
         try clear hcz20_3
         try clear hcz20_4
         try clear hcz5_0
         try clear hcz5_1
         try clear hcz5_2
         try clear hcz5_3
         try clear hcz5_4
         try clear hfz10_0
         try clear hfz10_1
         try clear hfz10_2
         try clear hfz10_3
         try clear hfz10_4
         try clear hfz14_0
         try clear hfz14_1
         try clear hfz14_2
         try clear hfz14_3
         try clear hfz14_4
         try clear hfz19_0
         try clear hfz19_1
         try clear hfz19_2
         try clear hfz19_3
         try clear hfz19_4
         try clear hfz20_0
         try clear hfz20_1
         try clear hfz20_2
         try clear hfz20_3
         try clear hfz20_4
         try clear hfz5_0
         try clear hfz5_1
         try clear hfz5_2
         try clear hfz5_3
         try clear hfz5_4
         try clear p2
         obtain ⟨kq, x32_16, rfl, HA, HJ16, HO_4, BK747, HB⟩ := hcut
         cases kq with
         | zero => exact absurd HA.out (by simp [fairwaylaw12_IndexLooks.j3])
         | succ kj16 =>
          have H := HA.out
          clear HA
          simp only [fairwaylaw12_IndexLooks.j3] at H
          have HC21 := Aside0.mk H
          clear H
          go_upto_if 32 with (fail)
          go_cut [] (fun wc => ∃ (kq : Nat), Aside0 (fairwaylaw12_IndexLooks.j4 kq t749 x4_8 x5_3 a0_0 l0_1 l0_2 l0_3 a0_4 = some r) ∧ Aside0 (kq ≤ kj16) ∧ Aside0 (Kd.R k77 77 wc w.heap.size (fun _ => True) u4 x4_8) ∧ Aside0 (wc.heap[gb747]? = some (.cells #[.int .i64 a0_0, (.slice A0_1 l0_1.length c0_1), (.slice A0_2 l0_2.length c0_2), (.slice A0_3 l0_3.length c0_3), .string a0_4] 55 (0, 0))) ∧ Aside0 (Below w.heap.size w wc))
          case first => as_aux_lemma =>
           have H := HC21.out
           clear HC21
           by_cases c22 : x32_16 = true
           ·subst c22
            have H1 : (fairwaylaw12_IndexLooks.j4 kj16 t749 x4_8 x5_3 a0_0 l0_1 l0_2 l0_3 a0_4) = some r := by rw [if_pos rfl] at H; exact H
            clear H
            have H := H1
            clear H1
            have H' := Aside0.mk H
            clear H
            go_wp2
            go_meet
            case rel => exact ⟨_, H', ⟨by have := HJ2.out; have := HJ8.out; have := HK3.out; have := HJ16.out; first | omega | exact Nat.le_refl _⟩, ⟨by (with_reducible repeat (first | apply Kd.R_alloc | apply Kd.R_drewN | apply Kd.R_drew)); exact HO_4.out⟩, ⟨by (with_reducible repeat (first | refine blk_drewN ?_ _ | refine blk_drew ?_ | refine blk_alloc ?_ _)); exact BK747.out⟩, ⟨bo⟩⟩
           ·replace c22 := Bool.eq_false_iff.mpr c22
            subst c22
            have H1 : (fairwaylaw12_IndexLooks.j10 kj16) = some r := by rw [if_neg (show ¬ (false = true) by decide)] at H; exact H
            clear H
            have H := H1
            clear H1
            have H' := Aside0.mk H
            clear H
            go_wp2
            go_meet
            case rel => exact ⟨_, H', ⟨by have := HJ2.out; have := HJ8.out; have := HK3.out; have := HJ16.out; first | omega | exact Nat.le_refl _⟩, ⟨by (with_reducible repeat (first | refine blk_drewN ?_ _ | refine blk_drew ?_ | refine blk_alloc ?_ _)); exact BK747.out⟩, ⟨bo⟩⟩
          case rest => as_aux_lemma =>
           clear HC21
           try clear c1
           try clear c2
           try clear p2
           try clear c3
           try clear c5
           try clear c7
           try clear c12
           try clear c13
           try clear c18
           try clear c18b0
           try clear c22
           try clear hcz10_0
           try clear hcz10_1
           try clear hcz10_2
           try clear hcz10_3
           try clear hcz10_4
           try clear hcz14_0
           try clear hcz14_1
           try clear hcz14_2
           try clear hcz14_3
           try clear hcz14_4
           try clear hcz19_0
           try clear hcz19_1
           try clear hcz19_2
           try clear hcz19_3
           try clear hcz19_4
           try clear hcz20_0
           try clear hcz20_1
           try clear hcz20_2
           try clear hcz20_3
           try clear hcz20_4
           try clear hcz5_0
           try clear hcz5_1
           try clear hcz5_2
           try clear hcz5_3
           try clear hcz5_4
           try clear hfz10_0
           try clear hfz10_1
           try clear hfz10_2
           try clear hfz10_3
           try clear hfz10_4
           try clear hfz14_0
           try clear hfz14_1
           try clear hfz14_2
           try clear hfz14_3
           try clear hfz14_4
           try clear hfz19_0
           try clear hfz19_1
           try clear hfz19_2
           try clear hfz19_3
           try clear hfz19_4
           try clear hfz20_0
           try clear hfz20_1
           try clear hfz20_2
           try clear hfz20_3
           try clear hfz20_4
           try clear hfz5_0
           try clear hfz5_1
           try clear hfz5_2
           try clear hfz5_3
           try clear hfz5_4
           try clear p2
           obtain ⟨kq, HA, HJ20, HO_4, BK747, HB⟩ := hcut
           cases kq with
           | zero => exact absurd HA.out (by simp [fairwaylaw12_IndexLooks.j4])
           | succ kj20 =>
            have H := HA.out
            clear HA
            simp only [fairwaylaw12_IndexLooks.j4] at H
            by_cases c23 : 0 ≤ x5_3
            ·rw [if_pos c23] at H
             have c23b0 : decide (0 ≤ x5_3) = true := decide_eq_true c23
             clear c23
             by_cases c24 : x5_3 < (l0_3.length : Int)
             ·rw [if_pos c24] at H
              have c24b0 : decide (x5_3 < (l0_3.length : Int)) = true := decide_eq_true c24
              clear c24
              replace H := Option.bind_eq_some_iff.mp H
              obtain ⟨⟨t754, t755, t756, t757, t758, t759, t760, t761⟩, A250, H⟩ := H
              replace H : ((fairwayref0_CopyMarks.f kj20 x4_8).bind fun t763 => ((some (([(⟨(-1), 0⟩ : S77)] : List (S77)) : List (S77))).bind fun y766 => (if t763.length + y766.length < 8796093022208 then ((index_Look.f kj20 a0_0 l0_1 (t763 ++ y766) (rd l0_3 x5_3)).bind fun bt773 => ((fairwaylaw12_num.f bt773.2.2.2.2.2.2.2).bind fun t782 => (if t782 = 1 then (fairwaylaw12_IndexLooks.j5 kj20 t749 x4_8 x5_3 t760 t761 a0_0 l0_1 l0_2 l0_3 a0_4 t754 t755 t756 t757 t758 t759) else (some false)))) else (none)))) = some r := H
              have A25 := Aside0.mk A250
              clear A250
              replace H := Option.bind_eq_some_iff.mp H
              obtain ⟨t763, A260, H⟩ := H
              replace H : ((some (([(⟨(-1), 0⟩ : S77)] : List (S77)) : List (S77))).bind fun y766 => (if t763.length + y766.length < 8796093022208 then ((index_Look.f kj20 a0_0 l0_1 (t763 ++ y766) (rd l0_3 x5_3)).bind fun bt773 => ((fairwaylaw12_num.f bt773.2.2.2.2.2.2.2).bind fun t782 => (if t782 = 1 then (fairwaylaw12_IndexLooks.j5 kj20 t749 x4_8 x5_3 t760 t761 a0_0 l0_1 l0_2 l0_3 a0_4 t754 t755 t756 t757 t758 t759) else (some false)))) else (none))) = some r := H
              have A26 := Aside0.mk A260
              clear A260
              obtain ⟨y766, hy766⟩ : ∃ y_ : List (S77), y_ = (([(⟨(-1), 0⟩ : S77)] : List (S77))) := ⟨_, rfl⟩
              replace H : (if t763.length + y766.length < 8796093022208 then ((index_Look.f kj20 a0_0 l0_1 (t763 ++ y766) (rd l0_3 x5_3)).bind fun bt773 => ((fairwaylaw12_num.f bt773.2.2.2.2.2.2.2).bind fun t782 => (if t782 = 1 then (fairwaylaw12_IndexLooks.j5 kj20 t749 x4_8 x5_3 t760 t761 a0_0 l0_1 l0_2 l0_3 a0_4 t754 t755 t756 t757 t758 t759) else (some false)))) else (none)) = some r := by first | (rw [hy766]; with_reducible exact H) | (have H2_ := (Option.bind_some _ _).symm.trans H; rw [hy766]; with_reducible exact H2_) | (have H2_ := (Option.bind_some _ _).symm.trans H; with_reducible exact H2_) | with_reducible exact H | (rw [hy766]; exact H) | exact H
              have Ny766 := Aside0.mk hy766
              clear hy766
              by_cases c27 : t763.length + y766.length < 8796093022208
              ·rw [if_pos c27] at H
               have LMc27 := Aside0.mk c27
               clear c27
               obtain ⟨y769, hy769⟩ : ∃ y_ : List (S77), y_ = (t763 ++ y766) := ⟨_, rfl⟩
               replace H : ((index_Look.f kj20 a0_0 l0_1 y769 (rd l0_3 x5_3)).bind fun bt773 => ((fairwaylaw12_num.f bt773.2.2.2.2.2.2.2).bind fun t782 => (if t782 = 1 then (fairwaylaw12_IndexLooks.j5 kj20 t749 x4_8 x5_3 t760 t761 a0_0 l0_1 l0_2 l0_3 a0_4 t754 t755 t756 t757 t758 t759) else (some false)))) = some r := by first | (rw [hy769]; with_reducible exact H) | (have H2_ := (Option.bind_some _ _).symm.trans H; rw [hy769]; with_reducible exact H2_) | (have H2_ := (Option.bind_some _ _).symm.trans H; with_reducible exact H2_) | with_reducible exact H | (rw [hy769]; exact H) | exact H
               have Ny769 := Aside0.mk hy769
               clear hy769
               replace H := Option.bind_eq_some_iff.mp H
               obtain ⟨⟨t773, t774, t775, t776, t777, t778, t779, t780⟩, A280, H⟩ := H
               replace H : ((fairwaylaw12_num.f t780).bind fun t782 => (if t782 = 1 then (fairwaylaw12_IndexLooks.j5 kj20 t749 x4_8 x5_3 t760 t761 a0_0 l0_1 l0_2 l0_3 a0_4 t754 t755 t756 t757 t758 t759) else (some false))) = some r := H
               have A28 := Aside0.mk A280
               clear A280
               replace H := Option.bind_eq_some_iff.mp H
               obtain ⟨t782, A290, H⟩ := H
               replace H : (if t782 = 1 then (fairwaylaw12_IndexLooks.j5 kj20 t749 x4_8 x5_3 t760 t761 a0_0 l0_1 l0_2 l0_3 a0_4 t754 t755 t756 t757 t758 t759) else (some false)) = some r := H
               have A29 := Aside0.mk A290
               clear A290
               have HC30 := Aside0.mk H
               clear H
               obtain ⟨Ao31, co31, eo31⟩ := Kd.R_slice HO_4.out
               subst eo31
               try go_wp2
               replace HO_4 := Aside0.mk (Kd.R_drew HO_4.out)
               replace BK747 := Aside0.mk (blk_drew BK747.out)
               replace HB := Aside0.mk (below_drew1 HB.out)
               have p753 : 0 ≤ (x5_3 : Int) := od
               have q753 : x5_3 < (l0_3.length : Int) := od
               obtain ⟨ad753, e753, hx753_0⟩ := Kd.at_int HR0_3.out x5_3 p753 q753
               have hw753_0 := hx753_0
               cases e753
               replace hx753_0 := cx HB.out hx753_0
               replace p753 := eq_true p753
               replace q753 := eq_true q753
               refine start_ (n := 17) (S := fun w' => w'.cell? ⟨gb747, 0, none⟩ = some (.int .i64 a0_0) ∧ w'.cell? ⟨gb747, 1, none⟩ = some (.slice A0_1 l0_1.length c0_1) ∧ w'.cell? ⟨gb747, 2, none⟩ = some (.slice A0_2 l0_2.length c0_2) ∧ w'.cell? ⟨gb747, 3, none⟩ = some (.slice (some ad753) l0_3.length c0_3) ∧ w'.cell? ⟨gb747, 4, none⟩ = some (.string a0_4) ∧ w'.cell? (ad753.add (x5_3).toNat) = some (.int .i64 (rd l0_3 x5_3))) (ds := []) #[O,O,O,O,O,O,O,O,O,O,O,O,O,O,O,O,O] (by kernel_rfl) rfl rfl ⟨(blk_cell BK747.out 0).trans rfl, (blk_cell BK747.out 1).trans rfl, (blk_cell BK747.out 2).trans rfl, (blk_cell BK747.out 3).trans rfl, (blk_cell BK747.out 4).trans rfl, ((HB.out.cell (World.block_lt_of_cell? w _ hw753_0)).trans hw753_0)⟩ (fun hHeld => ?_); refine with_tabW fairwaylaw12_IndexLooks.tab10 fairwaylaw12_IndexLooks.bits10 (fun HT_ HW_ => ?_)
               generalize wc.drew = w32 at HO_4 BK747 HB hx753_0 hHeld ⊢
               refine pz (i := 0) (N := some 36) #[I,O,O,O,O,O,O,O,O,O,O,O,O,O,O,O,O] ?_
               refine pz (i := 2) (N := some 38) #[I,O,I,O,O,O,O,O,O,O,O,O,O,O,O,O,O] ?_
               refine pz (i := 3) (N := some 39) #[I,O,I,I,O,O,O,O,O,O,O,O,O,O,O,O,O] ?_
               refine pz (i := 5) (N := some 41) #[I,O,I,I,O,I,O,O,O,O,O,O,O,O,O,O,O] ?_
               refine tz (i := 1) (N := some 37) #[I,I,I,I,O,I,O,O,O,O,O,O,O,O,O,O,O] ?_
               refine tz (i := 4) (N := some 40) #[I,I,I,I,I,I,O,O,O,O,O,O,O,O,O,O,O] ?_
               refine pz (i := 6) (N := some 42) #[I,I,I,I,I,I,I,O,O,O,O,O,O,O,O,O,O] ?_
               refine tz (i := 7) (N := some 43) #[I,I,I,I,I,I,I,I,O,O,O,O,O,O,O,O,O] ?_
               refine join_ (σ := Nat) 3 #[I,I,I,I,I,I,I,I,I,I,I,I,I,I,O,O,O] (fun s_ => [(44, .tuple #[.agg #[.int .i64 t754, .int .i64 t755, .string t756, .string t757, .int .i64 t758, .bool t759], .int .i64 t760, .int .i64 t761]), (6, .pointer (some ⟨s_, 0, none⟩)), (35, .tuple #[.agg #[.int .i64 t754, .int .i64 t755, .string t756, .string t757, .int .i64 t758, .bool t759], .int .i64 t760, .int .i64 t761]), (45, .agg #[.int .i64 t754, .int .i64 t755, .string t756, .string t757, .int .i64 t758, .bool t759]), (46, .int .i64 t760), (47, .int .i64 t761)]) (fun s_ w' => (w'.cell? ⟨gb747, 0, none⟩ = some (.int .i64 a0_0) ∧ w'.cell? ⟨gb747, 1, none⟩ = some (.slice A0_1 l0_1.length c0_1) ∧ w'.cell? ⟨gb747, 2, none⟩ = some (.slice A0_2 l0_2.length c0_2) ∧ w'.cell? ⟨gb747, 3, none⟩ = some (.slice (some ad753) l0_3.length c0_3) ∧ w'.cell? ⟨gb747, 4, none⟩ = some (.string a0_4) ∧ w'.cell? (ad753.add (x5_3).toNat) = some (.int .i64 (rd l0_3 x5_3))) ∧ (Kd.R k77 77 w' w.heap.size (fun _ => True) (.slice Ao31 x4_8.length co31) x4_8) ∧ (w'.heap[gb747]? = some (.cells #[.int .i64 a0_0, .slice A0_1 l0_1.length c0_1, .slice A0_2 l0_2.length c0_2, .slice (some ad753) l0_3.length c0_3, .string a0_4] 55 (0, 0))) ∧ (w'.heap[s_]? = some (.cells #[.int .i64 0, .int .i64 0, .string (⟨#[]⟩ : ByteArray), .string (⟨#[]⟩ : ByteArray), .int .i64 0, .bool false] 25 (0, 0))) ∧ (w.heap.size ≤ s_) ∧ (w.heap.size ≤ s_) ∧ (gb747 ≠ s_) ∧ (s_ ≠ gb747) ∧ (Below w.heap.size w w')) ?_ ?_
               rotate_left
               ·intro hCont
                refine two_ (i := 8) (j := 13) (Ni := some 44) (Nj := some 6) #[I,I,I,I,I,I,I,I,I,O,O,O,O,O,O,O,O] #[I,I,I,I,I,I,I,I,O,O,O,O,O,I,O,O,O] rfl rfl rfl rfl (two_of HT_.out (by kernel_rfl)) (by decide) (by decide) (fun K hK => ?_) (fun K hK => ?_)
                ·skip
                 refine goes_ Try.func59 (by kernel_rfl) rfl #[.agg #[.int .i64 a0_0, .slice A0_1 l0_1.length c0_1], .slice Ao31 x4_8.length co31, .int .i64 (rd l0_3 x5_3)] (by rfl) rfl rfl aa ?_
                 with_reducible refine (index_Look.calls kj20 a0_0 _ _ l0_1 _ _ x4_8 (rd l0_3 x5_3) t754 t755 t756 t757 t758 t759 t760 t761 _ ?side1 ?side2 ?side3 ?side4 A25.out).mono ?_
                 (case side1 => repeat (first | exact (Kd.C_below HR0_1.out HB.out) | (with_reducible refine Kd.C_alloc ?_ _) | (with_reducible refine Kd.C_drewN ?_ _) | (with_reducible refine Kd.C_drew ?_)))
                 (case side2 => exact HC0_1.out)
                 (case side3 => repeat (first | exact (Kd.R_reads' HO_4.out).2.2 | (with_reducible refine Kd.C_alloc ?_ _) | (with_reducible refine Kd.C_drewN ?_ _) | (with_reducible refine Kd.C_drew ?_)))
                 (case side4 => exact (Kd.R_reads' HO_4.out).2.1)
                 rintro e w33 ⟨rfl, hb⟩
                 refine ⟨_, rfl, ?_⟩
                 replace HO_4 := Aside0.mk (Kd.R_below (rk HO_4.out) hb)
                 replace BK747 := Aside0.mk (blk_below (g := gb747) (o := .cells #[.int .i64 a0_0, .slice A0_1 l0_1.length c0_1, .slice A0_2 l0_2.length c0_2, .slice (some ad753) l0_3.length c0_3, .string a0_4] 55 (0, 0)) (bk BK747.out) hb)
                 replace HB := Aside0.mk (below_step bo hb)
                 (try clear hb)
                 (try clear hb2)
                 (try clear hk)
                 (try clear hi)
                 refine hK.out _ _ ⟨(blk_cell BK747.out 0).trans rfl, (blk_cell BK747.out 1).trans rfl, (blk_cell BK747.out 2).trans rfl, (blk_cell BK747.out 3).trans rfl, (blk_cell BK747.out 4).trans rfl, ((HB.out.cell (World.block_lt_of_cell? w _ hw753_0)).trans hw753_0)⟩ (fun hHeld => ?_)
                 clear hK K
                 refine norm_ (a' := ?_) ?_ ?_
                 rotate_left
                 ·show Act.put _ (some 44) _ = _
                  simp only [Act.put, List.setIfInBounds_toArray, List.set_cons_zero, List.set_cons_succ, i64_w, i32_w]
                  rfl
                 refine pz (i := 9) (N := some 35) #[I,I,I,I,I,I,I,I,I,I,O,O,O,O,O,O,O] ?_
                 refine pz (i := 10) (N := some 45) #[I,I,I,I,I,I,I,I,I,I,I,O,O,O,O,O,O] ?_
                 refine pz (i := 11) (N := some 46) #[I,I,I,I,I,I,I,I,I,I,I,I,O,O,O,O,O] ?_
                 refine pz (i := 12) (N := some 47) #[I,I,I,I,I,I,I,I,I,I,I,I,I,O,O,O,O] ?_
                 refine one_ (i := 13) (N := some 6) #[I,I,I,I,I,I,I,I,I,I,I,I,I,I,O,O,O] rfl rfl (one_of HT_.out (by kernel_rfl)) (by decide) (fun K hK => ?_)
                 refine box_step ?hg (N := 6) ?hd (cs := #[.int .i64 0, .int .i64 0, .string (⟨#[]⟩ : ByteArray), .string (⟨#[]⟩ : ByteArray), .int .i64 0, .bool false]) (t := 25) ?hr ?_; (case hd => rfl); (case hg => rfl); (case hr => first | (go_simp; done) | (go_simp; rfl))
                 intro gb762 hg w34 hbox hb
                 replace HO_4 := Aside0.mk (Kd.R_below (rk HO_4.out) hb)
                 have BK762 := Aside0.mk (hbox)
                 have GW762 := Aside0.mk ((by rw [hg]; exact (below_size bo) : w.heap.size ≤ gb762))
                 have GE762 := Aside0.mk ((by rw [hg]; exact (below_size bo) : w.heap.size ≤ gb762))
                 replace HB := Aside0.mk (below_step bo hb)
                 have NB747_762 := Aside0.mk ((by rw [hg]; exact Nat.ne_of_lt (blk_lt (g := gb747) (o := .cells #[.int .i64 a0_0, .slice A0_1 l0_1.length c0_1, .slice A0_2 l0_2.length c0_2, .slice (some ad753) l0_3.length c0_3, .string a0_4] 55 (0, 0)) (bk BK747.out)) : gb747 ≠ gb762))
                 have NB762_747 := Aside0.mk ((by rw [hg]; exact Nat.ne_of_gt (blk_lt (g := gb747) (o := .cells #[.int .i64 a0_0, .slice A0_1 l0_1.length c0_1, .slice A0_2 l0_2.length c0_2, .slice (some ad753) l0_3.length c0_3, .string a0_4] 55 (0, 0)) (bk BK747.out)) : gb762 ≠ gb747))
                 replace BK747 := Aside0.mk (blk_below (g := gb747) (o := .cells #[.int .i64 a0_0, .slice A0_1 l0_1.length c0_1, .slice A0_2 l0_2.length c0_2, .slice (some ad753) l0_3.length c0_3, .string a0_4] 55 (0, 0)) (bk BK747.out) hb)
                 clear hb hbox hg
                 refine hK.out _ _ ⟨(blk_cell BK747.out 0).trans rfl, (blk_cell BK747.out 1).trans rfl, (blk_cell BK747.out 2).trans rfl, (blk_cell BK747.out 3).trans rfl, (blk_cell BK747.out 4).trans rfl, ((HB.out.cell (World.block_lt_of_cell? w _ hw753_0)).trans hw753_0)⟩ (fun hHeld => ?_)
                 clear hK K
                 refine norm_ (a' := ?_) ?_ ?_
                 rotate_left
                 ·show Act.put _ (some 6) _ = _
                  simp only [Act.put, List.setIfInBounds_toArray, List.set_cons_zero, List.set_cons_succ, i64_w, i32_w]
                  rfl
                 exact norm_ (by simp only [putAll, Act.put, List.setIfInBounds_toArray, List.set_cons_zero, List.set_cons_succ]) (hCont (gb762) _ ⟨hHeld, (rk HO_4.out), (bk BK747.out), (bk BK762.out), GW762.out, GE762.out, NB747_762.out, NB762_747.out, bo⟩)
                ·skip
                 refine box_step ?hg (N := 6) ?hd (cs := #[.int .i64 0, .int .i64 0, .string (⟨#[]⟩ : ByteArray), .string (⟨#[]⟩ : ByteArray), .int .i64 0, .bool false]) (t := 25) ?hr ?_; (case hd => rfl); (case hg => rfl); (case hr => first | (go_simp; done) | (go_simp; rfl))
                 intro gb762 hg w33 hbox hb
                 replace HO_4 := Aside0.mk (Kd.R_below (rk HO_4.out) hb)
                 have BK762 := Aside0.mk (hbox)
                 have GW762 := Aside0.mk ((by rw [hg]; exact (below_size bo) : w.heap.size ≤ gb762))
                 have GE762 := Aside0.mk ((by rw [hg]; exact (below_size bo) : w.heap.size ≤ gb762))
                 replace HB := Aside0.mk (below_step bo hb)
                 have NB747_762 := Aside0.mk ((by rw [hg]; exact Nat.ne_of_lt (blk_lt (g := gb747) (o := .cells #[.int .i64 a0_0, .slice A0_1 l0_1.length c0_1, .slice A0_2 l0_2.length c0_2, .slice (some ad753) l0_3.length c0_3, .string a0_4] 55 (0, 0)) (bk BK747.out)) : gb747 ≠ gb762))
                 have NB762_747 := Aside0.mk ((by rw [hg]; exact Nat.ne_of_gt (blk_lt (g := gb747) (o := .cells #[.int .i64 a0_0, .slice A0_1 l0_1.length c0_1, .slice A0_2 l0_2.length c0_2, .slice (some ad753) l0_3.length c0_3, .string a0_4] 55 (0, 0)) (bk BK747.out)) : gb762 ≠ gb747))
                 replace BK747 := Aside0.mk (blk_below (g := gb747) (o := .cells #[.int .i64 a0_0, .slice A0_1 l0_1.length c0_1, .slice A0_2 l0_2.length c0_2, .slice (some ad753) l0_3.length c0_3, .string a0_4] 55 (0, 0)) (bk BK747.out) hb)
                 clear hb hbox hg
                 refine hK.out _ _ ⟨(blk_cell BK747.out 0).trans rfl, (blk_cell BK747.out 1).trans rfl, (blk_cell BK747.out 2).trans rfl, (blk_cell BK747.out 3).trans rfl, (blk_cell BK747.out 4).trans rfl, ((HB.out.cell (World.block_lt_of_cell? w _ hw753_0)).trans hw753_0)⟩ (fun hHeld => ?_)
                 clear hK K
                 refine norm_ (a' := ?_) ?_ ?_
                 rotate_left
                 ·show Act.put _ (some 6) _ = _
                  simp only [Act.put, List.setIfInBounds_toArray, List.set_cons_zero, List.set_cons_succ, i64_w, i32_w]
                  rfl
                 refine one_ (i := 8) (N := some 44) #[I,I,I,I,I,I,I,I,I,O,O,O,O,I,O,O,O] rfl rfl (one_of HT_.out (by kernel_rfl)) (by decide) (fun K hK => ?_)
                 refine goes_ Try.func59 (by kernel_rfl) rfl #[.agg #[.int .i64 a0_0, .slice A0_1 l0_1.length c0_1], .slice Ao31 x4_8.length co31, .int .i64 (rd l0_3 x5_3)] (by rfl) rfl rfl aa ?_
                 with_reducible refine (index_Look.calls kj20 a0_0 _ _ l0_1 _ _ x4_8 (rd l0_3 x5_3) t754 t755 t756 t757 t758 t759 t760 t761 _ ?side1 ?side2 ?side3 ?side4 A25.out).mono ?_
                 (case side1 => repeat (first | exact (Kd.C_below HR0_1.out HB.out) | (with_reducible refine Kd.C_alloc ?_ _) | (with_reducible refine Kd.C_drewN ?_ _) | (with_reducible refine Kd.C_drew ?_)))
                 (case side2 => exact HC0_1.out)
                 (case side3 => repeat (first | exact (Kd.R_reads' HO_4.out).2.2 | (with_reducible refine Kd.C_alloc ?_ _) | (with_reducible refine Kd.C_drewN ?_ _) | (with_reducible refine Kd.C_drew ?_)))
                 (case side4 => exact (Kd.R_reads' HO_4.out).2.1)
                 rintro e w34 ⟨rfl, hb⟩
                 refine ⟨_, rfl, ?_⟩
                 replace HO_4 := Aside0.mk (Kd.R_below (rk HO_4.out) hb)
                 replace BK747 := Aside0.mk (blk_below (g := gb747) (o := .cells #[.int .i64 a0_0, .slice A0_1 l0_1.length c0_1, .slice A0_2 l0_2.length c0_2, .slice (some ad753) l0_3.length c0_3, .string a0_4] 55 (0, 0)) (bk BK747.out) hb)
                 replace BK762 := Aside0.mk (blk_below (g := gb762) (o := .cells #[.int .i64 0, .int .i64 0, .string (⟨#[]⟩ : ByteArray), .string (⟨#[]⟩ : ByteArray), .int .i64 0, .bool false] 25 (0, 0)) (bk BK762.out) hb)
                 replace HB := Aside0.mk (below_step bo hb)
                 (try clear hb)
                 (try clear hb2)
                 (try clear hk)
                 (try clear hi)
                 refine hK.out _ _ ⟨(blk_cell BK747.out 0).trans rfl, (blk_cell BK747.out 1).trans rfl, (blk_cell BK747.out 2).trans rfl, (blk_cell BK747.out 3).trans rfl, (blk_cell BK747.out 4).trans rfl, ((HB.out.cell (World.block_lt_of_cell? w _ hw753_0)).trans hw753_0)⟩ (fun hHeld => ?_)
                 clear hK K
                 refine norm_ (a' := ?_) ?_ ?_
                 rotate_left
                 ·show Act.put _ (some 44) _ = _
                  simp only [Act.put, List.setIfInBounds_toArray, List.set_cons_zero, List.set_cons_succ, i64_w, i32_w]
                  rfl
                 refine pz (i := 9) (N := some 35) #[I,I,I,I,I,I,I,I,I,I,O,O,O,I,O,O,O] ?_
                 refine pz (i := 10) (N := some 45) #[I,I,I,I,I,I,I,I,I,I,I,O,O,I,O,O,O] ?_
                 refine pz (i := 11) (N := some 46) #[I,I,I,I,I,I,I,I,I,I,I,I,O,I,O,O,O] ?_
                 refine pz (i := 12) (N := some 47) #[I,I,I,I,I,I,I,I,I,I,I,I,I,I,O,O,O] ?_
                 exact norm_ (by simp only [putAll, Act.put, List.setIfInBounds_toArray, List.set_cons_zero, List.set_cons_succ]) (hCont (gb762) _ ⟨hHeld, (rk HO_4.out), (bk BK747.out), (bk BK762.out), GW762.out, GE762.out, NB747_762.out, NB762_747.out, bo⟩)
               rintro gb762 w35 ⟨hS_, h0_, h1_, h2_, h3_, h4_, h5_, h6_, h7_⟩
               have n0_ : Aside0 (Kd.R k77 77 w35 w.heap.size (fun _ => True) (.slice Ao31 x4_8.length co31) x4_8) := ⟨h0_⟩
               have n1_ : Aside0 (w35.heap[gb747]? = some (.cells #[.int .i64 a0_0, .slice A0_1 l0_1.length c0_1, .slice A0_2 l0_2.length c0_2, .slice (some ad753) l0_3.length c0_3, .string a0_4] 55 (0, 0))) := ⟨h1_⟩
               have n2_ : Aside0 (w35.heap[gb762]? = some (.cells #[.int .i64 0, .int .i64 0, .string (⟨#[]⟩ : ByteArray), .string (⟨#[]⟩ : ByteArray), .int .i64 0, .bool false] 25 (0, 0))) := ⟨h2_⟩
               have n3_ : Aside0 (w.heap.size ≤ gb762) := ⟨h3_⟩
               have n4_ : Aside0 (w.heap.size ≤ gb762) := ⟨h4_⟩
               have n5_ : Aside0 (gb747 ≠ gb762) := ⟨h5_⟩
               have n6_ : Aside0 (gb762 ≠ gb747) := ⟨h6_⟩
               have n7_ : Aside0 (Below w.heap.size w w35) := ⟨h7_⟩
               clear HO_4
               clear BK747
               clear HB
               clear h0_ h1_ h2_ h3_ h4_ h5_ h6_ h7_
               have HO_4 := n0_
               have BK747 := n1_
               have BK762 := n2_
               have GW762 := n3_
               have GE762 := n4_
               have NB747_762 := n5_
               have NB762_747 := n6_
               have HB := n7_
               clear n0_ n1_ n2_ n3_ n4_ n5_ n6_ n7_
               have hHeld : w35.cell? ⟨gb747, 0, none⟩ = some (.int .i64 a0_0) ∧ w35.cell? ⟨gb747, 1, none⟩ = some (.slice A0_1 l0_1.length c0_1) ∧ w35.cell? ⟨gb747, 2, none⟩ = some (.slice A0_2 l0_2.length c0_2) ∧ w35.cell? ⟨gb747, 3, none⟩ = some (.slice (some ad753) l0_3.length c0_3) ∧ w35.cell? ⟨gb747, 4, none⟩ = some (.string a0_4) ∧ w35.cell? (ad753.add (x5_3).toNat) = some (.int .i64 (rd l0_3 x5_3)) := hS_
               refine norm_ (a' := ?_) ?_ ?_
               rotate_left
               ·simp only [putAll, Act.put, List.setIfInBounds_toArray, List.set_cons_zero, List.set_cons_succ]
                rfl
               refine one_ (i := 14) (N := none) #[I,I,I,I,I,I,I,I,I,I,I,I,I,I,I,O,O] rfl rfl (one_of HT_.out (by kernel_rfl)) (by decide) (fun K hK => ?_)
               have hs36 : w35.cell? ⟨gb762, 0, none⟩ = some (.int .i64 0) := (blk_cell BK762.out 0).trans rfl
               have hfs36 := blk_frozen BK762.out 0
               have hns36_0 := NB747_762.out
               have hms36_0 := NB762_747.out
               have hs37 : w35.cell? ⟨gb762, 1, none⟩ = some (.int .i64 0) := (blk_cell BK762.out 1).trans rfl
               have hfs37 := blk_frozen BK762.out 1
               have hns37_0 := NB747_762.out
               have hms37_0 := NB762_747.out
               have hs38 : w35.cell? ⟨gb762, 2, none⟩ = some (.string (⟨#[]⟩ : ByteArray)) := (blk_cell BK762.out 2).trans rfl
               have hfs38 := blk_frozen BK762.out 2
               have hns38_0 := NB747_762.out
               have hms38_0 := NB762_747.out
               have hs39 : w35.cell? ⟨gb762, 3, none⟩ = some (.string (⟨#[]⟩ : ByteArray)) := (blk_cell BK762.out 3).trans rfl
               have hfs39 := blk_frozen BK762.out 3
               have hns39_0 := NB747_762.out
               have hms39_0 := NB762_747.out
               have hs40 : w35.cell? ⟨gb762, 4, none⟩ = some (.int .i64 0) := (blk_cell BK762.out 4).trans rfl
               have hfs40 := blk_frozen BK762.out 4
               have hns40_0 := NB747_762.out
               have hms40_0 := NB762_747.out
               have hs41 : w35.cell? ⟨gb762, 5, none⟩ = some (.bool false) := (blk_cell BK762.out 5).trans rfl
               have hfs41 := blk_frozen BK762.out 5
               have hns41_0 := NB747_762.out
               have hms41_0 := NB762_747.out
               refine skip_ (w1 := ?_) (by rfl) rfl ?_ ?_
               rotate_left
               ·go_simp
                rfl
               refine hK.out _ _ ⟨((cell_far (p := ⟨gb762, _, none⟩) NB747_762.out _).trans (((cell_far (p := ⟨gb762, _, none⟩) NB747_762.out _).trans (((cell_far (p := ⟨gb762, _, none⟩) NB747_762.out _).trans (((cell_far (p := ⟨gb762, _, none⟩) NB747_762.out _).trans (((cell_far (p := ⟨gb762, _, none⟩) NB747_762.out _).trans (((cell_far (p := ⟨gb762, _, none⟩) NB747_762.out _).trans (hHeld.1)))))))))))), ((cell_far (p := ⟨gb762, _, none⟩) NB747_762.out _).trans (((cell_far (p := ⟨gb762, _, none⟩) NB747_762.out _).trans (((cell_far (p := ⟨gb762, _, none⟩) NB747_762.out _).trans (((cell_far (p := ⟨gb762, _, none⟩) NB747_762.out _).trans (((cell_far (p := ⟨gb762, _, none⟩) NB747_762.out _).trans (((cell_far (p := ⟨gb762, _, none⟩) NB747_762.out _).trans (hHeld.2.1)))))))))))), ((cell_far (p := ⟨gb762, _, none⟩) NB747_762.out _).trans (((cell_far (p := ⟨gb762, _, none⟩) NB747_762.out _).trans (((cell_far (p := ⟨gb762, _, none⟩) NB747_762.out _).trans (((cell_far (p := ⟨gb762, _, none⟩) NB747_762.out _).trans (((cell_far (p := ⟨gb762, _, none⟩) NB747_762.out _).trans (((cell_far (p := ⟨gb762, _, none⟩) NB747_762.out _).trans (hHeld.2.2.1)))))))))))), ((cell_far (p := ⟨gb762, _, none⟩) NB747_762.out _).trans (((cell_far (p := ⟨gb762, _, none⟩) NB747_762.out _).trans (((cell_far (p := ⟨gb762, _, none⟩) NB747_762.out _).trans (((cell_far (p := ⟨gb762, _, none⟩) NB747_762.out _).trans (((cell_far (p := ⟨gb762, _, none⟩) NB747_762.out _).trans (((cell_far (p := ⟨gb762, _, none⟩) NB747_762.out _).trans (hHeld.2.2.2.1)))))))))))), ((cell_far (p := ⟨gb762, _, none⟩) NB747_762.out _).trans (((cell_far (p := ⟨gb762, _, none⟩) NB747_762.out _).trans (((cell_far (p := ⟨gb762, _, none⟩) NB747_762.out _).trans (((cell_far (p := ⟨gb762, _, none⟩) NB747_762.out _).trans (((cell_far (p := ⟨gb762, _, none⟩) NB747_762.out _).trans (((cell_far (p := ⟨gb762, _, none⟩) NB747_762.out _).trans (hHeld.2.2.2.2.1)))))))))))), ((cell_far (p := ⟨gb762, _, none⟩) (by first | exact Nat.ne_of_lt (Nat.lt_of_lt_of_le (by have := World.block_lt_of_cell? _ _ hw753_0; first | rwa [add_block] at this | exact this) GW762.out) | (rw [add_block]; exact Nat.ne_of_lt (Nat.lt_of_lt_of_le (by have := World.block_lt_of_cell? _ _ hw753_0; first | rwa [add_block] at this | exact this) GW762.out)) | (show (Addr.add _ _).block ≠ _; rw [add_block]; exact Nat.ne_of_lt (Nat.lt_of_lt_of_le (by have := World.block_lt_of_cell? _ _ hw753_0; first | rwa [add_block] at this | exact this) GW762.out)) | (dsimp only; exact Nat.ne_of_lt (Nat.lt_of_lt_of_le (by have := World.block_lt_of_cell? _ _ hw753_0; first | rwa [add_block] at this | exact this) GW762.out))) _).trans (((cell_far (p := ⟨gb762, _, none⟩) (by first | exact Nat.ne_of_lt (Nat.lt_of_lt_of_le (by have := World.block_lt_of_cell? _ _ hw753_0; first | rwa [add_block] at this | exact this) GW762.out) | (rw [add_block]; exact Nat.ne_of_lt (Nat.lt_of_lt_of_le (by have := World.block_lt_of_cell? _ _ hw753_0; first | rwa [add_block] at this | exact this) GW762.out)) | (show (Addr.add _ _).block ≠ _; rw [add_block]; exact Nat.ne_of_lt (Nat.lt_of_lt_of_le (by have := World.block_lt_of_cell? _ _ hw753_0; first | rwa [add_block] at this | exact this) GW762.out)) | (dsimp only; exact Nat.ne_of_lt (Nat.lt_of_lt_of_le (by have := World.block_lt_of_cell? _ _ hw753_0; first | rwa [add_block] at this | exact this) GW762.out))) _).trans (((cell_far (p := ⟨gb762, _, none⟩) (by first | exact Nat.ne_of_lt (Nat.lt_of_lt_of_le (by have := World.block_lt_of_cell? _ _ hw753_0; first | rwa [add_block] at this | exact this) GW762.out) | (rw [add_block]; exact Nat.ne_of_lt (Nat.lt_of_lt_of_le (by have := World.block_lt_of_cell? _ _ hw753_0; first | rwa [add_block] at this | exact this) GW762.out)) | (show (Addr.add _ _).block ≠ _; rw [add_block]; exact Nat.ne_of_lt (Nat.lt_of_lt_of_le (by have := World.block_lt_of_cell? _ _ hw753_0; first | rwa [add_block] at this | exact this) GW762.out)) | (dsimp only; exact Nat.ne_of_lt (Nat.lt_of_lt_of_le (by have := World.block_lt_of_cell? _ _ hw753_0; first | rwa [add_block] at this | exact this) GW762.out))) _).trans (((cell_far (p := ⟨gb762, _, none⟩) (by first | exact Nat.ne_of_lt (Nat.lt_of_lt_of_le (by have := World.block_lt_of_cell? _ _ hw753_0; first | rwa [add_block] at this | exact this) GW762.out) | (rw [add_block]; exact Nat.ne_of_lt (Nat.lt_of_lt_of_le (by have := World.block_lt_of_cell? _ _ hw753_0; first | rwa [add_block] at this | exact this) GW762.out)) | (show (Addr.add _ _).block ≠ _; rw [add_block]; exact Nat.ne_of_lt (Nat.lt_of_lt_of_le (by have := World.block_lt_of_cell? _ _ hw753_0; first | rwa [add_block] at this | exact this) GW762.out)) | (dsimp only; exact Nat.ne_of_lt (Nat.lt_of_lt_of_le (by have := World.block_lt_of_cell? _ _ hw753_0; first | rwa [add_block] at this | exact this) GW762.out))) _).trans (((cell_far (p := ⟨gb762, _, none⟩) (by first | exact Nat.ne_of_lt (Nat.lt_of_lt_of_le (by have := World.block_lt_of_cell? _ _ hw753_0; first | rwa [add_block] at this | exact this) GW762.out) | (rw [add_block]; exact Nat.ne_of_lt (Nat.lt_of_lt_of_le (by have := World.block_lt_of_cell? _ _ hw753_0; first | rwa [add_block] at this | exact this) GW762.out)) | (show (Addr.add _ _).block ≠ _; rw [add_block]; exact Nat.ne_of_lt (Nat.lt_of_lt_of_le (by have := World.block_lt_of_cell? _ _ hw753_0; first | rwa [add_block] at this | exact this) GW762.out)) | (dsimp only; exact Nat.ne_of_lt (Nat.lt_of_lt_of_le (by have := World.block_lt_of_cell? _ _ hw753_0; first | rwa [add_block] at this | exact this) GW762.out))) _).trans (((cell_far (p := ⟨gb762, _, none⟩) (by first | exact Nat.ne_of_lt (Nat.lt_of_lt_of_le (by have := World.block_lt_of_cell? _ _ hw753_0; first | rwa [add_block] at this | exact this) GW762.out) | (rw [add_block]; exact Nat.ne_of_lt (Nat.lt_of_lt_of_le (by have := World.block_lt_of_cell? _ _ hw753_0; first | rwa [add_block] at this | exact this) GW762.out)) | (show (Addr.add _ _).block ≠ _; rw [add_block]; exact Nat.ne_of_lt (Nat.lt_of_lt_of_le (by have := World.block_lt_of_cell? _ _ hw753_0; first | rwa [add_block] at this | exact this) GW762.out)) | (dsimp only; exact Nat.ne_of_lt (Nat.lt_of_lt_of_le (by have := World.block_lt_of_cell? _ _ hw753_0; first | rwa [add_block] at this | exact this) GW762.out))) _).trans (hHeld.2.2.2.2.2))))))))))))⟩ (fun hHeld => ?_)
               clear hK K
               refine pz (i := 15) (N := some 7) #[I,I,I,I,I,I,I,I,I,I,I,I,I,I,I,I,O] ?_
               refine pz (i := 16) (N := some 8) #[I,I,I,I,I,I,I,I,I,I,I,I,I,I,I,I,I] ?_
               refine done_ (done_of HT_.out (by kernel_rfl)) ?_
               try go_wp2
               (try (rw [drewN_self w35]; generalize hq_ : World.drewN w35 _ = w35; have n0_ := Aside0.mk (Kd.R_at hq_ HO_4.out); have n1_ := Aside0.mk (blk_at hq_ BK747.out); have n2_ := Aside0.mk (blk_at hq_ BK762.out); have n3_ := Aside0.mk (below_at hq_ HB.out); clear hq_ HO_4 BK747 BK762 HB; have HO_4 := n0_; have BK747 := n1_; have BK762 := n2_; have HB := n3_; clear n0_ n1_ n2_ n3_))
               have n0_ : Aside0 (Kd.R k77 77 ((((((w35.setCell ⟨gb762, 0, none⟩ (.int .i64 t754)).setCell ⟨gb762, 1, none⟩ (.int .i64 t755)).setCell ⟨gb762, 2, none⟩ (.string t756)).setCell ⟨gb762, 3, none⟩ (.string t757)).setCell ⟨gb762, 4, none⟩ (.int .i64 t758)).setCell ⟨gb762, 5, none⟩ (.bool t759)) w.heap.size (fun _ => True) (.slice Ao31 x4_8.length co31) x4_8) := ⟨by (with_reducible repeat (first | apply Kd.R_alloc | apply Kd.R_drewN | apply Kd.R_drew)); exact Kd.R_mono (Kd.R_far (p := ⟨gb762, 5, none⟩) (Kd.R_far (p := ⟨gb762, 4, none⟩) (Kd.R_far (p := ⟨gb762, 3, none⟩) (Kd.R_far (p := ⟨gb762, 2, none⟩) (Kd.R_far (p := ⟨gb762, 1, none⟩) (Kd.R_far (p := ⟨gb762, 0, none⟩) (Kd.R_types HO_4.out BK762.out (by decide)) (fun _ hk => hk.2) (.int .i64 t754)) (fun _ hk => hk.2) (.int .i64 t755)) (fun _ hk => hk.2) (.string t756)) (fun _ hk => hk.2) (.string t757)) (fun _ hk => hk.2) (.int .i64 t758)) (fun _ hk => hk.2) (.bool t759)) (fun _ hk => trivial)⟩
               have n1_ : Aside0 (((((((w35.setCell ⟨gb762, 0, none⟩ (.int .i64 t754)).setCell ⟨gb762, 1, none⟩ (.int .i64 t755)).setCell ⟨gb762, 2, none⟩ (.string t756)).setCell ⟨gb762, 3, none⟩ (.string t757)).setCell ⟨gb762, 4, none⟩ (.int .i64 t758)).setCell ⟨gb762, 5, none⟩ (.bool t759)).heap[gb747]? = some (.cells #[.int .i64 a0_0, .slice A0_1 l0_1.length c0_1, .slice A0_2 l0_2.length c0_2, .slice (some ad753) l0_3.length c0_3, .string a0_4] 55 (0, 0))) := ⟨by (with_reducible repeat (first | refine blk_drewN ?_ _ | refine blk_drew ?_ | refine blk_alloc ?_ _)); refine blk_far ?_ NB747_762.out _; (with_reducible repeat (first | refine blk_drewN ?_ _ | refine blk_drew ?_ | refine blk_alloc ?_ _)); refine blk_far ?_ NB747_762.out _; (with_reducible repeat (first | refine blk_drewN ?_ _ | refine blk_drew ?_ | refine blk_alloc ?_ _)); refine blk_far ?_ NB747_762.out _; (with_reducible repeat (first | refine blk_drewN ?_ _ | refine blk_drew ?_ | refine blk_alloc ?_ _)); refine blk_far ?_ NB747_762.out _; (with_reducible repeat (first | refine blk_drewN ?_ _ | refine blk_drew ?_ | refine blk_alloc ?_ _)); refine blk_far ?_ NB747_762.out _; (with_reducible repeat (first | refine blk_drewN ?_ _ | refine blk_drew ?_ | refine blk_alloc ?_ _)); refine blk_far ?_ NB747_762.out _; (with_reducible repeat (first | refine blk_drewN ?_ _ | refine blk_drew ?_ | refine blk_alloc ?_ _)); exact BK747.out⟩
               have n2_ : Aside0 (((((((w35.setCell ⟨gb762, 0, none⟩ (.int .i64 t754)).setCell ⟨gb762, 1, none⟩ (.int .i64 t755)).setCell ⟨gb762, 2, none⟩ (.string t756)).setCell ⟨gb762, 3, none⟩ (.string t757)).setCell ⟨gb762, 4, none⟩ (.int .i64 t758)).setCell ⟨gb762, 5, none⟩ (.bool t759)).heap[gb762]? = some (.cells #[.int .i64 t754, .int .i64 t755, .string t756, .string t757, .int .i64 t758, .bool t759] 25 (0, 0))) := ⟨by (with_reducible repeat (first | refine blk_drewN ?_ _ | refine blk_drew ?_ | refine blk_alloc ?_ _)); refine blk_put (cs := #[.int .i64 t754, .int .i64 t755, .string t756, .string t757, .int .i64 t758, .bool false]) ?_ 5 _ rfl; (with_reducible repeat (first | refine blk_drewN ?_ _ | refine blk_drew ?_ | refine blk_alloc ?_ _)); refine blk_put (cs := #[.int .i64 t754, .int .i64 t755, .string t756, .string t757, .int .i64 0, .bool false]) ?_ 4 _ rfl; (with_reducible repeat (first | refine blk_drewN ?_ _ | refine blk_drew ?_ | refine blk_alloc ?_ _)); refine blk_put (cs := #[.int .i64 t754, .int .i64 t755, .string t756, .string (⟨#[]⟩ : ByteArray), .int .i64 0, .bool false]) ?_ 3 _ rfl; (with_reducible repeat (first | refine blk_drewN ?_ _ | refine blk_drew ?_ | refine blk_alloc ?_ _)); refine blk_put (cs := #[.int .i64 t754, .int .i64 t755, .string (⟨#[]⟩ : ByteArray), .string (⟨#[]⟩ : ByteArray), .int .i64 0, .bool false]) ?_ 2 _ rfl; (with_reducible repeat (first | refine blk_drewN ?_ _ | refine blk_drew ?_ | refine blk_alloc ?_ _)); refine blk_put (cs := #[.int .i64 t754, .int .i64 0, .string (⟨#[]⟩ : ByteArray), .string (⟨#[]⟩ : ByteArray), .int .i64 0, .bool false]) ?_ 1 _ rfl; (with_reducible repeat (first | refine blk_drewN ?_ _ | refine blk_drew ?_ | refine blk_alloc ?_ _)); refine blk_put (cs := #[.int .i64 0, .int .i64 0, .string (⟨#[]⟩ : ByteArray), .string (⟨#[]⟩ : ByteArray), .int .i64 0, .bool false]) ?_ 0 _ rfl; (with_reducible repeat (first | refine blk_drewN ?_ _ | refine blk_drew ?_ | refine blk_alloc ?_ _)); exact BK762.out⟩
               have n3_ : Aside0 (Below w.heap.size w ((((((w35.setCell ⟨gb762, 0, none⟩ (.int .i64 t754)).setCell ⟨gb762, 1, none⟩ (.int .i64 t755)).setCell ⟨gb762, 2, none⟩ (.string t756)).setCell ⟨gb762, 3, none⟩ (.string t757)).setCell ⟨gb762, 4, none⟩ (.int .i64 t758)).setCell ⟨gb762, 5, none⟩ (.bool t759))) := ⟨bo⟩
               (try clear HO_4)
               (try clear BK747)
               (try clear BK762)
               (try clear HB)
               generalize ((((((w35.setCell ⟨gb762, 0, none⟩ (.int .i64 t754)).setCell ⟨gb762, 1, none⟩ (.int .i64 t755)).setCell ⟨gb762, 2, none⟩ (.string t756)).setCell ⟨gb762, 3, none⟩ (.string t757)).setCell ⟨gb762, 4, none⟩ (.int .i64 t758)).setCell ⟨gb762, 5, none⟩ (.bool t759)) = w42 at n0_ n1_ n2_ n3_ ⊢
               have HO_4 := n0_
               have BK747 := n1_
               have BK762 := n2_
               have HB := n3_
               clear n0_ n1_ n2_ n3_
               replace HO_4 := Aside0.mk (Kd.R_drew HO_4.out)
               replace BK747 := Aside0.mk (blk_drew BK747.out)
               replace BK762 := Aside0.mk (blk_drew BK762.out)
               replace HB := Aside0.mk (below_drew1 HB.out)
               have p772 : 0 ≤ (x5_3 : Int) := od
               have q772 : x5_3 < (l0_3.length : Int) := od
               obtain ⟨ad772, e772, hx772_0⟩ := Kd.at_int HR0_3.out x5_3 p772 q772
               have hw772_0 := hx772_0
               obtain rfl : ad753 = ad772 := (by injection e772)
               replace hx772_0 := cx HB.out hx772_0
               replace p772 := eq_true p772
               replace q772 := eq_true q772
               refine start_ (n := 21) (S := fun w' => w'.cell? ⟨gb747, 0, none⟩ = some (.int .i64 a0_0) ∧ w'.cell? ⟨gb747, 1, none⟩ = some (.slice A0_1 l0_1.length c0_1) ∧ w'.cell? ⟨gb747, 2, none⟩ = some (.slice A0_2 l0_2.length c0_2) ∧ w'.cell? ⟨gb747, 3, none⟩ = some (.slice (some ad753) l0_3.length c0_3) ∧ w'.cell? ⟨gb747, 4, none⟩ = some (.string a0_4) ∧ w'.cell? (ad753.add (x5_3).toNat) = some (.int .i64 (rd l0_3 x5_3))) (ds := []) #[O,O,O,O,O,O,O,O,O,O,O,O,O,O,O,O,O,O,O,O,O] (by kernel_rfl) rfl rfl ⟨(blk_cell BK747.out 0).trans rfl, (blk_cell BK747.out 1).trans rfl, (blk_cell BK747.out 2).trans rfl, (blk_cell BK747.out 3).trans rfl, (blk_cell BK747.out 4).trans rfl, ((HB.out.cell (World.block_lt_of_cell? w _ hw772_0)).trans hw772_0)⟩ (fun hHeld => ?_); refine with_tabW fairwaylaw12_IndexLooks.tab11 fairwaylaw12_IndexLooks.bits11 (fun HT_ HW_ => ?_)
               generalize w42.drew = w43 at HO_4 BK747 BK762 HB hx772_0 hHeld ⊢
               refine pz (i := 0) (N := some 49) #[I,O,O,O,O,O,O,O,O,O,O,O,O,O,O,O,O,O,O,O,O] ?_
               refine pz (i := 2) (N := some 51) #[I,O,I,O,O,O,O,O,O,O,O,O,O,O,O,O,O,O,O,O,O] ?_
               refine pz (i := 4) (N := some 53) #[I,O,I,O,I,O,O,O,O,O,O,O,O,O,O,O,O,O,O,O,O] ?_
               refine pz (i := 7) (N := some 56) #[I,O,I,O,I,O,O,I,O,O,O,O,O,O,O,O,O,O,O,O,O] ?_
               refine pz (i := 9) (N := some 58) #[I,O,I,O,I,O,O,I,O,I,O,O,O,O,O,O,O,O,O,O,O] ?_
               refine tz (i := 1) (N := some 50) #[I,I,I,O,I,O,O,I,O,I,O,O,O,O,O,O,O,O,O,O,O] ?_
               refine tz (i := 8) (N := some 57) #[I,I,I,O,I,O,O,I,I,I,O,O,O,O,O,O,O,O,O,O,O] ?_
               refine pz (i := 10) (N := some 59) #[I,I,I,O,I,O,O,I,I,I,I,O,O,O,O,O,O,O,O,O,O] ?_
               refine tz (i := 11) (N := some 60) #[I,I,I,O,I,O,O,I,I,I,I,I,O,O,O,O,O,O,O,O,O] ?_
               refine join_ (σ := Value × Value × Value × Nat) 3 #[I,I,I,I,I,I,I,I,I,I,I,I,I,I,I,I,I,I,O,O,O] (fun s_ => [(52, s_.1), (54, s_.2.1), (55, s_.2.2.1), (61, .tuple #[.agg #[.int .i64 t773, .int .i64 t774, .string t775, .string t776, .int .i64 t777, .bool t778], .int .i64 t779, .int .i64 t780]), (9, .pointer (some ⟨s_.2.2.2, 0, none⟩)), (48, .tuple #[.agg #[.int .i64 t773, .int .i64 t774, .string t775, .string t776, .int .i64 t777, .bool t778], .int .i64 t779, .int .i64 t780]), (62, .agg #[.int .i64 t773, .int .i64 t774, .string t775, .string t776, .int .i64 t777, .bool t778]), (63, .int .i64 t779), (64, .int .i64 t780)]) (fun s_ w' => (w'.cell? ⟨gb747, 0, none⟩ = some (.int .i64 a0_0) ∧ w'.cell? ⟨gb747, 1, none⟩ = some (.slice A0_1 l0_1.length c0_1) ∧ w'.cell? ⟨gb747, 2, none⟩ = some (.slice A0_2 l0_2.length c0_2) ∧ w'.cell? ⟨gb747, 3, none⟩ = some (.slice (some ad753) l0_3.length c0_3) ∧ w'.cell? ⟨gb747, 4, none⟩ = some (.string a0_4) ∧ w'.cell? (ad753.add (x5_3).toNat) = some (.int .i64 (rd l0_3 x5_3))) ∧ (Kd.R k77 77 w' w.heap.size (fun k_ => some k_ ≠ (s_.2.2.1 : Value).ownBlock ∧ some k_ ≠ (.slice Ao31 x4_8.length co31 : Value).ownBlock) s_.2.1 y766) ∧ (Kd.R k77 77 w' w.heap.size (fun k_ => some k_ ≠ (s_.2.1 : Value).ownBlock ∧ some k_ ≠ (.slice Ao31 x4_8.length co31 : Value).ownBlock) s_.2.2.1 y769) ∧ (Kd.R k77 77 w' w.heap.size (fun k_ => some k_ ≠ (s_.2.1 : Value).ownBlock ∧ some k_ ≠ (s_.2.2.1 : Value).ownBlock) (.slice Ao31 x4_8.length co31) x4_8) ∧ (w'.heap[gb747]? = some (.cells #[.int .i64 a0_0, .slice A0_1 l0_1.length c0_1, .slice A0_2 l0_2.length c0_2, .slice (some ad753) l0_3.length c0_3, .string a0_4] 55 (0, 0))) ∧ (w'.heap[gb762]? = some (.cells #[.int .i64 t754, .int .i64 t755, .string t756, .string t757, .int .i64 t758, .bool t759] 25 (0, 0))) ∧ (w'.heap[s_.2.2.2]? = some (.cells #[.int .i64 0, .int .i64 0, .string (⟨#[]⟩ : ByteArray), .string (⟨#[]⟩ : ByteArray), .int .i64 0, .bool false] 25 (0, 0))) ∧ (w.heap.size ≤ s_.2.2.2) ∧ (w.heap.size ≤ s_.2.2.2) ∧ (gb747 ≠ s_.2.2.2) ∧ (s_.2.2.2 ≠ gb747) ∧ (gb762 ≠ s_.2.2.2) ∧ (s_.2.2.2 ≠ gb762) ∧ (Below w.heap.size w w')) ?_ ?_
               rotate_left
               ·intro hJ3_5_6_12_17
                refine join_ (σ := Value × Value × Value) 4 #[I,I,I,I,I,I,I,I,I,I,I,I,I,I,I,I,I,O,O,O,O] (fun s_ => [(52, s_.1), (54, s_.2.1), (55, s_.2.2), (61, .tuple #[.agg #[.int .i64 t773, .int .i64 t774, .string t775, .string t776, .int .i64 t777, .bool t778], .int .i64 t779, .int .i64 t780]), (48, .tuple #[.agg #[.int .i64 t773, .int .i64 t774, .string t775, .string t776, .int .i64 t777, .bool t778], .int .i64 t779, .int .i64 t780]), (62, .agg #[.int .i64 t773, .int .i64 t774, .string t775, .string t776, .int .i64 t777, .bool t778]), (63, .int .i64 t779), (64, .int .i64 t780)]) (fun s_ w' => (w'.cell? ⟨gb747, 0, none⟩ = some (.int .i64 a0_0) ∧ w'.cell? ⟨gb747, 1, none⟩ = some (.slice A0_1 l0_1.length c0_1) ∧ w'.cell? ⟨gb747, 2, none⟩ = some (.slice A0_2 l0_2.length c0_2) ∧ w'.cell? ⟨gb747, 3, none⟩ = some (.slice (some ad753) l0_3.length c0_3) ∧ w'.cell? ⟨gb747, 4, none⟩ = some (.string a0_4) ∧ w'.cell? (ad753.add (x5_3).toNat) = some (.int .i64 (rd l0_3 x5_3))) ∧ (Kd.R k77 77 w' w.heap.size (fun k_ => some k_ ≠ (s_.2.2 : Value).ownBlock ∧ some k_ ≠ (.slice Ao31 x4_8.length co31 : Value).ownBlock) s_.2.1 y766) ∧ (Kd.R k77 77 w' w.heap.size (fun k_ => some k_ ≠ (s_.2.1 : Value).ownBlock ∧ some k_ ≠ (.slice Ao31 x4_8.length co31 : Value).ownBlock) s_.2.2 y769) ∧ (Kd.R k77 77 w' w.heap.size (fun k_ => some k_ ≠ (s_.2.1 : Value).ownBlock ∧ some k_ ≠ (s_.2.2 : Value).ownBlock) (.slice Ao31 x4_8.length co31) x4_8) ∧ (w'.heap[gb747]? = some (.cells #[.int .i64 a0_0, .slice A0_1 l0_1.length c0_1, .slice A0_2 l0_2.length c0_2, .slice (some ad753) l0_3.length c0_3, .string a0_4] 55 (0, 0))) ∧ (w'.heap[gb762]? = some (.cells #[.int .i64 t754, .int .i64 t755, .string t756, .string t757, .int .i64 t758, .bool t759] 25 (0, 0))) ∧ (Below w.heap.size w w')) ?_ ?_
                rotate_left
                ·intro hJ3_5_6_12
                 refine join_ (σ := Value × Value × Value × Nat) 8 #[I,I,I,I,I,I,I,I,I,I,I,I,O,O,O,O,O,I,O,O,O] (fun s_ => [(52, s_.1), (54, s_.2.1), (55, s_.2.2.1), (9, .pointer (some ⟨s_.2.2.2, 0, none⟩))]) (fun s_ w' => (w'.cell? ⟨gb747, 0, none⟩ = some (.int .i64 a0_0) ∧ w'.cell? ⟨gb747, 1, none⟩ = some (.slice A0_1 l0_1.length c0_1) ∧ w'.cell? ⟨gb747, 2, none⟩ = some (.slice A0_2 l0_2.length c0_2) ∧ w'.cell? ⟨gb747, 3, none⟩ = some (.slice (some ad753) l0_3.length c0_3) ∧ w'.cell? ⟨gb747, 4, none⟩ = some (.string a0_4) ∧ w'.cell? (ad753.add (x5_3).toNat) = some (.int .i64 (rd l0_3 x5_3))) ∧ (Kd.R k77 77 w' w.heap.size (fun k_ => some k_ ≠ (s_.2.2.1 : Value).ownBlock ∧ some k_ ≠ (.slice Ao31 x4_8.length co31 : Value).ownBlock) s_.2.1 y766) ∧ (Kd.R k77 77 w' w.heap.size (fun k_ => some k_ ≠ (s_.2.1 : Value).ownBlock ∧ some k_ ≠ (.slice Ao31 x4_8.length co31 : Value).ownBlock) s_.2.2.1 y769) ∧ (Kd.R k77 77 w' w.heap.size (fun k_ => some k_ ≠ (s_.2.1 : Value).ownBlock ∧ some k_ ≠ (s_.2.2.1 : Value).ownBlock) (.slice Ao31 x4_8.length co31) x4_8) ∧ (w'.heap[gb747]? = some (.cells #[.int .i64 a0_0, .slice A0_1 l0_1.length c0_1, .slice A0_2 l0_2.length c0_2, .slice (some ad753) l0_3.length c0_3, .string a0_4] 55 (0, 0))) ∧ (w'.heap[gb762]? = some (.cells #[.int .i64 t754, .int .i64 t755, .string t756, .string t757, .int .i64 t758, .bool t759] 25 (0, 0))) ∧ (w'.heap[s_.2.2.2]? = some (.cells #[.int .i64 0, .int .i64 0, .string (⟨#[]⟩ : ByteArray), .string (⟨#[]⟩ : ByteArray), .int .i64 0, .bool false] 25 (0, 0))) ∧ (w.heap.size ≤ s_.2.2.2) ∧ (w.heap.size ≤ s_.2.2.2) ∧ (gb747 ≠ s_.2.2.2) ∧ (s_.2.2.2 ≠ gb747) ∧ (gb762 ≠ s_.2.2.2) ∧ (s_.2.2.2 ≠ gb762) ∧ (Below w.heap.size w w')) ?_ ?_
                 rotate_left
                 ·intro hJ3_5_6_17
                  refine join_ (σ := Value × Value × Value) 9 #[I,I,I,I,I,I,I,I,I,I,I,I,O,O,O,O,O,O,O,O,O] (fun s_ => [(52, s_.1), (54, s_.2.1), (55, s_.2.2)]) (fun s_ w' => (w'.cell? ⟨gb747, 0, none⟩ = some (.int .i64 a0_0) ∧ w'.cell? ⟨gb747, 1, none⟩ = some (.slice A0_1 l0_1.length c0_1) ∧ w'.cell? ⟨gb747, 2, none⟩ = some (.slice A0_2 l0_2.length c0_2) ∧ w'.cell? ⟨gb747, 3, none⟩ = some (.slice (some ad753) l0_3.length c0_3) ∧ w'.cell? ⟨gb747, 4, none⟩ = some (.string a0_4) ∧ w'.cell? (ad753.add (x5_3).toNat) = some (.int .i64 (rd l0_3 x5_3))) ∧ (Kd.R k77 77 w' w.heap.size (fun k_ => some k_ ≠ (s_.2.2 : Value).ownBlock ∧ some k_ ≠ (.slice Ao31 x4_8.length co31 : Value).ownBlock) s_.2.1 y766) ∧ (Kd.R k77 77 w' w.heap.size (fun k_ => some k_ ≠ (s_.2.1 : Value).ownBlock ∧ some k_ ≠ (.slice Ao31 x4_8.length co31 : Value).ownBlock) s_.2.2 y769) ∧ (Kd.R k77 77 w' w.heap.size (fun k_ => some k_ ≠ (s_.2.1 : Value).ownBlock ∧ some k_ ≠ (s_.2.2 : Value).ownBlock) (.slice Ao31 x4_8.length co31) x4_8) ∧ (w'.heap[gb747]? = some (.cells #[.int .i64 a0_0, .slice A0_1 l0_1.length c0_1, .slice A0_2 l0_2.length c0_2, .slice (some ad753) l0_3.length c0_3, .string a0_4] 55 (0, 0))) ∧ (w'.heap[gb762]? = some (.cells #[.int .i64 t754, .int .i64 t755, .string t756, .string t757, .int .i64 t758, .bool t759] 25 (0, 0))) ∧ (Below w.heap.size w w')) ?_ ?_
                  rotate_left
                  ·intro hJ3_5_6
                   refine join_ (σ := Value × Value × Nat) 9 #[I,I,I,I,I,I,O,I,I,I,I,I,O,O,O,O,O,I,O,O,O] (fun s_ => [(52, s_.1), (54, s_.2.1), (9, .pointer (some ⟨s_.2.2, 0, none⟩))]) (fun s_ w' => (w'.cell? ⟨gb747, 0, none⟩ = some (.int .i64 a0_0) ∧ w'.cell? ⟨gb747, 1, none⟩ = some (.slice A0_1 l0_1.length c0_1) ∧ w'.cell? ⟨gb747, 2, none⟩ = some (.slice A0_2 l0_2.length c0_2) ∧ w'.cell? ⟨gb747, 3, none⟩ = some (.slice (some ad753) l0_3.length c0_3) ∧ w'.cell? ⟨gb747, 4, none⟩ = some (.string a0_4) ∧ w'.cell? (ad753.add (x5_3).toNat) = some (.int .i64 (rd l0_3 x5_3))) ∧ (Kd.R k77 77 w' w.heap.size (fun k_ => some k_ ≠ (s_.2.1 : Value).ownBlock ∧ some k_ ≠ (.slice Ao31 x4_8.length co31 : Value).ownBlock) s_.1 t763) ∧ (Kd.R k77 77 w' w.heap.size (fun k_ => some k_ ≠ (s_.1 : Value).ownBlock ∧ some k_ ≠ (.slice Ao31 x4_8.length co31 : Value).ownBlock) s_.2.1 y766) ∧ (Kd.R k77 77 w' w.heap.size (fun k_ => some k_ ≠ (s_.1 : Value).ownBlock ∧ some k_ ≠ (s_.2.1 : Value).ownBlock) (.slice Ao31 x4_8.length co31) x4_8) ∧ (w'.heap[gb747]? = some (.cells #[.int .i64 a0_0, .slice A0_1 l0_1.length c0_1, .slice A0_2 l0_2.length c0_2, .slice (some ad753) l0_3.length c0_3, .string a0_4] 55 (0, 0))) ∧ (w'.heap[gb762]? = some (.cells #[.int .i64 t754, .int .i64 t755, .string t756, .string t757, .int .i64 t758, .bool t759] 25 (0, 0))) ∧ (w'.heap[s_.2.2]? = some (.cells #[.int .i64 0, .int .i64 0, .string (⟨#[]⟩ : ByteArray), .string (⟨#[]⟩ : ByteArray), .int .i64 0, .bool false] 25 (0, 0))) ∧ (w.heap.size ≤ s_.2.2) ∧ (w.heap.size ≤ s_.2.2) ∧ (gb747 ≠ s_.2.2) ∧ (s_.2.2 ≠ gb747) ∧ (gb762 ≠ s_.2.2) ∧ (s_.2.2 ≠ gb762) ∧ (Below w.heap.size w w')) ?_ ?_
                   rotate_left
                   ·intro hJ3_5_17
                    refine join_ (σ := Value × Value) 10 #[I,I,I,I,I,I,O,I,I,I,I,I,O,O,O,O,O,O,O,O,O] (fun s_ => [(52, s_.1), (54, s_.2)]) (fun s_ w' => (w'.cell? ⟨gb747, 0, none⟩ = some (.int .i64 a0_0) ∧ w'.cell? ⟨gb747, 1, none⟩ = some (.slice A0_1 l0_1.length c0_1) ∧ w'.cell? ⟨gb747, 2, none⟩ = some (.slice A0_2 l0_2.length c0_2) ∧ w'.cell? ⟨gb747, 3, none⟩ = some (.slice (some ad753) l0_3.length c0_3) ∧ w'.cell? ⟨gb747, 4, none⟩ = some (.string a0_4) ∧ w'.cell? (ad753.add (x5_3).toNat) = some (.int .i64 (rd l0_3 x5_3))) ∧ (Kd.R k77 77 w' w.heap.size (fun k_ => some k_ ≠ (s_.2 : Value).ownBlock ∧ some k_ ≠ (.slice Ao31 x4_8.length co31 : Value).ownBlock) s_.1 t763) ∧ (Kd.R k77 77 w' w.heap.size (fun k_ => some k_ ≠ (s_.1 : Value).ownBlock ∧ some k_ ≠ (.slice Ao31 x4_8.length co31 : Value).ownBlock) s_.2 y766) ∧ (Kd.R k77 77 w' w.heap.size (fun k_ => some k_ ≠ (s_.1 : Value).ownBlock ∧ some k_ ≠ (s_.2 : Value).ownBlock) (.slice Ao31 x4_8.length co31) x4_8) ∧ (w'.heap[gb747]? = some (.cells #[.int .i64 a0_0, .slice A0_1 l0_1.length c0_1, .slice A0_2 l0_2.length c0_2, .slice (some ad753) l0_3.length c0_3, .string a0_4] 55 (0, 0))) ∧ (w'.heap[gb762]? = some (.cells #[.int .i64 t754, .int .i64 t755, .string t756, .string t757, .int .i64 t758, .bool t759] 25 (0, 0))) ∧ (Below w.heap.size w w')) ?_ ?_
                    rotate_left
                    ·intro hJ3_5
                     refine join_ (σ := Value × Nat) 10 #[I,I,I,I,I,O,O,I,I,I,I,I,O,O,O,O,O,I,O,O,O] (fun s_ => [(52, s_.1), (9, .pointer (some ⟨s_.2, 0, none⟩))]) (fun s_ w' => (w'.cell? ⟨gb747, 0, none⟩ = some (.int .i64 a0_0) ∧ w'.cell? ⟨gb747, 1, none⟩ = some (.slice A0_1 l0_1.length c0_1) ∧ w'.cell? ⟨gb747, 2, none⟩ = some (.slice A0_2 l0_2.length c0_2) ∧ w'.cell? ⟨gb747, 3, none⟩ = some (.slice (some ad753) l0_3.length c0_3) ∧ w'.cell? ⟨gb747, 4, none⟩ = some (.string a0_4) ∧ w'.cell? (ad753.add (x5_3).toNat) = some (.int .i64 (rd l0_3 x5_3))) ∧ (Kd.R k77 77 w' w.heap.size (fun k_ => some k_ ≠ (.slice Ao31 x4_8.length co31 : Value).ownBlock) s_.1 t763) ∧ (Kd.R k77 77 w' w.heap.size (fun k_ => some k_ ≠ (s_.1 : Value).ownBlock) (.slice Ao31 x4_8.length co31) x4_8) ∧ (w'.heap[gb747]? = some (.cells #[.int .i64 a0_0, .slice A0_1 l0_1.length c0_1, .slice A0_2 l0_2.length c0_2, .slice (some ad753) l0_3.length c0_3, .string a0_4] 55 (0, 0))) ∧ (w'.heap[gb762]? = some (.cells #[.int .i64 t754, .int .i64 t755, .string t756, .string t757, .int .i64 t758, .bool t759] 25 (0, 0))) ∧ (w'.heap[s_.2]? = some (.cells #[.int .i64 0, .int .i64 0, .string (⟨#[]⟩ : ByteArray), .string (⟨#[]⟩ : ByteArray), .int .i64 0, .bool false] 25 (0, 0))) ∧ (w.heap.size ≤ s_.2) ∧ (w.heap.size ≤ s_.2) ∧ (gb747 ≠ s_.2) ∧ (s_.2 ≠ gb747) ∧ (gb762 ≠ s_.2) ∧ (s_.2 ≠ gb762) ∧ (Below w.heap.size w w')) ?_ ?_
                     rotate_left
                     ·intro hJ3_17
                      refine join_ (σ := Value × Nat) 10 #[I,I,I,O,I,I,O,I,I,I,I,I,O,O,O,O,O,I,O,O,O] (fun s_ => [(54, s_.1), (9, .pointer (some ⟨s_.2, 0, none⟩))]) (fun s_ w' => (w'.cell? ⟨gb747, 0, none⟩ = some (.int .i64 a0_0) ∧ w'.cell? ⟨gb747, 1, none⟩ = some (.slice A0_1 l0_1.length c0_1) ∧ w'.cell? ⟨gb747, 2, none⟩ = some (.slice A0_2 l0_2.length c0_2) ∧ w'.cell? ⟨gb747, 3, none⟩ = some (.slice (some ad753) l0_3.length c0_3) ∧ w'.cell? ⟨gb747, 4, none⟩ = some (.string a0_4) ∧ w'.cell? (ad753.add (x5_3).toNat) = some (.int .i64 (rd l0_3 x5_3))) ∧ (Kd.R k77 77 w' w.heap.size (fun k_ => some k_ ≠ (.slice Ao31 x4_8.length co31 : Value).ownBlock) s_.1 y766) ∧ (Kd.R k77 77 w' w.heap.size (fun k_ => some k_ ≠ (s_.1 : Value).ownBlock) (.slice Ao31 x4_8.length co31) x4_8) ∧ (w'.heap[gb747]? = some (.cells #[.int .i64 a0_0, .slice A0_1 l0_1.length c0_1, .slice A0_2 l0_2.length c0_2, .slice (some ad753) l0_3.length c0_3, .string a0_4] 55 (0, 0))) ∧ (w'.heap[gb762]? = some (.cells #[.int .i64 t754, .int .i64 t755, .string t756, .string t757, .int .i64 t758, .bool t759] 25 (0, 0))) ∧ (w'.heap[s_.2]? = some (.cells #[.int .i64 0, .int .i64 0, .string (⟨#[]⟩ : ByteArray), .string (⟨#[]⟩ : ByteArray), .int .i64 0, .bool false] 25 (0, 0))) ∧ (w.heap.size ≤ s_.2) ∧ (w.heap.size ≤ s_.2) ∧ (gb747 ≠ s_.2) ∧ (s_.2 ≠ gb747) ∧ (gb762 ≠ s_.2) ∧ (s_.2 ≠ gb762) ∧ (Below w.heap.size w w')) ?_ ?_
                      rotate_left
                      ·intro hJ5_17
                       refine join_ (σ := Value) 11 #[I,I,I,I,I,O,O,I,I,I,I,I,O,O,O,O,O,O,O,O,O] (fun s_ => [(52, s_)]) (fun s_ w' => (w'.cell? ⟨gb747, 0, none⟩ = some (.int .i64 a0_0) ∧ w'.cell? ⟨gb747, 1, none⟩ = some (.slice A0_1 l0_1.length c0_1) ∧ w'.cell? ⟨gb747, 2, none⟩ = some (.slice A0_2 l0_2.length c0_2) ∧ w'.cell? ⟨gb747, 3, none⟩ = some (.slice (some ad753) l0_3.length c0_3) ∧ w'.cell? ⟨gb747, 4, none⟩ = some (.string a0_4) ∧ w'.cell? (ad753.add (x5_3).toNat) = some (.int .i64 (rd l0_3 x5_3))) ∧ (Kd.R k77 77 w' w.heap.size (fun k_ => some k_ ≠ (.slice Ao31 x4_8.length co31 : Value).ownBlock) s_ t763) ∧ (Kd.R k77 77 w' w.heap.size (fun k_ => some k_ ≠ (s_ : Value).ownBlock) (.slice Ao31 x4_8.length co31) x4_8) ∧ (w'.heap[gb747]? = some (.cells #[.int .i64 a0_0, .slice A0_1 l0_1.length c0_1, .slice A0_2 l0_2.length c0_2, .slice (some ad753) l0_3.length c0_3, .string a0_4] 55 (0, 0))) ∧ (w'.heap[gb762]? = some (.cells #[.int .i64 t754, .int .i64 t755, .string t756, .string t757, .int .i64 t758, .bool t759] 25 (0, 0))) ∧ (Below w.heap.size w w')) ?_ ?_
                       rotate_left
                       ·intro hJ3
                        refine join_ (σ := Value) 11 #[I,I,I,O,I,I,O,I,I,I,I,I,O,O,O,O,O,O,O,O,O] (fun s_ => [(54, s_)]) (fun s_ w' => (w'.cell? ⟨gb747, 0, none⟩ = some (.int .i64 a0_0) ∧ w'.cell? ⟨gb747, 1, none⟩ = some (.slice A0_1 l0_1.length c0_1) ∧ w'.cell? ⟨gb747, 2, none⟩ = some (.slice A0_2 l0_2.length c0_2) ∧ w'.cell? ⟨gb747, 3, none⟩ = some (.slice (some ad753) l0_3.length c0_3) ∧ w'.cell? ⟨gb747, 4, none⟩ = some (.string a0_4) ∧ w'.cell? (ad753.add (x5_3).toNat) = some (.int .i64 (rd l0_3 x5_3))) ∧ (Kd.R k77 77 w' w.heap.size (fun k_ => some k_ ≠ (.slice Ao31 x4_8.length co31 : Value).ownBlock) s_ y766) ∧ (Kd.R k77 77 w' w.heap.size (fun k_ => some k_ ≠ (s_ : Value).ownBlock) (.slice Ao31 x4_8.length co31) x4_8) ∧ (w'.heap[gb747]? = some (.cells #[.int .i64 a0_0, .slice A0_1 l0_1.length c0_1, .slice A0_2 l0_2.length c0_2, .slice (some ad753) l0_3.length c0_3, .string a0_4] 55 (0, 0))) ∧ (w'.heap[gb762]? = some (.cells #[.int .i64 t754, .int .i64 t755, .string t756, .string t757, .int .i64 t758, .bool t759] 25 (0, 0))) ∧ (Below w.heap.size w w')) ?_ ?_
                        rotate_left
                        ·intro hJ5
                         refine join_ (σ := Nat) 11 #[I,I,I,O,I,O,O,I,I,I,I,I,O,O,O,O,O,I,O,O,O] (fun s_ => [(9, .pointer (some ⟨s_, 0, none⟩))]) (fun s_ w' => (w'.cell? ⟨gb747, 0, none⟩ = some (.int .i64 a0_0) ∧ w'.cell? ⟨gb747, 1, none⟩ = some (.slice A0_1 l0_1.length c0_1) ∧ w'.cell? ⟨gb747, 2, none⟩ = some (.slice A0_2 l0_2.length c0_2) ∧ w'.cell? ⟨gb747, 3, none⟩ = some (.slice (some ad753) l0_3.length c0_3) ∧ w'.cell? ⟨gb747, 4, none⟩ = some (.string a0_4) ∧ w'.cell? (ad753.add (x5_3).toNat) = some (.int .i64 (rd l0_3 x5_3))) ∧ (Kd.R k77 77 w' w.heap.size (fun _ => True) (.slice Ao31 x4_8.length co31) x4_8) ∧ (w'.heap[gb747]? = some (.cells #[.int .i64 a0_0, .slice A0_1 l0_1.length c0_1, .slice A0_2 l0_2.length c0_2, .slice (some ad753) l0_3.length c0_3, .string a0_4] 55 (0, 0))) ∧ (w'.heap[gb762]? = some (.cells #[.int .i64 t754, .int .i64 t755, .string t756, .string t757, .int .i64 t758, .bool t759] 25 (0, 0))) ∧ (w'.heap[s_]? = some (.cells #[.int .i64 0, .int .i64 0, .string (⟨#[]⟩ : ByteArray), .string (⟨#[]⟩ : ByteArray), .int .i64 0, .bool false] 25 (0, 0))) ∧ (w.heap.size ≤ s_) ∧ (w.heap.size ≤ s_) ∧ (gb747 ≠ s_) ∧ (s_ ≠ gb747) ∧ (gb762 ≠ s_) ∧ (s_ ≠ gb762) ∧ (Below w.heap.size w w')) ?_ ?_
                         rotate_left
                         ·intro hJ17
                          refine three_ (i := 3) (j := 5) (k := 17) (Ni := some 52) (Nj := some 54) (Nk := some 9) #[I,I,I,I,I,O,O,I,I,I,I,I,O,O,O,O,O,O,O,O,O] #[I,I,I,O,I,I,O,I,I,I,I,I,O,O,O,O,O,O,O,O,O] #[I,I,I,O,I,O,O,I,I,I,I,I,O,O,O,O,O,I,O,O,O] rfl rfl rfl rfl rfl rfl (three_of HT_.out (by kernel_rfl)) (by decide) (by decide) (by decide) (fun K hK => ?_) (fun K hK => ?_) (fun K hK => ?_)
                          ·skip
                           refine goes_ Try.func58 (by kernel_rfl) rfl #[.slice Ao31 x4_8.length co31] (by rfl) rfl rfl aa ?_
                           with_reducible refine (fairwayref0_CopyMarks.calls kj20 _ _ x4_8 t763 _ ?side1 ?side2 A26.out).mono ?_
                           (case side1 => repeat (first | exact (Kd.R_reads' HO_4.out).2.2 | (with_reducible refine Kd.C_alloc ?_ _) | (with_reducible refine Kd.C_drewN ?_ _) | (with_reducible refine Kd.C_drew ?_)))
                           (case side2 => exact (Kd.R_reads' HO_4.out).2.1)
                           rintro e w44 ⟨v764, rfl, ho0, hb⟩
                           refine ⟨_, rfl, ?_⟩
                           have HO765 := Aside0.mk (Kd.R_lower (Kd.R_new' ho0 (Kd.R_lt (rk HO_4.out))) (below_size bo))
                           replace HO_4 := Aside0.mk (Kd.R_elder' (rk HO_4.out) (Kd.R_base ho0) hb)
                           replace BK747 := Aside0.mk (blk_below (g := gb747) (o := .cells #[.int .i64 a0_0, .slice A0_1 l0_1.length c0_1, .slice A0_2 l0_2.length c0_2, .slice (some ad753) l0_3.length c0_3, .string a0_4] 55 (0, 0)) (bk BK747.out) hb)
                           replace BK762 := Aside0.mk (blk_below (g := gb762) (o := .cells #[.int .i64 t754, .int .i64 t755, .string t756, .string t757, .int .i64 t758, .bool t759] 25 (0, 0)) (bk BK762.out) hb)
                           replace HB := Aside0.mk (below_step bo hb)
                           (try clear hb)
                           (try clear hb2)
                           (try clear hk)
                           (try clear hi)
                           (try clear ho0)
                           refine hK.out _ _ ⟨(blk_cell BK747.out 0).trans rfl, (blk_cell BK747.out 1).trans rfl, (blk_cell BK747.out 2).trans rfl, (blk_cell BK747.out 3).trans rfl, (blk_cell BK747.out 4).trans rfl, ((HB.out.cell (World.block_lt_of_cell? w _ hw772_0)).trans hw772_0)⟩ (fun hHeld => ?_)
                           clear hK K
                           refine norm_ (a' := ?_) ?_ ?_
                           rotate_left
                           ·show Act.put _ (some 52) _ = _
                            simp only [Act.put, List.setIfInBounds_toArray, List.set_cons_zero, List.set_cons_succ, i64_w, i32_w]
                            rfl
                           exact norm_ (by first | (simp only [putAll, Act.put, List.setIfInBounds_toArray, List.set_cons_zero, List.set_cons_succ]; done) | (simp only [putAll, Act.put, List.setIfInBounds_toArray, List.set_cons_zero, List.set_cons_succ]; rfl)) (hJ3 (v764) _ ⟨hHeld, (by (with_reducible repeat (first | apply Kd.R_alloc | apply Kd.R_drewN | apply Kd.R_drew)); exact Kd.R_mono HO765.out (fun _ hk => hk.2)), (by (with_reducible repeat (first | apply Kd.R_alloc | apply Kd.R_drewN | apply Kd.R_drew)); exact Kd.R_mono HO_4.out (fun _ hk => hk.2)), (bk BK747.out), (bk BK762.out), bo⟩)
                          ·skip
                           refine Kd.R_lit_step k77 _ 77 ?hg (N := 54) ?hd (xs := ([(⟨(-1), 0⟩ : S77)] : List (S77))) (inner := [.int .i64 (-1), .int .i64 0]) (ok := fun _ => True) (okp := fun _ => True) ?hr ?hp (fun _ hk => hk) trivial (Below.refl _ _) (Nat.le_refl _) (by simp) ?_; (case hd => rfl); (case hg => rfl); (case hr => first | (go_simp; done) | (go_simp; rfl)); (case hp => exact (Reps.c2 (show Kd.M k77 _ _ _ (⟨(-1), 0⟩ : S77) [.int .i64 (-1), .int .i64 0] from (k77_mkM _ _ _ (⟨(-1), 0⟩ : S77) )) (Reps.none _ _)))
                           intro v767 w44 ho45 hb hg_ hnew_
                           clear hg_ hnew_
                           (first | rw [← Ny766.out] at ho45 | (simp only [Int.reduceToNat] at ho45; rw [← Ny766.out] at ho45))
                           have HO768 := Aside0.mk (Kd.R_lower (Kd.R_new' ho45 (Kd.R_lt (rk HO_4.out))) (below_size bo))
                           replace HO_4 := Aside0.mk (Kd.R_elder' (rk HO_4.out) (Kd.R_base ho45) hb)
                           replace BK747 := Aside0.mk (blk_below (g := gb747) (o := .cells #[.int .i64 a0_0, .slice A0_1 l0_1.length c0_1, .slice A0_2 l0_2.length c0_2, .slice (some ad753) l0_3.length c0_3, .string a0_4] 55 (0, 0)) (bk BK747.out) hb)
                           replace BK762 := Aside0.mk (blk_below (g := gb762) (o := .cells #[.int .i64 t754, .int .i64 t755, .string t756, .string t757, .int .i64 t758, .bool t759] 25 (0, 0)) (bk BK762.out) hb)
                           replace HB := Aside0.mk (below_step bo hb)
                           clear hb ho45
                           refine hK.out _ _ ⟨(blk_cell BK747.out 0).trans rfl, (blk_cell BK747.out 1).trans rfl, (blk_cell BK747.out 2).trans rfl, (blk_cell BK747.out 3).trans rfl, (blk_cell BK747.out 4).trans rfl, ((HB.out.cell (World.block_lt_of_cell? w _ hw772_0)).trans hw772_0)⟩ (fun hHeld => ?_)
                           clear hK K
                           refine norm_ (a' := ?_) ?_ ?_
                           rotate_left
                           ·show Act.put _ (some 54) _ = _
                            simp only [Act.put, List.setIfInBounds_toArray, List.set_cons_zero, List.set_cons_succ, i64_w, i32_w]
                            rfl
                           exact norm_ (by first | (simp only [putAll, Act.put, List.setIfInBounds_toArray, List.set_cons_zero, List.set_cons_succ]; done) | (simp only [putAll, Act.put, List.setIfInBounds_toArray, List.set_cons_zero, List.set_cons_succ]; rfl)) (hJ5 (v767) _ ⟨hHeld, (by (with_reducible repeat (first | apply Kd.R_alloc | apply Kd.R_drewN | apply Kd.R_drew)); exact Kd.R_mono HO768.out (fun _ hk => hk.2)), (by (with_reducible repeat (first | apply Kd.R_alloc | apply Kd.R_drewN | apply Kd.R_drew)); exact Kd.R_mono HO_4.out (fun _ hk => hk.2)), (bk BK747.out), (bk BK762.out), bo⟩)
                          ·skip
                           refine box_step ?hg (N := 9) ?hd (cs := #[.int .i64 0, .int .i64 0, .string (⟨#[]⟩ : ByteArray), .string (⟨#[]⟩ : ByteArray), .int .i64 0, .bool false]) (t := 25) ?hr ?_; (case hd => rfl); (case hg => rfl); (case hr => first | (go_simp; done) | (go_simp; rfl))
                           intro gb781 hg w44 hbox hb
                           replace HO_4 := Aside0.mk (Kd.R_below (rk HO_4.out) hb)
                           have BK781 := Aside0.mk (hbox)
                           have GW781 := Aside0.mk ((by rw [hg]; exact (below_size bo) : w.heap.size ≤ gb781))
                           have GE781 := Aside0.mk ((by rw [hg]; exact (below_size bo) : w.heap.size ≤ gb781))
                           replace HB := Aside0.mk (below_step bo hb)
                           have NB747_781 := Aside0.mk ((by rw [hg]; exact Nat.ne_of_lt (blk_lt (g := gb747) (o := .cells #[.int .i64 a0_0, .slice A0_1 l0_1.length c0_1, .slice A0_2 l0_2.length c0_2, .slice (some ad753) l0_3.length c0_3, .string a0_4] 55 (0, 0)) (bk BK747.out)) : gb747 ≠ gb781))
                           have NB781_747 := Aside0.mk ((by rw [hg]; exact Nat.ne_of_gt (blk_lt (g := gb747) (o := .cells #[.int .i64 a0_0, .slice A0_1 l0_1.length c0_1, .slice A0_2 l0_2.length c0_2, .slice (some ad753) l0_3.length c0_3, .string a0_4] 55 (0, 0)) (bk BK747.out)) : gb781 ≠ gb747))
                           replace BK747 := Aside0.mk (blk_below (g := gb747) (o := .cells #[.int .i64 a0_0, .slice A0_1 l0_1.length c0_1, .slice A0_2 l0_2.length c0_2, .slice (some ad753) l0_3.length c0_3, .string a0_4] 55 (0, 0)) (bk BK747.out) hb)
                           have NB762_781 := Aside0.mk ((by rw [hg]; exact Nat.ne_of_lt (blk_lt (g := gb762) (o := .cells #[.int .i64 t754, .int .i64 t755, .string t756, .string t757, .int .i64 t758, .bool t759] 25 (0, 0)) (bk BK762.out)) : gb762 ≠ gb781))
                           have NB781_762 := Aside0.mk ((by rw [hg]; exact Nat.ne_of_gt (blk_lt (g := gb762) (o := .cells #[.int .i64 t754, .int .i64 t755, .string t756, .string t757, .int .i64 t758, .bool t759] 25 (0, 0)) (bk BK762.out)) : gb781 ≠ gb762))
                           replace BK762 := Aside0.mk (blk_below (g := gb762) (o := .cells #[.int .i64 t754, .int .i64 t755, .string t756, .string t757, .int .i64 t758, .bool t759] 25 (0, 0)) (bk BK762.out) hb)
                           clear hb hbox hg
                           refine hK.out _ _ ⟨(blk_cell BK747.out 0).trans rfl, (blk_cell BK747.out 1).trans rfl, (blk_cell BK747.out 2).trans rfl, (blk_cell BK747.out 3).trans rfl, (blk_cell BK747.out 4).trans rfl, ((HB.out.cell (World.block_lt_of_cell? w _ hw772_0)).trans hw772_0)⟩ (fun hHeld => ?_)
                           clear hK K
                           refine norm_ (a' := ?_) ?_ ?_
                           rotate_left
                           ·show Act.put _ (some 9) _ = _
                            simp only [Act.put, List.setIfInBounds_toArray, List.set_cons_zero, List.set_cons_succ, i64_w, i32_w]
                            rfl
                           exact norm_ (by first | (simp only [putAll, Act.put, List.setIfInBounds_toArray, List.set_cons_zero, List.set_cons_succ]; done) | (simp only [putAll, Act.put, List.setIfInBounds_toArray, List.set_cons_zero, List.set_cons_succ]; rfl)) (hJ17 (gb781) _ ⟨hHeld, (rk HO_4.out), (bk BK747.out), (bk BK762.out), (bk BK781.out), GW781.out, GE781.out, NB747_781.out, NB781_747.out, NB762_781.out, NB781_762.out, bo⟩)
                         ·skip
                          rintro gb781 w45 ⟨hS_, h0_, h1_, h2_, h3_, h4_, h5_, h6_, h7_, h8_, h9_, h10_⟩
                          have n0_ : Aside0 (Kd.R k77 77 w45 w.heap.size (fun _ => True) (.slice Ao31 x4_8.length co31) x4_8) := ⟨h0_⟩
                          have n1_ : Aside0 (w45.heap[gb747]? = some (.cells #[.int .i64 a0_0, .slice A0_1 l0_1.length c0_1, .slice A0_2 l0_2.length c0_2, .slice (some ad753) l0_3.length c0_3, .string a0_4] 55 (0, 0))) := ⟨h1_⟩
                          have n2_ : Aside0 (w45.heap[gb762]? = some (.cells #[.int .i64 t754, .int .i64 t755, .string t756, .string t757, .int .i64 t758, .bool t759] 25 (0, 0))) := ⟨h2_⟩
                          have n3_ : Aside0 (w45.heap[gb781]? = some (.cells #[.int .i64 0, .int .i64 0, .string (⟨#[]⟩ : ByteArray), .string (⟨#[]⟩ : ByteArray), .int .i64 0, .bool false] 25 (0, 0))) := ⟨h3_⟩
                          have n4_ : Aside0 (w.heap.size ≤ gb781) := ⟨h4_⟩
                          have n5_ : Aside0 (w.heap.size ≤ gb781) := ⟨h5_⟩
                          have n6_ : Aside0 (gb747 ≠ gb781) := ⟨h6_⟩
                          have n7_ : Aside0 (gb781 ≠ gb747) := ⟨h7_⟩
                          have n8_ : Aside0 (gb762 ≠ gb781) := ⟨h8_⟩
                          have n9_ : Aside0 (gb781 ≠ gb762) := ⟨h9_⟩
                          have n10_ : Aside0 (Below w.heap.size w w45) := ⟨h10_⟩
                          clear HO_4
                          clear BK747
                          clear BK762
                          clear HB
                          clear h0_ h1_ h2_ h3_ h4_ h5_ h6_ h7_ h8_ h9_ h10_
                          have HO_4 := n0_
                          have BK747 := n1_
                          have BK762 := n2_
                          have BK781 := n3_
                          have GW781 := n4_
                          have GE781 := n5_
                          have NB747_781 := n6_
                          have NB781_747 := n7_
                          have NB762_781 := n8_
                          have NB781_762 := n9_
                          have HB := n10_
                          clear n0_ n1_ n2_ n3_ n4_ n5_ n6_ n7_ n8_ n9_ n10_
                          have hHeld : w45.cell? ⟨gb747, 0, none⟩ = some (.int .i64 a0_0) ∧ w45.cell? ⟨gb747, 1, none⟩ = some (.slice A0_1 l0_1.length c0_1) ∧ w45.cell? ⟨gb747, 2, none⟩ = some (.slice A0_2 l0_2.length c0_2) ∧ w45.cell? ⟨gb747, 3, none⟩ = some (.slice (some ad753) l0_3.length c0_3) ∧ w45.cell? ⟨gb747, 4, none⟩ = some (.string a0_4) ∧ w45.cell? (ad753.add (x5_3).toNat) = some (.int .i64 (rd l0_3 x5_3)) := hS_
                          refine norm_ (a' := ?_) ?_ ?_
                          rotate_left
                          ·simp only [putAll, Act.put, List.setIfInBounds_toArray, List.set_cons_zero, List.set_cons_succ]
                           rfl
                          refine two_ (i := 3) (j := 5) (Ni := some 52) (Nj := some 54) #[I,I,I,I,I,O,O,I,I,I,I,I,O,O,O,O,O,I,O,O,O] #[I,I,I,O,I,I,O,I,I,I,I,I,O,O,O,O,O,I,O,O,O] rfl rfl rfl rfl (two_of HT_.out (by kernel_rfl)) (by decide) (by decide) (fun K hK => ?_) (fun K hK => ?_)
                          ·skip
                           refine goes_ Try.func58 (by kernel_rfl) rfl #[.slice Ao31 x4_8.length co31] (by rfl) rfl rfl aa ?_
                           with_reducible refine (fairwayref0_CopyMarks.calls kj20 _ _ x4_8 t763 _ ?side1 ?side2 A26.out).mono ?_
                           (case side1 => repeat (first | exact (Kd.R_reads' HO_4.out).2.2 | (with_reducible refine Kd.C_alloc ?_ _) | (with_reducible refine Kd.C_drewN ?_ _) | (with_reducible refine Kd.C_drew ?_)))
                           (case side2 => exact (Kd.R_reads' HO_4.out).2.1)
                           rintro e w46 ⟨v764, rfl, ho0, hb⟩
                           refine ⟨_, rfl, ?_⟩
                           have HO765 := Aside0.mk (Kd.R_lower (Kd.R_new' ho0 (Kd.R_lt (rk HO_4.out))) (below_size bo))
                           replace HO_4 := Aside0.mk (Kd.R_elder' (rk HO_4.out) (Kd.R_base ho0) hb)
                           replace BK747 := Aside0.mk (blk_below (g := gb747) (o := .cells #[.int .i64 a0_0, .slice A0_1 l0_1.length c0_1, .slice A0_2 l0_2.length c0_2, .slice (some ad753) l0_3.length c0_3, .string a0_4] 55 (0, 0)) (bk BK747.out) hb)
                           replace BK762 := Aside0.mk (blk_below (g := gb762) (o := .cells #[.int .i64 t754, .int .i64 t755, .string t756, .string t757, .int .i64 t758, .bool t759] 25 (0, 0)) (bk BK762.out) hb)
                           replace BK781 := Aside0.mk (blk_below (g := gb781) (o := .cells #[.int .i64 0, .int .i64 0, .string (⟨#[]⟩ : ByteArray), .string (⟨#[]⟩ : ByteArray), .int .i64 0, .bool false] 25 (0, 0)) (bk BK781.out) hb)
                           replace HB := Aside0.mk (below_step bo hb)
                           (try clear hb)
                           (try clear hb2)
                           (try clear hk)
                           (try clear hi)
                           (try clear ho0)
                           refine hK.out _ _ ⟨(blk_cell BK747.out 0).trans rfl, (blk_cell BK747.out 1).trans rfl, (blk_cell BK747.out 2).trans rfl, (blk_cell BK747.out 3).trans rfl, (blk_cell BK747.out 4).trans rfl, ((HB.out.cell (World.block_lt_of_cell? w _ hw772_0)).trans hw772_0)⟩ (fun hHeld => ?_)
                           clear hK K
                           refine norm_ (a' := ?_) ?_ ?_
                           rotate_left
                           ·show Act.put _ (some 52) _ = _
                            simp only [Act.put, List.setIfInBounds_toArray, List.set_cons_zero, List.set_cons_succ, i64_w, i32_w]
                            rfl
                           exact norm_ (by first | (simp only [putAll, Act.put, List.setIfInBounds_toArray, List.set_cons_zero, List.set_cons_succ]; done) | (simp only [putAll, Act.put, List.setIfInBounds_toArray, List.set_cons_zero, List.set_cons_succ]; rfl)) (hJ3_17 (v764, gb781) _ ⟨hHeld, (by (with_reducible repeat (first | apply Kd.R_alloc | apply Kd.R_drewN | apply Kd.R_drew)); exact Kd.R_mono HO765.out (fun _ hk => hk.2)), (by (with_reducible repeat (first | apply Kd.R_alloc | apply Kd.R_drewN | apply Kd.R_drew)); exact Kd.R_mono HO_4.out (fun _ hk => hk.2)), (bk BK747.out), (bk BK762.out), (bk BK781.out), GW781.out, GE781.out, NB747_781.out, NB781_747.out, NB762_781.out, NB781_762.out, bo⟩)
                          ·skip
                           refine Kd.R_lit_step k77 _ 77 ?hg (N := 54) ?hd (xs := ([(⟨(-1), 0⟩ : S77)] : List (S77))) (inner := [.int .i64 (-1), .int .i64 0]) (ok := fun _ => True) (okp := fun _ => True) ?hr ?hp (fun _ hk => hk) trivial (Below.refl _ _) (Nat.le_refl _) (by simp) ?_; (case hd => rfl); (case hg => rfl); (case hr => first | (go_simp; done) | (go_simp; rfl)); (case hp => exact (Reps.c2 (show Kd.M k77 _ _ _ (⟨(-1), 0⟩ : S77) [.int .i64 (-1), .int .i64 0] from (k77_mkM _ _ _ (⟨(-1), 0⟩ : S77) )) (Reps.none _ _)))
                           intro v767 w46 ho47 hb hg_ hnew_
                           clear hg_ hnew_
                           (first | rw [← Ny766.out] at ho47 | (simp only [Int.reduceToNat] at ho47; rw [← Ny766.out] at ho47))
                           have HO768 := Aside0.mk (Kd.R_lower (Kd.R_new' ho47 (Kd.R_lt (rk HO_4.out))) (below_size bo))
                           replace HO_4 := Aside0.mk (Kd.R_elder' (rk HO_4.out) (Kd.R_base ho47) hb)
                           replace BK747 := Aside0.mk (blk_below (g := gb747) (o := .cells #[.int .i64 a0_0, .slice A0_1 l0_1.length c0_1, .slice A0_2 l0_2.length c0_2, .slice (some ad753) l0_3.length c0_3, .string a0_4] 55 (0, 0)) (bk BK747.out) hb)
                           replace BK762 := Aside0.mk (blk_below (g := gb762) (o := .cells #[.int .i64 t754, .int .i64 t755, .string t756, .string t757, .int .i64 t758, .bool t759] 25 (0, 0)) (bk BK762.out) hb)
                           replace BK781 := Aside0.mk (blk_below (g := gb781) (o := .cells #[.int .i64 0, .int .i64 0, .string (⟨#[]⟩ : ByteArray), .string (⟨#[]⟩ : ByteArray), .int .i64 0, .bool false] 25 (0, 0)) (bk BK781.out) hb)
                           replace HB := Aside0.mk (below_step bo hb)
                           clear hb ho47
                           refine hK.out _ _ ⟨(blk_cell BK747.out 0).trans rfl, (blk_cell BK747.out 1).trans rfl, (blk_cell BK747.out 2).trans rfl, (blk_cell BK747.out 3).trans rfl, (blk_cell BK747.out 4).trans rfl, ((HB.out.cell (World.block_lt_of_cell? w _ hw772_0)).trans hw772_0)⟩ (fun hHeld => ?_)
                           clear hK K
                           refine norm_ (a' := ?_) ?_ ?_
                           rotate_left
                           ·show Act.put _ (some 54) _ = _
                            simp only [Act.put, List.setIfInBounds_toArray, List.set_cons_zero, List.set_cons_succ, i64_w, i32_w]
                            rfl
                           exact norm_ (by first | (simp only [putAll, Act.put, List.setIfInBounds_toArray, List.set_cons_zero, List.set_cons_succ]; done) | (simp only [putAll, Act.put, List.setIfInBounds_toArray, List.set_cons_zero, List.set_cons_succ]; rfl)) (hJ5_17 (v767, gb781) _ ⟨hHeld, (by (with_reducible repeat (first | apply Kd.R_alloc | apply Kd.R_drewN | apply Kd.R_drew)); exact Kd.R_mono HO768.out (fun _ hk => hk.2)), (by (with_reducible repeat (first | apply Kd.R_alloc | apply Kd.R_drewN | apply Kd.R_drew)); exact Kd.R_mono HO_4.out (fun _ hk => hk.2)), (bk BK747.out), (bk BK762.out), (bk BK781.out), GW781.out, GE781.out, NB747_781.out, NB781_747.out, NB762_781.out, NB781_762.out, bo⟩)
                        ·skip
                         rintro v767 w46 ⟨hS_, h0_, h1_, h2_, h3_, h4_⟩
                         have n0_ : Aside0 (Kd.R k77 77 w46 w.heap.size (fun k_ => some k_ ≠ (.slice Ao31 x4_8.length co31 : Value).ownBlock) v767 y766) := ⟨h0_⟩
                         have n1_ : Aside0 (Kd.R k77 77 w46 w.heap.size (fun k_ => some k_ ≠ (v767 : Value).ownBlock) (.slice Ao31 x4_8.length co31) x4_8) := ⟨h1_⟩
                         have n2_ : Aside0 (w46.heap[gb747]? = some (.cells #[.int .i64 a0_0, .slice A0_1 l0_1.length c0_1, .slice A0_2 l0_2.length c0_2, .slice (some ad753) l0_3.length c0_3, .string a0_4] 55 (0, 0))) := ⟨h2_⟩
                         have n3_ : Aside0 (w46.heap[gb762]? = some (.cells #[.int .i64 t754, .int .i64 t755, .string t756, .string t757, .int .i64 t758, .bool t759] 25 (0, 0))) := ⟨h3_⟩
                         have n4_ : Aside0 (Below w.heap.size w w46) := ⟨h4_⟩
                         clear HO_4
                         clear BK747
                         clear BK762
                         clear HB
                         clear h0_ h1_ h2_ h3_ h4_
                         have HO768 := n0_
                         have HO_4 := n1_
                         have BK747 := n2_
                         have BK762 := n3_
                         have HB := n4_
                         clear n0_ n1_ n2_ n3_ n4_
                         have hHeld : w46.cell? ⟨gb747, 0, none⟩ = some (.int .i64 a0_0) ∧ w46.cell? ⟨gb747, 1, none⟩ = some (.slice A0_1 l0_1.length c0_1) ∧ w46.cell? ⟨gb747, 2, none⟩ = some (.slice A0_2 l0_2.length c0_2) ∧ w46.cell? ⟨gb747, 3, none⟩ = some (.slice (some ad753) l0_3.length c0_3) ∧ w46.cell? ⟨gb747, 4, none⟩ = some (.string a0_4) ∧ w46.cell? (ad753.add (x5_3).toNat) = some (.int .i64 (rd l0_3 x5_3)) := hS_
                         refine norm_ (a' := ?_) ?_ ?_
                         rotate_left
                         ·simp only [putAll, Act.put, List.setIfInBounds_toArray, List.set_cons_zero, List.set_cons_succ]
                          rfl
                         refine two_ (i := 3) (j := 17) (Ni := some 52) (Nj := some 9) #[I,I,I,I,I,I,O,I,I,I,I,I,O,O,O,O,O,O,O,O,O] #[I,I,I,O,I,I,O,I,I,I,I,I,O,O,O,O,O,I,O,O,O] rfl rfl rfl rfl (two_of HT_.out (by kernel_rfl)) (by decide) (by decide) (fun K hK => ?_) (fun K hK => ?_)
                         ·skip
                          refine goes_ Try.func58 (by kernel_rfl) rfl #[.slice Ao31 x4_8.length co31] (by rfl) rfl rfl aa ?_
                          with_reducible refine (fairwayref0_CopyMarks.calls kj20 _ _ x4_8 t763 _ ?side1 ?side2 A26.out).mono ?_
                          (case side1 => repeat (first | exact (Kd.R_reads' HO_4.out).2.2 | (with_reducible refine Kd.C_alloc ?_ _) | (with_reducible refine Kd.C_drewN ?_ _) | (with_reducible refine Kd.C_drew ?_)))
                          (case side2 => exact (Kd.R_reads' HO_4.out).2.1)
                          rintro e w47 ⟨v764, rfl, ho0, hb⟩
                          refine ⟨_, rfl, ?_⟩
                          have HO765 := Aside0.mk (Kd.R_lower (Kd.R_new' (Kd.R_new' ho0 (Kd.R_lt (rk HO_4.out))) (Kd.R_lt (rk HO768.out))) (below_size bo))
                          replace HO_4 := Aside0.mk (Kd.R_elder' (rk HO_4.out) (Kd.R_base ho0) hb)
                          replace HO768 := Aside0.mk (Kd.R_elder' (rk HO768.out) (Kd.R_base ho0) hb)
                          replace BK747 := Aside0.mk (blk_below (g := gb747) (o := .cells #[.int .i64 a0_0, .slice A0_1 l0_1.length c0_1, .slice A0_2 l0_2.length c0_2, .slice (some ad753) l0_3.length c0_3, .string a0_4] 55 (0, 0)) (bk BK747.out) hb)
                          replace BK762 := Aside0.mk (blk_below (g := gb762) (o := .cells #[.int .i64 t754, .int .i64 t755, .string t756, .string t757, .int .i64 t758, .bool t759] 25 (0, 0)) (bk BK762.out) hb)
                          replace HB := Aside0.mk (below_step bo hb)
                          (try clear hb)
                          (try clear hb2)
                          (try clear hk)
                          (try clear hi)
                          (try clear ho0)
                          refine hK.out _ _ ⟨(blk_cell BK747.out 0).trans rfl, (blk_cell BK747.out 1).trans rfl, (blk_cell BK747.out 2).trans rfl, (blk_cell BK747.out 3).trans rfl, (blk_cell BK747.out 4).trans rfl, ((HB.out.cell (World.block_lt_of_cell? w _ hw772_0)).trans hw772_0)⟩ (fun hHeld => ?_)
                          clear hK K
                          refine norm_ (a' := ?_) ?_ ?_
                          rotate_left
                          ·show Act.put _ (some 52) _ = _
                           simp only [Act.put, List.setIfInBounds_toArray, List.set_cons_zero, List.set_cons_succ, i64_w, i32_w]
                           rfl
                          exact norm_ (by first | (simp only [putAll, Act.put, List.setIfInBounds_toArray, List.set_cons_zero, List.set_cons_succ]; done) | (simp only [putAll, Act.put, List.setIfInBounds_toArray, List.set_cons_zero, List.set_cons_succ]; rfl)) (hJ3_5 (v764, v767) _ ⟨hHeld, (by (with_reducible repeat (first | apply Kd.R_alloc | apply Kd.R_drewN | apply Kd.R_drew)); exact Kd.R_mono HO765.out (fun _ hk => ⟨hk.2, hk.1.2⟩)), (by (with_reducible repeat (first | apply Kd.R_alloc | apply Kd.R_drewN | apply Kd.R_drew)); exact Kd.R_mono HO768.out (fun _ hk => ⟨hk.2, hk.1⟩)), (by (with_reducible repeat (first | apply Kd.R_alloc | apply Kd.R_drewN | apply Kd.R_drew)); exact Kd.R_mono HO_4.out (fun _ hk => ⟨hk.2, hk.1⟩)), (bk BK747.out), (bk BK762.out), bo⟩)
                         ·skip
                          refine box_step ?hg (N := 9) ?hd (cs := #[.int .i64 0, .int .i64 0, .string (⟨#[]⟩ : ByteArray), .string (⟨#[]⟩ : ByteArray), .int .i64 0, .bool false]) (t := 25) ?hr ?_; (case hd => rfl); (case hg => rfl); (case hr => first | (go_simp; done) | (go_simp; rfl))
                          intro gb781 hg w47 hbox hb
                          replace HO_4 := Aside0.mk (Kd.R_below (rk HO_4.out) hb)
                          replace HO768 := Aside0.mk (Kd.R_below (rk HO768.out) hb)
                          have BK781 := Aside0.mk (hbox)
                          have GW781 := Aside0.mk ((by rw [hg]; exact (below_size bo) : w.heap.size ≤ gb781))
                          have GE781 := Aside0.mk ((by rw [hg]; exact (below_size bo) : w.heap.size ≤ gb781))
                          replace HB := Aside0.mk (below_step bo hb)
                          have NB747_781 := Aside0.mk ((by rw [hg]; exact Nat.ne_of_lt (blk_lt (g := gb747) (o := .cells #[.int .i64 a0_0, .slice A0_1 l0_1.length c0_1, .slice A0_2 l0_2.length c0_2, .slice (some ad753) l0_3.length c0_3, .string a0_4] 55 (0, 0)) (bk BK747.out)) : gb747 ≠ gb781))
                          have NB781_747 := Aside0.mk ((by rw [hg]; exact Nat.ne_of_gt (blk_lt (g := gb747) (o := .cells #[.int .i64 a0_0, .slice A0_1 l0_1.length c0_1, .slice A0_2 l0_2.length c0_2, .slice (some ad753) l0_3.length c0_3, .string a0_4] 55 (0, 0)) (bk BK747.out)) : gb781 ≠ gb747))
                          replace BK747 := Aside0.mk (blk_below (g := gb747) (o := .cells #[.int .i64 a0_0, .slice A0_1 l0_1.length c0_1, .slice A0_2 l0_2.length c0_2, .slice (some ad753) l0_3.length c0_3, .string a0_4] 55 (0, 0)) (bk BK747.out) hb)
                          have NB762_781 := Aside0.mk ((by rw [hg]; exact Nat.ne_of_lt (blk_lt (g := gb762) (o := .cells #[.int .i64 t754, .int .i64 t755, .string t756, .string t757, .int .i64 t758, .bool t759] 25 (0, 0)) (bk BK762.out)) : gb762 ≠ gb781))
                          have NB781_762 := Aside0.mk ((by rw [hg]; exact Nat.ne_of_gt (blk_lt (g := gb762) (o := .cells #[.int .i64 t754, .int .i64 t755, .string t756, .string t757, .int .i64 t758, .bool t759] 25 (0, 0)) (bk BK762.out)) : gb781 ≠ gb762))
                          replace BK762 := Aside0.mk (blk_below (g := gb762) (o := .cells #[.int .i64 t754, .int .i64 t755, .string t756, .string t757, .int .i64 t758, .bool t759] 25 (0, 0)) (bk BK762.out) hb)
                          clear hb hbox hg
                          refine hK.out _ _ ⟨(blk_cell BK747.out 0).trans rfl, (blk_cell BK747.out 1).trans rfl, (blk_cell BK747.out 2).trans rfl, (blk_cell BK747.out 3).trans rfl, (blk_cell BK747.out 4).trans rfl, ((HB.out.cell (World.block_lt_of_cell? w _ hw772_0)).trans hw772_0)⟩ (fun hHeld => ?_)
                          clear hK K
                          refine norm_ (a' := ?_) ?_ ?_
                          rotate_left
                          ·show Act.put _ (some 9) _ = _
                           simp only [Act.put, List.setIfInBounds_toArray, List.set_cons_zero, List.set_cons_succ, i64_w, i32_w]
                           rfl
                          exact norm_ (by first | (simp only [putAll, Act.put, List.setIfInBounds_toArray, List.set_cons_zero, List.set_cons_succ]; done) | (simp only [putAll, Act.put, List.setIfInBounds_toArray, List.set_cons_zero, List.set_cons_succ]; rfl)) (hJ5_17 (v767, gb781) _ ⟨hHeld, (rk HO768.out), (rk HO_4.out), (bk BK747.out), (bk BK762.out), (bk BK781.out), GW781.out, GE781.out, NB747_781.out, NB781_747.out, NB762_781.out, NB781_762.out, bo⟩)
                       ·skip
                        rintro v764 w45 ⟨hS_, h0_, h1_, h2_, h3_, h4_⟩
                        have n0_ : Aside0 (Kd.R k77 77 w45 w.heap.size (fun k_ => some k_ ≠ (.slice Ao31 x4_8.length co31 : Value).ownBlock) v764 t763) := ⟨h0_⟩
                        have n1_ : Aside0 (Kd.R k77 77 w45 w.heap.size (fun k_ => some k_ ≠ (v764 : Value).ownBlock) (.slice Ao31 x4_8.length co31) x4_8) := ⟨h1_⟩
                        have n2_ : Aside0 (w45.heap[gb747]? = some (.cells #[.int .i64 a0_0, .slice A0_1 l0_1.length c0_1, .slice A0_2 l0_2.length c0_2, .slice (some ad753) l0_3.length c0_3, .string a0_4] 55 (0, 0))) := ⟨h2_⟩
                        have n3_ : Aside0 (w45.heap[gb762]? = some (.cells #[.int .i64 t754, .int .i64 t755, .string t756, .string t757, .int .i64 t758, .bool t759] 25 (0, 0))) := ⟨h3_⟩
                        have n4_ : Aside0 (Below w.heap.size w w45) := ⟨h4_⟩
                        clear HO_4
                        clear BK747
                        clear BK762
                        clear HB
                        clear h0_ h1_ h2_ h3_ h4_
                        have HO765 := n0_
                        have HO_4 := n1_
                        have BK747 := n2_
                        have BK762 := n3_
                        have HB := n4_
                        clear n0_ n1_ n2_ n3_ n4_
                        have hHeld : w45.cell? ⟨gb747, 0, none⟩ = some (.int .i64 a0_0) ∧ w45.cell? ⟨gb747, 1, none⟩ = some (.slice A0_1 l0_1.length c0_1) ∧ w45.cell? ⟨gb747, 2, none⟩ = some (.slice A0_2 l0_2.length c0_2) ∧ w45.cell? ⟨gb747, 3, none⟩ = some (.slice (some ad753) l0_3.length c0_3) ∧ w45.cell? ⟨gb747, 4, none⟩ = some (.string a0_4) ∧ w45.cell? (ad753.add (x5_3).toNat) = some (.int .i64 (rd l0_3 x5_3)) := hS_
                        refine norm_ (a' := ?_) ?_ ?_
                        rotate_left
                        ·simp only [putAll, Act.put, List.setIfInBounds_toArray, List.set_cons_zero, List.set_cons_succ]
                         rfl
                        refine two_ (i := 5) (j := 17) (Ni := some 54) (Nj := some 9) #[I,I,I,I,I,I,O,I,I,I,I,I,O,O,O,O,O,O,O,O,O] #[I,I,I,I,I,O,O,I,I,I,I,I,O,O,O,O,O,I,O,O,O] rfl rfl rfl rfl (two_of HT_.out (by kernel_rfl)) (by decide) (by decide) (fun K hK => ?_) (fun K hK => ?_)
                        ·skip
                         refine Kd.R_lit_step k77 _ 77 ?hg (N := 54) ?hd (xs := ([(⟨(-1), 0⟩ : S77)] : List (S77))) (inner := [.int .i64 (-1), .int .i64 0]) (ok := fun _ => True) (okp := fun _ => True) ?hr ?hp (fun _ hk => hk) trivial (Below.refl _ _) (Nat.le_refl _) (by simp) ?_; (case hd => rfl); (case hg => rfl); (case hr => first | (go_simp; done) | (go_simp; rfl)); (case hp => exact (Reps.c2 (show Kd.M k77 _ _ _ (⟨(-1), 0⟩ : S77) [.int .i64 (-1), .int .i64 0] from (k77_mkM _ _ _ (⟨(-1), 0⟩ : S77) )) (Reps.none _ _)))
                         intro v767 w46 ho47 hb hg_ hnew_
                         clear hg_ hnew_
                         (first | rw [← Ny766.out] at ho47 | (simp only [Int.reduceToNat] at ho47; rw [← Ny766.out] at ho47))
                         have HO768 := Aside0.mk (Kd.R_lower (Kd.R_new' (Kd.R_new' ho47 (Kd.R_lt (rk HO_4.out))) (Kd.R_lt (rk HO765.out))) (below_size bo))
                         replace HO_4 := Aside0.mk (Kd.R_elder' (rk HO_4.out) (Kd.R_base ho47) hb)
                         replace HO765 := Aside0.mk (Kd.R_elder' (rk HO765.out) (Kd.R_base ho47) hb)
                         replace BK747 := Aside0.mk (blk_below (g := gb747) (o := .cells #[.int .i64 a0_0, .slice A0_1 l0_1.length c0_1, .slice A0_2 l0_2.length c0_2, .slice (some ad753) l0_3.length c0_3, .string a0_4] 55 (0, 0)) (bk BK747.out) hb)
                         replace BK762 := Aside0.mk (blk_below (g := gb762) (o := .cells #[.int .i64 t754, .int .i64 t755, .string t756, .string t757, .int .i64 t758, .bool t759] 25 (0, 0)) (bk BK762.out) hb)
                         replace HB := Aside0.mk (below_step bo hb)
                         clear hb ho47
                         refine hK.out _ _ ⟨(blk_cell BK747.out 0).trans rfl, (blk_cell BK747.out 1).trans rfl, (blk_cell BK747.out 2).trans rfl, (blk_cell BK747.out 3).trans rfl, (blk_cell BK747.out 4).trans rfl, ((HB.out.cell (World.block_lt_of_cell? w _ hw772_0)).trans hw772_0)⟩ (fun hHeld => ?_)
                         clear hK K
                         refine norm_ (a' := ?_) ?_ ?_
                         rotate_left
                         ·show Act.put _ (some 54) _ = _
                          simp only [Act.put, List.setIfInBounds_toArray, List.set_cons_zero, List.set_cons_succ, i64_w, i32_w]
                          rfl
                         exact norm_ (by first | (simp only [putAll, Act.put, List.setIfInBounds_toArray, List.set_cons_zero, List.set_cons_succ]; done) | (simp only [putAll, Act.put, List.setIfInBounds_toArray, List.set_cons_zero, List.set_cons_succ]; rfl)) (hJ3_5 (v764, v767) _ ⟨hHeld, (by (with_reducible repeat (first | apply Kd.R_alloc | apply Kd.R_drewN | apply Kd.R_drew)); exact Kd.R_mono HO765.out (fun _ hk => ⟨hk.2, hk.1⟩)), (by (with_reducible repeat (first | apply Kd.R_alloc | apply Kd.R_drewN | apply Kd.R_drew)); exact Kd.R_mono HO768.out (fun _ hk => ⟨hk.2, hk.1.2⟩)), (rk HO_4.out), (bk BK747.out), (bk BK762.out), bo⟩)
                        ·skip
                         refine box_step ?hg (N := 9) ?hd (cs := #[.int .i64 0, .int .i64 0, .string (⟨#[]⟩ : ByteArray), .string (⟨#[]⟩ : ByteArray), .int .i64 0, .bool false]) (t := 25) ?hr ?_; (case hd => rfl); (case hg => rfl); (case hr => first | (go_simp; done) | (go_simp; rfl))
                         intro gb781 hg w46 hbox hb
                         replace HO_4 := Aside0.mk (Kd.R_below (rk HO_4.out) hb)
                         replace HO765 := Aside0.mk (Kd.R_below (rk HO765.out) hb)
                         have BK781 := Aside0.mk (hbox)
                         have GW781 := Aside0.mk ((by rw [hg]; exact (below_size bo) : w.heap.size ≤ gb781))
                         have GE781 := Aside0.mk ((by rw [hg]; exact (below_size bo) : w.heap.size ≤ gb781))
                         replace HB := Aside0.mk (below_step bo hb)
                         have NB747_781 := Aside0.mk ((by rw [hg]; exact Nat.ne_of_lt (blk_lt (g := gb747) (o := .cells #[.int .i64 a0_0, .slice A0_1 l0_1.length c0_1, .slice A0_2 l0_2.length c0_2, .slice (some ad753) l0_3.length c0_3, .string a0_4] 55 (0, 0)) (bk BK747.out)) : gb747 ≠ gb781))
                         have NB781_747 := Aside0.mk ((by rw [hg]; exact Nat.ne_of_gt (blk_lt (g := gb747) (o := .cells #[.int .i64 a0_0, .slice A0_1 l0_1.length c0_1, .slice A0_2 l0_2.length c0_2, .slice (some ad753) l0_3.length c0_3, .string a0_4] 55 (0, 0)) (bk BK747.out)) : gb781 ≠ gb747))
                         replace BK747 := Aside0.mk (blk_below (g := gb747) (o := .cells #[.int .i64 a0_0, .slice A0_1 l0_1.length c0_1, .slice A0_2 l0_2.length c0_2, .slice (some ad753) l0_3.length c0_3, .string a0_4] 55 (0, 0)) (bk BK747.out) hb)
                         have NB762_781 := Aside0.mk ((by rw [hg]; exact Nat.ne_of_lt (blk_lt (g := gb762) (o := .cells #[.int .i64 t754, .int .i64 t755, .string t756, .string t757, .int .i64 t758, .bool t759] 25 (0, 0)) (bk BK762.out)) : gb762 ≠ gb781))
                         have NB781_762 := Aside0.mk ((by rw [hg]; exact Nat.ne_of_gt (blk_lt (g := gb762) (o := .cells #[.int .i64 t754, .int .i64 t755, .string t756, .string t757, .int .i64 t758, .bool t759] 25 (0, 0)) (bk BK762.out)) : gb781 ≠ gb762))
                         replace BK762 := Aside0.mk (blk_below (g := gb762) (o := .cells #[.int .i64 t754, .int .i64 t755, .string t756, .string t757, .int .i64 t758, .bool t759] 25 (0, 0)) (bk BK762.out) hb)
                         clear hb hbox hg
                         refine hK.out _ _ ⟨(blk_cell BK747.out 0).trans rfl, (blk_cell BK747.out 1).trans rfl, (blk_cell BK747.out 2).trans rfl, (blk_cell BK747.out 3).trans rfl, (blk_cell BK747.out 4).trans rfl, ((HB.out.cell (World.block_lt_of_cell? w _ hw772_0)).trans hw772_0)⟩ (fun hHeld => ?_)
                         clear hK K
                         refine norm_ (a' := ?_) ?_ ?_
                         rotate_left
                         ·show Act.put _ (some 9) _ = _
                          simp only [Act.put, List.setIfInBounds_toArray, List.set_cons_zero, List.set_cons_succ, i64_w, i32_w]
                          rfl
                         exact norm_ (by first | (simp only [putAll, Act.put, List.setIfInBounds_toArray, List.set_cons_zero, List.set_cons_succ]; done) | (simp only [putAll, Act.put, List.setIfInBounds_toArray, List.set_cons_zero, List.set_cons_succ]; rfl)) (hJ3_17 (v764, gb781) _ ⟨hHeld, (rk HO765.out), (rk HO_4.out), (bk BK747.out), (bk BK762.out), (bk BK781.out), GW781.out, GE781.out, NB747_781.out, NB781_747.out, NB762_781.out, NB781_762.out, bo⟩)
                      ·skip
                       rintro ⟨v767, gb781⟩ w47 ⟨hS_, h0_, h1_, h2_, h3_, h4_, h5_, h6_, h7_, h8_, h9_, h10_, h11_⟩
                       have n0_ : Aside0 (Kd.R k77 77 w47 w.heap.size (fun k_ => some k_ ≠ (.slice Ao31 x4_8.length co31 : Value).ownBlock) v767 y766) := ⟨h0_⟩
                       have n1_ : Aside0 (Kd.R k77 77 w47 w.heap.size (fun k_ => some k_ ≠ (v767 : Value).ownBlock) (.slice Ao31 x4_8.length co31) x4_8) := ⟨h1_⟩
                       have n2_ : Aside0 (w47.heap[gb747]? = some (.cells #[.int .i64 a0_0, .slice A0_1 l0_1.length c0_1, .slice A0_2 l0_2.length c0_2, .slice (some ad753) l0_3.length c0_3, .string a0_4] 55 (0, 0))) := ⟨h2_⟩
                       have n3_ : Aside0 (w47.heap[gb762]? = some (.cells #[.int .i64 t754, .int .i64 t755, .string t756, .string t757, .int .i64 t758, .bool t759] 25 (0, 0))) := ⟨h3_⟩
                       have n4_ : Aside0 (w47.heap[gb781]? = some (.cells #[.int .i64 0, .int .i64 0, .string (⟨#[]⟩ : ByteArray), .string (⟨#[]⟩ : ByteArray), .int .i64 0, .bool false] 25 (0, 0))) := ⟨h4_⟩
                       have n5_ : Aside0 (w.heap.size ≤ gb781) := ⟨h5_⟩
                       have n6_ : Aside0 (w.heap.size ≤ gb781) := ⟨h6_⟩
                       have n7_ : Aside0 (gb747 ≠ gb781) := ⟨h7_⟩
                       have n8_ : Aside0 (gb781 ≠ gb747) := ⟨h8_⟩
                       have n9_ : Aside0 (gb762 ≠ gb781) := ⟨h9_⟩
                       have n10_ : Aside0 (gb781 ≠ gb762) := ⟨h10_⟩
                       have n11_ : Aside0 (Below w.heap.size w w47) := ⟨h11_⟩
                       clear HO_4
                       clear BK747
                       clear BK762
                       clear HB
                       clear h0_ h1_ h2_ h3_ h4_ h5_ h6_ h7_ h8_ h9_ h10_ h11_
                       have HO768 := n0_
                       have HO_4 := n1_
                       have BK747 := n2_
                       have BK762 := n3_
                       have BK781 := n4_
                       have GW781 := n5_
                       have GE781 := n6_
                       have NB747_781 := n7_
                       have NB781_747 := n8_
                       have NB762_781 := n9_
                       have NB781_762 := n10_
                       have HB := n11_
                       clear n0_ n1_ n2_ n3_ n4_ n5_ n6_ n7_ n8_ n9_ n10_ n11_
                       have hHeld : w47.cell? ⟨gb747, 0, none⟩ = some (.int .i64 a0_0) ∧ w47.cell? ⟨gb747, 1, none⟩ = some (.slice A0_1 l0_1.length c0_1) ∧ w47.cell? ⟨gb747, 2, none⟩ = some (.slice A0_2 l0_2.length c0_2) ∧ w47.cell? ⟨gb747, 3, none⟩ = some (.slice (some ad753) l0_3.length c0_3) ∧ w47.cell? ⟨gb747, 4, none⟩ = some (.string a0_4) ∧ w47.cell? (ad753.add (x5_3).toNat) = some (.int .i64 (rd l0_3 x5_3)) := hS_
                       refine norm_ (a' := ?_) ?_ ?_
                       rotate_left
                       ·simp only [putAll, Act.put, List.setIfInBounds_toArray, List.set_cons_zero, List.set_cons_succ]
                        rfl
                       refine one_ (i := 3) (N := some 52) #[I,I,I,I,I,I,O,I,I,I,I,I,O,O,O,O,O,I,O,O,O] rfl rfl (one_of HT_.out (by kernel_rfl)) (by decide) (fun K hK => ?_)
                       refine goes_ Try.func58 (by kernel_rfl) rfl #[.slice Ao31 x4_8.length co31] (by rfl) rfl rfl aa ?_
                       with_reducible refine (fairwayref0_CopyMarks.calls kj20 _ _ x4_8 t763 _ ?side1 ?side2 A26.out).mono ?_
                       (case side1 => repeat (first | exact (Kd.R_reads' HO_4.out).2.2 | (with_reducible refine Kd.C_alloc ?_ _) | (with_reducible refine Kd.C_drewN ?_ _) | (with_reducible refine Kd.C_drew ?_)))
                       (case side2 => exact (Kd.R_reads' HO_4.out).2.1)
                       rintro e w48 ⟨v764, rfl, ho0, hb⟩
                       refine ⟨_, rfl, ?_⟩
                       have HO765 := Aside0.mk (Kd.R_lower (Kd.R_new' (Kd.R_new' ho0 (Kd.R_lt (rk HO_4.out))) (Kd.R_lt (rk HO768.out))) (below_size bo))
                       replace HO_4 := Aside0.mk (Kd.R_elder' (rk HO_4.out) (Kd.R_base ho0) hb)
                       replace HO768 := Aside0.mk (Kd.R_elder' (rk HO768.out) (Kd.R_base ho0) hb)
                       replace BK747 := Aside0.mk (blk_below (g := gb747) (o := .cells #[.int .i64 a0_0, .slice A0_1 l0_1.length c0_1, .slice A0_2 l0_2.length c0_2, .slice (some ad753) l0_3.length c0_3, .string a0_4] 55 (0, 0)) (bk BK747.out) hb)
                       replace BK762 := Aside0.mk (blk_below (g := gb762) (o := .cells #[.int .i64 t754, .int .i64 t755, .string t756, .string t757, .int .i64 t758, .bool t759] 25 (0, 0)) (bk BK762.out) hb)
                       replace BK781 := Aside0.mk (blk_below (g := gb781) (o := .cells #[.int .i64 0, .int .i64 0, .string (⟨#[]⟩ : ByteArray), .string (⟨#[]⟩ : ByteArray), .int .i64 0, .bool false] 25 (0, 0)) (bk BK781.out) hb)
                       replace HB := Aside0.mk (below_step bo hb)
                       (try clear hb)
                       (try clear hb2)
                       (try clear hk)
                       (try clear hi)
                       (try clear ho0)
                       refine hK.out _ _ ⟨(blk_cell BK747.out 0).trans rfl, (blk_cell BK747.out 1).trans rfl, (blk_cell BK747.out 2).trans rfl, (blk_cell BK747.out 3).trans rfl, (blk_cell BK747.out 4).trans rfl, ((HB.out.cell (World.block_lt_of_cell? w _ hw772_0)).trans hw772_0)⟩ (fun hHeld => ?_)
                       clear hK K
                       refine norm_ (a' := ?_) ?_ ?_
                       rotate_left
                       ·show Act.put _ (some 52) _ = _
                        simp only [Act.put, List.setIfInBounds_toArray, List.set_cons_zero, List.set_cons_succ, i64_w, i32_w]
                        rfl
                       exact norm_ (by first | (simp only [putAll, Act.put, List.setIfInBounds_toArray, List.set_cons_zero, List.set_cons_succ]; done) | (simp only [putAll, Act.put, List.setIfInBounds_toArray, List.set_cons_zero, List.set_cons_succ]; rfl)) (hJ3_5_17 (v764, v767, gb781) _ ⟨hHeld, (by (with_reducible repeat (first | apply Kd.R_alloc | apply Kd.R_drewN | apply Kd.R_drew)); exact Kd.R_mono HO765.out (fun _ hk => ⟨hk.2, hk.1.2⟩)), (by (with_reducible repeat (first | apply Kd.R_alloc | apply Kd.R_drewN | apply Kd.R_drew)); exact Kd.R_mono HO768.out (fun _ hk => ⟨hk.2, hk.1⟩)), (by (with_reducible repeat (first | apply Kd.R_alloc | apply Kd.R_drewN | apply Kd.R_drew)); exact Kd.R_mono HO_4.out (fun _ hk => ⟨hk.2, hk.1⟩)), (bk BK747.out), (bk BK762.out), (bk BK781.out), GW781.out, GE781.out, NB747_781.out, NB781_747.out, NB762_781.out, NB781_762.out, bo⟩)
                     ·skip
                      rintro ⟨v764, gb781⟩ w46 ⟨hS_, h0_, h1_, h2_, h3_, h4_, h5_, h6_, h7_, h8_, h9_, h10_, h11_⟩
                      have n0_ : Aside0 (Kd.R k77 77 w46 w.heap.size (fun k_ => some k_ ≠ (.slice Ao31 x4_8.length co31 : Value).ownBlock) v764 t763) := ⟨h0_⟩
                      have n1_ : Aside0 (Kd.R k77 77 w46 w.heap.size (fun k_ => some k_ ≠ (v764 : Value).ownBlock) (.slice Ao31 x4_8.length co31) x4_8) := ⟨h1_⟩
                      have n2_ : Aside0 (w46.heap[gb747]? = some (.cells #[.int .i64 a0_0, .slice A0_1 l0_1.length c0_1, .slice A0_2 l0_2.length c0_2, .slice (some ad753) l0_3.length c0_3, .string a0_4] 55 (0, 0))) := ⟨h2_⟩
                      have n3_ : Aside0 (w46.heap[gb762]? = some (.cells #[.int .i64 t754, .int .i64 t755, .string t756, .string t757, .int .i64 t758, .bool t759] 25 (0, 0))) := ⟨h3_⟩
                      have n4_ : Aside0 (w46.heap[gb781]? = some (.cells #[.int .i64 0, .int .i64 0, .string (⟨#[]⟩ : ByteArray), .string (⟨#[]⟩ : ByteArray), .int .i64 0, .bool false] 25 (0, 0))) := ⟨h4_⟩
                      have n5_ : Aside0 (w.heap.size ≤ gb781) := ⟨h5_⟩
                      have n6_ : Aside0 (w.heap.size ≤ gb781) := ⟨h6_⟩
                      have n7_ : Aside0 (gb747 ≠ gb781) := ⟨h7_⟩
                      have n8_ : Aside0 (gb781 ≠ gb747) := ⟨h8_⟩
                      have n9_ : Aside0 (gb762 ≠ gb781) := ⟨h9_⟩
                      have n10_ : Aside0 (gb781 ≠ gb762) := ⟨h10_⟩
                      have n11_ : Aside0 (Below w.heap.size w w46) := ⟨h11_⟩
                      clear HO_4
                      clear BK747
                      clear BK762
                      clear HB
                      clear h0_ h1_ h2_ h3_ h4_ h5_ h6_ h7_ h8_ h9_ h10_ h11_
                      have HO765 := n0_
                      have HO_4 := n1_
                      have BK747 := n2_
                      have BK762 := n3_
                      have BK781 := n4_
                      have GW781 := n5_
                      have GE781 := n6_
                      have NB747_781 := n7_
                      have NB781_747 := n8_
                      have NB762_781 := n9_
                      have NB781_762 := n10_
                      have HB := n11_
                      clear n0_ n1_ n2_ n3_ n4_ n5_ n6_ n7_ n8_ n9_ n10_ n11_
                      have hHeld : w46.cell? ⟨gb747, 0, none⟩ = some (.int .i64 a0_0) ∧ w46.cell? ⟨gb747, 1, none⟩ = some (.slice A0_1 l0_1.length c0_1) ∧ w46.cell? ⟨gb747, 2, none⟩ = some (.slice A0_2 l0_2.length c0_2) ∧ w46.cell? ⟨gb747, 3, none⟩ = some (.slice (some ad753) l0_3.length c0_3) ∧ w46.cell? ⟨gb747, 4, none⟩ = some (.string a0_4) ∧ w46.cell? (ad753.add (x5_3).toNat) = some (.int .i64 (rd l0_3 x5_3)) := hS_
                      refine norm_ (a' := ?_) ?_ ?_
                      rotate_left
                      ·simp only [putAll, Act.put, List.setIfInBounds_toArray, List.set_cons_zero, List.set_cons_succ]
                       rfl
                      refine one_ (i := 5) (N := some 54) #[I,I,I,I,I,I,O,I,I,I,I,I,O,O,O,O,O,I,O,O,O] rfl rfl (one_of HT_.out (by kernel_rfl)) (by decide) (fun K hK => ?_)
                      refine Kd.R_lit_step k77 _ 77 ?hg (N := 54) ?hd (xs := ([(⟨(-1), 0⟩ : S77)] : List (S77))) (inner := [.int .i64 (-1), .int .i64 0]) (ok := fun _ => True) (okp := fun _ => True) ?hr ?hp (fun _ hk => hk) trivial (Below.refl _ _) (Nat.le_refl _) (by simp) ?_; (case hd => rfl); (case hg => rfl); (case hr => first | (go_simp; done) | (go_simp; rfl)); (case hp => exact (Reps.c2 (show Kd.M k77 _ _ _ (⟨(-1), 0⟩ : S77) [.int .i64 (-1), .int .i64 0] from (k77_mkM _ _ _ (⟨(-1), 0⟩ : S77) )) (Reps.none _ _)))
                      intro v767 w47 ho48 hb hg_ hnew_
                      clear hg_ hnew_
                      (first | rw [← Ny766.out] at ho48 | (simp only [Int.reduceToNat] at ho48; rw [← Ny766.out] at ho48))
                      have HO768 := Aside0.mk (Kd.R_lower (Kd.R_new' (Kd.R_new' ho48 (Kd.R_lt (rk HO_4.out))) (Kd.R_lt (rk HO765.out))) (below_size bo))
                      replace HO_4 := Aside0.mk (Kd.R_elder' (rk HO_4.out) (Kd.R_base ho48) hb)
                      replace HO765 := Aside0.mk (Kd.R_elder' (rk HO765.out) (Kd.R_base ho48) hb)
                      replace BK747 := Aside0.mk (blk_below (g := gb747) (o := .cells #[.int .i64 a0_0, .slice A0_1 l0_1.length c0_1, .slice A0_2 l0_2.length c0_2, .slice (some ad753) l0_3.length c0_3, .string a0_4] 55 (0, 0)) (bk BK747.out) hb)
                      replace BK762 := Aside0.mk (blk_below (g := gb762) (o := .cells #[.int .i64 t754, .int .i64 t755, .string t756, .string t757, .int .i64 t758, .bool t759] 25 (0, 0)) (bk BK762.out) hb)
                      replace BK781 := Aside0.mk (blk_below (g := gb781) (o := .cells #[.int .i64 0, .int .i64 0, .string (⟨#[]⟩ : ByteArray), .string (⟨#[]⟩ : ByteArray), .int .i64 0, .bool false] 25 (0, 0)) (bk BK781.out) hb)
                      replace HB := Aside0.mk (below_step bo hb)
                      clear hb ho48
                      refine hK.out _ _ ⟨(blk_cell BK747.out 0).trans rfl, (blk_cell BK747.out 1).trans rfl, (blk_cell BK747.out 2).trans rfl, (blk_cell BK747.out 3).trans rfl, (blk_cell BK747.out 4).trans rfl, ((HB.out.cell (World.block_lt_of_cell? w _ hw772_0)).trans hw772_0)⟩ (fun hHeld => ?_)
                      clear hK K
                      refine norm_ (a' := ?_) ?_ ?_
                      rotate_left
                      ·show Act.put _ (some 54) _ = _
                       simp only [Act.put, List.setIfInBounds_toArray, List.set_cons_zero, List.set_cons_succ, i64_w, i32_w]
                       rfl
                      exact norm_ (by first | (simp only [putAll, Act.put, List.setIfInBounds_toArray, List.set_cons_zero, List.set_cons_succ]; done) | (simp only [putAll, Act.put, List.setIfInBounds_toArray, List.set_cons_zero, List.set_cons_succ]; rfl)) (hJ3_5_17 (v764, v767, gb781) _ ⟨hHeld, (by (with_reducible repeat (first | apply Kd.R_alloc | apply Kd.R_drewN | apply Kd.R_drew)); exact Kd.R_mono HO765.out (fun _ hk => ⟨hk.2, hk.1⟩)), (by (with_reducible repeat (first | apply Kd.R_alloc | apply Kd.R_drewN | apply Kd.R_drew)); exact Kd.R_mono HO768.out (fun _ hk => ⟨hk.2, hk.1.2⟩)), (rk HO_4.out), (bk BK747.out), (bk BK762.out), (bk BK781.out), GW781.out, GE781.out, NB747_781.out, NB781_747.out, NB762_781.out, NB781_762.out, bo⟩)
                    ·skip
                     rintro ⟨v764, v767⟩ w47 ⟨hS_, h0_, h1_, h2_, h3_, h4_, h5_⟩
                     have n0_ : Aside0 (Kd.R k77 77 w47 w.heap.size (fun k_ => some k_ ≠ (v767 : Value).ownBlock ∧ some k_ ≠ (.slice Ao31 x4_8.length co31 : Value).ownBlock) v764 t763) := ⟨h0_⟩
                     have n1_ : Aside0 (Kd.R k77 77 w47 w.heap.size (fun k_ => some k_ ≠ (v764 : Value).ownBlock ∧ some k_ ≠ (.slice Ao31 x4_8.length co31 : Value).ownBlock) v767 y766) := ⟨h1_⟩
                     have n2_ : Aside0 (Kd.R k77 77 w47 w.heap.size (fun k_ => some k_ ≠ (v764 : Value).ownBlock ∧ some k_ ≠ (v767 : Value).ownBlock) (.slice Ao31 x4_8.length co31) x4_8) := ⟨h2_⟩
                     have n3_ : Aside0 (w47.heap[gb747]? = some (.cells #[.int .i64 a0_0, .slice A0_1 l0_1.length c0_1, .slice A0_2 l0_2.length c0_2, .slice (some ad753) l0_3.length c0_3, .string a0_4] 55 (0, 0))) := ⟨h3_⟩
                     have n4_ : Aside0 (w47.heap[gb762]? = some (.cells #[.int .i64 t754, .int .i64 t755, .string t756, .string t757, .int .i64 t758, .bool t759] 25 (0, 0))) := ⟨h4_⟩
                     have n5_ : Aside0 (Below w.heap.size w w47) := ⟨h5_⟩
                     clear HO_4
                     clear BK747
                     clear BK762
                     clear HB
                     clear h0_ h1_ h2_ h3_ h4_ h5_
                     have HO765 := n0_
                     have HO768 := n1_
                     have HO_4 := n2_
                     have BK747 := n3_
                     have BK762 := n4_
                     have HB := n5_
                     clear n0_ n1_ n2_ n3_ n4_ n5_
                     have hHeld : w47.cell? ⟨gb747, 0, none⟩ = some (.int .i64 a0_0) ∧ w47.cell? ⟨gb747, 1, none⟩ = some (.slice A0_1 l0_1.length c0_1) ∧ w47.cell? ⟨gb747, 2, none⟩ = some (.slice A0_2 l0_2.length c0_2) ∧ w47.cell? ⟨gb747, 3, none⟩ = some (.slice (some ad753) l0_3.length c0_3) ∧ w47.cell? ⟨gb747, 4, none⟩ = some (.string a0_4) ∧ w47.cell? (ad753.add (x5_3).toNat) = some (.int .i64 (rd l0_3 x5_3)) := hS_
                     obtain ⟨Ao49, co49, eo49⟩ := Kd.R_slice HO768.out
                     (first | subst eo49 | (injection eo49 with f1_ f2_ f3_; have f4_ := f1_.symm; have f5_ := f3_.symm; clear f1_ f2_ f3_; subst f4_; subst f5_))
                     refine norm_ (a' := ?_) ?_ ?_
                     rotate_left
                     ·simp only [putAll, Act.put, List.setIfInBounds_toArray, List.set_cons_zero, List.set_cons_succ]
                      rfl
                     refine two_ (i := 6) (j := 17) (Ni := some 55) (Nj := some 9) #[I,I,I,I,I,I,I,I,I,I,I,I,O,O,O,O,O,O,O,O,O] #[I,I,I,I,I,I,O,I,I,I,I,I,O,O,O,O,O,I,O,O,O] rfl rfl rfl rfl (two_of HT_.out (by kernel_rfl)) (by decide) (by decide) (fun K hK => ?_) (fun K hK => ?_)
                     ·skip
                      refine Kd.R_append_rows_step k77 (w0 := w) w.heap.size (by rfl) (.tmp 52) (.tmp 54) 75 77 (.agg #[(.int .i64 0), (.int .i64 0)]) 16 rfl Try.underlying75 info77 rfl (by decide) (by omega) v764 t763 y766 _ _ _ (fun k_ => some k_ ≠ (.slice Ao31 x4_8.length co31 : Value).ownBlock ∧ some k_ ≠ (.slice Ao49 y766.length co49 : Value).ownBlock) (fun _ => False) rfl rfl ?aO ?aR (fun _ _ h => h) (fun _ h => h.elim) ?aF ?aB ?aS ?aL ?_
                      (case aR => repeat (first | exact (Kd.R_reads' HO768.out).2.2 | (with_reducible refine Kd.C_alloc ?_ _) | (with_reducible refine Kd.C_drewN ?_ _) | (with_reducible refine Kd.C_drew ?_)))
                      (case aB => exact bo)
                      (case aF => exact (fun k_ hk => ⟨Kd.fresh' (Kd.R_lt (rk HO_4.out)) k_ hk, Kd.fresh' (Kd.R_lt (rk HO768.out)) k_ hk⟩))
                      (case aO => exact (by (with_reducible repeat (first | apply Kd.R_alloc | apply Kd.R_drewN | apply Kd.R_drew)); exact Kd.R_mono HO765.out (fun _ hk => ⟨hk.2, hk.1⟩)))
                      (case aS => exact (below_size bo))
                      (case aL => have := LMc27.out; omega)
                      intro v770 w48 ho hb hg hat
                      rw [← Ny769.out] at ho
                      have n0_ := Aside0.mk (Kd.R_after (ok := (fun k_ => some k_ ≠ (.slice Ao49 y766.length co49 : Value).ownBlock)) (by (with_reducible repeat (first | apply Kd.R_alloc | apply Kd.R_drewN | apply Kd.R_drew)); exact Kd.R_mono HO_4.out (fun _ hk => ⟨hk.2, hk.1⟩)) hg hat)
                      have n1_ := Aside0.mk (blk_grown (g := gb747) (o := .cells #[.int .i64 a0_0, .slice A0_1 l0_1.length c0_1, .slice A0_2 l0_2.length c0_2, .slice (some ad753) l0_3.length c0_3, .string a0_4] 55 (0, 0)) (bk BK747.out) hg (Kd.R_ne HO765.out BK747.out (by decide)))
                      have n2_ := Aside0.mk (blk_grown (g := gb762) (o := .cells #[.int .i64 t754, .int .i64 t755, .string t756, .string t757, .int .i64 t758, .bool t759] 25 (0, 0)) (bk BK762.out) hg (Kd.R_ne HO765.out BK762.out (by decide)))
                      have n3_ := Aside0.mk (Kd.R_after (ok := (fun k_ => some k_ ≠ (.slice Ao31 x4_8.length co31 : Value).ownBlock)) (by (with_reducible repeat (first | apply Kd.R_alloc | apply Kd.R_drewN | apply Kd.R_drew)); exact Kd.R_mono HO768.out (fun _ hk => ⟨hk.2, hk.1⟩)) hg hat)
                      have n4_ := Aside0.mk (hb)
                      have n5_ := Aside0.mk (ho)
                      clear HO_4
                      clear BK747
                      clear BK762
                      clear HO768
                      clear HB
                      clear HO765
                      have HO_4 := n0_
                      have BK747 := n1_
                      have BK762 := n2_
                      have HO768 := n3_
                      have HB := n4_
                      have HO771 := n5_
                      clear n0_ n1_ n2_ n3_ n4_ n5_
                      clear ho hb hg hat
                      refine hK.out _ _ ⟨(blk_cell BK747.out 0).trans rfl, (blk_cell BK747.out 1).trans rfl, (blk_cell BK747.out 2).trans rfl, (blk_cell BK747.out 3).trans rfl, (blk_cell BK747.out 4).trans rfl, ((HB.out.cell (World.block_lt_of_cell? w _ hw772_0)).trans hw772_0)⟩ (fun hHeld => ?_)
                      clear hK K
                      refine norm_ (a' := ?_) ?_ ?_
                      rotate_left
                      ·show Act.put _ (some 55) _ = _
                       simp only [Act.put, List.setIfInBounds_toArray, List.set_cons_zero, List.set_cons_succ, i64_w, i32_w]
                       rfl
                      exact norm_ (by first | (simp only [putAll, Act.put, List.setIfInBounds_toArray, List.set_cons_zero, List.set_cons_succ]; done) | (simp only [putAll, Act.put, List.setIfInBounds_toArray, List.set_cons_zero, List.set_cons_succ]; rfl)) (hJ3_5_6 (v764, .slice Ao49 y766.length co49, v770) _ ⟨hHeld, (by (with_reducible repeat (first | apply Kd.R_alloc | apply Kd.R_drewN | apply Kd.R_drew)); exact Kd.R_mono HO768.out (fun _ hk => ⟨hk.2, hk.1⟩)), (by (with_reducible repeat (first | apply Kd.R_alloc | apply Kd.R_drewN | apply Kd.R_drew)); exact Kd.R_mono HO771.out (fun _ hk => ⟨hk.2, hk.1⟩)), (rk HO_4.out), (bk BK747.out), (bk BK762.out), bo⟩)
                     ·skip
                      refine box_step ?hg (N := 9) ?hd (cs := #[.int .i64 0, .int .i64 0, .string (⟨#[]⟩ : ByteArray), .string (⟨#[]⟩ : ByteArray), .int .i64 0, .bool false]) (t := 25) ?hr ?_; (case hd => rfl); (case hg => rfl); (case hr => first | (go_simp; done) | (go_simp; rfl))
                      intro gb781 hg w48 hbox hb
                      replace HO_4 := Aside0.mk (Kd.R_below (rk HO_4.out) hb)
                      replace HO765 := Aside0.mk (Kd.R_below (rk HO765.out) hb)
                      replace HO768 := Aside0.mk (Kd.R_below (rk HO768.out) hb)
                      have BK781 := Aside0.mk (hbox)
                      have GW781 := Aside0.mk ((by rw [hg]; exact (below_size bo) : w.heap.size ≤ gb781))
                      have GE781 := Aside0.mk ((by rw [hg]; exact (below_size bo) : w.heap.size ≤ gb781))
                      replace HB := Aside0.mk (below_step bo hb)
                      have NB747_781 := Aside0.mk ((by rw [hg]; exact Nat.ne_of_lt (blk_lt (g := gb747) (o := .cells #[.int .i64 a0_0, .slice A0_1 l0_1.length c0_1, .slice A0_2 l0_2.length c0_2, .slice (some ad753) l0_3.length c0_3, .string a0_4] 55 (0, 0)) (bk BK747.out)) : gb747 ≠ gb781))
                      have NB781_747 := Aside0.mk ((by rw [hg]; exact Nat.ne_of_gt (blk_lt (g := gb747) (o := .cells #[.int .i64 a0_0, .slice A0_1 l0_1.length c0_1, .slice A0_2 l0_2.length c0_2, .slice (some ad753) l0_3.length c0_3, .string a0_4] 55 (0, 0)) (bk BK747.out)) : gb781 ≠ gb747))
                      replace BK747 := Aside0.mk (blk_below (g := gb747) (o := .cells #[.int .i64 a0_0, .slice A0_1 l0_1.length c0_1, .slice A0_2 l0_2.length c0_2, .slice (some ad753) l0_3.length c0_3, .string a0_4] 55 (0, 0)) (bk BK747.out) hb)
                      have NB762_781 := Aside0.mk ((by rw [hg]; exact Nat.ne_of_lt (blk_lt (g := gb762) (o := .cells #[.int .i64 t754, .int .i64 t755, .string t756, .string t757, .int .i64 t758, .bool t759] 25 (0, 0)) (bk BK762.out)) : gb762 ≠ gb781))
                      have NB781_762 := Aside0.mk ((by rw [hg]; exact Nat.ne_of_gt (blk_lt (g := gb762) (o := .cells #[.int .i64 t754, .int .i64 t755, .string t756, .string t757, .int .i64 t758, .bool t759] 25 (0, 0)) (bk BK762.out)) : gb781 ≠ gb762))
                      replace BK762 := Aside0.mk (blk_below (g := gb762) (o := .cells #[.int .i64 t754, .int .i64 t755, .string t756, .string t757, .int .i64 t758, .bool t759] 25 (0, 0)) (bk BK762.out) hb)
                      clear hb hbox hg
                      refine hK.out _ _ ⟨(blk_cell BK747.out 0).trans rfl, (blk_cell BK747.out 1).trans rfl, (blk_cell BK747.out 2).trans rfl, (blk_cell BK747.out 3).trans rfl, (blk_cell BK747.out 4).trans rfl, ((HB.out.cell (World.block_lt_of_cell? w _ hw772_0)).trans hw772_0)⟩ (fun hHeld => ?_)
                      clear hK K
                      refine norm_ (a' := ?_) ?_ ?_
                      rotate_left
                      ·show Act.put _ (some 9) _ = _
                       simp only [Act.put, List.setIfInBounds_toArray, List.set_cons_zero, List.set_cons_succ, i64_w, i32_w]
                       rfl
                      exact norm_ (by first | (simp only [putAll, Act.put, List.setIfInBounds_toArray, List.set_cons_zero, List.set_cons_succ]; done) | (simp only [putAll, Act.put, List.setIfInBounds_toArray, List.set_cons_zero, List.set_cons_succ]; rfl)) (hJ3_5_17 (v764, .slice Ao49 y766.length co49, gb781) _ ⟨hHeld, (rk HO765.out), (rk HO768.out), (rk HO_4.out), (bk BK747.out), (bk BK762.out), (bk BK781.out), GW781.out, GE781.out, NB747_781.out, NB781_747.out, NB762_781.out, NB781_762.out, bo⟩)
                   ·skip
                    rintro ⟨v764, v767, gb781⟩ w48 ⟨hS_, h0_, h1_, h2_, h3_, h4_, h5_, h6_, h7_, h8_, h9_, h10_, h11_, h12_⟩
                    have n0_ : Aside0 (Kd.R k77 77 w48 w.heap.size (fun k_ => some k_ ≠ (v767 : Value).ownBlock ∧ some k_ ≠ (.slice Ao31 x4_8.length co31 : Value).ownBlock) v764 t763) := ⟨h0_⟩
                    have n1_ : Aside0 (Kd.R k77 77 w48 w.heap.size (fun k_ => some k_ ≠ (v764 : Value).ownBlock ∧ some k_ ≠ (.slice Ao31 x4_8.length co31 : Value).ownBlock) v767 y766) := ⟨h1_⟩
                    have n2_ : Aside0 (Kd.R k77 77 w48 w.heap.size (fun k_ => some k_ ≠ (v764 : Value).ownBlock ∧ some k_ ≠ (v767 : Value).ownBlock) (.slice Ao31 x4_8.length co31) x4_8) := ⟨h2_⟩
                    have n3_ : Aside0 (w48.heap[gb747]? = some (.cells #[.int .i64 a0_0, .slice A0_1 l0_1.length c0_1, .slice A0_2 l0_2.length c0_2, .slice (some ad753) l0_3.length c0_3, .string a0_4] 55 (0, 0))) := ⟨h3_⟩
                    have n4_ : Aside0 (w48.heap[gb762]? = some (.cells #[.int .i64 t754, .int .i64 t755, .string t756, .string t757, .int .i64 t758, .bool t759] 25 (0, 0))) := ⟨h4_⟩
                    have n5_ : Aside0 (w48.heap[gb781]? = some (.cells #[.int .i64 0, .int .i64 0, .string (⟨#[]⟩ : ByteArray), .string (⟨#[]⟩ : ByteArray), .int .i64 0, .bool false] 25 (0, 0))) := ⟨h5_⟩
                    have n6_ : Aside0 (w.heap.size ≤ gb781) := ⟨h6_⟩
                    have n7_ : Aside0 (w.heap.size ≤ gb781) := ⟨h7_⟩
                    have n8_ : Aside0 (gb747 ≠ gb781) := ⟨h8_⟩
                    have n9_ : Aside0 (gb781 ≠ gb747) := ⟨h9_⟩
                    have n10_ : Aside0 (gb762 ≠ gb781) := ⟨h10_⟩
                    have n11_ : Aside0 (gb781 ≠ gb762) := ⟨h11_⟩
                    have n12_ : Aside0 (Below w.heap.size w w48) := ⟨h12_⟩
                    clear HO_4
                    clear BK747
                    clear BK762
                    clear HB
                    clear h0_ h1_ h2_ h3_ h4_ h5_ h6_ h7_ h8_ h9_ h10_ h11_ h12_
                    have HO765 := n0_
                    have HO768 := n1_
                    have HO_4 := n2_
                    have BK747 := n3_
                    have BK762 := n4_
                    have BK781 := n5_
                    have GW781 := n6_
                    have GE781 := n7_
                    have NB747_781 := n8_
                    have NB781_747 := n9_
                    have NB762_781 := n10_
                    have NB781_762 := n11_
                    have HB := n12_
                    clear n0_ n1_ n2_ n3_ n4_ n5_ n6_ n7_ n8_ n9_ n10_ n11_ n12_
                    have hHeld : w48.cell? ⟨gb747, 0, none⟩ = some (.int .i64 a0_0) ∧ w48.cell? ⟨gb747, 1, none⟩ = some (.slice A0_1 l0_1.length c0_1) ∧ w48.cell? ⟨gb747, 2, none⟩ = some (.slice A0_2 l0_2.length c0_2) ∧ w48.cell? ⟨gb747, 3, none⟩ = some (.slice (some ad753) l0_3.length c0_3) ∧ w48.cell? ⟨gb747, 4, none⟩ = some (.string a0_4) ∧ w48.cell? (ad753.add (x5_3).toNat) = some (.int .i64 (rd l0_3 x5_3)) := hS_
                    obtain ⟨Ao50, co50, eo50⟩ := Kd.R_slice HO768.out
                    (first | subst eo50 | (injection eo50 with f1_ f2_ f3_; have f4_ := f1_.symm; have f5_ := f3_.symm; clear f1_ f2_ f3_; subst f4_; subst f5_))
                    refine norm_ (a' := ?_) ?_ ?_
                    rotate_left
                    ·simp only [putAll, Act.put, List.setIfInBounds_toArray, List.set_cons_zero, List.set_cons_succ]
                     rfl
                    refine one_ (i := 6) (N := some 55) #[I,I,I,I,I,I,I,I,I,I,I,I,O,O,O,O,O,I,O,O,O] rfl rfl (one_of HT_.out (by kernel_rfl)) (by decide) (fun K hK => ?_)
                    refine Kd.R_append_rows_step k77 (w0 := w) w.heap.size (by rfl) (.tmp 52) (.tmp 54) 75 77 (.agg #[(.int .i64 0), (.int .i64 0)]) 16 rfl Try.underlying75 info77 rfl (by decide) (by omega) v764 t763 y766 _ _ _ (fun k_ => some k_ ≠ (.slice Ao31 x4_8.length co31 : Value).ownBlock ∧ some k_ ≠ (.slice Ao50 y766.length co50 : Value).ownBlock) (fun _ => False) rfl rfl ?aO ?aR (fun _ _ h => h) (fun _ h => h.elim) ?aF ?aB ?aS ?aL ?_
                    (case aR => repeat (first | exact (Kd.R_reads' HO768.out).2.2 | (with_reducible refine Kd.C_alloc ?_ _) | (with_reducible refine Kd.C_drewN ?_ _) | (with_reducible refine Kd.C_drew ?_)))
                    (case aB => exact bo)
                    (case aF => exact (fun k_ hk => ⟨Kd.fresh' (Kd.R_lt (rk HO_4.out)) k_ hk, Kd.fresh' (Kd.R_lt (rk HO768.out)) k_ hk⟩))
                    (case aO => exact (by (with_reducible repeat (first | apply Kd.R_alloc | apply Kd.R_drewN | apply Kd.R_drew)); exact Kd.R_mono HO765.out (fun _ hk => ⟨hk.2, hk.1⟩)))
                    (case aS => exact (below_size bo))
                    (case aL => have := LMc27.out; omega)
                    intro v770 w49 ho hb hg hat
                    rw [← Ny769.out] at ho
                    have n0_ := Aside0.mk (Kd.R_after (ok := (fun k_ => some k_ ≠ (.slice Ao50 y766.length co50 : Value).ownBlock)) (by (with_reducible repeat (first | apply Kd.R_alloc | apply Kd.R_drewN | apply Kd.R_drew)); exact Kd.R_mono HO_4.out (fun _ hk => ⟨hk.2, hk.1⟩)) hg hat)
                    have n1_ := Aside0.mk (blk_grown (g := gb747) (o := .cells #[.int .i64 a0_0, .slice A0_1 l0_1.length c0_1, .slice A0_2 l0_2.length c0_2, .slice (some ad753) l0_3.length c0_3, .string a0_4] 55 (0, 0)) (bk BK747.out) hg (Kd.R_ne HO765.out BK747.out (by decide)))
                    have n2_ := Aside0.mk (blk_grown (g := gb762) (o := .cells #[.int .i64 t754, .int .i64 t755, .string t756, .string t757, .int .i64 t758, .bool t759] 25 (0, 0)) (bk BK762.out) hg (Kd.R_ne HO765.out BK762.out (by decide)))
                    have n3_ := Aside0.mk (Kd.R_after (ok := (fun k_ => some k_ ≠ (.slice Ao31 x4_8.length co31 : Value).ownBlock)) (by (with_reducible repeat (first | apply Kd.R_alloc | apply Kd.R_drewN | apply Kd.R_drew)); exact Kd.R_mono HO768.out (fun _ hk => ⟨hk.2, hk.1⟩)) hg hat)
                    have n4_ := Aside0.mk (blk_grown (g := gb781) (o := .cells #[.int .i64 0, .int .i64 0, .string (⟨#[]⟩ : ByteArray), .string (⟨#[]⟩ : ByteArray), .int .i64 0, .bool false] 25 (0, 0)) (bk BK781.out) hg (Kd.R_ne HO765.out BK781.out (by decide)))
                    have n5_ := Aside0.mk (hb)
                    have n6_ := Aside0.mk (ho)
                    clear HO_4
                    clear BK747
                    clear BK762
                    clear HO768
                    clear BK781
                    clear HB
                    clear HO765
                    have HO_4 := n0_
                    have BK747 := n1_
                    have BK762 := n2_
                    have HO768 := n3_
                    have BK781 := n4_
                    have HB := n5_
                    have HO771 := n6_
                    clear n0_ n1_ n2_ n3_ n4_ n5_ n6_
                    clear ho hb hg hat
                    refine hK.out _ _ ⟨(blk_cell BK747.out 0).trans rfl, (blk_cell BK747.out 1).trans rfl, (blk_cell BK747.out 2).trans rfl, (blk_cell BK747.out 3).trans rfl, (blk_cell BK747.out 4).trans rfl, ((HB.out.cell (World.block_lt_of_cell? w _ hw772_0)).trans hw772_0)⟩ (fun hHeld => ?_)
                    clear hK K
                    refine norm_ (a' := ?_) ?_ ?_
                    rotate_left
                    ·show Act.put _ (some 55) _ = _
                     simp only [Act.put, List.setIfInBounds_toArray, List.set_cons_zero, List.set_cons_succ, i64_w, i32_w]
                     rfl
                    exact norm_ (by first | (simp only [putAll, Act.put, List.setIfInBounds_toArray, List.set_cons_zero, List.set_cons_succ]; done) | (simp only [putAll, Act.put, List.setIfInBounds_toArray, List.set_cons_zero, List.set_cons_succ]; rfl)) (hJ3_5_6_17 (v764, .slice Ao50 y766.length co50, v770, gb781) _ ⟨hHeld, (by (with_reducible repeat (first | apply Kd.R_alloc | apply Kd.R_drewN | apply Kd.R_drew)); exact Kd.R_mono HO768.out (fun _ hk => ⟨hk.2, hk.1⟩)), (by (with_reducible repeat (first | apply Kd.R_alloc | apply Kd.R_drewN | apply Kd.R_drew)); exact Kd.R_mono HO771.out (fun _ hk => ⟨hk.2, hk.1⟩)), (rk HO_4.out), (bk BK747.out), (bk BK762.out), (bk BK781.out), GW781.out, GE781.out, NB747_781.out, NB781_747.out, NB762_781.out, NB781_762.out, bo⟩)
                  ·skip
                   rintro ⟨v764, v767, v770⟩ w49 ⟨hS_, h0_, h1_, h2_, h3_, h4_, h5_⟩
                   have n0_ : Aside0 (Kd.R k77 77 w49 w.heap.size (fun k_ => some k_ ≠ (v770 : Value).ownBlock ∧ some k_ ≠ (.slice Ao31 x4_8.length co31 : Value).ownBlock) v767 y766) := ⟨h0_⟩
                   have n1_ : Aside0 (Kd.R k77 77 w49 w.heap.size (fun k_ => some k_ ≠ (v767 : Value).ownBlock ∧ some k_ ≠ (.slice Ao31 x4_8.length co31 : Value).ownBlock) v770 y769) := ⟨h1_⟩
                   have n2_ : Aside0 (Kd.R k77 77 w49 w.heap.size (fun k_ => some k_ ≠ (v767 : Value).ownBlock ∧ some k_ ≠ (v770 : Value).ownBlock) (.slice Ao31 x4_8.length co31) x4_8) := ⟨h2_⟩
                   have n3_ : Aside0 (w49.heap[gb747]? = some (.cells #[.int .i64 a0_0, .slice A0_1 l0_1.length c0_1, .slice A0_2 l0_2.length c0_2, .slice (some ad753) l0_3.length c0_3, .string a0_4] 55 (0, 0))) := ⟨h3_⟩
                   have n4_ : Aside0 (w49.heap[gb762]? = some (.cells #[.int .i64 t754, .int .i64 t755, .string t756, .string t757, .int .i64 t758, .bool t759] 25 (0, 0))) := ⟨h4_⟩
                   have n5_ : Aside0 (Below w.heap.size w w49) := ⟨h5_⟩
                   clear HO_4
                   clear BK747
                   clear BK762
                   clear HB
                   clear h0_ h1_ h2_ h3_ h4_ h5_
                   have HO768 := n0_
                   have HO771 := n1_
                   have HO_4 := n2_
                   have BK747 := n3_
                   have BK762 := n4_
                   have HB := n5_
                   clear n0_ n1_ n2_ n3_ n4_ n5_
                   have hHeld : w49.cell? ⟨gb747, 0, none⟩ = some (.int .i64 a0_0) ∧ w49.cell? ⟨gb747, 1, none⟩ = some (.slice A0_1 l0_1.length c0_1) ∧ w49.cell? ⟨gb747, 2, none⟩ = some (.slice A0_2 l0_2.length c0_2) ∧ w49.cell? ⟨gb747, 3, none⟩ = some (.slice (some ad753) l0_3.length c0_3) ∧ w49.cell? ⟨gb747, 4, none⟩ = some (.string a0_4) ∧ w49.cell? (ad753.add (x5_3).toNat) = some (.int .i64 (rd l0_3 x5_3)) := hS_
                   obtain ⟨Ao50, co50, eo50⟩ := Kd.R_slice HO771.out
                   (first | subst eo50 | (injection eo50 with f1_ f2_ f3_; have f4_ := f1_.symm; have f5_ := f3_.symm; clear f1_ f2_ f3_; subst f4_; subst f5_))
                   refine norm_ (a' := ?_) ?_ ?_
                   rotate_left
                   ·simp only [putAll, Act.put, List.setIfInBounds_toArray, List.set_cons_zero, List.set_cons_succ]
                    rfl
                   refine two_ (i := 12) (j := 17) (Ni := some 61) (Nj := some 9) #[I,I,I,I,I,I,I,I,I,I,I,I,I,O,O,O,O,O,O,O,O] #[I,I,I,I,I,I,I,I,I,I,I,I,O,O,O,O,O,I,O,O,O] rfl rfl rfl rfl (two_of HT_.out (by kernel_rfl)) (by decide) (by decide) (fun K hK => ?_) (fun K hK => ?_)
                   ·skip
                    refine goes_ Try.func59 (by kernel_rfl) rfl #[.agg #[.int .i64 a0_0, .slice A0_1 l0_1.length c0_1], .slice Ao50 y769.length co50, .int .i64 (rd l0_3 x5_3)] (by rfl) rfl rfl aa ?_
                    with_reducible refine (index_Look.calls kj20 a0_0 _ _ l0_1 _ _ y769 (rd l0_3 x5_3) t773 t774 t775 t776 t777 t778 t779 t780 _ ?side1 ?side2 ?side3 ?side4 A28.out).mono ?_
                    (case side1 => repeat (first | exact (Kd.C_below HR0_1.out HB.out) | (with_reducible refine Kd.C_alloc ?_ _) | (with_reducible refine Kd.C_drewN ?_ _) | (with_reducible refine Kd.C_drew ?_)))
                    (case side2 => exact HC0_1.out)
                    (case side3 => repeat (first | exact (Kd.R_reads' HO771.out).2.2 | (with_reducible refine Kd.C_alloc ?_ _) | (with_reducible refine Kd.C_drewN ?_ _) | (with_reducible refine Kd.C_drew ?_)))
                    (case side4 => exact (Kd.R_reads' HO771.out).2.1)
                    rintro e w51 ⟨rfl, hb⟩
                    refine ⟨_, rfl, ?_⟩
                    replace HO_4 := Aside0.mk (Kd.R_below (rk HO_4.out) hb)
                    replace HO768 := Aside0.mk (Kd.R_below (rk HO768.out) hb)
                    replace HO771 := Aside0.mk (Kd.R_below (rk HO771.out) hb)
                    replace BK747 := Aside0.mk (blk_below (g := gb747) (o := .cells #[.int .i64 a0_0, .slice A0_1 l0_1.length c0_1, .slice A0_2 l0_2.length c0_2, .slice (some ad753) l0_3.length c0_3, .string a0_4] 55 (0, 0)) (bk BK747.out) hb)
                    replace BK762 := Aside0.mk (blk_below (g := gb762) (o := .cells #[.int .i64 t754, .int .i64 t755, .string t756, .string t757, .int .i64 t758, .bool t759] 25 (0, 0)) (bk BK762.out) hb)
                    replace HB := Aside0.mk (below_step bo hb)
                    (try clear hb)
                    (try clear hb2)
                    (try clear hk)
                    (try clear hi)
                    refine hK.out _ _ ⟨(blk_cell BK747.out 0).trans rfl, (blk_cell BK747.out 1).trans rfl, (blk_cell BK747.out 2).trans rfl, (blk_cell BK747.out 3).trans rfl, (blk_cell BK747.out 4).trans rfl, ((HB.out.cell (World.block_lt_of_cell? w _ hw772_0)).trans hw772_0)⟩ (fun hHeld => ?_)
                    clear hK K
                    refine norm_ (a' := ?_) ?_ ?_
                    rotate_left
                    ·show Act.put _ (some 61) _ = _
                     simp only [Act.put, List.setIfInBounds_toArray, List.set_cons_zero, List.set_cons_succ, i64_w, i32_w]
                     rfl
                    refine pz (i := 13) (N := some 48) #[I,I,I,I,I,I,I,I,I,I,I,I,I,I,O,O,O,O,O,O,O] ?_
                    refine pz (i := 14) (N := some 62) #[I,I,I,I,I,I,I,I,I,I,I,I,I,I,I,O,O,O,O,O,O] ?_
                    refine pz (i := 15) (N := some 63) #[I,I,I,I,I,I,I,I,I,I,I,I,I,I,I,I,O,O,O,O,O] ?_
                    refine pz (i := 16) (N := some 64) #[I,I,I,I,I,I,I,I,I,I,I,I,I,I,I,I,I,O,O,O,O] ?_
                    exact norm_ (by first | (simp only [putAll, Act.put, List.setIfInBounds_toArray, List.set_cons_zero, List.set_cons_succ]; done) | (simp only [putAll, Act.put, List.setIfInBounds_toArray, List.set_cons_zero, List.set_cons_succ]; rfl)) (hJ3_5_6_12 (v764, v767, .slice Ao50 y769.length co50) _ ⟨hHeld, (rk HO768.out), (rk HO771.out), (rk HO_4.out), (bk BK747.out), (bk BK762.out), bo⟩)
                   ·skip
                    refine box_step ?hg (N := 9) ?hd (cs := #[.int .i64 0, .int .i64 0, .string (⟨#[]⟩ : ByteArray), .string (⟨#[]⟩ : ByteArray), .int .i64 0, .bool false]) (t := 25) ?hr ?_; (case hd => rfl); (case hg => rfl); (case hr => first | (go_simp; done) | (go_simp; rfl))
                    intro gb781 hg w50 hbox hb
                    replace HO_4 := Aside0.mk (Kd.R_below (rk HO_4.out) hb)
                    replace HO768 := Aside0.mk (Kd.R_below (rk HO768.out) hb)
                    replace HO771 := Aside0.mk (Kd.R_below (rk HO771.out) hb)
                    have BK781 := Aside0.mk (hbox)
                    have GW781 := Aside0.mk ((by rw [hg]; exact (below_size bo) : w.heap.size ≤ gb781))
                    have GE781 := Aside0.mk ((by rw [hg]; exact (below_size bo) : w.heap.size ≤ gb781))
                    replace HB := Aside0.mk (below_step bo hb)
                    have NB747_781 := Aside0.mk ((by rw [hg]; exact Nat.ne_of_lt (blk_lt (g := gb747) (o := .cells #[.int .i64 a0_0, .slice A0_1 l0_1.length c0_1, .slice A0_2 l0_2.length c0_2, .slice (some ad753) l0_3.length c0_3, .string a0_4] 55 (0, 0)) (bk BK747.out)) : gb747 ≠ gb781))
                    have NB781_747 := Aside0.mk ((by rw [hg]; exact Nat.ne_of_gt (blk_lt (g := gb747) (o := .cells #[.int .i64 a0_0, .slice A0_1 l0_1.length c0_1, .slice A0_2 l0_2.length c0_2, .slice (some ad753) l0_3.length c0_3, .string a0_4] 55 (0, 0)) (bk BK747.out)) : gb781 ≠ gb747))
                    replace BK747 := Aside0.mk (blk_below (g := gb747) (o := .cells #[.int .i64 a0_0, .slice A0_1 l0_1.length c0_1, .slice A0_2 l0_2.length c0_2, .slice (some ad753) l0_3.length c0_3, .string a0_4] 55 (0, 0)) (bk BK747.out) hb)
                    have NB762_781 := Aside0.mk ((by rw [hg]; exact Nat.ne_of_lt (blk_lt (g := gb762) (o := .cells #[.int .i64 t754, .int .i64 t755, .string t756, .string t757, .int .i64 t758, .bool t759] 25 (0, 0)) (bk BK762.out)) : gb762 ≠ gb781))
                    have NB781_762 := Aside0.mk ((by rw [hg]; exact Nat.ne_of_gt (blk_lt (g := gb762) (o := .cells #[.int .i64 t754, .int .i64 t755, .string t756, .string t757, .int .i64 t758, .bool t759] 25 (0, 0)) (bk BK762.out)) : gb781 ≠ gb762))
                    replace BK762 := Aside0.mk (blk_below (g := gb762) (o := .cells #[.int .i64 t754, .int .i64 t755, .string t756, .string t757, .int .i64 t758, .bool t759] 25 (0, 0)) (bk BK762.out) hb)
                    clear hb hbox hg
                    refine hK.out _ _ ⟨(blk_cell BK747.out 0).trans rfl, (blk_cell BK747.out 1).trans rfl, (blk_cell BK747.out 2).trans rfl, (blk_cell BK747.out 3).trans rfl, (blk_cell BK747.out 4).trans rfl, ((HB.out.cell (World.block_lt_of_cell? w _ hw772_0)).trans hw772_0)⟩ (fun hHeld => ?_)
                    clear hK K
                    refine norm_ (a' := ?_) ?_ ?_
                    rotate_left
                    ·show Act.put _ (some 9) _ = _
                     simp only [Act.put, List.setIfInBounds_toArray, List.set_cons_zero, List.set_cons_succ, i64_w, i32_w]
                     rfl
                    exact norm_ (by first | (simp only [putAll, Act.put, List.setIfInBounds_toArray, List.set_cons_zero, List.set_cons_succ]; done) | (simp only [putAll, Act.put, List.setIfInBounds_toArray, List.set_cons_zero, List.set_cons_succ]; rfl)) (hJ3_5_6_17 (v764, v767, .slice Ao50 y769.length co50, gb781) _ ⟨hHeld, (rk HO768.out), (rk HO771.out), (rk HO_4.out), (bk BK747.out), (bk BK762.out), (bk BK781.out), GW781.out, GE781.out, NB747_781.out, NB781_747.out, NB762_781.out, NB781_762.out, bo⟩)
                 ·skip
                  rintro ⟨v764, v767, v770, gb781⟩ w50 ⟨hS_, h0_, h1_, h2_, h3_, h4_, h5_, h6_, h7_, h8_, h9_, h10_, h11_, h12_⟩
                  have n0_ : Aside0 (Kd.R k77 77 w50 w.heap.size (fun k_ => some k_ ≠ (v770 : Value).ownBlock ∧ some k_ ≠ (.slice Ao31 x4_8.length co31 : Value).ownBlock) v767 y766) := ⟨h0_⟩
                  have n1_ : Aside0 (Kd.R k77 77 w50 w.heap.size (fun k_ => some k_ ≠ (v767 : Value).ownBlock ∧ some k_ ≠ (.slice Ao31 x4_8.length co31 : Value).ownBlock) v770 y769) := ⟨h1_⟩
                  have n2_ : Aside0 (Kd.R k77 77 w50 w.heap.size (fun k_ => some k_ ≠ (v767 : Value).ownBlock ∧ some k_ ≠ (v770 : Value).ownBlock) (.slice Ao31 x4_8.length co31) x4_8) := ⟨h2_⟩
                  have n3_ : Aside0 (w50.heap[gb747]? = some (.cells #[.int .i64 a0_0, .slice A0_1 l0_1.length c0_1, .slice A0_2 l0_2.length c0_2, .slice (some ad753) l0_3.length c0_3, .string a0_4] 55 (0, 0))) := ⟨h3_⟩
                  have n4_ : Aside0 (w50.heap[gb762]? = some (.cells #[.int .i64 t754, .int .i64 t755, .string t756, .string t757, .int .i64 t758, .bool t759] 25 (0, 0))) := ⟨h4_⟩
                  have n5_ : Aside0 (w50.heap[gb781]? = some (.cells #[.int .i64 0, .int .i64 0, .string (⟨#[]⟩ : ByteArray), .string (⟨#[]⟩ : ByteArray), .int .i64 0, .bool false] 25 (0, 0))) := ⟨h5_⟩
                  have n6_ : Aside0 (w.heap.size ≤ gb781) := ⟨h6_⟩
                  have n7_ : Aside0 (w.heap.size ≤ gb781) := ⟨h7_⟩
                  have n8_ : Aside0 (gb747 ≠ gb781) := ⟨h8_⟩
                  have n9_ : Aside0 (gb781 ≠ gb747) := ⟨h9_⟩
                  have n10_ : Aside0 (gb762 ≠ gb781) := ⟨h10_⟩
                  have n11_ : Aside0 (gb781 ≠ gb762) := ⟨h11_⟩
                  have n12_ : Aside0 (Below w.heap.size w w50) := ⟨h12_⟩
                  clear HO_4
                  clear BK747
                  clear BK762
                  clear HB
                  clear h0_ h1_ h2_ h3_ h4_ h5_ h6_ h7_ h8_ h9_ h10_ h11_ h12_
                  have HO768 := n0_
                  have HO771 := n1_
                  have HO_4 := n2_
                  have BK747 := n3_
                  have BK762 := n4_
                  have BK781 := n5_
                  have GW781 := n6_
                  have GE781 := n7_
                  have NB747_781 := n8_
                  have NB781_747 := n9_
                  have NB762_781 := n10_
                  have NB781_762 := n11_
                  have HB := n12_
                  clear n0_ n1_ n2_ n3_ n4_ n5_ n6_ n7_ n8_ n9_ n10_ n11_ n12_
                  have hHeld : w50.cell? ⟨gb747, 0, none⟩ = some (.int .i64 a0_0) ∧ w50.cell? ⟨gb747, 1, none⟩ = some (.slice A0_1 l0_1.length c0_1) ∧ w50.cell? ⟨gb747, 2, none⟩ = some (.slice A0_2 l0_2.length c0_2) ∧ w50.cell? ⟨gb747, 3, none⟩ = some (.slice (some ad753) l0_3.length c0_3) ∧ w50.cell? ⟨gb747, 4, none⟩ = some (.string a0_4) ∧ w50.cell? (ad753.add (x5_3).toNat) = some (.int .i64 (rd l0_3 x5_3)) := hS_
                  obtain ⟨Ao51, co51, eo51⟩ := Kd.R_slice HO771.out
                  (first | subst eo51 | (injection eo51 with f1_ f2_ f3_; have f4_ := f1_.symm; have f5_ := f3_.symm; clear f1_ f2_ f3_; subst f4_; subst f5_))
                  refine norm_ (a' := ?_) ?_ ?_
                  rotate_left
                  ·simp only [putAll, Act.put, List.setIfInBounds_toArray, List.set_cons_zero, List.set_cons_succ]
                   rfl
                  refine one_ (i := 12) (N := some 61) #[I,I,I,I,I,I,I,I,I,I,I,I,I,O,O,O,O,I,O,O,O] rfl rfl (one_of HT_.out (by kernel_rfl)) (by decide) (fun K hK => ?_)
                  refine goes_ Try.func59 (by kernel_rfl) rfl #[.agg #[.int .i64 a0_0, .slice A0_1 l0_1.length c0_1], .slice Ao51 y769.length co51, .int .i64 (rd l0_3 x5_3)] (by rfl) rfl rfl aa ?_
                  with_reducible refine (index_Look.calls kj20 a0_0 _ _ l0_1 _ _ y769 (rd l0_3 x5_3) t773 t774 t775 t776 t777 t778 t779 t780 _ ?side1 ?side2 ?side3 ?side4 A28.out).mono ?_
                  (case side1 => repeat (first | exact (Kd.C_below HR0_1.out HB.out) | (with_reducible refine Kd.C_alloc ?_ _) | (with_reducible refine Kd.C_drewN ?_ _) | (with_reducible refine Kd.C_drew ?_)))
                  (case side2 => exact HC0_1.out)
                  (case side3 => repeat (first | exact (Kd.R_reads' HO771.out).2.2 | (with_reducible refine Kd.C_alloc ?_ _) | (with_reducible refine Kd.C_drewN ?_ _) | (with_reducible refine Kd.C_drew ?_)))
                  (case side4 => exact (Kd.R_reads' HO771.out).2.1)
                  rintro e w52 ⟨rfl, hb⟩
                  refine ⟨_, rfl, ?_⟩
                  replace HO_4 := Aside0.mk (Kd.R_below (rk HO_4.out) hb)
                  replace HO768 := Aside0.mk (Kd.R_below (rk HO768.out) hb)
                  replace HO771 := Aside0.mk (Kd.R_below (rk HO771.out) hb)
                  replace BK747 := Aside0.mk (blk_below (g := gb747) (o := .cells #[.int .i64 a0_0, .slice A0_1 l0_1.length c0_1, .slice A0_2 l0_2.length c0_2, .slice (some ad753) l0_3.length c0_3, .string a0_4] 55 (0, 0)) (bk BK747.out) hb)
                  replace BK762 := Aside0.mk (blk_below (g := gb762) (o := .cells #[.int .i64 t754, .int .i64 t755, .string t756, .string t757, .int .i64 t758, .bool t759] 25 (0, 0)) (bk BK762.out) hb)
                  replace BK781 := Aside0.mk (blk_below (g := gb781) (o := .cells #[.int .i64 0, .int .i64 0, .string (⟨#[]⟩ : ByteArray), .string (⟨#[]⟩ : ByteArray), .int .i64 0, .bool false] 25 (0, 0)) (bk BK781.out) hb)
                  replace HB := Aside0.mk (below_step bo hb)
                  (try clear hb)
                  (try clear hb2)
                  (try clear hk)
                  (try clear hi)
                  refine hK.out _ _ ⟨(blk_cell BK747.out 0).trans rfl, (blk_cell BK747.out 1).trans rfl, (blk_cell BK747.out 2).trans rfl, (blk_cell BK747.out 3).trans rfl, (blk_cell BK747.out 4).trans rfl, ((HB.out.cell (World.block_lt_of_cell? w _ hw772_0)).trans hw772_0)⟩ (fun hHeld => ?_)
                  clear hK K
                  refine norm_ (a' := ?_) ?_ ?_
                  rotate_left
                  ·show Act.put _ (some 61) _ = _
                   simp only [Act.put, List.setIfInBounds_toArray, List.set_cons_zero, List.set_cons_succ, i64_w, i32_w]
                   rfl
                  refine pz (i := 13) (N := some 48) #[I,I,I,I,I,I,I,I,I,I,I,I,I,I,O,O,O,I,O,O,O] ?_
                  refine pz (i := 14) (N := some 62) #[I,I,I,I,I,I,I,I,I,I,I,I,I,I,I,O,O,I,O,O,O] ?_
                  refine pz (i := 15) (N := some 63) #[I,I,I,I,I,I,I,I,I,I,I,I,I,I,I,I,O,I,O,O,O] ?_
                  refine pz (i := 16) (N := some 64) #[I,I,I,I,I,I,I,I,I,I,I,I,I,I,I,I,I,I,O,O,O] ?_
                  exact norm_ (by first | (simp only [putAll, Act.put, List.setIfInBounds_toArray, List.set_cons_zero, List.set_cons_succ]; done) | (simp only [putAll, Act.put, List.setIfInBounds_toArray, List.set_cons_zero, List.set_cons_succ]; rfl)) (hJ3_5_6_12_17 (v764, v767, .slice Ao51 y769.length co51, gb781) _ ⟨hHeld, (rk HO768.out), (rk HO771.out), (rk HO_4.out), (bk BK747.out), (bk BK762.out), (bk BK781.out), GW781.out, GE781.out, NB747_781.out, NB781_747.out, NB762_781.out, NB781_762.out, bo⟩)
                ·skip
                 rintro ⟨v764, v767, v770⟩ w51 ⟨hS_, h0_, h1_, h2_, h3_, h4_, h5_⟩
                 have n0_ : Aside0 (Kd.R k77 77 w51 w.heap.size (fun k_ => some k_ ≠ (v770 : Value).ownBlock ∧ some k_ ≠ (.slice Ao31 x4_8.length co31 : Value).ownBlock) v767 y766) := ⟨h0_⟩
                 have n1_ : Aside0 (Kd.R k77 77 w51 w.heap.size (fun k_ => some k_ ≠ (v767 : Value).ownBlock ∧ some k_ ≠ (.slice Ao31 x4_8.length co31 : Value).ownBlock) v770 y769) := ⟨h1_⟩
                 have n2_ : Aside0 (Kd.R k77 77 w51 w.heap.size (fun k_ => some k_ ≠ (v767 : Value).ownBlock ∧ some k_ ≠ (v770 : Value).ownBlock) (.slice Ao31 x4_8.length co31) x4_8) := ⟨h2_⟩
                 have n3_ : Aside0 (w51.heap[gb747]? = some (.cells #[.int .i64 a0_0, .slice A0_1 l0_1.length c0_1, .slice A0_2 l0_2.length c0_2, .slice (some ad753) l0_3.length c0_3, .string a0_4] 55 (0, 0))) := ⟨h3_⟩
                 have n4_ : Aside0 (w51.heap[gb762]? = some (.cells #[.int .i64 t754, .int .i64 t755, .string t756, .string t757, .int .i64 t758, .bool t759] 25 (0, 0))) := ⟨h4_⟩
                 have n5_ : Aside0 (Below w.heap.size w w51) := ⟨h5_⟩
                 clear HO_4
                 clear BK747
                 clear BK762
                 clear HB
                 clear h0_ h1_ h2_ h3_ h4_ h5_
                 have HO768 := n0_
                 have HO771 := n1_
                 have HO_4 := n2_
                 have BK747 := n3_
                 have BK762 := n4_
                 have HB := n5_
                 clear n0_ n1_ n2_ n3_ n4_ n5_
                 have hHeld : w51.cell? ⟨gb747, 0, none⟩ = some (.int .i64 a0_0) ∧ w51.cell? ⟨gb747, 1, none⟩ = some (.slice A0_1 l0_1.length c0_1) ∧ w51.cell? ⟨gb747, 2, none⟩ = some (.slice A0_2 l0_2.length c0_2) ∧ w51.cell? ⟨gb747, 3, none⟩ = some (.slice (some ad753) l0_3.length c0_3) ∧ w51.cell? ⟨gb747, 4, none⟩ = some (.string a0_4) ∧ w51.cell? (ad753.add (x5_3).toNat) = some (.int .i64 (rd l0_3 x5_3)) := hS_
                 refine norm_ (a' := ?_) ?_ ?_
                 rotate_left
                 ·simp only [putAll, Act.put, List.setIfInBounds_toArray, List.set_cons_zero, List.set_cons_succ]
                  rfl
                 refine one_ (i := 17) (N := some 9) #[I,I,I,I,I,I,I,I,I,I,I,I,I,I,I,I,I,I,O,O,O] rfl rfl (one_of HT_.out (by kernel_rfl)) (by decide) (fun K hK => ?_)
                 refine box_step ?hg (N := 9) ?hd (cs := #[.int .i64 0, .int .i64 0, .string (⟨#[]⟩ : ByteArray), .string (⟨#[]⟩ : ByteArray), .int .i64 0, .bool false]) (t := 25) ?hr ?_; (case hd => rfl); (case hg => rfl); (case hr => first | (go_simp; done) | (go_simp; rfl))
                 intro gb781 hg w52 hbox hb
                 replace HO_4 := Aside0.mk (Kd.R_below (rk HO_4.out) hb)
                 replace HO768 := Aside0.mk (Kd.R_below (rk HO768.out) hb)
                 replace HO771 := Aside0.mk (Kd.R_below (rk HO771.out) hb)
                 have BK781 := Aside0.mk (hbox)
                 have GW781 := Aside0.mk ((by rw [hg]; exact (below_size bo) : w.heap.size ≤ gb781))
                 have GE781 := Aside0.mk ((by rw [hg]; exact (below_size bo) : w.heap.size ≤ gb781))
                 replace HB := Aside0.mk (below_step bo hb)
                 have NB747_781 := Aside0.mk ((by rw [hg]; exact Nat.ne_of_lt (blk_lt (g := gb747) (o := .cells #[.int .i64 a0_0, .slice A0_1 l0_1.length c0_1, .slice A0_2 l0_2.length c0_2, .slice (some ad753) l0_3.length c0_3, .string a0_4] 55 (0, 0)) (bk BK747.out)) : gb747 ≠ gb781))
                 have NB781_747 := Aside0.mk ((by rw [hg]; exact Nat.ne_of_gt (blk_lt (g := gb747) (o := .cells #[.int .i64 a0_0, .slice A0_1 l0_1.length c0_1, .slice A0_2 l0_2.length c0_2, .slice (some ad753) l0_3.length c0_3, .string a0_4] 55 (0, 0)) (bk BK747.out)) : gb781 ≠ gb747))
                 replace BK747 := Aside0.mk (blk_below (g := gb747) (o := .cells #[.int .i64 a0_0, .slice A0_1 l0_1.length c0_1, .slice A0_2 l0_2.length c0_2, .slice (some ad753) l0_3.length c0_3, .string a0_4] 55 (0, 0)) (bk BK747.out) hb)
                 have NB762_781 := Aside0.mk ((by rw [hg]; exact Nat.ne_of_lt (blk_lt (g := gb762) (o := .cells #[.int .i64 t754, .int .i64 t755, .string t756, .string t757, .int .i64 t758, .bool t759] 25 (0, 0)) (bk BK762.out)) : gb762 ≠ gb781))
                 have NB781_762 := Aside0.mk ((by rw [hg]; exact Nat.ne_of_gt (blk_lt (g := gb762) (o := .cells #[.int .i64 t754, .int .i64 t755, .string t756, .string t757, .int .i64 t758, .bool t759] 25 (0, 0)) (bk BK762.out)) : gb781 ≠ gb762))
                 replace BK762 := Aside0.mk (blk_below (g := gb762) (o := .cells #[.int .i64 t754, .int .i64 t755, .string t756, .string t757, .int .i64 t758, .bool t759] 25 (0, 0)) (bk BK762.out) hb)
                 clear hb hbox hg
                 refine hK.out _ _ ⟨(blk_cell BK747.out 0).trans rfl, (blk_cell BK747.out 1).trans rfl, (blk_cell BK747.out 2).trans rfl, (blk_cell BK747.out 3).trans rfl, (blk_cell BK747.out 4).trans rfl, ((HB.out.cell (World.block_lt_of_cell? w _ hw772_0)).trans hw772_0)⟩ (fun hHeld => ?_)
                 clear hK K
                 refine norm_ (a' := ?_) ?_ ?_
                 rotate_left
                 ·show Act.put _ (some 9) _ = _
                  simp only [Act.put, List.setIfInBounds_toArray, List.set_cons_zero, List.set_cons_succ, i64_w, i32_w]
                  rfl
                 exact norm_ (by first | (simp only [putAll, Act.put, List.setIfInBounds_toArray, List.set_cons_zero, List.set_cons_succ]; done) | (simp only [putAll, Act.put, List.setIfInBounds_toArray, List.set_cons_zero, List.set_cons_succ]; rfl)) (hJ3_5_6_12_17 (v764, v767, v770, gb781) _ ⟨hHeld, (rk HO768.out), (rk HO771.out), (rk HO_4.out), (bk BK747.out), (bk BK762.out), (bk BK781.out), GW781.out, GE781.out, NB747_781.out, NB781_747.out, NB762_781.out, NB781_762.out, bo⟩)
               rintro ⟨v764, v767, v770, gb781⟩ w52 ⟨hS_, h0_, h1_, h2_, h3_, h4_, h5_, h6_, h7_, h8_, h9_, h10_, h11_, h12_⟩
               have n0_ : Aside0 (Kd.R k77 77 w52 w.heap.size (fun k_ => some k_ ≠ (v770 : Value).ownBlock ∧ some k_ ≠ (.slice Ao31 x4_8.length co31 : Value).ownBlock) v767 y766) := ⟨h0_⟩
               have n1_ : Aside0 (Kd.R k77 77 w52 w.heap.size (fun k_ => some k_ ≠ (v767 : Value).ownBlock ∧ some k_ ≠ (.slice Ao31 x4_8.length co31 : Value).ownBlock) v770 y769) := ⟨h1_⟩
               have n2_ : Aside0 (Kd.R k77 77 w52 w.heap.size (fun k_ => some k_ ≠ (v767 : Value).ownBlock ∧ some k_ ≠ (v770 : Value).ownBlock) (.slice Ao31 x4_8.length co31) x4_8) := ⟨h2_⟩
               have n3_ : Aside0 (w52.heap[gb747]? = some (.cells #[.int .i64 a0_0, .slice A0_1 l0_1.length c0_1, .slice A0_2 l0_2.length c0_2, .slice (some ad753) l0_3.length c0_3, .string a0_4] 55 (0, 0))) := ⟨h3_⟩
               have n4_ : Aside0 (w52.heap[gb762]? = some (.cells #[.int .i64 t754, .int .i64 t755, .string t756, .string t757, .int .i64 t758, .bool t759] 25 (0, 0))) := ⟨h4_⟩
               have n5_ : Aside0 (w52.heap[gb781]? = some (.cells #[.int .i64 0, .int .i64 0, .string (⟨#[]⟩ : ByteArray), .string (⟨#[]⟩ : ByteArray), .int .i64 0, .bool false] 25 (0, 0))) := ⟨h5_⟩
               have n6_ : Aside0 (w.heap.size ≤ gb781) := ⟨h6_⟩
               have n7_ : Aside0 (w.heap.size ≤ gb781) := ⟨h7_⟩
               have n8_ : Aside0 (gb747 ≠ gb781) := ⟨h8_⟩
               have n9_ : Aside0 (gb781 ≠ gb747) := ⟨h9_⟩
               have n10_ : Aside0 (gb762 ≠ gb781) := ⟨h10_⟩
               have n11_ : Aside0 (gb781 ≠ gb762) := ⟨h11_⟩
               have n12_ : Aside0 (Below w.heap.size w w52) := ⟨h12_⟩
               clear HO_4
               clear BK747
               clear BK762
               clear HB
               clear h0_ h1_ h2_ h3_ h4_ h5_ h6_ h7_ h8_ h9_ h10_ h11_ h12_
               have HO768 := n0_
               have HO771 := n1_
               have HO_4 := n2_
               have BK747 := n3_
               have BK762 := n4_
               have BK781 := n5_
               have GW781 := n6_
               have GE781 := n7_
               have NB747_781 := n8_
               have NB781_747 := n9_
               have NB762_781 := n10_
               have NB781_762 := n11_
               have HB := n12_
               clear n0_ n1_ n2_ n3_ n4_ n5_ n6_ n7_ n8_ n9_ n10_ n11_ n12_
               have hHeld : w52.cell? ⟨gb747, 0, none⟩ = some (.int .i64 a0_0) ∧ w52.cell? ⟨gb747, 1, none⟩ = some (.slice A0_1 l0_1.length c0_1) ∧ w52.cell? ⟨gb747, 2, none⟩ = some (.slice A0_2 l0_2.length c0_2) ∧ w52.cell? ⟨gb747, 3, none⟩ = some (.slice (some ad753) l0_3.length c0_3) ∧ w52.cell? ⟨gb747, 4, none⟩ = some (.string a0_4) ∧ w52.cell? (ad753.add (x5_3).toNat) = some (.int .i64 (rd l0_3 x5_3)) := hS_
               refine norm_ (a' := ?_) ?_ ?_
               rotate_left
               ·simp only [putAll, Act.put, List.setIfInBounds_toArray, List.set_cons_zero, List.set_cons_succ]
                rfl
               refine one_ (i := 18) (N := none) #[I,I,I,I,I,I,I,I,I,I,I,I,I,I,I,I,I,I,I,O,O] rfl rfl (one_of HT_.out (by kernel_rfl)) (by decide) (fun K hK => ?_)
               have hs53 : w52.cell? ⟨gb781, 0, none⟩ = some (.int .i64 0) := (blk_cell BK781.out 0).trans rfl
               have hfs53 := blk_frozen BK781.out 0
               have hns53_0 := NB747_781.out
               have hns53_1 := NB762_781.out
               have hms53_0 := NB781_747.out
               have hms53_1 := NB781_762.out
               have hs54 : w52.cell? ⟨gb781, 1, none⟩ = some (.int .i64 0) := (blk_cell BK781.out 1).trans rfl
               have hfs54 := blk_frozen BK781.out 1
               have hns54_0 := NB747_781.out
               have hns54_1 := NB762_781.out
               have hms54_0 := NB781_747.out
               have hms54_1 := NB781_762.out
               have hs55 : w52.cell? ⟨gb781, 2, none⟩ = some (.string (⟨#[]⟩ : ByteArray)) := (blk_cell BK781.out 2).trans rfl
               have hfs55 := blk_frozen BK781.out 2
               have hns55_0 := NB747_781.out
               have hns55_1 := NB762_781.out
               have hms55_0 := NB781_747.out
               have hms55_1 := NB781_762.out
               have hs56 : w52.cell? ⟨gb781, 3, none⟩ = some (.string (⟨#[]⟩ : ByteArray)) := (blk_cell BK781.out 3).trans rfl
               have hfs56 := blk_frozen BK781.out 3
               have hns56_0 := NB747_781.out
               have hns56_1 := NB762_781.out
               have hms56_0 := NB781_747.out
               have hms56_1 := NB781_762.out
               have hs57 : w52.cell? ⟨gb781, 4, none⟩ = some (.int .i64 0) := (blk_cell BK781.out 4).trans rfl
               have hfs57 := blk_frozen BK781.out 4
               have hns57_0 := NB747_781.out
               have hns57_1 := NB762_781.out
               have hms57_0 := NB781_747.out
               have hms57_1 := NB781_762.out
               have hs58 : w52.cell? ⟨gb781, 5, none⟩ = some (.bool false) := (blk_cell BK781.out 5).trans rfl
               have hfs58 := blk_frozen BK781.out 5
               have hns58_0 := NB747_781.out
               have hns58_1 := NB762_781.out
               have hms58_0 := NB781_747.out
               have hms58_1 := NB781_762.out
               refine skip_ (w1 := ?_) (by rfl) rfl ?_ ?_
               rotate_left
               ·go_simp
                rfl
               refine hK.out _ _ ⟨((cell_far (p := ⟨gb781, _, none⟩) NB747_781.out _).trans (((cell_far (p := ⟨gb781, _, none⟩) NB747_781.out _).trans (((cell_far (p := ⟨gb781, _, none⟩) NB747_781.out _).trans (((cell_far (p := ⟨gb781, _, none⟩) NB747_781.out _).trans (((cell_far (p := ⟨gb781, _, none⟩) NB747_781.out _).trans (((cell_far (p := ⟨gb781, _, none⟩) NB747_781.out _).trans (hHeld.1)))))))))))), ((cell_far (p := ⟨gb781, _, none⟩) NB747_781.out _).trans (((cell_far (p := ⟨gb781, _, none⟩) NB747_781.out _).trans (((cell_far (p := ⟨gb781, _, none⟩) NB747_781.out _).trans (((cell_far (p := ⟨gb781, _, none⟩) NB747_781.out _).trans (((cell_far (p := ⟨gb781, _, none⟩) NB747_781.out _).trans (((cell_far (p := ⟨gb781, _, none⟩) NB747_781.out _).trans (hHeld.2.1)))))))))))), ((cell_far (p := ⟨gb781, _, none⟩) NB747_781.out _).trans (((cell_far (p := ⟨gb781, _, none⟩) NB747_781.out _).trans (((cell_far (p := ⟨gb781, _, none⟩) NB747_781.out _).trans (((cell_far (p := ⟨gb781, _, none⟩) NB747_781.out _).trans (((cell_far (p := ⟨gb781, _, none⟩) NB747_781.out _).trans (((cell_far (p := ⟨gb781, _, none⟩) NB747_781.out _).trans (hHeld.2.2.1)))))))))))), ((cell_far (p := ⟨gb781, _, none⟩) NB747_781.out _).trans (((cell_far (p := ⟨gb781, _, none⟩) NB747_781.out _).trans (((cell_far (p := ⟨gb781, _, none⟩) NB747_781.out _).trans (((cell_far (p := ⟨gb781, _, none⟩) NB747_781.out _).trans (((cell_far (p := ⟨gb781, _, none⟩) NB747_781.out _).trans (((cell_far (p := ⟨gb781, _, none⟩) NB747_781.out _).trans (hHeld.2.2.2.1)))))))))))), ((cell_far (p := ⟨gb781, _, none⟩) NB747_781.out _).trans (((cell_far (p := ⟨gb781, _, none⟩) NB747_781.out _).trans (((cell_far (p := ⟨gb781, _, none⟩) NB747_781.out _).trans (((cell_far (p := ⟨gb781, _, none⟩) NB747_781.out _).trans (((cell_far (p := ⟨gb781, _, none⟩) NB747_781.out _).trans (((cell_far (p := ⟨gb781, _, none⟩) NB747_781.out _).trans (hHeld.2.2.2.2.1)))))))))))), ((cell_far (p := ⟨gb781, _, none⟩) (by first | exact Nat.ne_of_lt (Nat.lt_of_lt_of_le (by have := World.block_lt_of_cell? _ _ hw772_0; first | rwa [add_block] at this | exact this) GW781.out) | (rw [add_block]; exact Nat.ne_of_lt (Nat.lt_of_lt_of_le (by have := World.block_lt_of_cell? _ _ hw772_0; first | rwa [add_block] at this | exact this) GW781.out)) | (show (Addr.add _ _).block ≠ _; rw [add_block]; exact Nat.ne_of_lt (Nat.lt_of_lt_of_le (by have := World.block_lt_of_cell? _ _ hw772_0; first | rwa [add_block] at this | exact this) GW781.out)) | (dsimp only; exact Nat.ne_of_lt (Nat.lt_of_lt_of_le (by have := World.block_lt_of_cell? _ _ hw772_0; first | rwa [add_block] at this | exact this) GW781.out))) _).trans (((cell_far (p := ⟨gb781, _, none⟩) (by first | exact Nat.ne_of_lt (Nat.lt_of_lt_of_le (by have := World.block_lt_of_cell? _ _ hw772_0; first | rwa [add_block] at this | exact this) GW781.out) | (rw [add_block]; exact Nat.ne_of_lt (Nat.lt_of_lt_of_le (by have := World.block_lt_of_cell? _ _ hw772_0; first | rwa [add_block] at this | exact this) GW781.out)) | (show (Addr.add _ _).block ≠ _; rw [add_block]; exact Nat.ne_of_lt (Nat.lt_of_lt_of_le (by have := World.block_lt_of_cell? _ _ hw772_0; first | rwa [add_block] at this | exact this) GW781.out)) | (dsimp only; exact Nat.ne_of_lt (Nat.lt_of_lt_of_le (by have := World.block_lt_of_cell? _ _ hw772_0; first | rwa [add_block] at this | exact this) GW781.out))) _).trans (((cell_far (p := ⟨gb781, _, none⟩) (by first | exact Nat.ne_of_lt (Nat.lt_of_lt_of_le (by have := World.block_lt_of_cell? _ _ hw772_0; first | rwa [add_block] at this | exact this) GW781.out) | (rw [add_block]; exact Nat.ne_of_lt (Nat.lt_of_lt_of_le (by have := World.block_lt_of_cell? _ _ hw772_0; first | rwa [add_block] at this | exact this) GW781.out)) | (show (Addr.add _ _).block ≠ _; rw [add_block]; exact Nat.ne_of_lt (Nat.lt_of_lt_of_le (by have := World.block_lt_of_cell? _ _ hw772_0; first | rwa [add_block] at this | exact this) GW781.out)) | (dsimp only; exact Nat.ne_of_lt (Nat.lt_of_lt_of_le (by have := World.block_lt_of_cell? _ _ hw772_0; first | rwa [add_block] at this | exact this) GW781.out))) _).trans (((cell_far (p := ⟨gb781, _, none⟩) (by first | exact Nat.ne_of_lt (Nat.lt_of_lt_of_le (by have := World.block_lt_of_cell? _ _ hw772_0; first | rwa [add_block] at this | exact this) GW781.out) | (rw [add_block]; exact Nat.ne_of_lt (Nat.lt_of_lt_of_le (by have := World.block_lt_of_cell? _ _ hw772_0; first | rwa [add_block] at this | exact this) GW781.out)) | (show (Addr.add _ _).block ≠ _; rw [add_block]; exact Nat.ne_of_lt (Nat.lt_of_lt_of_le (by have := World.block_lt_of_cell? _ _ hw772_0; first | rwa [add_block] at this | exact this) GW781.out)) | (dsimp only; exact Nat.ne_of_lt (Nat.lt_of_lt_of_le (by have := World.block_lt_of_cell? _ _ hw772_0; first | rwa [add_block] at this | exact this) GW781.out))) _).trans (((cell_far (p := ⟨gb781, _, none⟩) (by first | exact Nat.ne_of_lt (Nat.lt_of_lt_of_le (by have := World.block_lt_of_cell? _ _ hw772_0; first | rwa [add_block] at this | exact this) GW781.out) | (rw [add_block]; exact Nat.ne_of_lt (Nat.lt_of_lt_of_le (by have := World.block_lt_of_cell? _ _ hw772_0; first | rwa [add_block] at this | exact this) GW781.out)) | (show (Addr.add _ _).block ≠ _; rw [add_block]; exact Nat.ne_of_lt (Nat.lt_of_lt_of_le (by have := World.block_lt_of_cell? _ _ hw772_0; first | rwa [add_block] at this | exact this) GW781.out)) | (dsimp only; exact Nat.ne_of_lt (Nat.lt_of_lt_of_le (by have := World.block_lt_of_cell? _ _ hw772_0; first | rwa [add_block] at this | exact this) GW781.out))) _).trans (((cell_far (p := ⟨gb781, _, none⟩) (by first | exact Nat.ne_of_lt (Nat.lt_of_lt_of_le (by have := World.block_lt_of_cell? _ _ hw772_0; first | rwa [add_block] at this | exact this) GW781.out) | (rw [add_block]; exact Nat.ne_of_lt (Nat.lt_of_lt_of_le (by have := World.block_lt_of_cell? _ _ hw772_0; first | rwa [add_block] at this | exact this) GW781.out)) | (show (Addr.add _ _).block ≠ _; rw [add_block]; exact Nat.ne_of_lt (Nat.lt_of_lt_of_le (by have := World.block_lt_of_cell? _ _ hw772_0; first | rwa [add_block] at this | exact this) GW781.out)) | (dsimp only; exact Nat.ne_of_lt (Nat.lt_of_lt_of_le (by have := World.block_lt_of_cell? _ _ hw772_0; first | rwa [add_block] at this | exact this) GW781.out))) _).trans (hHeld.2.2.2.2.2))))))))))))⟩ (fun hHeld => ?_)
               clear hK K
               refine pz (i := 19) (N := some 10) #[I,I,I,I,I,I,I,I,I,I,I,I,I,I,I,I,I,I,I,I,O] ?_
               refine pz (i := 20) (N := some 11) #[I,I,I,I,I,I,I,I,I,I,I,I,I,I,I,I,I,I,I,I,I] ?_
               refine done_ (done_of HT_.out (by kernel_rfl)) ?_
               go_upto_if 67 with (first | ((with_reducible refine gate_callee (f := 52) rfl ?_); refine goesL_ (some 66) rfl rfl Try.func52 (by kernel_rfl) rfl #[.int .i64 t780] rfl aa ?_; (with_reducible refine (fairwaylaw12_num.calls t780 t782 _ A29.out).mono ?_); rintro e w' ⟨rfl, ⟨nd, rfl⟩⟩; refine ⟨_, rfl, ?_⟩))
               (try simp only [Act.put, List.setIfInBounds_toArray, List.set_cons_zero, List.set_cons_succ])
               go_cut [] (fun wc => ∃ (kq : Nat), Aside0 (fairwaylaw12_IndexLooks.j5 kq t749 x4_8 x5_3 t760 t761 a0_0 l0_1 l0_2 l0_3 a0_4 t754 t755 t756 t757 t758 t759 = some r) ∧ Aside0 (kq ≤ kj20) ∧ Aside0 (Kd.R k77 77 wc w.heap.size (fun _ => True) (.slice Ao31 x4_8.length co31) x4_8) ∧ Aside0 (wc.heap[gb747]? = some (.cells #[.int .i64 a0_0, (.slice A0_1 l0_1.length c0_1), (.slice A0_2 l0_2.length c0_2), (.slice (some ad753) l0_3.length c0_3), .string a0_4] 55 (0, 0))) ∧ Aside0 (wc.heap[gb762]? = some (.cells #[.int .i64 t754, .int .i64 t755, .string t756, .string t757, .int .i64 t758, .bool t759] 25 (0, 0))) ∧ Aside0 (wc.heap[gb781]? = some (.cells #[.int .i64 t773, .int .i64 t774, .string t775, .string t776, .int .i64 t777, .bool t778] 25 (0, 0))) ∧ Aside0 (Below w.heap.size w wc))
               case first => as_aux_lemma =>
                have H := HC30.out
                clear HC30
                by_cases c59 : t782 = 1
                ·rw [if_pos c59] at H
                 have c59b0 : (t782 == 1) = true := beq_iff_eq.mpr c59
                 have c59b1 : (t782 != 1) = false := bne_eq_false_iff_eq.mpr c59
                 clear c59
                 (first | rw [c59b0] | (simp only [i64_w, i32_w]; rw [c59b0]) | skip)
                 have H' := Aside0.mk H
                 clear H
                 go_wp2
                 go_meet
                 case rel => exact ⟨_, H', ⟨by have := HJ2.out; have := HJ8.out; have := HK3.out; have := HJ16.out; have := HJ20.out; first | omega | exact Nat.le_refl _⟩, ⟨by (with_reducible repeat (first | apply Kd.R_alloc | apply Kd.R_drewN | apply Kd.R_drew)); exact Kd.R_mono (Kd.R_far (p := ⟨gb781, 5, none⟩) (Kd.R_far (p := ⟨gb781, 4, none⟩) (Kd.R_far (p := ⟨gb781, 3, none⟩) (Kd.R_far (p := ⟨gb781, 2, none⟩) (Kd.R_far (p := ⟨gb781, 1, none⟩) (Kd.R_far (p := ⟨gb781, 0, none⟩) (Kd.R_types HO_4.out BK781.out (by decide)) (fun _ hk => hk.2) (.int .i64 t773)) (fun _ hk => hk.2) (.int .i64 t774)) (fun _ hk => hk.2) (.string t775)) (fun _ hk => hk.2) (.string t776)) (fun _ hk => hk.2) (.int .i64 t777)) (fun _ hk => hk.2) (.bool t778)) (fun _ hk => trivial)⟩, ⟨by (with_reducible repeat (first | refine blk_drewN ?_ _ | refine blk_drew ?_ | refine blk_alloc ?_ _)); refine blk_far ?_ NB747_781.out _; (with_reducible repeat (first | refine blk_drewN ?_ _ | refine blk_drew ?_ | refine blk_alloc ?_ _)); refine blk_far ?_ NB747_781.out _; (with_reducible repeat (first | refine blk_drewN ?_ _ | refine blk_drew ?_ | refine blk_alloc ?_ _)); refine blk_far ?_ NB747_781.out _; (with_reducible repeat (first | refine blk_drewN ?_ _ | refine blk_drew ?_ | refine blk_alloc ?_ _)); refine blk_far ?_ NB747_781.out _; (with_reducible repeat (first | refine blk_drewN ?_ _ | refine blk_drew ?_ | refine blk_alloc ?_ _)); refine blk_far ?_ NB747_781.out _; (with_reducible repeat (first | refine blk_drewN ?_ _ | refine blk_drew ?_ | refine blk_alloc ?_ _)); refine blk_far ?_ NB747_781.out _; (with_reducible repeat (first | refine blk_drewN ?_ _ | refine blk_drew ?_ | refine blk_alloc ?_ _)); exact BK747.out⟩, ⟨by (with_reducible repeat (first | refine blk_drewN ?_ _ | refine blk_drew ?_ | refine blk_alloc ?_ _)); refine blk_far ?_ NB762_781.out _; (with_reducible repeat (first | refine blk_drewN ?_ _ | refine blk_drew ?_ | refine blk_alloc ?_ _)); refine blk_far ?_ NB762_781.out _; (with_reducible repeat (first | refine blk_drewN ?_ _ | refine blk_drew ?_ | refine blk_alloc ?_ _)); refine blk_far ?_ NB762_781.out _; (with_reducible repeat (first | refine blk_drewN ?_ _ | refine blk_drew ?_ | refine blk_alloc ?_ _)); refine blk_far ?_ NB762_781.out _; (with_reducible repeat (first | refine blk_drewN ?_ _ | refine blk_drew ?_ | refine blk_alloc ?_ _)); refine blk_far ?_ NB762_781.out _; (with_reducible repeat (first | refine blk_drewN ?_ _ | refine blk_drew ?_ | refine blk_alloc ?_ _)); refine blk_far ?_ NB762_781.out _; (with_reducible repeat (first | refine blk_drewN ?_ _ | refine blk_drew ?_ | refine blk_alloc ?_ _)); exact BK762.out⟩, ⟨by (with_reducible repeat (first | refine blk_drewN ?_ _ | refine blk_drew ?_ | refine blk_alloc ?_ _)); refine blk_put (cs := #[.int .i64 t773, .int .i64 t774, .string t775, .string t776, .int .i64 t777, .bool false]) ?_ 5 _ rfl; (with_reducible repeat (first | refine blk_drewN ?_ _ | refine blk_drew ?_ | refine blk_alloc ?_ _)); refine blk_put (cs := #[.int .i64 t773, .int .i64 t774, .string t775, .string t776, .int .i64 0, .bool false]) ?_ 4 _ rfl; (with_reducible repeat (first | refine blk_drewN ?_ _ | refine blk_drew ?_ | refine blk_alloc ?_ _)); refine blk_put (cs := #[.int .i64 t773, .int .i64 t774, .string t775, .string (⟨#[]⟩ : ByteArray), .int .i64 0, .bool false]) ?_ 3 _ rfl; (with_reducible repeat (first | refine blk_drewN ?_ _ | refine blk_drew ?_ | refine blk_alloc ?_ _)); refine blk_put (cs := #[.int .i64 t773, .int .i64 t774, .string (⟨#[]⟩ : ByteArray), .string (⟨#[]⟩ : ByteArray), .int .i64 0, .bool false]) ?_ 2 _ rfl; (with_reducible repeat (first | refine blk_drewN ?_ _ | refine blk_drew ?_ | refine blk_alloc ?_ _)); refine blk_put (cs := #[.int .i64 t773, .int .i64 0, .string (⟨#[]⟩ : ByteArray), .string (⟨#[]⟩ : ByteArray), .int .i64 0, .bool false]) ?_ 1 _ rfl; (with_reducible repeat (first | refine blk_drewN ?_ _ | refine blk_drew ?_ | refine blk_alloc ?_ _)); refine blk_put (cs := #[.int .i64 0, .int .i64 0, .string (⟨#[]⟩ : ByteArray), .string (⟨#[]⟩ : ByteArray), .int .i64 0, .bool false]) ?_ 0 _ rfl; (with_reducible repeat (first | refine blk_drewN ?_ _ | refine blk_drew ?_ | refine blk_alloc ?_ _)); exact BK781.out⟩, ⟨bo⟩⟩
                ·rw [if_neg c59] at H
                 have c59b0 : (t782 == 1) = false := beq_eq_false_iff_ne.mpr c59
                 have c59b1 : (t782 != 1) = true := bne_iff_ne.mpr c59
                 (first | rw [c59b0] | (simp only [i64_w, i32_w]; rw [c59b0]) | skip)
                 obtain rfl := Option.some.inj H
                 go_wp2
                 go_ret
                 exact ⟨er, bo⟩
               case rest => as_aux_lemma =>
                clear HC30
                try clear c2
                try clear p2
                try clear c5
                try clear c27
                try clear c52
                try clear c59
                try clear c59b0
                try clear c59b1
                obtain ⟨kq, HA, HJ29, HO_4, BK747, BK762, BK781, HB⟩ := hcut
                cases kq with
                | zero => exact absurd HA.out (by simp [fairwaylaw12_IndexLooks.j5])
                | succ kj29 =>
                 have H := HA.out
                 clear HA
                 simp only [fairwaylaw12_IndexLooks.j5] at H
                 have HC60 := Aside0.mk H
                 clear H
                 go_upto_if 69 with (fail)
                 go_cut [] (fun wc => ∃ (kq : Nat), Aside0 (fairwaylaw12_IndexLooks.j6 kq t749 x4_8 x5_3 t760 t761 a0_0 l0_1 l0_2 l0_3 a0_4 t754 t755 t756 t757 t758 t759 = some r) ∧ Aside0 (kq ≤ kj29) ∧ Aside0 (Kd.R k77 77 wc w.heap.size (fun _ => True) (.slice Ao31 x4_8.length co31) x4_8) ∧ Aside0 (wc.heap[gb747]? = some (.cells #[.int .i64 a0_0, (.slice A0_1 l0_1.length c0_1), (.slice A0_2 l0_2.length c0_2), (.slice (some ad753) l0_3.length c0_3), .string a0_4] 55 (0, 0))) ∧ Aside0 (wc.heap[gb762]? = some (.cells #[.int .i64 t754, .int .i64 t755, .string t756, .string t757, .int .i64 t758, .bool t759] 25 (0, 0))) ∧ Aside0 (wc.heap[gb781]? = some (.cells #[.int .i64 t773, .int .i64 t774, .string t775, .string t776, .int .i64 t777, .bool t778] 25 (0, 0))) ∧ Aside0 (Below w.heap.size w wc))
                 case first => as_aux_lemma =>
                  have H := HC60.out
                  clear HC60
                  by_cases c61 : t749 = true
                  ·subst c61
                   have H1 : (fairwaylaw12_IndexLooks.j6 kj29 true x4_8 x5_3 t760 t761 a0_0 l0_1 l0_2 l0_3 a0_4 t754 t755 t756 t757 t758 t759) = some r := by rw [if_pos rfl] at H; exact H
                   clear H
                   have H := H1
                   clear H1
                   have H' := Aside0.mk H
                   clear H
                   go_wp2
                   go_meet
                   case rel => exact ⟨_, H', ⟨by have := HJ2.out; have := HJ8.out; have := HK3.out; have := HJ16.out; have := HJ20.out; have := HJ29.out; first | omega | exact Nat.le_refl _⟩, ⟨by (with_reducible repeat (first | apply Kd.R_alloc | apply Kd.R_drewN | apply Kd.R_drew)); exact HO_4.out⟩, ⟨by (with_reducible repeat (first | refine blk_drewN ?_ _ | refine blk_drew ?_ | refine blk_alloc ?_ _)); exact BK747.out⟩, ⟨by (with_reducible repeat (first | refine blk_drewN ?_ _ | refine blk_drew ?_ | refine blk_alloc ?_ _)); exact BK762.out⟩, ⟨by (with_reducible repeat (first | refine blk_drewN ?_ _ | refine blk_drew ?_ | refine blk_alloc ?_ _)); exact BK781.out⟩, ⟨bo⟩⟩
                  ·replace c61 := Bool.eq_false_iff.mpr c61
                   subst c61
                   have H1 : ((fairwaylaw12_num.f t761).bind fun t783 => (if t783 = 1 then (if t760 = 0 then (fairwaylaw12_IndexLooks.l0 kj29 false x4_8 (wrap64 (x5_3 + 1)) a0_0 l0_1 l0_2 l0_3 a0_4) else (some false)) else (some false))) = some r := by rw [if_neg (show ¬ (false = true) by decide)] at H; exact H
                   clear H
                   have H := H1
                   clear H1
                   replace H := Option.bind_eq_some_iff.mp H
                   obtain ⟨t783, A620, H⟩ := H
                   replace H : (if t783 = 1 then (if t760 = 0 then (fairwaylaw12_IndexLooks.l0 kj29 false x4_8 (wrap64 (x5_3 + 1)) a0_0 l0_1 l0_2 l0_3 a0_4) else (some false)) else (some false)) = some r := H
                   have A62 := Aside0.mk A620
                   clear A620
                   by_cases c63 : t783 = 1
                   ·rw [if_pos c63] at H
                    have c63b0 : (t783 == 1) = true := beq_iff_eq.mpr c63
                    have c63b1 : (t783 != 1) = false := bne_eq_false_iff_eq.mpr c63
                    clear c63
                    (first | rw [c63b0] | (simp only [i64_w, i32_w]; rw [c63b0]) | skip)
                    by_cases c64 : t760 = 0
                    ·rw [if_pos c64] at H
                     have c64b0 : (t760 == 0) = true := beq_iff_eq.mpr c64
                     have c64b1 : (t760 != 0) = false := bne_eq_false_iff_eq.mpr c64
                     clear c64
                     have H' := Aside0.mk H
                     clear H
                     go_wp2_with (first | ((with_reducible refine gate_callee (f := 52) rfl ?_); refine goesL_ (some 71) rfl rfl Try.func52 (by kernel_rfl) rfl #[.int .i64 t761] rfl aa ?_; (with_reducible refine (fairwaylaw12_num.calls t761 t783 _ A62.out).mono ?_); rintro e w' ⟨rfl, ⟨nd, rfl⟩⟩; refine ⟨_, rfl, ?_⟩))
                     go_roundg kj29
                     case measure => have := HJ2.out; have := HJ8.out; have := HK3.out; have := HJ16.out; have := HJ20.out; have := HJ29.out; omega
                     case rel => exact ⟨(wrap64 (x5_3 + 1)), ap, H', ⟨by have := HJ2.out; have := HJ8.out; have := HK3.out; have := HJ16.out; have := HJ20.out; have := HJ29.out; omega⟩, ⟨by (with_reducible repeat (first | apply Kd.R_alloc | apply Kd.R_drewN | apply Kd.R_drew)); exact HO_4.out⟩, ⟨by (with_reducible repeat (first | refine blk_drewN ?_ _ | refine blk_drew ?_ | refine blk_alloc ?_ _)); exact BK747.out⟩, ⟨bo⟩⟩
                    ·rw [if_neg c64] at H
                     have c64b0 : (t760 == 0) = false := beq_eq_false_iff_ne.mpr c64
                     have c64b1 : (t760 != 0) = true := bne_iff_ne.mpr c64
                     obtain rfl := Option.some.inj H
                     go_wp2_with (first | ((with_reducible refine gate_callee (f := 52) rfl ?_); refine goesL_ (some 71) rfl rfl Try.func52 (by kernel_rfl) rfl #[.int .i64 t761] rfl aa ?_; (with_reducible refine (fairwaylaw12_num.calls t761 t783 _ A62.out).mono ?_); rintro e w' ⟨rfl, ⟨nd, rfl⟩⟩; refine ⟨_, rfl, ?_⟩))
                     go_ret
                     exact ⟨er, bo⟩
                   ·rw [if_neg c63] at H
                    have c63b0 : (t783 == 1) = false := beq_eq_false_iff_ne.mpr c63
                    have c63b1 : (t783 != 1) = true := bne_iff_ne.mpr c63
                    (first | rw [c63b0] | (simp only [i64_w, i32_w]; rw [c63b0]) | skip)
                    obtain rfl := Option.some.inj H
                    go_wp2_with (first | ((with_reducible refine gate_callee (f := 52) rfl ?_); refine goesL_ (some 71) rfl rfl Try.func52 (by kernel_rfl) rfl #[.int .i64 t761] rfl aa ?_; (with_reducible refine (fairwaylaw12_num.calls t761 t783 _ A62.out).mono ?_); rintro e w' ⟨rfl, ⟨nd, rfl⟩⟩; refine ⟨_, rfl, ?_⟩))
                    go_ret
                    exact ⟨er, bo⟩
                 case rest => as_aux_lemma =>
                  clear HC60
                  try clear c2
                  try clear p2
                  try clear c5
                  try clear c6
                  try clear p6
                  try clear c27
                  try clear c52
                  try clear c59
                  try clear c59b0
                  try clear c59b1
                  try clear c61
                  try clear c63
                  try clear c63b0
                  try clear c63b1
                  try clear c64
                  try clear c64b0
                  try clear c64b1
                  try clear p64
                  try clear p2
                  obtain ⟨kq, HA, HJ59, HO_4, BK747, BK762, BK781, HB⟩ := hcut
                  cases kq with
                  | zero => exact absurd HA.out (by simp [fairwaylaw12_IndexLooks.j6])
                  | succ kj59 =>
                   have H := HA.out
                   clear HA
                   simp only [fairwaylaw12_IndexLooks.j6] at H
                   by_cases c65 : 0 ≤ x5_3
                   ·rw [if_pos c65] at H
                    have c65b0 : decide (0 ≤ x5_3) = true := decide_eq_true c65
                    clear c65
                    by_cases c66 : x5_3 < (l0_3.length : Int)
                    ·rw [if_pos c66] at H
                     have c66b0 : decide (x5_3 < (l0_3.length : Int)) = true := decide_eq_true c66
                     clear c66
                     replace H := Option.bind_eq_some_iff.mp H
                     obtain ⟨t785, A670, H⟩ := H
                     replace H : (if t785 < 0 then ((fairwaylaw12_num.f t761).bind fun t786 => (if t786 = 3 then (if t760 = 0 then (fairwaylaw12_IndexLooks.l0 kj59 t749 x4_8 (wrap64 (x5_3 + 1)) a0_0 l0_1 l0_2 l0_3 a0_4) else (some false)) else (some false))) else (fairwaylaw12_IndexLooks.j7 kj59 t749 x4_8 x5_3 t760 t761 t785 a0_0 l0_1 l0_2 l0_3 a0_4 t754 t755 t756 t757 t758 t759)) = some r := H
                     have A67 := Aside0.mk A670
                     clear A670
                     have HC68 := Aside0.mk H
                     clear H
                     try go_wp2
                     replace HO_4 := Aside0.mk (Kd.R_drew HO_4.out)
                     replace BK747 := Aside0.mk (blk_drew BK747.out)
                     replace BK762 := Aside0.mk (blk_drew BK762.out)
                     replace BK781 := Aside0.mk (blk_drew BK781.out)
                     replace HB := Aside0.mk (below_drew1 HB.out)
                     have p784 : 0 ≤ (x5_3 : Int) := od
                     have q784 : x5_3 < (l0_3.length : Int) := od
                     obtain ⟨ad784, e784, hx784_0⟩ := Kd.at_int HR0_3.out x5_3 p784 q784
                     have hw784_0 := hx784_0
                     obtain rfl : ad753 = ad784 := (by injection e784)
                     replace hx784_0 := cx HB.out hx784_0
                     replace p784 := eq_true p784
                     replace q784 := eq_true q784
                     refine start_ (n := 10) (S := fun w' => w'.cell? ⟨gb747, 0, none⟩ = some (.int .i64 a0_0) ∧ w'.cell? ⟨gb747, 1, none⟩ = some (.slice A0_1 l0_1.length c0_1) ∧ w'.cell? ⟨gb747, 2, none⟩ = some (.slice A0_2 l0_2.length c0_2) ∧ w'.cell? ⟨gb747, 3, none⟩ = some (.slice (some ad753) l0_3.length c0_3) ∧ w'.cell? ⟨gb747, 4, none⟩ = some (.string a0_4) ∧ w'.cell? (ad753.add (x5_3).toNat) = some (.int .i64 (rd l0_3 x5_3))) (ds := []) #[O,O,O,O,O,O,O,O,O,O] (by kernel_rfl) rfl rfl ⟨(blk_cell BK747.out 0).trans rfl, (blk_cell BK747.out 1).trans rfl, (blk_cell BK747.out 2).trans rfl, (blk_cell BK747.out 3).trans rfl, (blk_cell BK747.out 4).trans rfl, ((HB.out.cell (World.block_lt_of_cell? w _ hw784_0)).trans hw784_0)⟩ (fun hHeld => ?_); refine with_tabW fairwaylaw12_IndexLooks.tab17 fairwaylaw12_IndexLooks.bits17 (fun HT_ HW_ => ?_)
                     generalize wc.drew = w69 at HO_4 BK747 BK762 BK781 HB hx784_0 hHeld ⊢
                     refine pz (i := 0) (N := some 77) #[I,O,O,O,O,O,O,O,O,O] ?_
                     refine pz (i := 1) (N := some 78) #[I,I,O,O,O,O,O,O,O,O] ?_
                     refine pz (i := 3) (N := some 80) #[I,I,O,I,O,O,O,O,O,O] ?_
                     refine pz (i := 5) (N := some 82) #[I,I,O,I,O,I,O,O,O,O] ?_
                     refine tz (i := 2) (N := some 79) #[I,I,I,I,O,I,O,O,O,O] ?_
                     refine tz (i := 4) (N := some 81) #[I,I,I,I,I,I,O,O,O,O] ?_
                     refine pz (i := 6) (N := some 83) #[I,I,I,I,I,I,I,O,O,O] ?_
                     refine tz (i := 7) (N := some 84) #[I,I,I,I,I,I,I,I,O,O] ?_
                     refine one_ (i := 8) (N := some 85) #[I,I,I,I,I,I,I,I,I,O] rfl rfl (one_of HT_.out (by kernel_rfl)) (by decide) (fun K hK => ?_)
                     refine goes_ Try.func34 (by kernel_rfl) rfl #[.slice A0_1 l0_1.length c0_1, .int .i64 (rd l0_3 x5_3)] (by rfl) rfl rfl aa ?_
                     with_reducible refine (fairwayref10_Find.calls kj59 _ _ l0_1 (rd l0_3 x5_3) t785 _ ?side1 ?side2 A67.out).mono ?_
                     (case side1 => repeat (first | exact (Kd.C_below HR0_1.out HB.out) | (with_reducible refine Kd.C_alloc ?_ _) | (with_reducible refine Kd.C_drewN ?_ _) | (with_reducible refine Kd.C_drew ?_)))
                     (case side2 => exact HC0_1.out)
                     rintro e w' ⟨rfl, ⟨nd, rfl⟩⟩
                     refine ⟨_, rfl, ?_⟩
                     refine hK.out _ _ ⟨(blk_cell BK747.out 0).trans rfl, (blk_cell BK747.out 1).trans rfl, (blk_cell BK747.out 2).trans rfl, (blk_cell BK747.out 3).trans rfl, (blk_cell BK747.out 4).trans rfl, ((HB.out.cell (World.block_lt_of_cell? w _ hw784_0)).trans hw784_0)⟩ (fun hHeld => ?_)
                     clear hK K
                     refine norm_ (a' := ?_) ?_ ?_
                     rotate_left
                     ·show Act.put _ (some 85) _ = _
                      simp only [Act.put, List.setIfInBounds_toArray, List.set_cons_zero, List.set_cons_succ, i64_w, i32_w]
                      rfl
                     refine pz (i := 9) (N := some 12) #[I,I,I,I,I,I,I,I,I,I] ?_
                     refine done_ (done_of HT_.out (by kernel_rfl)) ?_
                     go_upto_if 87 with (fail)
                     go_cut [] (fun wc => ∃ (kq : Nat), Aside0 (fairwaylaw12_IndexLooks.j7 kq t749 x4_8 x5_3 t760 t761 t785 a0_0 l0_1 l0_2 l0_3 a0_4 t754 t755 t756 t757 t758 t759 = some r) ∧ Aside0 (kq ≤ kj59) ∧ Aside0 (Kd.R k77 77 wc w.heap.size (fun _ => True) (.slice Ao31 x4_8.length co31) x4_8) ∧ Aside0 (wc.heap[gb747]? = some (.cells #[.int .i64 a0_0, (.slice A0_1 l0_1.length c0_1), (.slice A0_2 l0_2.length c0_2), (.slice (some ad753) l0_3.length c0_3), .string a0_4] 55 (0, 0))) ∧ Aside0 (wc.heap[gb762]? = some (.cells #[.int .i64 t754, .int .i64 t755, .string t756, .string t757, .int .i64 t758, .bool t759] 25 (0, 0))) ∧ Aside0 (wc.heap[gb781]? = some (.cells #[.int .i64 t773, .int .i64 t774, .string t775, .string t776, .int .i64 t777, .bool t778] 25 (0, 0))) ∧ Aside0 (Below w.heap.size w wc))
                     case first => as_aux_lemma =>
                      have H := HC68.out
                      clear HC68
                      by_cases c70 : t785 < 0
                      ·rw [if_pos c70] at H
                       have c70b0 : decide (t785 < 0) = true := decide_eq_true c70
                       clear c70
                       (first | rw [c70b0] | (simp only [i64_w, i32_w]; rw [c70b0]) | skip)
                       replace H := Option.bind_eq_some_iff.mp H
                       obtain ⟨t786, A710, H⟩ := H
                       replace H : (if t786 = 3 then (if t760 = 0 then (fairwaylaw12_IndexLooks.l0 kj59 t749 x4_8 (wrap64 (x5_3 + 1)) a0_0 l0_1 l0_2 l0_3 a0_4) else (some false)) else (some false)) = some r := H
                       have A71 := Aside0.mk A710
                       clear A710
                       by_cases c72 : t786 = 3
                       ·rw [if_pos c72] at H
                        have c72b0 : (t786 == 3) = true := beq_iff_eq.mpr c72
                        have c72b1 : (t786 != 3) = false := bne_eq_false_iff_eq.mpr c72
                        clear c72
                        by_cases c73 : t760 = 0
                        ·rw [if_pos c73] at H
                         have c73b0 : (t760 == 0) = true := beq_iff_eq.mpr c73
                         have c73b1 : (t760 != 0) = false := bne_eq_false_iff_eq.mpr c73
                         clear c73
                         have H' := Aside0.mk H
                         clear H
                         go_wp2_with (first | ((with_reducible refine gate_callee (f := 52) rfl ?_); refine goesL_ (some 89) rfl rfl Try.func52 (by kernel_rfl) rfl #[.int .i64 t761] rfl aa ?_; (with_reducible refine (fairwaylaw12_num.calls t761 t786 _ A71.out).mono ?_); rintro e w' ⟨rfl, ⟨nd, rfl⟩⟩; refine ⟨_, rfl, ?_⟩))
                         go_roundg kj59
                         case measure => have := HJ2.out; have := HJ8.out; have := HK3.out; have := HJ16.out; have := HJ20.out; have := HJ29.out; have := HJ59.out; omega
                         case rel => exact ⟨(wrap64 (x5_3 + 1)), ap, H', ⟨by have := HJ2.out; have := HJ8.out; have := HK3.out; have := HJ16.out; have := HJ20.out; have := HJ29.out; have := HJ59.out; omega⟩, ⟨by (with_reducible repeat (first | apply Kd.R_alloc | apply Kd.R_drewN | apply Kd.R_drew)); exact HO_4.out⟩, ⟨by (with_reducible repeat (first | refine blk_drewN ?_ _ | refine blk_drew ?_ | refine blk_alloc ?_ _)); exact BK747.out⟩, ⟨bo⟩⟩
                        ·rw [if_neg c73] at H
                         have c73b0 : (t760 == 0) = false := beq_eq_false_iff_ne.mpr c73
                         have c73b1 : (t760 != 0) = true := bne_iff_ne.mpr c73
                         obtain rfl := Option.some.inj H
                         go_wp2_with (first | ((with_reducible refine gate_callee (f := 52) rfl ?_); refine goesL_ (some 89) rfl rfl Try.func52 (by kernel_rfl) rfl #[.int .i64 t761] rfl aa ?_; (with_reducible refine (fairwaylaw12_num.calls t761 t786 _ A71.out).mono ?_); rintro e w' ⟨rfl, ⟨nd, rfl⟩⟩; refine ⟨_, rfl, ?_⟩))
                         go_ret
                         exact ⟨er, bo⟩
                       ·rw [if_neg c72] at H
                        have c72b0 : (t786 == 3) = false := beq_eq_false_iff_ne.mpr c72
                        have c72b1 : (t786 != 3) = true := bne_iff_ne.mpr c72
                        obtain rfl := Option.some.inj H
                        go_wp2_with (first | ((with_reducible refine gate_callee (f := 52) rfl ?_); refine goesL_ (some 89) rfl rfl Try.func52 (by kernel_rfl) rfl #[.int .i64 t761] rfl aa ?_; (with_reducible refine (fairwaylaw12_num.calls t761 t786 _ A71.out).mono ?_); rintro e w' ⟨rfl, ⟨nd, rfl⟩⟩; refine ⟨_, rfl, ?_⟩))
                        go_ret
                        exact ⟨er, bo⟩
                      ·rw [if_neg c70] at H
                       have c70b0 : decide (t785 < 0) = false := decide_eq_false c70
                       clear c70
                       (first | rw [c70b0] | (simp only [i64_w, i32_w]; rw [c70b0]) | skip)
                       have H' := Aside0.mk H
                       clear H
                       go_wp2
                       go_meet
                       case rel => exact ⟨_, H', ⟨by have := HJ2.out; have := HJ8.out; have := HK3.out; have := HJ16.out; have := HJ20.out; have := HJ29.out; have := HJ59.out; first | omega | exact Nat.le_refl _⟩, ⟨by (with_reducible repeat (first | apply Kd.R_alloc | apply Kd.R_drewN | apply Kd.R_drew)); exact HO_4.out⟩, ⟨by (with_reducible repeat (first | refine blk_drewN ?_ _ | refine blk_drew ?_ | refine blk_alloc ?_ _)); exact BK747.out⟩, ⟨by (with_reducible repeat (first | refine blk_drewN ?_ _ | refine blk_drew ?_ | refine blk_alloc ?_ _)); exact BK762.out⟩, ⟨by (with_reducible repeat (first | refine blk_drewN ?_ _ | refine blk_drew ?_ | refine blk_alloc ?_ _)); exact BK781.out⟩, ⟨bo⟩⟩
                     case rest => as_aux_lemma =>
                      clear HC68
                      try clear c2
                      try clear p2
                      try clear c3
                      try clear c5
                      try clear c6
                      try clear p6
                      try clear c7
                      try clear p7
                      try clear q7
                      try clear hx7
                      try clear c27
                      try clear c34
                      try clear c52
                      try clear c59
                      try clear c59b0
                      try clear c59b1
                      try clear c61
                      try clear c63
                      try clear c63b0
                      try clear c63b1
                      try clear c64
                      try clear c64b0
                      try clear c64b1
                      try clear p64
                      try clear c65
                      try clear c65b0
                      try clear c66
                      try clear c66b0
                      try clear c70
                      try clear c70b0
                      try clear c72
                      try clear c72b0
                      try clear c72b1
                      try clear c73
                      try clear c73b0
                      try clear c73b1
                      try clear hx784_0
                      try clear p2
                      try clear p6
                      try clear p64
                      try clear p784
                      try clear q784
                      obtain ⟨kq, HA, HJ67, HO_4, BK747, BK762, BK781, HB⟩ := hcut
                      cases kq with
                      | zero => exact absurd HA.out (by simp [fairwaylaw12_IndexLooks.j7])
                      | succ kj67 =>
                       have H := HA.out
                       clear HA
                       simp only [fairwaylaw12_IndexLooks.j7] at H
                       by_cases c74 : 0 ≤ x5_3
                       ·rw [if_pos c74] at H
                        have c74b0 : decide (0 ≤ x5_3) = true := decide_eq_true c74
                        clear c74
                        by_cases c75 : x5_3 < (l0_3.length : Int)
                        ·rw [if_pos c75] at H
                         have c75b0 : decide (x5_3 < (l0_3.length : Int)) = true := decide_eq_true c75
                         clear c75
                         replace H := Option.bind_eq_some_iff.mp H
                         obtain ⟨t788, A760, H⟩ := H
                         replace H : (if t788 > 0 then (fairwaylaw12_IndexLooks.j8 kj67 t749 x4_8 x5_3 t760 t761 t785 (wrap64 (t788 * 4)) a0_0 l0_1 l0_2 l0_3 a0_4 t754 t755 t756 t757 t758 t759) else (fairwaylaw12_IndexLooks.j8 kj67 t749 x4_8 x5_3 t760 t761 t785 0 a0_0 l0_1 l0_2 l0_3 a0_4 t754 t755 t756 t757 t758 t759)) = some r := H
                         have A76 := Aside0.mk A760
                         clear A760
                         have HC77 := Aside0.mk H
                         clear H
                         have hnb78 := NB747_762.out
                         have hnc78 := NB762_747.out
                         have hnb79 := NB747_781.out
                         have hnc79 := NB781_747.out
                         have hcz80_0 : wc.cell? ⟨gb747, 0, none⟩ = some (.int .i64 a0_0) := (blk_cell BK747.out 0).trans rfl
                         have hcz80_1 : wc.cell? ⟨gb747, 1, none⟩ = some (.slice A0_1 l0_1.length c0_1) := (blk_cell BK747.out 1).trans rfl
                         have hcz80_2 : wc.cell? ⟨gb747, 2, none⟩ = some (.slice A0_2 l0_2.length c0_2) := (blk_cell BK747.out 2).trans rfl
                         have hcz80_3 : wc.cell? ⟨gb747, 3, none⟩ = some (.slice (some ad753) l0_3.length c0_3) := (blk_cell BK747.out 3).trans rfl
                         have hcz80_4 : wc.cell? ⟨gb747, 4, none⟩ = some (.string a0_4) := (blk_cell BK747.out 4).trans rfl
                         have hfz80_0 := blk_frozen BK747.out 0
                         have hfz80_1 := blk_frozen BK747.out 1
                         have hfz80_2 := blk_frozen BK747.out 2
                         have hfz80_3 := blk_frozen BK747.out 3
                         have hfz80_4 := blk_frozen BK747.out 4
                         have p787 : 0 ≤ (x5_3 : Int) := od
                         have q787 : x5_3 < (l0_3.length : Int) := od
                         obtain ⟨ad787, e787, hx787_0⟩ := Kd.at_int HR0_3.out x5_3 p787 q787
                         obtain rfl : ad753 = ad787 := (by injection e787)
                         replace hx787_0 := cx HB.out hx787_0
                         replace p787 := eq_true p787
                         replace q787 := eq_true q787
                         go_upto_if 103 with (first | ((with_reducible refine gate_callee (f := 51) rfl ?_); refine goesL_ (some 101) rfl rfl Try.func51 (by kernel_rfl) rfl #[.slice Ao31 x4_8.length co31, .int .i64 (rd l0_3 x5_3)] rfl aa ?_; (with_reducible refine (fairwayref10_From.calls kj67 _ _ x4_8 (rd l0_3 x5_3) t788 _ ?side1 ?side2 A76.out).mono ?_); (case side1 => repeat (first | exact (Kd.R_reads' HO_4.out).2.2 | (with_reducible refine Kd.C_alloc ?_ _) | (with_reducible refine Kd.C_drewN ?_ _) | (with_reducible refine Kd.C_drew ?_))); (case side2 => exact (Kd.R_reads' HO_4.out).2.1); rintro e w' ⟨rfl, ⟨nd, rfl⟩⟩; refine ⟨_, rfl, ?_⟩))
                         (try simp only [Act.put, List.setIfInBounds_toArray, List.set_cons_zero, List.set_cons_succ])
                         go_cut [13] (fun v13 wc => ∃ (kq : Nat) (x13_76 : Int), v13 = .int .i64 x13_76 ∧ Aside0 (fairwaylaw12_IndexLooks.j8 kq t749 x4_8 x5_3 t760 t761 t785 x13_76 a0_0 l0_1 l0_2 l0_3 a0_4 t754 t755 t756 t757 t758 t759 = some r) ∧ Aside0 (kq ≤ kj67) ∧ Aside0 (Kd.R k77 77 wc w.heap.size (fun _ => True) (.slice Ao31 x4_8.length co31) x4_8) ∧ Aside0 (wc.heap[gb747]? = some (.cells #[.int .i64 a0_0, (.slice A0_1 l0_1.length c0_1), (.slice A0_2 l0_2.length c0_2), (.slice (some ad753) l0_3.length c0_3), .string a0_4] 55 (0, 0))) ∧ Aside0 (wc.heap[gb762]? = some (.cells #[.int .i64 t754, .int .i64 t755, .string t756, .string t757, .int .i64 t758, .bool t759] 25 (0, 0))) ∧ Aside0 (wc.heap[gb781]? = some (.cells #[.int .i64 t773, .int .i64 t774, .string t775, .string t776, .int .i64 t777, .bool t778] 25 (0, 0))) ∧ Aside0 (Below w.heap.size w wc))
                         case first => as_aux_lemma =>
                          have H := HC77.out
                          clear HC77
                          by_cases c81 : t788 > 0
                          ·rw [if_pos c81] at H
                           have c81b0 : decide (0 < t788) = true := decide_eq_true c81
                           clear c81
                           (first | rw [c81b0] | (simp only [i64_w, i32_w]; rw [c81b0]) | skip)
                           have H' := Aside0.mk H
                           clear H
                           go_wp2
                           go_meet
                           case rel => exact ⟨_, (wrap64 (t788 * 4)), ap, H', ⟨by have := HJ2.out; have := HJ8.out; have := HK3.out; have := HJ16.out; have := HJ20.out; have := HJ29.out; have := HJ59.out; have := HJ67.out; first | omega | exact Nat.le_refl _⟩, ⟨by (with_reducible repeat (first | apply Kd.R_alloc | apply Kd.R_drewN | apply Kd.R_drew)); exact HO_4.out⟩, ⟨by (with_reducible repeat (first | refine blk_drewN ?_ _ | refine blk_drew ?_ | refine blk_alloc ?_ _)); exact BK747.out⟩, ⟨by (with_reducible repeat (first | refine blk_drewN ?_ _ | refine blk_drew ?_ | refine blk_alloc ?_ _)); exact BK762.out⟩, ⟨by (with_reducible repeat (first | refine blk_drewN ?_ _ | refine blk_drew ?_ | refine blk_alloc ?_ _)); exact BK781.out⟩, ⟨bo⟩⟩
                          ·rw [if_neg c81] at H
                           have c81b0 : decide (0 < t788) = false := decide_eq_false c81
                           clear c81
                           (first | rw [c81b0] | (simp only [i64_w, i32_w]; rw [c81b0]) | skip)
                           have H' := Aside0.mk H
                           clear H
                           go_wp2
                           go_meet
                           case rel => exact ⟨_, (0), ap, H', ⟨by have := HJ2.out; have := HJ8.out; have := HK3.out; have := HJ16.out; have := HJ20.out; have := HJ29.out; have := HJ59.out; have := HJ67.out; first | omega | exact Nat.le_refl _⟩, ⟨by (with_reducible repeat (first | apply Kd.R_alloc | apply Kd.R_drewN | apply Kd.R_drew)); exact HO_4.out⟩, ⟨by (with_reducible repeat (first | refine blk_drewN ?_ _ | refine blk_drew ?_ | refine blk_alloc ?_ _)); exact BK747.out⟩, ⟨by (with_reducible repeat (first | refine blk_drewN ?_ _ | refine blk_drew ?_ | refine blk_alloc ?_ _)); exact BK762.out⟩, ⟨by (with_reducible repeat (first | refine blk_drewN ?_ _ | refine blk_drew ?_ | refine blk_alloc ?_ _)); exact BK781.out⟩, ⟨bo⟩⟩
                         case rest => as_aux_lemma =>
                          clear HC77
                          try clear c2
                          try clear p2
                          try clear c3
                          try clear c5
                          try clear c6
                          try clear p6
                          try clear c7
                          try clear p7
                          try clear q7
                          try clear hx7
                          try clear c8
                          try clear c27
                          try clear c34
                          try clear c51
                          try clear c52
                          try clear c59
                          try clear c59b0
                          try clear c59b1
                          try clear c61
                          try clear c63
                          try clear c63b0
                          try clear c63b1
                          try clear c64
                          try clear c64b0
                          try clear c64b1
                          try clear p64
                          try clear c65
                          try clear c65b0
                          try clear c66
                          try clear c66b0
                          try clear c70
                          try clear c70b0
                          try clear c72
                          try clear c72b0
                          try clear c72b1
                          try clear c73
                          try clear c73b0
                          try clear c73b1
                          try clear c74
                          try clear c74b0
                          try clear c75
                          try clear c75b0
                          try clear c78
                          try clear p78
                          try clear q78
                          try clear hx78
                          try clear c79
                          try clear c81
                          try clear c81b0
                          try clear hcz80_0
                          try clear hcz80_1
                          try clear hcz80_2
                          try clear hcz80_3
                          try clear hcz80_4
                          try clear hfz80_0
                          try clear hfz80_1
                          try clear hfz80_2
                          try clear hfz80_3
                          try clear hfz80_4
                          try clear hx784_0
                          try clear hx787_0
                          try clear p2
                          try clear p6
                          try clear p64
                          try clear p7
                          try clear p784
                          try clear p787
                          try clear q7
                          try clear q784
                          try clear q787
                          obtain ⟨kq, x13_76, rfl, HA, HJ76, HO_4, BK747, BK762, BK781, HB⟩ := hcut
                          cases kq with
                          | zero => exact absurd HA.out (by simp [fairwaylaw12_IndexLooks.j8])
                          | succ kj76 =>
                           have H := HA.out
                           clear HA
                           simp only [fairwaylaw12_IndexLooks.j8] at H
                           have HC82 := Aside0.mk H
                           clear H
                           go_upto_region 25 with (fail)
                           go_cut [133] (fun v133 wc => ∃ (kq : Nat) (x133_81 : Bool), v133 = .bool x133_81 ∧ Aside0 (fairwaylaw12_IndexLooks.j9 kq t749 x4_8 x5_3 x133_81 a0_0 l0_1 l0_2 l0_3 a0_4 = some r) ∧ Aside0 (kq ≤ kj76) ∧ Aside0 (Kd.R k77 77 wc w.heap.size (fun _ => True) (.slice Ao31 x4_8.length co31) x4_8) ∧ Aside0 (wc.heap[gb747]? = some (.cells #[.int .i64 a0_0, (.slice A0_1 l0_1.length c0_1), (.slice A0_2 l0_2.length c0_2), (.slice (some ad753) l0_3.length c0_3), .string a0_4] 55 (0, 0))) ∧ Aside0 (wc.heap[gb762]? = some (.cells #[.int .i64 t754, .int .i64 t755, .string t756, .string t757, .int .i64 t758, .bool t759] 25 (0, 0))) ∧ Aside0 (wc.heap[gb781]? = some (.cells #[.int .i64 t773, .int .i64 t774, .string t775, .string t776, .int .i64 t777, .bool t778] 25 (0, 0))) ∧ Aside0 (Below w.heap.size w wc))
                           case first => as_aux_lemma =>
                            have H := HC82.out
                            clear HC82
                            replace H := Option.bind_eq_some_iff.mp H
                            obtain ⟨t789, A830, H⟩ := H
                            replace H : (if t789 = 0 then (if 0 ≤ t785 then (if t785 < (l0_1.length : Int) then (if (!(t754 == ((rd_T25 l0_1 t785).f0)) || (!(t755 == ((rd_T25 l0_1 t785).f1)) || (!(t756.toList == (((rd_T25 l0_1 t785).f2).toList)) || (!(t757.toList == (((rd_T25 l0_1 t785).f3).toList)) || (!(t758 == ((rd_T25 l0_1 t785).f4)) || (!(t759 == ((rd_T25 l0_1 t785).f5)))))))) = true then (fairwaylaw12_IndexLooks.j9 kj76 t749 x4_8 x5_3 true a0_0 l0_1 l0_2 l0_3 a0_4) else (if t760 = (wrap64 (t785 - x13_76)) then (if t760 < 0 then (fairwaylaw12_IndexLooks.j9 kj76 t749 x4_8 x5_3 true a0_0 l0_1 l0_2 l0_3 a0_4) else (fairwaylaw12_IndexLooks.j9 kj76 t749 x4_8 x5_3 (decide (t760 > 4)) a0_0 l0_1 l0_2 l0_3 a0_4)) else (fairwaylaw12_IndexLooks.j9 kj76 t749 x4_8 x5_3 true a0_0 l0_1 l0_2 l0_3 a0_4))) else (none)) else (none)) else (fairwaylaw12_IndexLooks.j9 kj76 t749 x4_8 x5_3 true a0_0 l0_1 l0_2 l0_3 a0_4)) = some r := H
                            have A83 := Aside0.mk A830
                            clear A830
                            by_cases c84 : t789 = 0
                            ·rw [if_pos c84] at H
                             have c84b0 : (t789 == 0) = true := beq_iff_eq.mpr c84
                             have c84b1 : (t789 != 0) = false := bne_eq_false_iff_eq.mpr c84
                             clear c84
                             (first | rw [c84b0] | (simp only [i64_w, i32_w]; rw [c84b0]) | skip)
                             by_cases c85 : 0 ≤ t785
                             ·rw [if_pos c85] at H
                              have c85b0 : decide (0 ≤ t785) = true := decide_eq_true c85
                              clear c85
                              by_cases c86 : t785 < (l0_1.length : Int)
                              ·rw [if_pos c86] at H
                               have c86b0 : decide (t785 < (l0_1.length : Int)) = true := decide_eq_true c86
                               clear c86
                               by_cases c87 : (!(t754 == ((rd_T25 l0_1 t785).f0)) || (!(t755 == ((rd_T25 l0_1 t785).f1)) || (!(t756.toList == (((rd_T25 l0_1 t785).f2).toList)) || (!(t757.toList == (((rd_T25 l0_1 t785).f3).toList)) || (!(t758 == ((rd_T25 l0_1 t785).f4)) || (!(t759 == ((rd_T25 l0_1 t785).f5)))))))) = true
                               ·rw [if_pos c87] at H
                                have c87b0 : (!(t754 == ((rd_T25 l0_1 t785).f0)) || (!(t755 == ((rd_T25 l0_1 t785).f1)) || (!(t756.toList == (((rd_T25 l0_1 t785).f2).toList)) || (!(t757.toList == (((rd_T25 l0_1 t785).f3).toList)) || (!(t758 == ((rd_T25 l0_1 t785).f4)) || (!(t759 == ((rd_T25 l0_1 t785).f5)))))))) = true := c87
                                clear c87
                                have H' := Aside0.mk H
                                clear H
                                try go_wp2
                                replace HO_4 := Aside0.mk (Kd.R_drew HO_4.out)
                                replace BK747 := Aside0.mk (blk_drew BK747.out)
                                replace BK762 := Aside0.mk (blk_drew BK762.out)
                                replace BK781 := Aside0.mk (blk_drew BK781.out)
                                replace HB := Aside0.mk (below_drew1 HB.out)
                                have p790 : 0 ≤ (t785 : Int) := od
                                have q790 : t785 < (l0_1.length : Int) := od
                                obtain ⟨ad790, e790, hx790_0, hx790_1, hx790_2, hx790_3, hx790_4, hx790_5⟩ := at_T25 HR0_1.out t785 p790 q790
                                have hw790_5 := hx790_5
                                have hw790_4 := hx790_4
                                have hw790_3 := hx790_3
                                have hw790_2 := hx790_2
                                have hw790_1 := hx790_1
                                have hw790_0 := hx790_0
                                cases e790
                                replace hx790_0 := cx HB.out hx790_0
                                replace hx790_1 := cx HB.out hx790_1
                                replace hx790_2 := cx HB.out hx790_2
                                replace hx790_3 := cx HB.out hx790_3
                                replace hx790_4 := cx HB.out hx790_4
                                replace hx790_5 := cx HB.out hx790_5
                                replace p790 := eq_true p790
                                replace q790 := eq_true q790
                                refine start_ (n := 28) (S := fun w' => w'.cell? ⟨gb762, 0, none⟩ = some (.int .i64 t754) ∧ w'.cell? ⟨gb762, 1, none⟩ = some (.int .i64 t755) ∧ w'.cell? ⟨gb762, 2, none⟩ = some (.string t756) ∧ w'.cell? ⟨gb762, 3, none⟩ = some (.string t757) ∧ w'.cell? ⟨gb762, 4, none⟩ = some (.int .i64 t758) ∧ w'.cell? ⟨gb762, 5, none⟩ = some (.bool t759) ∧ w'.cell? ⟨gb747, 0, none⟩ = some (.int .i64 a0_0) ∧ w'.cell? ⟨gb747, 1, none⟩ = some (.slice (some ad790) l0_1.length c0_1) ∧ w'.cell? ⟨gb747, 2, none⟩ = some (.slice A0_2 l0_2.length c0_2) ∧ w'.cell? ⟨gb747, 3, none⟩ = some (.slice (some ad753) l0_3.length c0_3) ∧ w'.cell? ⟨gb747, 4, none⟩ = some (.string a0_4) ∧ w'.cell? (ad790.add ((t785).toNat * 6)) = some (.int .i64 ((rd_T25 l0_1 t785).f0)) ∧ w'.cell? ⟨(ad790.add ((t785).toNat * 6)).block, (ad790.add ((t785).toNat * 6)).off + 1, none⟩ = some (.int .i64 ((rd_T25 l0_1 t785).f1)) ∧ w'.cell? ⟨(ad790.add ((t785).toNat * 6)).block, (ad790.add ((t785).toNat * 6)).off + 2, none⟩ = some (.string ((rd_T25 l0_1 t785).f2)) ∧ w'.cell? ⟨(ad790.add ((t785).toNat * 6)).block, (ad790.add ((t785).toNat * 6)).off + 3, none⟩ = some (.string ((rd_T25 l0_1 t785).f3)) ∧ w'.cell? ⟨(ad790.add ((t785).toNat * 6)).block, (ad790.add ((t785).toNat * 6)).off + 4, none⟩ = some (.int .i64 ((rd_T25 l0_1 t785).f4)) ∧ w'.cell? ⟨(ad790.add ((t785).toNat * 6)).block, (ad790.add ((t785).toNat * 6)).off + 5, none⟩ = some (.bool ((rd_T25 l0_1 t785).f5))) (ds := []) #[O,O,O,O,O,O,O,O,O,O,O,O,O,O,O,O,O,O,O,O,O,O,O,O,O,O,O,O] (by kernel_rfl) rfl rfl ⟨(blk_cell BK762.out 0).trans rfl, (blk_cell BK762.out 1).trans rfl, (blk_cell BK762.out 2).trans rfl, (blk_cell BK762.out 3).trans rfl, (blk_cell BK762.out 4).trans rfl, (blk_cell BK762.out 5).trans rfl, (blk_cell BK747.out 0).trans rfl, (blk_cell BK747.out 1).trans rfl, (blk_cell BK747.out 2).trans rfl, (blk_cell BK747.out 3).trans rfl, (blk_cell BK747.out 4).trans rfl, ((HB.out.cell (World.block_lt_of_cell? w _ hw790_0)).trans hw790_0), ((HB.out.cell (World.block_lt_of_cell? w _ hw790_1)).trans hw790_1), ((HB.out.cell (World.block_lt_of_cell? w _ hw790_2)).trans hw790_2), ((HB.out.cell (World.block_lt_of_cell? w _ hw790_3)).trans hw790_3), ((HB.out.cell (World.block_lt_of_cell? w _ hw790_4)).trans hw790_4), ((HB.out.cell (World.block_lt_of_cell? w _ hw790_5)).trans hw790_5)⟩ (fun hHeld => ?_); refine with_tabW fairwaylaw12_IndexLooks.tab25 fairwaylaw12_IndexLooks.bits25 (fun HT_ HW_ => ?_)
                                generalize wc.drew = w88 at HO_4 BK747 BK762 BK781 HB hx790_0 hx790_1 hx790_2 hx790_3 hx790_4 hx790_5 hHeld ⊢
                                refine pz (i := 0) (N := some 106) #[I,O,O,O,O,O,O,O,O,O,O,O,O,O,O,O,O,O,O,O,O,O,O,O,O,O,O,O] ?_
                                refine one_ (i := 1) (N := some 107) #[I,I,O,O,O,O,O,O,O,O,O,O,O,O,O,O,O,O,O,O,O,O,O,O,O,O,O,O] rfl rfl (one_of HT_.out (by kernel_rfl)) (by decide) (fun K hK => ?_)
                                refine goes_ Try.func52 (by kernel_rfl) rfl #[.int .i64 t761] (by rfl) rfl rfl aa ?_
                                with_reducible refine (fairwaylaw12_num.calls t761 t789 _ A83.out).mono ?_
                                rintro e w' ⟨rfl, ⟨nd, rfl⟩⟩
                                refine ⟨_, rfl, ?_⟩
                                refine hK.out _ _ ⟨(blk_cell BK762.out 0).trans rfl, (blk_cell BK762.out 1).trans rfl, (blk_cell BK762.out 2).trans rfl, (blk_cell BK762.out 3).trans rfl, (blk_cell BK762.out 4).trans rfl, (blk_cell BK762.out 5).trans rfl, (blk_cell BK747.out 0).trans rfl, (blk_cell BK747.out 1).trans rfl, (blk_cell BK747.out 2).trans rfl, (blk_cell BK747.out 3).trans rfl, (blk_cell BK747.out 4).trans rfl, ((HB.out.cell (World.block_lt_of_cell? w _ hw790_0)).trans hw790_0), ((HB.out.cell (World.block_lt_of_cell? w _ hw790_1)).trans hw790_1), ((HB.out.cell (World.block_lt_of_cell? w _ hw790_2)).trans hw790_2), ((HB.out.cell (World.block_lt_of_cell? w _ hw790_3)).trans hw790_3), ((HB.out.cell (World.block_lt_of_cell? w _ hw790_4)).trans hw790_4), ((HB.out.cell (World.block_lt_of_cell? w _ hw790_5)).trans hw790_5)⟩ (fun hHeld => ?_)
                                clear hK K
                                refine norm_ (a' := ?_) ?_ ?_
                                rotate_left
                                ·show Act.put _ (some 107) _ = _
                                 simp only [Act.put, List.setIfInBounds_toArray, List.set_cons_zero, List.set_cons_succ, i64_w, i32_w]
                                 rfl
                                refine pz (i := 2) (N := some 108) #[I,I,I,O,O,O,O,O,O,O,O,O,O,O,O,O,O,O,O,O,O,O,O,O,O,O,O,O] ?_
                                refine pz (i := 3) (N := some 109) #[I,I,I,I,O,O,O,O,O,O,O,O,O,O,O,O,O,O,O,O,O,O,O,O,O,O,O,O] ?_
                                refine pz (i := 5) (N := some 111) #[I,I,I,I,O,I,O,O,O,O,O,O,O,O,O,O,O,O,O,O,O,O,O,O,O,O,O,O] ?_
                                refine pz (i := 6) (N := some 112) #[I,I,I,I,O,I,I,O,O,O,O,O,O,O,O,O,O,O,O,O,O,O,O,O,O,O,O,O] ?_
                                refine pz (i := 8) (N := some 114) #[I,I,I,I,O,I,I,O,I,O,O,O,O,O,O,O,O,O,O,O,O,O,O,O,O,O,O,O] ?_
                                refine tz (i := 4) (N := some 110) #[I,I,I,I,I,I,I,O,I,O,O,O,O,O,O,O,O,O,O,O,O,O,O,O,O,O,O,O] ?_
                                refine tz (i := 7) (N := some 113) #[I,I,I,I,I,I,I,I,I,O,O,O,O,O,O,O,O,O,O,O,O,O,O,O,O,O,O,O] ?_
                                refine pz (i := 9) (N := some 115) #[I,I,I,I,I,I,I,I,I,I,O,O,O,O,O,O,O,O,O,O,O,O,O,O,O,O,O,O] ?_
                                refine tz (i := 10) (N := some 116) #[I,I,I,I,I,I,I,I,I,I,I,O,O,O,O,O,O,O,O,O,O,O,O,O,O,O,O,O] ?_
                                refine pz (i := 11) (N := some 117) #[I,I,I,I,I,I,I,I,I,I,I,I,O,O,O,O,O,O,O,O,O,O,O,O,O,O,O,O] ?_
                                refine pz (i := 12) (N := some 118) #[I,I,I,I,I,I,I,I,I,I,I,I,I,O,O,O,O,O,O,O,O,O,O,O,O,O,O,O] ?_
                                refine pz (i := 13) (N := some 119) #[I,I,I,I,I,I,I,I,I,I,I,I,I,I,O,O,O,O,O,O,O,O,O,O,O,O,O,O] ?_
                                refine pu (i := 14) (N := some 120) #[I,I,I,I,I,I,I,I,I,I,I,I,I,I,I,O,O,O,O,O,O,O,O,O,O,O,O,O] ?_
                                refine pu (i := 15) (N := some 121) #[I,I,I,I,I,I,I,I,I,I,I,I,I,I,I,I,O,O,O,O,O,O,O,O,O,O,O,O] ?_
                                refine pu (i := 16) (N := some 122) #[I,I,I,I,I,I,I,I,I,I,I,I,I,I,I,I,I,O,O,O,O,O,O,O,O,O,O,O] ?_
                                refine pu (i := 17) (N := some 123) #[I,I,I,I,I,I,I,I,I,I,I,I,I,I,I,I,I,I,O,O,O,O,O,O,O,O,O,O] ?_
                                refine pu (i := 18) (N := some 124) #[I,I,I,I,I,I,I,I,I,I,I,I,I,I,I,I,I,I,I,O,O,O,O,O,O,O,O,O] ?_
                                refine pz (i := 19) (N := some 125) #[I,I,I,I,I,I,I,I,I,I,I,I,I,I,I,I,I,I,I,I,O,O,O,O,O,O,O,O] ?_
                                refine pz (i := 20) (N := some 126) #[I,I,I,I,I,I,I,I,I,I,I,I,I,I,I,I,I,I,I,I,I,O,O,O,O,O,O,O] ?_
                                refine pu (i := 21) (N := some 127) #[I,I,I,I,I,I,I,I,I,I,I,I,I,I,I,I,I,I,I,I,I,I,O,O,O,O,O,O] ?_
                                refine pu (i := 22) (N := some 128) #[I,I,I,I,I,I,I,I,I,I,I,I,I,I,I,I,I,I,I,I,I,I,I,O,O,O,O,O] ?_
                                refine pz (i := 23) (N := some 129) #[I,I,I,I,I,I,I,I,I,I,I,I,I,I,I,I,I,I,I,I,I,I,I,I,O,O,O,O] ?_
                                refine pz (i := 24) (N := some 130) #[I,I,I,I,I,I,I,I,I,I,I,I,I,I,I,I,I,I,I,I,I,I,I,I,I,O,O,O] ?_
                                refine pu (i := 25) (N := some 131) #[I,I,I,I,I,I,I,I,I,I,I,I,I,I,I,I,I,I,I,I,I,I,I,I,I,I,O,O] ?_
                                refine pu (i := 26) (N := some 132) #[I,I,I,I,I,I,I,I,I,I,I,I,I,I,I,I,I,I,I,I,I,I,I,I,I,I,I,O] ?_
                                refine pz (i := 27) (N := some 133) #[I,I,I,I,I,I,I,I,I,I,I,I,I,I,I,I,I,I,I,I,I,I,I,I,I,I,I,I] ?_
                                refine done_ (done_of HT_.out (by kernel_rfl)) ?_
                                try go_wp2
                                go_meet
                                case rel => exact ⟨_, (true), ap, H', ⟨by have := HJ2.out; have := HJ8.out; have := HK3.out; have := HJ16.out; have := HJ20.out; have := HJ29.out; have := HJ59.out; have := HJ67.out; have := HJ76.out; first | omega | exact Nat.le_refl _⟩, ⟨by (with_reducible repeat (first | apply Kd.R_alloc | apply Kd.R_drewN | apply Kd.R_drew)); exact HO_4.out⟩, ⟨by (with_reducible repeat (first | refine blk_drewN ?_ _ | refine blk_drew ?_ | refine blk_alloc ?_ _)); exact BK747.out⟩, ⟨by (with_reducible repeat (first | refine blk_drewN ?_ _ | refine blk_drew ?_ | refine blk_alloc ?_ _)); exact BK762.out⟩, ⟨by (with_reducible repeat (first | refine blk_drewN ?_ _ | refine blk_drew ?_ | refine blk_alloc ?_ _)); exact BK781.out⟩, ⟨bo⟩⟩
                               ·rw [if_neg c87] at H
                                have c87b0 : (!(t754 == ((rd_T25 l0_1 t785).f0)) || (!(t755 == ((rd_T25 l0_1 t785).f1)) || (!(t756.toList == (((rd_T25 l0_1 t785).f2).toList)) || (!(t757.toList == (((rd_T25 l0_1 t785).f3).toList)) || (!(t758 == ((rd_T25 l0_1 t785).f4)) || (!(t759 == ((rd_T25 l0_1 t785).f5)))))))) = false := by simpa using c87
                                clear c87
                                by_cases c89 : t760 = (wrap64 (t785 - x13_76))
                                ·rw [if_pos c89] at H
                                 have c89b0 : (t760 == (wrap64 (t785 - x13_76))) = true := beq_iff_eq.mpr c89
                                 have c89b1 : (t760 != (wrap64 (t785 - x13_76))) = false := bne_eq_false_iff_eq.mpr c89
                                 clear c89
                                 by_cases c90 : t760 < 0
                                 ·rw [if_pos c90] at H
                                  have c90b0 : decide (t760 < 0) = true := decide_eq_true c90
                                  clear c90
                                  have H' := Aside0.mk H
                                  clear H
                                  try go_wp2
                                  replace HO_4 := Aside0.mk (Kd.R_drew HO_4.out)
                                  replace BK747 := Aside0.mk (blk_drew BK747.out)
                                  replace BK762 := Aside0.mk (blk_drew BK762.out)
                                  replace BK781 := Aside0.mk (blk_drew BK781.out)
                                  replace HB := Aside0.mk (below_drew1 HB.out)
                                  have p790 : 0 ≤ (t785 : Int) := od
                                  have q790 : t785 < (l0_1.length : Int) := od
                                  obtain ⟨ad790, e790, hx790_0, hx790_1, hx790_2, hx790_3, hx790_4, hx790_5⟩ := at_T25 HR0_1.out t785 p790 q790
                                  have hw790_5 := hx790_5
                                  have hw790_4 := hx790_4
                                  have hw790_3 := hx790_3
                                  have hw790_2 := hx790_2
                                  have hw790_1 := hx790_1
                                  have hw790_0 := hx790_0
                                  cases e790
                                  replace hx790_0 := cx HB.out hx790_0
                                  replace hx790_1 := cx HB.out hx790_1
                                  replace hx790_2 := cx HB.out hx790_2
                                  replace hx790_3 := cx HB.out hx790_3
                                  replace hx790_4 := cx HB.out hx790_4
                                  replace hx790_5 := cx HB.out hx790_5
                                  replace p790 := eq_true p790
                                  replace q790 := eq_true q790
                                  refine start_ (n := 28) (S := fun w' => w'.cell? ⟨gb762, 0, none⟩ = some (.int .i64 t754) ∧ w'.cell? ⟨gb762, 1, none⟩ = some (.int .i64 t755) ∧ w'.cell? ⟨gb762, 2, none⟩ = some (.string t756) ∧ w'.cell? ⟨gb762, 3, none⟩ = some (.string t757) ∧ w'.cell? ⟨gb762, 4, none⟩ = some (.int .i64 t758) ∧ w'.cell? ⟨gb762, 5, none⟩ = some (.bool t759) ∧ w'.cell? ⟨gb747, 0, none⟩ = some (.int .i64 a0_0) ∧ w'.cell? ⟨gb747, 1, none⟩ = some (.slice (some ad790) l0_1.length c0_1) ∧ w'.cell? ⟨gb747, 2, none⟩ = some (.slice A0_2 l0_2.length c0_2) ∧ w'.cell? ⟨gb747, 3, none⟩ = some (.slice (some ad753) l0_3.length c0_3) ∧ w'.cell? ⟨gb747, 4, none⟩ = some (.string a0_4) ∧ w'.cell? (ad790.add ((t785).toNat * 6)) = some (.int .i64 ((rd_T25 l0_1 t785).f0)) ∧ w'.cell? ⟨(ad790.add ((t785).toNat * 6)).block, (ad790.add ((t785).toNat * 6)).off + 1, none⟩ = some (.int .i64 ((rd_T25 l0_1 t785).f1)) ∧ w'.cell? ⟨(ad790.add ((t785).toNat * 6)).block, (ad790.add ((t785).toNat * 6)).off + 2, none⟩ = some (.string ((rd_T25 l0_1 t785).f2)) ∧ w'.cell? ⟨(ad790.add ((t785).toNat * 6)).block, (ad790.add ((t785).toNat * 6)).off + 3, none⟩ = some (.string ((rd_T25 l0_1 t785).f3)) ∧ w'.cell? ⟨(ad790.add ((t785).toNat * 6)).block, (ad790.add ((t785).toNat * 6)).off + 4, none⟩ = some (.int .i64 ((rd_T25 l0_1 t785).f4)) ∧ w'.cell? ⟨(ad790.add ((t785).toNat * 6)).block, (ad790.add ((t785).toNat * 6)).off + 5, none⟩ = some (.bool ((rd_T25 l0_1 t785).f5))) (ds := []) #[O,O,O,O,O,O,O,O,O,O,O,O,O,O,O,O,O,O,O,O,O,O,O,O,O,O,O,O] (by kernel_rfl) rfl rfl ⟨(blk_cell BK762.out 0).trans rfl, (blk_cell BK762.out 1).trans rfl, (blk_cell BK762.out 2).trans rfl, (blk_cell BK762.out 3).trans rfl, (blk_cell BK762.out 4).trans rfl, (blk_cell BK762.out 5).trans rfl, (blk_cell BK747.out 0).trans rfl, (blk_cell BK747.out 1).trans rfl, (blk_cell BK747.out 2).trans rfl, (blk_cell BK747.out 3).trans rfl, (blk_cell BK747.out 4).trans rfl, ((HB.out.cell (World.block_lt_of_cell? w _ hw790_0)).trans hw790_0), ((HB.out.cell (World.block_lt_of_cell? w _ hw790_1)).trans hw790_1), ((HB.out.cell (World.block_lt_of_cell? w _ hw790_2)).trans hw790_2), ((HB.out.cell (World.block_lt_of_cell? w _ hw790_3)).trans hw790_3), ((HB.out.cell (World.block_lt_of_cell? w _ hw790_4)).trans hw790_4), ((HB.out.cell (World.block_lt_of_cell? w _ hw790_5)).trans hw790_5)⟩ (fun hHeld => ?_); refine with_tabW fairwaylaw12_IndexLooks.tab25 fairwaylaw12_IndexLooks.bits25 (fun HT_ HW_ => ?_)
                                  generalize wc.drew = w91 at HO_4 BK747 BK762 BK781 HB hx790_0 hx790_1 hx790_2 hx790_3 hx790_4 hx790_5 hHeld ⊢
                                  refine pz (i := 0) (N := some 106) #[I,O,O,O,O,O,O,O,O,O,O,O,O,O,O,O,O,O,O,O,O,O,O,O,O,O,O,O] ?_
                                  refine one_ (i := 1) (N := some 107) #[I,I,O,O,O,O,O,O,O,O,O,O,O,O,O,O,O,O,O,O,O,O,O,O,O,O,O,O] rfl rfl (one_of HT_.out (by kernel_rfl)) (by decide) (fun K hK => ?_)
                                  refine goes_ Try.func52 (by kernel_rfl) rfl #[.int .i64 t761] (by rfl) rfl rfl aa ?_
                                  with_reducible refine (fairwaylaw12_num.calls t761 t789 _ A83.out).mono ?_
                                  rintro e w' ⟨rfl, ⟨nd, rfl⟩⟩
                                  refine ⟨_, rfl, ?_⟩
                                  refine hK.out _ _ ⟨(blk_cell BK762.out 0).trans rfl, (blk_cell BK762.out 1).trans rfl, (blk_cell BK762.out 2).trans rfl, (blk_cell BK762.out 3).trans rfl, (blk_cell BK762.out 4).trans rfl, (blk_cell BK762.out 5).trans rfl, (blk_cell BK747.out 0).trans rfl, (blk_cell BK747.out 1).trans rfl, (blk_cell BK747.out 2).trans rfl, (blk_cell BK747.out 3).trans rfl, (blk_cell BK747.out 4).trans rfl, ((HB.out.cell (World.block_lt_of_cell? w _ hw790_0)).trans hw790_0), ((HB.out.cell (World.block_lt_of_cell? w _ hw790_1)).trans hw790_1), ((HB.out.cell (World.block_lt_of_cell? w _ hw790_2)).trans hw790_2), ((HB.out.cell (World.block_lt_of_cell? w _ hw790_3)).trans hw790_3), ((HB.out.cell (World.block_lt_of_cell? w _ hw790_4)).trans hw790_4), ((HB.out.cell (World.block_lt_of_cell? w _ hw790_5)).trans hw790_5)⟩ (fun hHeld => ?_)
                                  clear hK K
                                  refine norm_ (a' := ?_) ?_ ?_
                                  rotate_left
                                  ·show Act.put _ (some 107) _ = _
                                   simp only [Act.put, List.setIfInBounds_toArray, List.set_cons_zero, List.set_cons_succ, i64_w, i32_w]
                                   rfl
                                  refine pz (i := 2) (N := some 108) #[I,I,I,O,O,O,O,O,O,O,O,O,O,O,O,O,O,O,O,O,O,O,O,O,O,O,O,O] ?_
                                  refine pz (i := 3) (N := some 109) #[I,I,I,I,O,O,O,O,O,O,O,O,O,O,O,O,O,O,O,O,O,O,O,O,O,O,O,O] ?_
                                  refine pz (i := 5) (N := some 111) #[I,I,I,I,O,I,O,O,O,O,O,O,O,O,O,O,O,O,O,O,O,O,O,O,O,O,O,O] ?_
                                  refine pz (i := 6) (N := some 112) #[I,I,I,I,O,I,I,O,O,O,O,O,O,O,O,O,O,O,O,O,O,O,O,O,O,O,O,O] ?_
                                  refine pz (i := 8) (N := some 114) #[I,I,I,I,O,I,I,O,I,O,O,O,O,O,O,O,O,O,O,O,O,O,O,O,O,O,O,O] ?_
                                  refine tz (i := 4) (N := some 110) #[I,I,I,I,I,I,I,O,I,O,O,O,O,O,O,O,O,O,O,O,O,O,O,O,O,O,O,O] ?_
                                  refine tz (i := 7) (N := some 113) #[I,I,I,I,I,I,I,I,I,O,O,O,O,O,O,O,O,O,O,O,O,O,O,O,O,O,O,O] ?_
                                  refine pz (i := 9) (N := some 115) #[I,I,I,I,I,I,I,I,I,I,O,O,O,O,O,O,O,O,O,O,O,O,O,O,O,O,O,O] ?_
                                  refine tz (i := 10) (N := some 116) #[I,I,I,I,I,I,I,I,I,I,I,O,O,O,O,O,O,O,O,O,O,O,O,O,O,O,O,O] ?_
                                  refine pz (i := 11) (N := some 117) #[I,I,I,I,I,I,I,I,I,I,I,I,O,O,O,O,O,O,O,O,O,O,O,O,O,O,O,O] ?_
                                  refine pz (i := 12) (N := some 118) #[I,I,I,I,I,I,I,I,I,I,I,I,I,O,O,O,O,O,O,O,O,O,O,O,O,O,O,O] ?_
                                  refine pz (i := 13) (N := some 119) #[I,I,I,I,I,I,I,I,I,I,I,I,I,I,O,O,O,O,O,O,O,O,O,O,O,O,O,O] ?_
                                  refine pz (i := 14) (N := some 120) #[I,I,I,I,I,I,I,I,I,I,I,I,I,I,I,O,O,O,O,O,O,O,O,O,O,O,O,O] ?_
                                  refine pz (i := 15) (N := some 121) #[I,I,I,I,I,I,I,I,I,I,I,I,I,I,I,I,O,O,O,O,O,O,O,O,O,O,O,O] ?_
                                  refine pz (i := 16) (N := some 122) #[I,I,I,I,I,I,I,I,I,I,I,I,I,I,I,I,I,O,O,O,O,O,O,O,O,O,O,O] ?_
                                  refine pz (i := 17) (N := some 123) #[I,I,I,I,I,I,I,I,I,I,I,I,I,I,I,I,I,I,O,O,O,O,O,O,O,O,O,O] ?_
                                  refine pz (i := 18) (N := some 124) #[I,I,I,I,I,I,I,I,I,I,I,I,I,I,I,I,I,I,I,O,O,O,O,O,O,O,O,O] ?_
                                  refine pz (i := 19) (N := some 125) #[I,I,I,I,I,I,I,I,I,I,I,I,I,I,I,I,I,I,I,I,O,O,O,O,O,O,O,O] ?_
                                  refine pz (i := 20) (N := some 126) #[I,I,I,I,I,I,I,I,I,I,I,I,I,I,I,I,I,I,I,I,I,O,O,O,O,O,O,O] ?_
                                  refine pz (i := 21) (N := some 127) #[I,I,I,I,I,I,I,I,I,I,I,I,I,I,I,I,I,I,I,I,I,I,O,O,O,O,O,O] ?_
                                  refine pz (i := 22) (N := some 128) #[I,I,I,I,I,I,I,I,I,I,I,I,I,I,I,I,I,I,I,I,I,I,I,O,O,O,O,O] ?_
                                  refine pz (i := 23) (N := some 129) #[I,I,I,I,I,I,I,I,I,I,I,I,I,I,I,I,I,I,I,I,I,I,I,I,O,O,O,O] ?_
                                  refine pz (i := 24) (N := some 130) #[I,I,I,I,I,I,I,I,I,I,I,I,I,I,I,I,I,I,I,I,I,I,I,I,I,O,O,O] ?_
                                  refine pu (i := 25) (N := some 131) #[I,I,I,I,I,I,I,I,I,I,I,I,I,I,I,I,I,I,I,I,I,I,I,I,I,I,O,O] ?_
                                  refine pu (i := 26) (N := some 132) #[I,I,I,I,I,I,I,I,I,I,I,I,I,I,I,I,I,I,I,I,I,I,I,I,I,I,I,O] ?_
                                  refine pz (i := 27) (N := some 133) #[I,I,I,I,I,I,I,I,I,I,I,I,I,I,I,I,I,I,I,I,I,I,I,I,I,I,I,I] ?_
                                  refine done_ (done_of HT_.out (by kernel_rfl)) ?_
                                  try go_wp2
                                  go_meet
                                  case rel => exact ⟨_, (true), ap, H', ⟨by have := HJ2.out; have := HJ8.out; have := HK3.out; have := HJ16.out; have := HJ20.out; have := HJ29.out; have := HJ59.out; have := HJ67.out; have := HJ76.out; first | omega | exact Nat.le_refl _⟩, ⟨by (with_reducible repeat (first | apply Kd.R_alloc | apply Kd.R_drewN | apply Kd.R_drew)); exact HO_4.out⟩, ⟨by (with_reducible repeat (first | refine blk_drewN ?_ _ | refine blk_drew ?_ | refine blk_alloc ?_ _)); exact BK747.out⟩, ⟨by (with_reducible repeat (first | refine blk_drewN ?_ _ | refine blk_drew ?_ | refine blk_alloc ?_ _)); exact BK762.out⟩, ⟨by (with_reducible repeat (first | refine blk_drewN ?_ _ | refine blk_drew ?_ | refine blk_alloc ?_ _)); exact BK781.out⟩, ⟨bo⟩⟩
                                 ·rw [if_neg c90] at H
                                  have c90b0 : decide (t760 < 0) = false := decide_eq_false c90
                                  clear c90
                                  have H' := Aside0.mk H
                                  clear H
                                  try go_wp2
                                  replace HO_4 := Aside0.mk (Kd.R_drew HO_4.out)
                                  replace BK747 := Aside0.mk (blk_drew BK747.out)
                                  replace BK762 := Aside0.mk (blk_drew BK762.out)
                                  replace BK781 := Aside0.mk (blk_drew BK781.out)
                                  replace HB := Aside0.mk (below_drew1 HB.out)
                                  have p790 : 0 ≤ (t785 : Int) := od
                                  have q790 : t785 < (l0_1.length : Int) := od
                                  obtain ⟨ad790, e790, hx790_0, hx790_1, hx790_2, hx790_3, hx790_4, hx790_5⟩ := at_T25 HR0_1.out t785 p790 q790
                                  have hw790_5 := hx790_5
                                  have hw790_4 := hx790_4
                                  have hw790_3 := hx790_3
                                  have hw790_2 := hx790_2
                                  have hw790_1 := hx790_1
                                  have hw790_0 := hx790_0
                                  cases e790
                                  replace hx790_0 := cx HB.out hx790_0
                                  replace hx790_1 := cx HB.out hx790_1
                                  replace hx790_2 := cx HB.out hx790_2
                                  replace hx790_3 := cx HB.out hx790_3
                                  replace hx790_4 := cx HB.out hx790_4
                                  replace hx790_5 := cx HB.out hx790_5
                                  replace p790 := eq_true p790
                                  replace q790 := eq_true q790
                                  refine start_ (n := 28) (S := fun w' => w'.cell? ⟨gb762, 0, none⟩ = some (.int .i64 t754) ∧ w'.cell? ⟨gb762, 1, none⟩ = some (.int .i64 t755) ∧ w'.cell? ⟨gb762, 2, none⟩ = some (.string t756) ∧ w'.cell? ⟨gb762, 3, none⟩ = some (.string t757) ∧ w'.cell? ⟨gb762, 4, none⟩ = some (.int .i64 t758) ∧ w'.cell? ⟨gb762, 5, none⟩ = some (.bool t759) ∧ w'.cell? ⟨gb747, 0, none⟩ = some (.int .i64 a0_0) ∧ w'.cell? ⟨gb747, 1, none⟩ = some (.slice (some ad790) l0_1.length c0_1) ∧ w'.cell? ⟨gb747, 2, none⟩ = some (.slice A0_2 l0_2.length c0_2) ∧ w'.cell? ⟨gb747, 3, none⟩ = some (.slice (some ad753) l0_3.length c0_3) ∧ w'.cell? ⟨gb747, 4, none⟩ = some (.string a0_4) ∧ w'.cell? (ad790.add ((t785).toNat * 6)) = some (.int .i64 ((rd_T25 l0_1 t785).f0)) ∧ w'.cell? ⟨(ad790.add ((t785).toNat * 6)).block, (ad790.add ((t785).toNat * 6)).off + 1, none⟩ = some (.int .i64 ((rd_T25 l0_1 t785).f1)) ∧ w'.cell? ⟨(ad790.add ((t785).toNat * 6)).block, (ad790.add ((t785).toNat * 6)).off + 2, none⟩ = some (.string ((rd_T25 l0_1 t785).f2)) ∧ w'.cell? ⟨(ad790.add ((t785).toNat * 6)).block, (ad790.add ((t785).toNat * 6)).off + 3, none⟩ = some (.string ((rd_T25 l0_1 t785).f3)) ∧ w'.cell? ⟨(ad790.add ((t785).toNat * 6)).block, (ad790.add ((t785).toNat * 6)).off + 4, none⟩ = some (.int .i64 ((rd_T25 l0_1 t785).f4)) ∧ w'.cell? ⟨(ad790.add ((t785).toNat * 6)).block, (ad790.add ((t785).toNat * 6)).off + 5, none⟩ = some (.bool ((rd_T25 l0_1 t785).f5))) (ds := []) #[O,O,O,O,O,O,O,O,O,O,O,O,O,O,O,O,O,O,O,O,O,O,O,O,O,O,O,O] (by kernel_rfl) rfl rfl ⟨(blk_cell BK762.out 0).trans rfl, (blk_cell BK762.out 1).trans rfl, (blk_cell BK762.out 2).trans rfl, (blk_cell BK762.out 3).trans rfl, (blk_cell BK762.out 4).trans rfl, (blk_cell BK762.out 5).trans rfl, (blk_cell BK747.out 0).trans rfl, (blk_cell BK747.out 1).trans rfl, (blk_cell BK747.out 2).trans rfl, (blk_cell BK747.out 3).trans rfl, (blk_cell BK747.out 4).trans rfl, ((HB.out.cell (World.block_lt_of_cell? w _ hw790_0)).trans hw790_0), ((HB.out.cell (World.block_lt_of_cell? w _ hw790_1)).trans hw790_1), ((HB.out.cell (World.block_lt_of_cell? w _ hw790_2)).trans hw790_2), ((HB.out.cell (World.block_lt_of_cell? w _ hw790_3)).trans hw790_3), ((HB.out.cell (World.block_lt_of_cell? w _ hw790_4)).trans hw790_4), ((HB.out.cell (World.block_lt_of_cell? w _ hw790_5)).trans hw790_5)⟩ (fun hHeld => ?_); refine with_tabW fairwaylaw12_IndexLooks.tab25 fairwaylaw12_IndexLooks.bits25 (fun HT_ HW_ => ?_)
                                  generalize wc.drew = w92 at HO_4 BK747 BK762 BK781 HB hx790_0 hx790_1 hx790_2 hx790_3 hx790_4 hx790_5 hHeld ⊢
                                  refine pz (i := 0) (N := some 106) #[I,O,O,O,O,O,O,O,O,O,O,O,O,O,O,O,O,O,O,O,O,O,O,O,O,O,O,O] ?_
                                  refine one_ (i := 1) (N := some 107) #[I,I,O,O,O,O,O,O,O,O,O,O,O,O,O,O,O,O,O,O,O,O,O,O,O,O,O,O] rfl rfl (one_of HT_.out (by kernel_rfl)) (by decide) (fun K hK => ?_)
                                  refine goes_ Try.func52 (by kernel_rfl) rfl #[.int .i64 t761] (by rfl) rfl rfl aa ?_
                                  with_reducible refine (fairwaylaw12_num.calls t761 t789 _ A83.out).mono ?_
                                  rintro e w' ⟨rfl, ⟨nd, rfl⟩⟩
                                  refine ⟨_, rfl, ?_⟩
                                  refine hK.out _ _ ⟨(blk_cell BK762.out 0).trans rfl, (blk_cell BK762.out 1).trans rfl, (blk_cell BK762.out 2).trans rfl, (blk_cell BK762.out 3).trans rfl, (blk_cell BK762.out 4).trans rfl, (blk_cell BK762.out 5).trans rfl, (blk_cell BK747.out 0).trans rfl, (blk_cell BK747.out 1).trans rfl, (blk_cell BK747.out 2).trans rfl, (blk_cell BK747.out 3).trans rfl, (blk_cell BK747.out 4).trans rfl, ((HB.out.cell (World.block_lt_of_cell? w _ hw790_0)).trans hw790_0), ((HB.out.cell (World.block_lt_of_cell? w _ hw790_1)).trans hw790_1), ((HB.out.cell (World.block_lt_of_cell? w _ hw790_2)).trans hw790_2), ((HB.out.cell (World.block_lt_of_cell? w _ hw790_3)).trans hw790_3), ((HB.out.cell (World.block_lt_of_cell? w _ hw790_4)).trans hw790_4), ((HB.out.cell (World.block_lt_of_cell? w _ hw790_5)).trans hw790_5)⟩ (fun hHeld => ?_)
                                  clear hK K
                                  refine norm_ (a' := ?_) ?_ ?_
                                  rotate_left
                                  ·show Act.put _ (some 107) _ = _
                                   simp only [Act.put, List.setIfInBounds_toArray, List.set_cons_zero, List.set_cons_succ, i64_w, i32_w]
                                   rfl
                                  refine pz (i := 2) (N := some 108) #[I,I,I,O,O,O,O,O,O,O,O,O,O,O,O,O,O,O,O,O,O,O,O,O,O,O,O,O] ?_
                                  refine pz (i := 3) (N := some 109) #[I,I,I,I,O,O,O,O,O,O,O,O,O,O,O,O,O,O,O,O,O,O,O,O,O,O,O,O] ?_
                                  refine pz (i := 5) (N := some 111) #[I,I,I,I,O,I,O,O,O,O,O,O,O,O,O,O,O,O,O,O,O,O,O,O,O,O,O,O] ?_
                                  refine pz (i := 6) (N := some 112) #[I,I,I,I,O,I,I,O,O,O,O,O,O,O,O,O,O,O,O,O,O,O,O,O,O,O,O,O] ?_
                                  refine pz (i := 8) (N := some 114) #[I,I,I,I,O,I,I,O,I,O,O,O,O,O,O,O,O,O,O,O,O,O,O,O,O,O,O,O] ?_
                                  refine tz (i := 4) (N := some 110) #[I,I,I,I,I,I,I,O,I,O,O,O,O,O,O,O,O,O,O,O,O,O,O,O,O,O,O,O] ?_
                                  refine tz (i := 7) (N := some 113) #[I,I,I,I,I,I,I,I,I,O,O,O,O,O,O,O,O,O,O,O,O,O,O,O,O,O,O,O] ?_
                                  refine pz (i := 9) (N := some 115) #[I,I,I,I,I,I,I,I,I,I,O,O,O,O,O,O,O,O,O,O,O,O,O,O,O,O,O,O] ?_
                                  refine tz (i := 10) (N := some 116) #[I,I,I,I,I,I,I,I,I,I,I,O,O,O,O,O,O,O,O,O,O,O,O,O,O,O,O,O] ?_
                                  refine pz (i := 11) (N := some 117) #[I,I,I,I,I,I,I,I,I,I,I,I,O,O,O,O,O,O,O,O,O,O,O,O,O,O,O,O] ?_
                                  refine pz (i := 12) (N := some 118) #[I,I,I,I,I,I,I,I,I,I,I,I,I,O,O,O,O,O,O,O,O,O,O,O,O,O,O,O] ?_
                                  refine pz (i := 13) (N := some 119) #[I,I,I,I,I,I,I,I,I,I,I,I,I,I,O,O,O,O,O,O,O,O,O,O,O,O,O,O] ?_
                                  refine pz (i := 14) (N := some 120) #[I,I,I,I,I,I,I,I,I,I,I,I,I,I,I,O,O,O,O,O,O,O,O,O,O,O,O,O] ?_
                                  refine pz (i := 15) (N := some 121) #[I,I,I,I,I,I,I,I,I,I,I,I,I,I,I,I,O,O,O,O,O,O,O,O,O,O,O,O] ?_
                                  refine pz (i := 16) (N := some 122) #[I,I,I,I,I,I,I,I,I,I,I,I,I,I,I,I,I,O,O,O,O,O,O,O,O,O,O,O] ?_
                                  refine pz (i := 17) (N := some 123) #[I,I,I,I,I,I,I,I,I,I,I,I,I,I,I,I,I,I,O,O,O,O,O,O,O,O,O,O] ?_
                                  refine pz (i := 18) (N := some 124) #[I,I,I,I,I,I,I,I,I,I,I,I,I,I,I,I,I,I,I,O,O,O,O,O,O,O,O,O] ?_
                                  refine pz (i := 19) (N := some 125) #[I,I,I,I,I,I,I,I,I,I,I,I,I,I,I,I,I,I,I,I,O,O,O,O,O,O,O,O] ?_
                                  refine pz (i := 20) (N := some 126) #[I,I,I,I,I,I,I,I,I,I,I,I,I,I,I,I,I,I,I,I,I,O,O,O,O,O,O,O] ?_
                                  refine pz (i := 21) (N := some 127) #[I,I,I,I,I,I,I,I,I,I,I,I,I,I,I,I,I,I,I,I,I,I,O,O,O,O,O,O] ?_
                                  refine pz (i := 22) (N := some 128) #[I,I,I,I,I,I,I,I,I,I,I,I,I,I,I,I,I,I,I,I,I,I,I,O,O,O,O,O] ?_
                                  refine pz (i := 23) (N := some 129) #[I,I,I,I,I,I,I,I,I,I,I,I,I,I,I,I,I,I,I,I,I,I,I,I,O,O,O,O] ?_
                                  refine pz (i := 24) (N := some 130) #[I,I,I,I,I,I,I,I,I,I,I,I,I,I,I,I,I,I,I,I,I,I,I,I,I,O,O,O] ?_
                                  refine pz (i := 25) (N := some 131) #[I,I,I,I,I,I,I,I,I,I,I,I,I,I,I,I,I,I,I,I,I,I,I,I,I,I,O,O] ?_
                                  refine pz (i := 26) (N := some 132) #[I,I,I,I,I,I,I,I,I,I,I,I,I,I,I,I,I,I,I,I,I,I,I,I,I,I,I,O] ?_
                                  refine pz (i := 27) (N := some 133) #[I,I,I,I,I,I,I,I,I,I,I,I,I,I,I,I,I,I,I,I,I,I,I,I,I,I,I,I] ?_
                                  refine done_ (done_of HT_.out (by kernel_rfl)) ?_
                                  try go_wp2
                                  go_meet
                                  case rel => exact ⟨_, (decide (t760 > 4)), ap, H', ⟨by have := HJ2.out; have := HJ8.out; have := HK3.out; have := HJ16.out; have := HJ20.out; have := HJ29.out; have := HJ59.out; have := HJ67.out; have := HJ76.out; first | omega | exact Nat.le_refl _⟩, ⟨by (with_reducible repeat (first | apply Kd.R_alloc | apply Kd.R_drewN | apply Kd.R_drew)); exact HO_4.out⟩, ⟨by (with_reducible repeat (first | refine blk_drewN ?_ _ | refine blk_drew ?_ | refine blk_alloc ?_ _)); exact BK747.out⟩, ⟨by (with_reducible repeat (first | refine blk_drewN ?_ _ | refine blk_drew ?_ | refine blk_alloc ?_ _)); exact BK762.out⟩, ⟨by (with_reducible repeat (first | refine blk_drewN ?_ _ | refine blk_drew ?_ | refine blk_alloc ?_ _)); exact BK781.out⟩, ⟨bo⟩⟩
                                ·rw [if_neg c89] at H
                                 have c89b0 : (t760 == (wrap64 (t785 - x13_76))) = false := beq_eq_false_iff_ne.mpr c89
                                 have c89b1 : (t760 != (wrap64 (t785 - x13_76))) = true := bne_iff_ne.mpr c89
                                 have H' := Aside0.mk H
                                 clear H
                                 try go_wp2
                                 replace HO_4 := Aside0.mk (Kd.R_drew HO_4.out)
                                 replace BK747 := Aside0.mk (blk_drew BK747.out)
                                 replace BK762 := Aside0.mk (blk_drew BK762.out)
                                 replace BK781 := Aside0.mk (blk_drew BK781.out)
                                 replace HB := Aside0.mk (below_drew1 HB.out)
                                 have p790 : 0 ≤ (t785 : Int) := od
                                 have q790 : t785 < (l0_1.length : Int) := od
                                 obtain ⟨ad790, e790, hx790_0, hx790_1, hx790_2, hx790_3, hx790_4, hx790_5⟩ := at_T25 HR0_1.out t785 p790 q790
                                 have hw790_5 := hx790_5
                                 have hw790_4 := hx790_4
                                 have hw790_3 := hx790_3
                                 have hw790_2 := hx790_2
                                 have hw790_1 := hx790_1
                                 have hw790_0 := hx790_0
                                 cases e790
                                 replace hx790_0 := cx HB.out hx790_0
                                 replace hx790_1 := cx HB.out hx790_1
                                 replace hx790_2 := cx HB.out hx790_2
                                 replace hx790_3 := cx HB.out hx790_3
                                 replace hx790_4 := cx HB.out hx790_4
                                 replace hx790_5 := cx HB.out hx790_5
                                 replace p790 := eq_true p790
                                 replace q790 := eq_true q790
                                 refine start_ (n := 28) (S := fun w' => w'.cell? ⟨gb762, 0, none⟩ = some (.int .i64 t754) ∧ w'.cell? ⟨gb762, 1, none⟩ = some (.int .i64 t755) ∧ w'.cell? ⟨gb762, 2, none⟩ = some (.string t756) ∧ w'.cell? ⟨gb762, 3, none⟩ = some (.string t757) ∧ w'.cell? ⟨gb762, 4, none⟩ = some (.int .i64 t758) ∧ w'.cell? ⟨gb762, 5, none⟩ = some (.bool t759) ∧ w'.cell? ⟨gb747, 0, none⟩ = some (.int .i64 a0_0) ∧ w'.cell? ⟨gb747, 1, none⟩ = some (.slice (some ad790) l0_1.length c0_1) ∧ w'.cell? ⟨gb747, 2, none⟩ = some (.slice A0_2 l0_2.length c0_2) ∧ w'.cell? ⟨gb747, 3, none⟩ = some (.slice (some ad753) l0_3.length c0_3) ∧ w'.cell? ⟨gb747, 4, none⟩ = some (.string a0_4) ∧ w'.cell? (ad790.add ((t785).toNat * 6)) = some (.int .i64 ((rd_T25 l0_1 t785).f0)) ∧ w'.cell? ⟨(ad790.add ((t785).toNat * 6)).block, (ad790.add ((t785).toNat * 6)).off + 1, none⟩ = some (.int .i64 ((rd_T25 l0_1 t785).f1)) ∧ w'.cell? ⟨(ad790.add ((t785).toNat * 6)).block, (ad790.add ((t785).toNat * 6)).off + 2, none⟩ = some (.string ((rd_T25 l0_1 t785).f2)) ∧ w'.cell? ⟨(ad790.add ((t785).toNat * 6)).block, (ad790.add ((t785).toNat * 6)).off + 3, none⟩ = some (.string ((rd_T25 l0_1 t785).f3)) ∧ w'.cell? ⟨(ad790.add ((t785).toNat * 6)).block, (ad790.add ((t785).toNat * 6)).off + 4, none⟩ = some (.int .i64 ((rd_T25 l0_1 t785).f4)) ∧ w'.cell? ⟨(ad790.add ((t785).toNat * 6)).block, (ad790.add ((t785).toNat * 6)).off + 5, none⟩ = some (.bool ((rd_T25 l0_1 t785).f5))) (ds := []) #[O,O,O,O,O,O,O,O,O,O,O,O,O,O,O,O,O,O,O,O,O,O,O,O,O,O,O,O] (by kernel_rfl) rfl rfl ⟨(blk_cell BK762.out 0).trans rfl, (blk_cell BK762.out 1).trans rfl, (blk_cell BK762.out 2).trans rfl, (blk_cell BK762.out 3).trans rfl, (blk_cell BK762.out 4).trans rfl, (blk_cell BK762.out 5).trans rfl, (blk_cell BK747.out 0).trans rfl, (blk_cell BK747.out 1).trans rfl, (blk_cell BK747.out 2).trans rfl, (blk_cell BK747.out 3).trans rfl, (blk_cell BK747.out 4).trans rfl, ((HB.out.cell (World.block_lt_of_cell? w _ hw790_0)).trans hw790_0), ((HB.out.cell (World.block_lt_of_cell? w _ hw790_1)).trans hw790_1), ((HB.out.cell (World.block_lt_of_cell? w _ hw790_2)).trans hw790_2), ((HB.out.cell (World.block_lt_of_cell? w _ hw790_3)).trans hw790_3), ((HB.out.cell (World.block_lt_of_cell? w _ hw790_4)).trans hw790_4), ((HB.out.cell (World.block_lt_of_cell? w _ hw790_5)).trans hw790_5)⟩ (fun hHeld => ?_); refine with_tabW fairwaylaw12_IndexLooks.tab25 fairwaylaw12_IndexLooks.bits25 (fun HT_ HW_ => ?_)
                                 generalize wc.drew = w93 at HO_4 BK747 BK762 BK781 HB hx790_0 hx790_1 hx790_2 hx790_3 hx790_4 hx790_5 hHeld ⊢
                                 refine pz (i := 0) (N := some 106) #[I,O,O,O,O,O,O,O,O,O,O,O,O,O,O,O,O,O,O,O,O,O,O,O,O,O,O,O] ?_
                                 refine one_ (i := 1) (N := some 107) #[I,I,O,O,O,O,O,O,O,O,O,O,O,O,O,O,O,O,O,O,O,O,O,O,O,O,O,O] rfl rfl (one_of HT_.out (by kernel_rfl)) (by decide) (fun K hK => ?_)
                                 refine goes_ Try.func52 (by kernel_rfl) rfl #[.int .i64 t761] (by rfl) rfl rfl aa ?_
                                 with_reducible refine (fairwaylaw12_num.calls t761 t789 _ A83.out).mono ?_
                                 rintro e w' ⟨rfl, ⟨nd, rfl⟩⟩
                                 refine ⟨_, rfl, ?_⟩
                                 refine hK.out _ _ ⟨(blk_cell BK762.out 0).trans rfl, (blk_cell BK762.out 1).trans rfl, (blk_cell BK762.out 2).trans rfl, (blk_cell BK762.out 3).trans rfl, (blk_cell BK762.out 4).trans rfl, (blk_cell BK762.out 5).trans rfl, (blk_cell BK747.out 0).trans rfl, (blk_cell BK747.out 1).trans rfl, (blk_cell BK747.out 2).trans rfl, (blk_cell BK747.out 3).trans rfl, (blk_cell BK747.out 4).trans rfl, ((HB.out.cell (World.block_lt_of_cell? w _ hw790_0)).trans hw790_0), ((HB.out.cell (World.block_lt_of_cell? w _ hw790_1)).trans hw790_1), ((HB.out.cell (World.block_lt_of_cell? w _ hw790_2)).trans hw790_2), ((HB.out.cell (World.block_lt_of_cell? w _ hw790_3)).trans hw790_3), ((HB.out.cell (World.block_lt_of_cell? w _ hw790_4)).trans hw790_4), ((HB.out.cell (World.block_lt_of_cell? w _ hw790_5)).trans hw790_5)⟩ (fun hHeld => ?_)
                                 clear hK K
                                 refine norm_ (a' := ?_) ?_ ?_
                                 rotate_left
                                 ·show Act.put _ (some 107) _ = _
                                  simp only [Act.put, List.setIfInBounds_toArray, List.set_cons_zero, List.set_cons_succ, i64_w, i32_w]
                                  rfl
                                 refine pz (i := 2) (N := some 108) #[I,I,I,O,O,O,O,O,O,O,O,O,O,O,O,O,O,O,O,O,O,O,O,O,O,O,O,O] ?_
                                 refine pz (i := 3) (N := some 109) #[I,I,I,I,O,O,O,O,O,O,O,O,O,O,O,O,O,O,O,O,O,O,O,O,O,O,O,O] ?_
                                 refine pz (i := 5) (N := some 111) #[I,I,I,I,O,I,O,O,O,O,O,O,O,O,O,O,O,O,O,O,O,O,O,O,O,O,O,O] ?_
                                 refine pz (i := 6) (N := some 112) #[I,I,I,I,O,I,I,O,O,O,O,O,O,O,O,O,O,O,O,O,O,O,O,O,O,O,O,O] ?_
                                 refine pz (i := 8) (N := some 114) #[I,I,I,I,O,I,I,O,I,O,O,O,O,O,O,O,O,O,O,O,O,O,O,O,O,O,O,O] ?_
                                 refine tz (i := 4) (N := some 110) #[I,I,I,I,I,I,I,O,I,O,O,O,O,O,O,O,O,O,O,O,O,O,O,O,O,O,O,O] ?_
                                 refine tz (i := 7) (N := some 113) #[I,I,I,I,I,I,I,I,I,O,O,O,O,O,O,O,O,O,O,O,O,O,O,O,O,O,O,O] ?_
                                 refine pz (i := 9) (N := some 115) #[I,I,I,I,I,I,I,I,I,I,O,O,O,O,O,O,O,O,O,O,O,O,O,O,O,O,O,O] ?_
                                 refine tz (i := 10) (N := some 116) #[I,I,I,I,I,I,I,I,I,I,I,O,O,O,O,O,O,O,O,O,O,O,O,O,O,O,O,O] ?_
                                 refine pz (i := 11) (N := some 117) #[I,I,I,I,I,I,I,I,I,I,I,I,O,O,O,O,O,O,O,O,O,O,O,O,O,O,O,O] ?_
                                 refine pz (i := 12) (N := some 118) #[I,I,I,I,I,I,I,I,I,I,I,I,I,O,O,O,O,O,O,O,O,O,O,O,O,O,O,O] ?_
                                 refine pz (i := 13) (N := some 119) #[I,I,I,I,I,I,I,I,I,I,I,I,I,I,O,O,O,O,O,O,O,O,O,O,O,O,O,O] ?_
                                 refine pz (i := 14) (N := some 120) #[I,I,I,I,I,I,I,I,I,I,I,I,I,I,I,O,O,O,O,O,O,O,O,O,O,O,O,O] ?_
                                 refine pz (i := 15) (N := some 121) #[I,I,I,I,I,I,I,I,I,I,I,I,I,I,I,I,O,O,O,O,O,O,O,O,O,O,O,O] ?_
                                 refine pz (i := 16) (N := some 122) #[I,I,I,I,I,I,I,I,I,I,I,I,I,I,I,I,I,O,O,O,O,O,O,O,O,O,O,O] ?_
                                 refine pz (i := 17) (N := some 123) #[I,I,I,I,I,I,I,I,I,I,I,I,I,I,I,I,I,I,O,O,O,O,O,O,O,O,O,O] ?_
                                 refine pz (i := 18) (N := some 124) #[I,I,I,I,I,I,I,I,I,I,I,I,I,I,I,I,I,I,I,O,O,O,O,O,O,O,O,O] ?_
                                 refine pz (i := 19) (N := some 125) #[I,I,I,I,I,I,I,I,I,I,I,I,I,I,I,I,I,I,I,I,O,O,O,O,O,O,O,O] ?_
                                 refine pz (i := 20) (N := some 126) #[I,I,I,I,I,I,I,I,I,I,I,I,I,I,I,I,I,I,I,I,I,O,O,O,O,O,O,O] ?_
                                 refine pu (i := 21) (N := some 127) #[I,I,I,I,I,I,I,I,I,I,I,I,I,I,I,I,I,I,I,I,I,I,O,O,O,O,O,O] ?_
                                 refine pu (i := 22) (N := some 128) #[I,I,I,I,I,I,I,I,I,I,I,I,I,I,I,I,I,I,I,I,I,I,I,O,O,O,O,O] ?_
                                 refine pz (i := 23) (N := some 129) #[I,I,I,I,I,I,I,I,I,I,I,I,I,I,I,I,I,I,I,I,I,I,I,I,O,O,O,O] ?_
                                 refine pz (i := 24) (N := some 130) #[I,I,I,I,I,I,I,I,I,I,I,I,I,I,I,I,I,I,I,I,I,I,I,I,I,O,O,O] ?_
                                 refine pu (i := 25) (N := some 131) #[I,I,I,I,I,I,I,I,I,I,I,I,I,I,I,I,I,I,I,I,I,I,I,I,I,I,O,O] ?_
                                 refine pu (i := 26) (N := some 132) #[I,I,I,I,I,I,I,I,I,I,I,I,I,I,I,I,I,I,I,I,I,I,I,I,I,I,I,O] ?_
                                 refine pz (i := 27) (N := some 133) #[I,I,I,I,I,I,I,I,I,I,I,I,I,I,I,I,I,I,I,I,I,I,I,I,I,I,I,I] ?_
                                 refine done_ (done_of HT_.out (by kernel_rfl)) ?_
                                 try go_wp2
                                 go_meet
                                 case rel => exact ⟨_, (true), ap, H', ⟨by have := HJ2.out; have := HJ8.out; have := HK3.out; have := HJ16.out; have := HJ20.out; have := HJ29.out; have := HJ59.out; have := HJ67.out; have := HJ76.out; first | omega | exact Nat.le_refl _⟩, ⟨by (with_reducible repeat (first | apply Kd.R_alloc | apply Kd.R_drewN | apply Kd.R_drew)); exact HO_4.out⟩, ⟨by (with_reducible repeat (first | refine blk_drewN ?_ _ | refine blk_drew ?_ | refine blk_alloc ?_ _)); exact BK747.out⟩, ⟨by (with_reducible repeat (first | refine blk_drewN ?_ _ | refine blk_drew ?_ | refine blk_alloc ?_ _)); exact BK762.out⟩, ⟨by (with_reducible repeat (first | refine blk_drewN ?_ _ | refine blk_drew ?_ | refine blk_alloc ?_ _)); exact BK781.out⟩, ⟨bo⟩⟩
                              ·rw [if_neg c86] at H
                               exact absurd H (by simp)
                             ·rw [if_neg c85] at H
                              exact absurd H (by simp)
                            ·rw [if_neg c84] at H
                             have c84b0 : (t789 == 0) = false := beq_eq_false_iff_ne.mpr c84
                             have c84b1 : (t789 != 0) = true := bne_iff_ne.mpr c84
                             (first | rw [c84b0] | (simp only [i64_w, i32_w]; rw [c84b0]) | skip)
                             have H' := Aside0.mk H
                             clear H
                             try go_wp2
                             replace HO_4 := Aside0.mk (Kd.R_drew HO_4.out)
                             replace BK747 := Aside0.mk (blk_drew BK747.out)
                             replace BK762 := Aside0.mk (blk_drew BK762.out)
                             replace BK781 := Aside0.mk (blk_drew BK781.out)
                             replace HB := Aside0.mk (below_drew1 HB.out)
                             refine start_ (n := 28) (S := fun w' => True) (ds := []) #[O,O,O,O,O,O,O,O,O,O,O,O,O,O,O,O,O,O,O,O,O,O,O,O,O,O,O,O] (by kernel_rfl) rfl rfl trivial (fun hHeld => ?_); refine with_tabW fairwaylaw12_IndexLooks.tab25 fairwaylaw12_IndexLooks.bits25 (fun HT_ HW_ => ?_)
                             generalize wc.drew = w94 at HO_4 BK747 BK762 BK781 HB hHeld ⊢
                             refine pz (i := 0) (N := some 106) #[I,O,O,O,O,O,O,O,O,O,O,O,O,O,O,O,O,O,O,O,O,O,O,O,O,O,O,O] ?_
                             refine one_ (i := 1) (N := some 107) #[I,I,O,O,O,O,O,O,O,O,O,O,O,O,O,O,O,O,O,O,O,O,O,O,O,O,O,O] rfl rfl (one_of HT_.out (by kernel_rfl)) (by decide) (fun K hK => ?_)
                             refine goes_ Try.func52 (by kernel_rfl) rfl #[.int .i64 t761] (by rfl) rfl rfl aa ?_
                             with_reducible refine (fairwaylaw12_num.calls t761 t789 _ A83.out).mono ?_
                             rintro e w' ⟨rfl, ⟨nd, rfl⟩⟩
                             refine ⟨_, rfl, ?_⟩
                             refine hK.out _ _ trivial (fun hHeld => ?_)
                             clear hK K
                             refine norm_ (a' := ?_) ?_ ?_
                             rotate_left
                             ·show Act.put _ (some 107) _ = _
                              simp only [Act.put, List.setIfInBounds_toArray, List.set_cons_zero, List.set_cons_succ, i64_w, i32_w]
                              rfl
                             refine pz (i := 2) (N := some 108) #[I,I,I,O,O,O,O,O,O,O,O,O,O,O,O,O,O,O,O,O,O,O,O,O,O,O,O,O] ?_
                             refine pz (i := 3) (N := some 109) #[I,I,I,I,O,O,O,O,O,O,O,O,O,O,O,O,O,O,O,O,O,O,O,O,O,O,O,O] ?_
                             refine pu (i := 4) (N := some 110) #[I,I,I,I,I,O,O,O,O,O,O,O,O,O,O,O,O,O,O,O,O,O,O,O,O,O,O,O] ?_
                             refine pu (i := 5) (N := some 111) #[I,I,I,I,I,I,O,O,O,O,O,O,O,O,O,O,O,O,O,O,O,O,O,O,O,O,O,O] ?_
                             refine pu (i := 6) (N := some 112) #[I,I,I,I,I,I,I,O,O,O,O,O,O,O,O,O,O,O,O,O,O,O,O,O,O,O,O,O] ?_
                             refine pu (i := 7) (N := some 113) #[I,I,I,I,I,I,I,I,O,O,O,O,O,O,O,O,O,O,O,O,O,O,O,O,O,O,O,O] ?_
                             refine pu (i := 8) (N := some 114) #[I,I,I,I,I,I,I,I,I,O,O,O,O,O,O,O,O,O,O,O,O,O,O,O,O,O,O,O] ?_
                             refine pu (i := 9) (N := some 115) #[I,I,I,I,I,I,I,I,I,I,O,O,O,O,O,O,O,O,O,O,O,O,O,O,O,O,O,O] ?_
                             refine pu (i := 10) (N := some 116) #[I,I,I,I,I,I,I,I,I,I,I,O,O,O,O,O,O,O,O,O,O,O,O,O,O,O,O,O] ?_
                             refine pu (i := 11) (N := some 117) #[I,I,I,I,I,I,I,I,I,I,I,I,O,O,O,O,O,O,O,O,O,O,O,O,O,O,O,O] ?_
                             refine pz (i := 12) (N := some 118) #[I,I,I,I,I,I,I,I,I,I,I,I,I,O,O,O,O,O,O,O,O,O,O,O,O,O,O,O] ?_
                             refine pz (i := 13) (N := some 119) #[I,I,I,I,I,I,I,I,I,I,I,I,I,I,O,O,O,O,O,O,O,O,O,O,O,O,O,O] ?_
                             refine pu (i := 14) (N := some 120) #[I,I,I,I,I,I,I,I,I,I,I,I,I,I,I,O,O,O,O,O,O,O,O,O,O,O,O,O] ?_
                             refine pu (i := 15) (N := some 121) #[I,I,I,I,I,I,I,I,I,I,I,I,I,I,I,I,O,O,O,O,O,O,O,O,O,O,O,O] ?_
                             refine pu (i := 16) (N := some 122) #[I,I,I,I,I,I,I,I,I,I,I,I,I,I,I,I,I,O,O,O,O,O,O,O,O,O,O,O] ?_
                             refine pu (i := 17) (N := some 123) #[I,I,I,I,I,I,I,I,I,I,I,I,I,I,I,I,I,I,O,O,O,O,O,O,O,O,O,O] ?_
                             refine pu (i := 18) (N := some 124) #[I,I,I,I,I,I,I,I,I,I,I,I,I,I,I,I,I,I,I,O,O,O,O,O,O,O,O,O] ?_
                             refine pz (i := 19) (N := some 125) #[I,I,I,I,I,I,I,I,I,I,I,I,I,I,I,I,I,I,I,I,O,O,O,O,O,O,O,O] ?_
                             refine pz (i := 20) (N := some 126) #[I,I,I,I,I,I,I,I,I,I,I,I,I,I,I,I,I,I,I,I,I,O,O,O,O,O,O,O] ?_
                             refine pu (i := 21) (N := some 127) #[I,I,I,I,I,I,I,I,I,I,I,I,I,I,I,I,I,I,I,I,I,I,O,O,O,O,O,O] ?_
                             refine pu (i := 22) (N := some 128) #[I,I,I,I,I,I,I,I,I,I,I,I,I,I,I,I,I,I,I,I,I,I,I,O,O,O,O,O] ?_
                             refine pz (i := 23) (N := some 129) #[I,I,I,I,I,I,I,I,I,I,I,I,I,I,I,I,I,I,I,I,I,I,I,I,O,O,O,O] ?_
                             refine pz (i := 24) (N := some 130) #[I,I,I,I,I,I,I,I,I,I,I,I,I,I,I,I,I,I,I,I,I,I,I,I,I,O,O,O] ?_
                             refine pu (i := 25) (N := some 131) #[I,I,I,I,I,I,I,I,I,I,I,I,I,I,I,I,I,I,I,I,I,I,I,I,I,I,O,O] ?_
                             refine pu (i := 26) (N := some 132) #[I,I,I,I,I,I,I,I,I,I,I,I,I,I,I,I,I,I,I,I,I,I,I,I,I,I,I,O] ?_
                             refine pz (i := 27) (N := some 133) #[I,I,I,I,I,I,I,I,I,I,I,I,I,I,I,I,I,I,I,I,I,I,I,I,I,I,I,I] ?_
                             refine done_ (done_of HT_.out (by kernel_rfl)) ?_
                             try go_wp2
                             go_meet
                             case rel => exact ⟨_, (true), ap, H', ⟨by have := HJ2.out; have := HJ8.out; have := HK3.out; have := HJ16.out; have := HJ20.out; have := HJ29.out; have := HJ59.out; have := HJ67.out; have := HJ76.out; first | omega | exact Nat.le_refl _⟩, ⟨by (with_reducible repeat (first | apply Kd.R_alloc | apply Kd.R_drewN | apply Kd.R_drew)); exact HO_4.out⟩, ⟨by (with_reducible repeat (first | refine blk_drewN ?_ _ | refine blk_drew ?_ | refine blk_alloc ?_ _)); exact BK747.out⟩, ⟨by (with_reducible repeat (first | refine blk_drewN ?_ _ | refine blk_drew ?_ | refine blk_alloc ?_ _)); exact BK762.out⟩, ⟨by (with_reducible repeat (first | refine blk_drewN ?_ _ | refine blk_drew ?_ | refine blk_alloc ?_ _)); exact BK781.out⟩, ⟨bo⟩⟩
                           case rest => as_aux_lemma =>
                            clear HC82
                            try clear p2
                            try clear c5
                            try clear p6
                            try clear p7
                            try clear q7
                            try clear hx7
                            try clear c8
                            try clear c52
                            try clear p64
                            try clear p79
                            try clear q79
                            try clear hx79
                            try clear c84
                            try clear c84b0
                            try clear c84b1
                            try clear c85
                            try clear c86
                            try clear c89
                            try clear c89b0
                            try clear c89b1
                            try clear hx790_0
                            try clear hx790_1
                            try clear hx790_2
                            try clear hx790_3
                            try clear hx790_4
                            try clear hx790_5
                            try clear p790
                            try clear q790
                            obtain ⟨kq, x133_81, rfl, HA, HJ81, HO_4, BK747, BK762, BK781, HB⟩ := hcut
                            cases kq with
                            | zero => exact absurd HA.out (by simp [fairwaylaw12_IndexLooks.j9])
                            | succ kj81 =>
                             have H := HA.out
                             clear HA
                             simp only [fairwaylaw12_IndexLooks.j9] at H
                             by_cases c95 : x133_81 = true
                             ·subst c95
                              have H1 : (some false) = some r := by rw [if_pos rfl] at H; exact H
                              clear H
                              have H := H1
                              clear H1
                              obtain rfl := Option.some.inj H
                              go_wp2
                              go_ret
                              exact ⟨er, bo⟩
                             ·replace c95 := Bool.eq_false_iff.mpr c95
                              subst c95
                              have H1 : (fairwaylaw12_IndexLooks.l0 kj81 t749 x4_8 (wrap64 (x5_3 + 1)) a0_0 l0_1 l0_2 l0_3 a0_4) = some r := by rw [if_neg (show ¬ (false = true) by decide)] at H; exact H
                              clear H
                              have H := H1
                              clear H1
                              have H' := Aside0.mk H
                              clear H
                              go_wp2
                              go_roundg kj81
                              case measure => have := HJ2.out; have := HJ8.out; have := HK3.out; have := HJ16.out; have := HJ20.out; have := HJ29.out; have := HJ59.out; have := HJ67.out; have := HJ76.out; have := HJ81.out; omega
                              case rel => exact ⟨(wrap64 (x5_3 + 1)), ap, H', ⟨by have := HJ2.out; have := HJ8.out; have := HK3.out; have := HJ16.out; have := HJ20.out; have := HJ29.out; have := HJ59.out; have := HJ67.out; have := HJ76.out; have := HJ81.out; omega⟩, ⟨by (with_reducible repeat (first | apply Kd.R_alloc | apply Kd.R_drewN | apply Kd.R_drew)); exact HO_4.out⟩, ⟨by (with_reducible repeat (first | refine blk_drewN ?_ _ | refine blk_drew ?_ | refine blk_alloc ?_ _)); exact BK747.out⟩, ⟨bo⟩⟩
                        ·rw [if_neg c75] at H
                         exact absurd H (by simp)
                       ·rw [if_neg c74] at H
                        exact absurd H (by simp)
                    ·rw [if_neg c66] at H
                     exact absurd H (by simp)
                   ·rw [if_neg c65] at H
                    exact absurd H (by simp)
              ·rw [if_neg c27] at H
               exact absurd H (by simp)
             ·rw [if_neg c24] at H
              exact absurd H (by simp)
            ·rw [if_neg c23] at H
             exact absurd H (by simp)
     case rest => as_aux_lemma =>
      clear HC16
      try clear c2
      try clear p2
      try clear c5
      try clear c6
      try clear p6
      try clear c7
      try clear p7
      try clear q7
      try clear hx7
      try clear c8
      try clear c9
      try clear c23
      try clear c24
      try clear c27
      try clear c52
      try clear p64
      try clear c65
      try clear c66
      try clear c74
      try clear c75
      try clear p79
      try clear q79
      try clear hx79
      try clear c84
      try clear c84b0
      try clear c84b1
      try clear c85
      try clear c86
      try clear c89
      try clear c89b0
      try clear c89b1
      try clear c95
      try clear hx790_0
      try clear hx790_1
      try clear hx790_2
      try clear hx790_3
      try clear hx790_4
      try clear hx790_5
      try clear p2
      try clear p6
      try clear p64
      try clear p7
      try clear p79
      try clear p790
      try clear q7
      try clear q79
      try clear q790
      obtain ⟨kq, HA, HJ15, BK747, HB⟩ := hcut
      cases kq with
      | zero => exact absurd HA.out (by simp [fairwaylaw12_IndexLooks.j10])
      | succ kj15 =>
       have H := HA.out
       clear HA
       simp only [fairwaylaw12_IndexLooks.j10] at H
       replace H := Option.bind_eq_some_iff.mp H
       obtain ⟨t791, A960, H⟩ := H
       replace H : (if t791 = 1 then ((fairwaylaw12_wakes.f kj15).bind fun t792 => (some t792)) else (some false)) = some r := H
       have A96 := Aside0.mk A960
       clear A960
       by_cases c97 : t791 = 1
       ·rw [if_pos c97] at H
        have c97b0 : (t791 == 1) = true := beq_iff_eq.mpr c97
        have c97b1 : (t791 != 1) = false := bne_eq_false_iff_eq.mpr c97
        clear c97
        replace H := Option.bind_eq_some_iff.mp H
        obtain ⟨t792, A980, H⟩ := H
        replace H : (some t792) = some r := H
        have A98 := Aside0.mk A980
        clear A980
        obtain rfl := Option.some.inj H
        go_wp2_with (first | ((with_reducible refine gate_callee (f := 29) rfl ?_); refine goesL_ (some 134) rfl rfl Try.func29 (by kernel_rfl) rfl #[.int .i64 3, .int .i64 2] rfl aa ?_; (with_reducible refine (fairwaylaw0_Within.calls 3 2 t791 _ A96.out).mono ?_); rintro e w' ⟨rfl, ⟨nd, rfl⟩⟩; refine ⟨_, rfl, ?_⟩) | (go_at_call 53; (with_reducible refine (fairwaylaw12_wakes.calls kj15  t792 _ A98.out).mono ?_); rintro e w99 ⟨rfl, hb⟩; replace BK747 := Aside0.mk (blk_below (g := gb747) (o := .cells #[.int .i64 a0_0, .slice A0_1 l0_1.length c0_1, .slice A0_2 l0_2.length c0_2, .slice A0_3 l0_3.length c0_3, .string a0_4] 55 (0, 0)) (bk BK747.out) hb); replace HB := Aside0.mk (below_step bo hb); (try clear hb); (try clear hb2); (try clear hk); (try clear hi)))
        go_ret
        exact ⟨er, bo⟩
       ·rw [if_neg c97] at H
        have c97b0 : (t791 == 1) = false := beq_eq_false_iff_ne.mpr c97
        have c97b1 : (t791 != 1) = true := bne_iff_ne.mpr c97
        obtain rfl := Option.some.inj H
        go_wp2_with (first | ((with_reducible refine gate_callee (f := 29) rfl ?_); refine goesL_ (some 134) rfl rfl Try.func29 (by kernel_rfl) rfl #[.int .i64 3, .int .i64 2] rfl aa ?_; (with_reducible refine (fairwaylaw0_Within.calls 3 2 t791 _ A96.out).mono ?_); rintro e w' ⟨rfl, ⟨nd, rfl⟩⟩; refine ⟨_, rfl, ?_⟩))
        go_ret
        exact ⟨er, bo⟩

end Go.Proofs.Ytmabdfdmccbfnaa.P

