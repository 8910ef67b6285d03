/- The law SegParses: printed functions, their contracts, the plain laws and the row, part 5. -/
import Derived.Test.YtmabdfdmccbfnaaKSegParses4
import Derived.Test.YtmabdfdmccbfnaaKSegParses2
-- written by a program of the proving session, out of the translation; Lean checks it
namespace Go.Proofs.Ytmabdfdmccbfnaa.P
open Go.RowKit Go.Proofs.Ytmabdfdmccbfnaa.Sq Go.Proofs.YtmabdfdmccbfnaaW.PrintWords Go.Proofs.YtmabdfdmccbfnaaW.PrintLast Go.Proofs.YtmabdfdmccbfnaaW.PrintMore
attribute [local go_sem] max2_int min2_int max_two min_two max_three min_three max_four min_four   -- for this text's walks alone
set_option linter.unusedVariables false
set_option linter.unusedSimpArgs false

/-! ### seg_Add: function 47 -/
def seg_Add.f (k : Nat) (a0_0 : Int) (l0_1 : List (S25)) (a1_0 : Int) (a1_1 : Int) (a1_2 : ByteArray) (a1_3 : ByteArray) (a1_4 : Int) (a1_5 : Bool) : Option (Int × (List (S25)) × Int) := (seg_Check.f k a0_0 l0_1).bind fun t376 => (if t376 = 0 then ((seg_behind.f k a0_0 l0_1 a1_0 a1_1 a1_2 a1_3 a1_4 a1_5).bind fun t377 => (if t377 = true then ((api_Rec_79.f l0_1).bind fun t378 => ((some (([(⟨a1_0, a1_1, a1_2, a1_3, a1_4, a1_5⟩ : S25)] : List (S25)) : List (S25))).bind fun y381 => (if t378.length + y381.length < 2199023255552 then (some (a0_0, (t378 ++ y381), 0)) else (none)))) else (some (0, ([] : List (S25)), 1)))) else (some (0, ([] : List (S25)), 1)))
theorem seg_Add.mono : ∀ a0 a1 a2 a3 a4 a5 a6 a7 k, LeO (seg_Add.f k a0 a1 a2 a3 a4 a5 a6 a7) (seg_Add.f (k + 1) a0 a1 a2 a3 a4 a5 a6 a7) := by
 intro a0 a1 a2 a3 a4 a5 a6 a7 k
 unfold seg_Add.f
 repeat' first
  | (with_reducible exact seg_Check.mono _ _ _)
  | (with_reducible exact seg_behind.mono _ _ _ _ _ _ _ _ _)
  | (with_reducible exact LeO.refl _)
  | (with_reducible exact LeO.none _)
  | (with_reducible refine LeO.ite ?_ ?_)
  | (with_reducible refine LeO.bind ?_ (fun _ => ?_))
  | exact seg_Check.mono _ _ _
  | exact seg_behind.mono _ _ _ _ _ _ _ _ _
  | exact LeO.none _
  | refine LeO.ite ?_ ?_
  | refine LeO.bind ?_ (fun _ => ?_)
def seg_Add.T3 : Bool × List (List Nat × List Nat) := (true, [([], []), ([0], [0]), ([], []), ([2], [2]), ([3], [3]), ([], []), ([5], [5]), ([4, 6, 4], [4, 6]), ([1, 7], [1, 7]), ([8, 7, 0, 1, 2, 3, 4, 5, 6, 7, 8], [8]), ([9, 0, 1, 2, 3, 4, 5, 6, 7, 8, 9], [])])
def seg_Add.B3 : List Nat := [0, 1, 0, 4, 12, 0, 32, 124, 255, 511, 1023]
theorem seg_Add.tab3 : rtab .any (opsOf Try.f47 3) = seg_Add.T3 := by kernel_rfl
theorem seg_Add.bits3 : waitsOk seg_Add.T3.2 seg_Add.B3 = true := by kernel_rfl
set_option maxHeartbeats 8000000 in
set_option maxRecDepth 100000 in
theorem seg_Add.calls (k : Nat) (a0_0 : Int) (A0_1 : Option Addr) (c0_1 : Nat) (l0_1 : List (S25)) (a1_0 : Int) (a1_1 : Int) (a1_2 : ByteArray) (a1_3 : ByteArray) (a1_4 : Int) (a1_5 : Bool) (r1 : Int) (r2 : List (S25)) (r3 : Int) (w : World) (hr0_1 : Kd.C k25 w A0_1 l0_1.length l0_1) (hc0_1 : l0_1.length ≤ c0_1) (h : seg_Add.f k a0_0 l0_1 a1_0 a1_1 a1_2 a1_3 a1_4 a1_5 = some (r1, r2, r3)) :
 Calls Try.prog 47 #[.agg #[.int .i64 a0_0, .slice A0_1 l0_1.length c0_1], .agg #[.int .i64 a1_0, .int .i64 a1_1, .string a1_2, .string a1_3, .int .i64 a1_4, .bool a1_5]] w fun e w' => ∃ v1_ : Value, e = .returned (.tuple #[.agg #[.int .i64 r1, v1_], .int .i64 r3]) ∧ Kd.R k25 25 w' w.heap.size (fun _ => True) v1_ r2 ∧ Below w.heap.size w w' := by
 have hu53 := Try.underlying53
 have hu25 := Try.underlying25
 have HR0_1 := Aside0.mk hr0_1
 have HC0_1 := Aside0.mk hc0_1
 clear hr0_1 hc0_1
 have HB := Aside0.mk (Below.refl w.heap.size w)
 have H : ((seg_Check.f k a0_0 l0_1).bind fun t376 => (if t376 = 0 then ((seg_behind.f k a0_0 l0_1 a1_0 a1_1 a1_2 a1_3 a1_4 a1_5).bind fun t377 => (if t377 = true then ((api_Rec_79.f l0_1).bind fun t378 => ((some (([(⟨a1_0, a1_1, a1_2, a1_3, a1_4, a1_5⟩ : S25)] : List (S25)) : List (S25))).bind fun y381 => (if t378.length + y381.length < 2199023255552 then (some (a0_0, (t378 ++ y381), 0)) else (none)))) else (some (0, ([] : List (S25)), 1)))) else (some (0, ([] : List (S25)), 1)))) = some (r1, r2, r3) := h
 clear h
 replace H := Option.bind_eq_some_iff.mp H
 obtain ⟨t376, A30, H⟩ := H
 replace H : (if t376 = 0 then ((seg_behind.f k a0_0 l0_1 a1_0 a1_1 a1_2 a1_3 a1_4 a1_5).bind fun t377 => (if t377 = true then ((api_Rec_79.f l0_1).bind fun t378 => ((some (([(⟨a1_0, a1_1, a1_2, a1_3, a1_4, a1_5⟩ : S25)] : List (S25)) : List (S25))).bind fun y381 => (if t378.length + y381.length < 2199023255552 then (some (a0_0, (t378 ++ y381), 0)) else (none)))) else (some (0, ([] : List (S25)), 1)))) else (some (0, ([] : List (S25)), 1))) = some (r1, r2, r3) := H
 have A3 := Aside0.mk A30
 clear A30
 by_cases c4 : t376 = 0
 ·rw [if_pos c4] at H
  have c4b0 : (t376 == 0) = true := beq_iff_eq.mpr c4
  have c4b1 : (t376 != 0) = false := bne_eq_false_iff_eq.mpr c4
  clear c4
  replace H := Option.bind_eq_some_iff.mp H
  obtain ⟨t377, A50, H⟩ := H
  replace H : (if t377 = true then ((api_Rec_79.f l0_1).bind fun t378 => ((some (([(⟨a1_0, a1_1, a1_2, a1_3, a1_4, a1_5⟩ : S25)] : List (S25)) : List (S25))).bind fun y381 => (if t378.length + y381.length < 2199023255552 then (some (a0_0, (t378 ++ y381), 0)) else (none)))) else (some (0, ([] : List (S25)), 1))) = some (r1, r2, r3) := H
  have A5 := Aside0.mk A50
  clear A50
  by_cases c6 : t377 = true
  ·subst c6
   have H1 : ((api_Rec_79.f l0_1).bind fun t378 => ((some (([(⟨a1_0, a1_1, a1_2, a1_3, a1_4, a1_5⟩ : S25)] : List (S25)) : List (S25))).bind fun y381 => (if t378.length + y381.length < 2199023255552 then (some (a0_0, (t378 ++ y381), 0)) else (none)))) = some (r1, r2, r3) := by rw [if_pos rfl] at H; exact H
   clear H
   have H := H1
   clear H1
   replace H := Option.bind_eq_some_iff.mp H
   obtain ⟨t378, A70, H⟩ := H
   replace H : ((some (([(⟨a1_0, a1_1, a1_2, a1_3, a1_4, a1_5⟩ : S25)] : List (S25)) : List (S25))).bind fun y381 => (if t378.length + y381.length < 2199023255552 then (some (a0_0, (t378 ++ y381), 0)) else (none))) = some (r1, r2, r3) := H
   have A7 := Aside0.mk A70
   clear A70
   obtain ⟨y381, hy381⟩ : ∃ y_ : List (S25), y_ = (([(⟨a1_0, a1_1, a1_2, a1_3, a1_4, a1_5⟩ : S25)] : List (S25))) := ⟨_, rfl⟩
   replace H : (if t378.length + y381.length < 2199023255552 then (some (a0_0, (t378 ++ y381), 0)) else (none)) = some (r1, r2, r3) := by first | (rw [hy381]; with_reducible exact H) | (have H2_ := (Option.bind_some _ _).symm.trans H; rw [hy381]; with_reducible exact H2_) | (have H2_ := (Option.bind_some _ _).symm.trans H; with_reducible exact H2_) | with_reducible exact H | (rw [hy381]; exact H) | exact H
   have Ny381 := Aside0.mk hy381
   clear hy381
   by_cases c8 : t378.length + y381.length < 2199023255552
   ·rw [if_pos c8] at H
    have LMc8 := Aside0.mk c8
    clear c8
    obtain ⟨y384, hy384⟩ : ∃ y_ : List (S25), y_ = (t378 ++ y381) := ⟨_, rfl⟩
    replace H : (some (a0_0, y384, 0)) = some (r1, r2, r3) := by first | (rw [hy384]; with_reducible exact H) | (have H2_ := (Option.bind_some _ _).symm.trans H; rw [hy384]; with_reducible exact H2_) | (have H2_ := (Option.bind_some _ _).symm.trans H; with_reducible exact H2_) | with_reducible exact H | (rw [hy384]; exact H) | exact H
    have Ny384 := Aside0.mk hy384
    clear hy384
    simp only [Option.some.injEq, Prod.mk.injEq] at H
    obtain ⟨rfl, rfl, rfl⟩ := H
    go_enter Try.func47, Try.ntmps47
    try go_wp2_with (first | ((with_reducible refine gate_dst (N := 2) rfl ?_); refine box_event ?hg (N := 2) ?hd (cs := #[.int .i64 a0_0, .slice A0_1 l0_1.length c0_1]) (t := 53) ?hr ?_; (case hd => rfl); (case hg => rfl); (case hr => first | (go_simp; done) | (go_simp; rfl)); intro gb373 hg w9 hbox hb; have BK373 := Aside0.mk (hbox); have GW373 := Aside0.mk ((by rw [hg]; exact (below_size bo) : w.heap.size ≤ gb373)); have GE373 := Aside0.mk ((by rw [hg]; exact (below_size bo) : w.heap.size ≤ gb373)); replace HB := Aside0.mk (below_step bo hb); clear hb hbox hg) | ((with_reducible refine gate_dst (N := 3) rfl ?_); refine box_event ?hg (N := 3) ?hd (cs := #[.int .i64 a1_0, .int .i64 a1_1, .string a1_2, .string a1_3, .int .i64 a1_4, .bool a1_5]) (t := 25) ?hr ?_; (case hd => rfl); (case hg => rfl); (case hr => first | (go_simp; done) | (go_simp; rfl)); intro gb374 hg w10 hbox hb; have BK374 := Aside0.mk (hbox); have GW374 := Aside0.mk ((by rw [hg]; exact (below_size bo) : w.heap.size ≤ gb374)); have GE374 := Aside0.mk ((by rw [hg]; exact (below_size bo) : w.heap.size ≤ gb374)); replace HB := Aside0.mk (below_step bo hb); have NB373_374 := Aside0.mk ((by rw [hg]; exact Nat.ne_of_lt (blk_lt (g := gb373) (o := .cells #[.int .i64 a0_0, .slice A0_1 l0_1.length c0_1] 53 (0, 0)) (bk BK373.out)) : gb373 ≠ gb374)); have NB374_373 := Aside0.mk ((by rw [hg]; exact Nat.ne_of_gt (blk_lt (g := gb373) (o := .cells #[.int .i64 a0_0, .slice A0_1 l0_1.length c0_1] 53 (0, 0)) (bk BK373.out)) : gb374 ≠ gb373)); replace BK373 := Aside0.mk (blk_below (g := gb373) (o := .cells #[.int .i64 a0_0, .slice A0_1 l0_1.length c0_1] 53 (0, 0)) (bk BK373.out) hb); clear hb hbox hg) | ((with_reducible refine gate_dst (N := 4) rfl ?_); refine box_event ?hg (N := 4) ?hd (cs := #[.int .i64 0, .slice none 0 0]) (t := 53) ?hr ?_; (case hd => rfl); (case hg => rfl); (case hr => first | (go_simp; done) | (go_simp; rfl)); intro gb375 hg w11 hbox hb; have BK375 := Aside0.mk (hbox); have GW375 := Aside0.mk ((by rw [hg]; exact (below_size bo) : w.heap.size ≤ gb375)); have GE375 := Aside0.mk ((by rw [hg]; exact (below_size bo) : w.heap.size ≤ gb375)); replace HB := Aside0.mk (below_step bo hb); have NB373_375 := Aside0.mk ((by rw [hg]; exact Nat.ne_of_lt (blk_lt (g := gb373) (o := .cells #[.int .i64 a0_0, .slice A0_1 l0_1.length c0_1] 53 (0, 0)) (bk BK373.out)) : gb373 ≠ gb375)); have NB375_373 := Aside0.mk ((by rw [hg]; exact Nat.ne_of_gt (blk_lt (g := gb373) (o := .cells #[.int .i64 a0_0, .slice A0_1 l0_1.length c0_1] 53 (0, 0)) (bk BK373.out)) : gb375 ≠ gb373)); replace BK373 := Aside0.mk (blk_below (g := gb373) (o := .cells #[.int .i64 a0_0, .slice A0_1 l0_1.length c0_1] 53 (0, 0)) (bk BK373.out) hb); have NB374_375 := Aside0.mk ((by rw [hg]; exact Nat.ne_of_lt (blk_lt (g := gb374) (o := .cells #[.int .i64 a1_0, .int .i64 a1_1, .string a1_2, .string a1_3, .int .i64 a1_4, .bool a1_5] 25 (0, 0)) (bk BK374.out)) : gb374 ≠ gb375)); have NB375_374 := Aside0.mk ((by rw [hg]; exact Nat.ne_of_gt (blk_lt (g := gb374) (o := .cells #[.int .i64 a1_0, .int .i64 a1_1, .string a1_2, .string a1_3, .int .i64 a1_4, .bool a1_5] 25 (0, 0)) (bk BK374.out)) : gb375 ≠ gb374)); replace BK374 := Aside0.mk (blk_below (g := gb374) (o := .cells #[.int .i64 a1_0, .int .i64 a1_1, .string a1_2, .string a1_3, .int .i64 a1_4, .bool a1_5] 25 (0, 0)) (bk BK374.out) hb); clear hb hbox hg; have hnb12 := NB373_374.out; have hnc12 := NB374_373.out; have hnb13 := NB373_375.out; have hnc13 := NB375_373.out; obtain ⟨hcz14_0, hcz14_1⟩ := cl2 BK373.out; obtain ⟨hfz14_0, hfz14_1⟩ := fz2 BK373.out) | ((with_reducible refine gate_callee (f := 46) rfl ?_); refine goesL_ (some 7) rfl rfl Try.func46 (by kernel_rfl) rfl #[.agg #[.int .i64 a0_0, .slice A0_1 l0_1.length c0_1]] rfl aa ?_; (with_reducible refine (seg_Check.calls k a0_0 _ _ l0_1 t376 _ ?side1 ?side2 A3.out).mono ?_); (case side1 => repeat (first | exact (Kd.C_below HR0_1.out HB.out) | (with_reducible refine Kd.C_alloc ?_ _) | (with_reducible refine Kd.C_drewN ?_ _) | (with_reducible refine Kd.C_drew ?_))); (case side2 => exact HC0_1.out); rintro e w15 ⟨rfl, hb⟩; refine ⟨_, rfl, ?_⟩; replace BK373 := Aside0.mk (blk_below (g := gb373) (o := .cells #[.int .i64 a0_0, .slice A0_1 l0_1.length c0_1] 53 (0, 0)) (bk BK373.out) hb); replace BK374 := Aside0.mk (blk_below (g := gb374) (o := .cells #[.int .i64 a1_0, .int .i64 a1_1, .string a1_2, .string a1_3, .int .i64 a1_4, .bool a1_5] 25 (0, 0)) (bk BK374.out) hb); replace BK375 := Aside0.mk (blk_below (g := gb375) (o := .cells #[.int .i64 0, .slice none 0 0] 53 (0, 0)) (bk BK375.out) hb); replace HB := Aside0.mk (below_step bo hb); (try clear hb); (try clear hb2); (try clear hk); (try clear hi); obtain ⟨hcz16_0, hcz16_1⟩ := cl2 BK373.out; obtain ⟨hfz16_0, hfz16_1⟩ := fz2 BK373.out; have hnb17 := NB374_375.out; have hnc17 := NB375_374.out; obtain ⟨hcz18_0, hcz18_1, hcz18_2, hcz18_3, hcz18_4, hcz18_5⟩ := cl6 BK374.out; obtain ⟨hfz18_0, hfz18_1, hfz18_2, hfz18_3, hfz18_4, hfz18_5⟩ := fz6 BK374.out) | (go_at_call 75; (with_reducible refine (seg_behind.calls k a0_0 _ _ l0_1 a1_0 a1_1 a1_2 a1_3 a1_4 a1_5 true _ ?side1 ?side2 A5.out).mono ?_); (case side1 => repeat (first | exact (Kd.C_below HR0_1.out HB.out) | (with_reducible refine Kd.C_alloc ?_ _) | (with_reducible refine Kd.C_drewN ?_ _) | (with_reducible refine Kd.C_drew ?_))); (case side2 => exact HC0_1.out); rintro e w19 ⟨rfl, hb⟩; replace BK373 := Aside0.mk (blk_below (g := gb373) (o := .cells #[.int .i64 a0_0, .slice A0_1 l0_1.length c0_1] 53 (0, 0)) (bk BK373.out) hb); replace BK374 := Aside0.mk (blk_below (g := gb374) (o := .cells #[.int .i64 a1_0, .int .i64 a1_1, .string a1_2, .string a1_3, .int .i64 a1_4, .bool a1_5] 25 (0, 0)) (bk BK374.out) hb); replace BK375 := Aside0.mk (blk_below (g := gb375) (o := .cells #[.int .i64 0, .slice none 0 0] 53 (0, 0)) (bk BK375.out) hb); replace HB := Aside0.mk (below_step bo hb); (try clear hb); (try clear hb2); (try clear hk); (try clear hi)))
    replace BK373 := Aside0.mk (blk_drew BK373.out)
    replace BK374 := Aside0.mk (blk_drew BK374.out)
    replace BK375 := Aside0.mk (blk_drew BK375.out)
    replace HB := Aside0.mk (below_drew1 HB.out)
    refine start_ (n := 11) (S := fun w' => w'.cell? ⟨gb373, 0, none⟩ = some (.int .i64 a0_0) ∧ w'.cell? ⟨gb373, 1, none⟩ = some (.slice A0_1 l0_1.length c0_1) ∧ w'.cell? ⟨gb374, 0, none⟩ = some (.int .i64 a1_0) ∧ w'.cell? ⟨gb374, 1, none⟩ = some (.int .i64 a1_1) ∧ w'.cell? ⟨gb374, 2, none⟩ = some (.string a1_2) ∧ w'.cell? ⟨gb374, 3, none⟩ = some (.string a1_3) ∧ w'.cell? ⟨gb374, 4, none⟩ = some (.int .i64 a1_4) ∧ w'.cell? ⟨gb374, 5, none⟩ = some (.bool a1_5)) (ds := []) #[O,O,O,O,O,O,O,O,O,O,O] (by kernel_rfl) rfl rfl ⟨(blk_cell BK373.out 0).trans rfl, (blk_cell BK373.out 1).trans rfl, (blk_cell BK374.out 0).trans rfl, (blk_cell BK374.out 1).trans rfl, (blk_cell BK374.out 2).trans rfl, (blk_cell BK374.out 3).trans rfl, (blk_cell BK374.out 4).trans rfl, (blk_cell BK374.out 5).trans rfl⟩ (fun hHeld => ?_); refine with_tabW seg_Add.tab3 seg_Add.bits3 (fun HT_ HW_ => ?_)
    generalize w19.drew = w20 at BK373 BK374 BK375 HB hHeld ⊢
    refine pz (i := 0) (N := some 19) #[I,O,O,O,O,O,O,O,O,O,O] ?_
    refine pz (i := 2) (N := some 21) #[I,O,I,O,O,O,O,O,O,O,O] ?_
    refine tz (i := 1) (N := some 20) #[I,I,I,O,O,O,O,O,O,O,O] ?_
    refine tz (i := 3) (N := some 22) #[I,I,I,I,O,O,O,O,O,O,O] ?_
    refine tz (i := 5) (N := some 24) #[I,I,I,I,O,I,O,O,O,O,O] ?_
    refine join_ (σ := Value × Value) 4 #[I,I,I,I,I,I,I,O,O,O,O] (fun s_ => [(23, s_.1), (25, s_.2)]) (fun s_ w' => (w'.cell? ⟨gb373, 0, none⟩ = some (.int .i64 a0_0) ∧ w'.cell? ⟨gb373, 1, none⟩ = some (.slice A0_1 l0_1.length c0_1) ∧ w'.cell? ⟨gb374, 0, none⟩ = some (.int .i64 a1_0) ∧ w'.cell? ⟨gb374, 1, none⟩ = some (.int .i64 a1_1) ∧ w'.cell? ⟨gb374, 2, none⟩ = some (.string a1_2) ∧ w'.cell? ⟨gb374, 3, none⟩ = some (.string a1_3) ∧ w'.cell? ⟨gb374, 4, none⟩ = some (.int .i64 a1_4) ∧ w'.cell? ⟨gb374, 5, none⟩ = some (.bool a1_5)) ∧ (Kd.R k25 25 w' w.heap.size (fun k_ => some k_ ≠ (s_.2 : Value).ownBlock ∧ k_ ≠ gb374) s_.1 t378) ∧ (Kd.R k25 25 w' w.heap.size (fun k_ => some k_ ≠ (s_.1 : Value).ownBlock ∧ k_ ≠ gb374) s_.2 y381) ∧ (w'.heap[gb373]? = some (.cells #[.int .i64 a0_0, .slice A0_1 l0_1.length c0_1] 53 (0, 0))) ∧ (w'.heap[gb374]? = some (.cells #[.int .i64 a1_0, .int .i64 a1_1, .string a1_2, .string a1_3, .int .i64 a1_4, .bool a1_5] 25 (0, 0))) ∧ (w'.heap[gb375]? = some (.cells #[.int .i64 0, .slice none 0 0] 53 (0, 0))) ∧ (Below w.heap.size w w')) ?_ ?_
    rotate_left
    ·intro hCont
     refine two_ (i := 4) (j := 6) (Ni := some 23) (Nj := some 25) #[I,I,I,I,I,I,O,O,O,O,O] #[I,I,I,I,O,I,I,O,O,O,O] rfl rfl rfl rfl (two_of HT_.out (by kernel_rfl)) (by decide) (by decide) (fun K hK => ?_) (fun K hK => ?_)
     ·skip
      refine goes_ Try.func79 (by kernel_rfl) rfl #[.slice A0_1 l0_1.length c0_1] (by rfl) rfl rfl aa ?_
      with_reducible refine (api_Rec_79.calls _ _ l0_1 t378 _ ?side1 ?side2 A7.out).mono ?_
      (case side1 => repeat (first | exact (Kd.C_below HR0_1.out HB.out) | (with_reducible refine Kd.C_alloc ?_ _) | (with_reducible refine Kd.C_drewN ?_ _) | (with_reducible refine Kd.C_drew ?_)))
      (case side2 => exact HC0_1.out)
      rintro e w21 ⟨v379, rfl, ho0, hb⟩
      refine ⟨_, rfl, ?_⟩
      have HO380 := Aside0.mk (Kd.R_lower (Kd.R_newB ho0 (g := gb374) (o := .cells #[.int .i64 a1_0, .int .i64 a1_1, .string a1_2, .string a1_3, .int .i64 a1_4, .bool a1_5] 25 (0, 0)) (bk BK374.out)) (below_size bo))
      replace BK373 := Aside0.mk (blk_below (g := gb373) (o := .cells #[.int .i64 a0_0, .slice A0_1 l0_1.length c0_1] 53 (0, 0)) (bk BK373.out) hb)
      replace BK374 := Aside0.mk (blk_below (g := gb374) (o := .cells #[.int .i64 a1_0, .int .i64 a1_1, .string a1_2, .string a1_3, .int .i64 a1_4, .bool a1_5] 25 (0, 0)) (bk BK374.out) hb)
      replace BK375 := Aside0.mk (blk_below (g := gb375) (o := .cells #[.int .i64 0, .slice none 0 0] 53 (0, 0)) (bk BK375.out) hb)
      replace HB := Aside0.mk (below_step bo hb)
      (try clear hb)
      (try clear hb2)
      (try clear hk)
      (try clear hi)
      (try clear ho0)
      refine hK.out _ _ ⟨(blk_cell BK373.out 0).trans rfl, (blk_cell BK373.out 1).trans rfl, (blk_cell BK374.out 0).trans rfl, (blk_cell BK374.out 1).trans rfl, (blk_cell BK374.out 2).trans rfl, (blk_cell BK374.out 3).trans rfl, (blk_cell BK374.out 4).trans rfl, (blk_cell BK374.out 5).trans rfl⟩ (fun hHeld => ?_)
      clear hK K
      refine norm_ (a' := ?_) ?_ ?_
      rotate_left
      ·show Act.put _ (some 23) _ = _
       simp only [Act.put, List.setIfInBounds_toArray, List.set_cons_zero, List.set_cons_succ, i64_w, i32_w]
       rfl
      refine one_ (i := 6) (N := some 25) #[I,I,I,I,I,I,I,O,O,O,O] rfl rfl (one_of HT_.out (by kernel_rfl)) (by decide) (fun K hK => ?_)
      refine Kd.R_lit_step k25 _ 25 ?hg (N := 25) ?hd (xs := ([(⟨a1_0, a1_1, a1_2, a1_3, a1_4, a1_5⟩ : S25)] : List (S25))) (inner := [.int .i64 a1_0, .int .i64 a1_1, .string a1_2, .string a1_3, .int .i64 a1_4, .bool a1_5]) (ok := fun _ => True) (okp := fun _ => True) ?hr ?hp (fun _ hk => hk) trivial (Below.refl _ _) (Nat.le_refl _) (by simp) ?_; (case hd => rfl); (case hg => rfl); (case hr => first | (go_simp; done) | (go_simp; rfl)); (case hp => exact (Reps.c6 (show Kd.M k25 _ _ _ (⟨a1_0, a1_1, a1_2, a1_3, a1_4, a1_5⟩ : S25) [.int .i64 a1_0, .int .i64 a1_1, .string a1_2, .string a1_3, .int .i64 a1_4, .bool a1_5] from (k25_mkM _ _ _ (⟨a1_0, a1_1, a1_2, a1_3, a1_4, a1_5⟩ : S25) )) (Reps.none _ _)))
      intro v382 w22 ho23 hb hg_ hnew_
      clear hg_ hnew_
      (first | rw [← Ny381.out] at ho23 | (simp only [Int.reduceToNat] at ho23; rw [← Ny381.out] at ho23))
      have HO383 := Aside0.mk (Kd.R_lower (Kd.R_newB (Kd.R_new' ho23 (Kd.R_lt (rk HO380.out))) (g := gb374) (o := .cells #[.int .i64 a1_0, .int .i64 a1_1, .string a1_2, .string a1_3, .int .i64 a1_4, .bool a1_5] 25 (0, 0)) (bk BK374.out)) (below_size bo))
      replace HO380 := Aside0.mk (Kd.R_elder' (rk HO380.out) (Kd.R_base ho23) hb)
      replace BK373 := Aside0.mk (blk_below (g := gb373) (o := .cells #[.int .i64 a0_0, .slice A0_1 l0_1.length c0_1] 53 (0, 0)) (bk BK373.out) hb)
      replace BK374 := Aside0.mk (blk_below (g := gb374) (o := .cells #[.int .i64 a1_0, .int .i64 a1_1, .string a1_2, .string a1_3, .int .i64 a1_4, .bool a1_5] 25 (0, 0)) (bk BK374.out) hb)
      replace BK375 := Aside0.mk (blk_below (g := gb375) (o := .cells #[.int .i64 0, .slice none 0 0] 53 (0, 0)) (bk BK375.out) hb)
      replace HB := Aside0.mk (below_step bo hb)
      clear hb ho23
      refine hK.out _ _ ⟨(blk_cell BK373.out 0).trans rfl, (blk_cell BK373.out 1).trans rfl, (blk_cell BK374.out 0).trans rfl, (blk_cell BK374.out 1).trans rfl, (blk_cell BK374.out 2).trans rfl, (blk_cell BK374.out 3).trans rfl, (blk_cell BK374.out 4).trans rfl, (blk_cell BK374.out 5).trans rfl⟩ (fun hHeld => ?_)
      clear hK K
      refine norm_ (a' := ?_) ?_ ?_
      rotate_left
      ·show Act.put _ (some 25) _ = _
       simp only [Act.put, List.setIfInBounds_toArray, List.set_cons_zero, List.set_cons_succ, i64_w, i32_w]
       rfl
      exact norm_ (by simp only [putAll, Act.put, List.setIfInBounds_toArray, List.set_cons_zero, List.set_cons_succ]) (hCont (v379, v382) _ ⟨hHeld, (by (with_reducible repeat (first | apply Kd.R_alloc | apply Kd.R_drewN | apply Kd.R_drew)); exact Kd.R_mono HO380.out (fun _ hk => ⟨hk.2, hk.1.2⟩)), (by (with_reducible repeat (first | apply Kd.R_alloc | apply Kd.R_drewN | apply Kd.R_drew)); exact Kd.R_mono HO383.out (fun _ hk => ⟨hk.1.2, hk.2⟩)), (bk BK373.out), (bk BK374.out), (bk BK375.out), bo⟩)
     ·skip
      refine Kd.R_lit_step k25 _ 25 ?hg (N := 25) ?hd (xs := ([(⟨a1_0, a1_1, a1_2, a1_3, a1_4, a1_5⟩ : S25)] : List (S25))) (inner := [.int .i64 a1_0, .int .i64 a1_1, .string a1_2, .string a1_3, .int .i64 a1_4, .bool a1_5]) (ok := fun _ => True) (okp := fun _ => True) ?hr ?hp (fun _ hk => hk) trivial (Below.refl _ _) (Nat.le_refl _) (by simp) ?_; (case hd => rfl); (case hg => rfl); (case hr => first | (go_simp; done) | (go_simp; rfl)); (case hp => exact (Reps.c6 (show Kd.M k25 _ _ _ (⟨a1_0, a1_1, a1_2, a1_3, a1_4, a1_5⟩ : S25) [.int .i64 a1_0, .int .i64 a1_1, .string a1_2, .string a1_3, .int .i64 a1_4, .bool a1_5] from (k25_mkM _ _ _ (⟨a1_0, a1_1, a1_2, a1_3, a1_4, a1_5⟩ : S25) )) (Reps.none _ _)))
      intro v382 w21 ho22 hb hg_ hnew_
      clear hg_ hnew_
      (first | rw [← Ny381.out] at ho22 | (simp only [Int.reduceToNat] at ho22; rw [← Ny381.out] at ho22))
      have HO383 := Aside0.mk (Kd.R_lower (Kd.R_newB ho22 (g := gb374) (o := .cells #[.int .i64 a1_0, .int .i64 a1_1, .string a1_2, .string a1_3, .int .i64 a1_4, .bool a1_5] 25 (0, 0)) (bk BK374.out)) (below_size bo))
      replace BK373 := Aside0.mk (blk_below (g := gb373) (o := .cells #[.int .i64 a0_0, .slice A0_1 l0_1.length c0_1] 53 (0, 0)) (bk BK373.out) hb)
      replace BK374 := Aside0.mk (blk_below (g := gb374) (o := .cells #[.int .i64 a1_0, .int .i64 a1_1, .string a1_2, .string a1_3, .int .i64 a1_4, .bool a1_5] 25 (0, 0)) (bk BK374.out) hb)
      replace BK375 := Aside0.mk (blk_below (g := gb375) (o := .cells #[.int .i64 0, .slice none 0 0] 53 (0, 0)) (bk BK375.out) hb)
      replace HB := Aside0.mk (below_step bo hb)
      clear hb ho22
      refine hK.out _ _ ⟨(blk_cell BK373.out 0).trans rfl, (blk_cell BK373.out 1).trans rfl, (blk_cell BK374.out 0).trans rfl, (blk_cell BK374.out 1).trans rfl, (blk_cell BK374.out 2).trans rfl, (blk_cell BK374.out 3).trans rfl, (blk_cell BK374.out 4).trans rfl, (blk_cell BK374.out 5).trans rfl⟩ (fun hHeld => ?_)
      clear hK K
      refine norm_ (a' := ?_) ?_ ?_
      rotate_left
      ·show Act.put _ (some 25) _ = _
       simp only [Act.put, List.setIfInBounds_toArray, List.set_cons_zero, List.set_cons_succ, i64_w, i32_w]
       rfl
      refine one_ (i := 4) (N := some 23) #[I,I,I,I,I,I,I,O,O,O,O] rfl rfl (one_of HT_.out (by kernel_rfl)) (by decide) (fun K hK => ?_)
      refine goes_ Try.func79 (by kernel_rfl) rfl #[.slice A0_1 l0_1.length c0_1] (by rfl) rfl rfl aa ?_
      with_reducible refine (api_Rec_79.calls _ _ l0_1 t378 _ ?side1 ?side2 A7.out).mono ?_
      (case side1 => repeat (first | exact (Kd.C_below HR0_1.out HB.out) | (with_reducible refine Kd.C_alloc ?_ _) | (with_reducible refine Kd.C_drewN ?_ _) | (with_reducible refine Kd.C_drew ?_)))
      (case side2 => exact HC0_1.out)
      rintro e w23 ⟨v379, rfl, ho0, hb⟩
      refine ⟨_, rfl, ?_⟩
      have HO380 := Aside0.mk (Kd.R_lower (Kd.R_newB (Kd.R_new' ho0 (Kd.R_lt (rk HO383.out))) (g := gb374) (o := .cells #[.int .i64 a1_0, .int .i64 a1_1, .string a1_2, .string a1_3, .int .i64 a1_4, .bool a1_5] 25 (0, 0)) (bk BK374.out)) (below_size bo))
      replace HO383 := Aside0.mk (Kd.R_elder' (rk HO383.out) (Kd.R_base ho0) hb)
      replace BK373 := Aside0.mk (blk_below (g := gb373) (o := .cells #[.int .i64 a0_0, .slice A0_1 l0_1.length c0_1] 53 (0, 0)) (bk BK373.out) hb)
      replace BK374 := Aside0.mk (blk_below (g := gb374) (o := .cells #[.int .i64 a1_0, .int .i64 a1_1, .string a1_2, .string a1_3, .int .i64 a1_4, .bool a1_5] 25 (0, 0)) (bk BK374.out) hb)
      replace BK375 := Aside0.mk (blk_below (g := gb375) (o := .cells #[.int .i64 0, .slice none 0 0] 53 (0, 0)) (bk BK375.out) hb)
      replace HB := Aside0.mk (below_step bo hb)
      (try clear hb)
      (try clear hb2)
      (try clear hk)
      (try clear hi)
      (try clear ho0)
      refine hK.out _ _ ⟨(blk_cell BK373.out 0).trans rfl, (blk_cell BK373.out 1).trans rfl, (blk_cell BK374.out 0).trans rfl, (blk_cell BK374.out 1).trans rfl, (blk_cell BK374.out 2).trans rfl, (blk_cell BK374.out 3).trans rfl, (blk_cell BK374.out 4).trans rfl, (blk_cell BK374.out 5).trans rfl⟩ (fun hHeld => ?_)
      clear hK K
      refine norm_ (a' := ?_) ?_ ?_
      rotate_left
      ·show Act.put _ (some 23) _ = _
       simp only [Act.put, List.setIfInBounds_toArray, List.set_cons_zero, List.set_cons_succ, i64_w, i32_w]
       rfl
      exact norm_ (by simp only [putAll, Act.put, List.setIfInBounds_toArray, List.set_cons_zero, List.set_cons_succ]) (hCont (v379, v382) _ ⟨hHeld, (by (with_reducible repeat (first | apply Kd.R_alloc | apply Kd.R_drewN | apply Kd.R_drew)); exact Kd.R_mono HO380.out (fun _ hk => ⟨hk.1.2, hk.2⟩)), (by (with_reducible repeat (first | apply Kd.R_alloc | apply Kd.R_drewN | apply Kd.R_drew)); exact Kd.R_mono HO383.out (fun _ hk => ⟨hk.2, hk.1.2⟩)), (bk BK373.out), (bk BK374.out), (bk BK375.out), bo⟩)
    rintro ⟨v379, v382⟩ w24 ⟨hS_, h0_, h1_, h2_, h3_, h4_, h5_⟩
    have n0_ : Aside0 (Kd.R k25 25 w24 w.heap.size (fun k_ => some k_ ≠ (v382 : Value).ownBlock ∧ k_ ≠ gb374) v379 t378) := ⟨h0_⟩
    have n1_ : Aside0 (Kd.R k25 25 w24 w.heap.size (fun k_ => some k_ ≠ (v379 : Value).ownBlock ∧ k_ ≠ gb374) v382 y381) := ⟨h1_⟩
    have n2_ : Aside0 (w24.heap[gb373]? = some (.cells #[.int .i64 a0_0, .slice A0_1 l0_1.length c0_1] 53 (0, 0))) := ⟨h2_⟩
    have n3_ : Aside0 (w24.heap[gb374]? = some (.cells #[.int .i64 a1_0, .int .i64 a1_1, .string a1_2, .string a1_3, .int .i64 a1_4, .bool a1_5] 25 (0, 0))) := ⟨h3_⟩
    have n4_ : Aside0 (w24.heap[gb375]? = some (.cells #[.int .i64 0, .slice none 0 0] 53 (0, 0))) := ⟨h4_⟩
    have n5_ : Aside0 (Below w.heap.size w w24) := ⟨h5_⟩
    clear BK373
    clear BK374
    clear BK375
    clear HB
    clear h0_ h1_ h2_ h3_ h4_ h5_
    have HO380 := n0_
    have HO383 := n1_
    have BK373 := n2_
    have BK374 := n3_
    have BK375 := n4_
    have HB := n5_
    clear n0_ n1_ n2_ n3_ n4_ n5_
    have hHeld : w24.cell? ⟨gb373, 0, none⟩ = some (.int .i64 a0_0) ∧ w24.cell? ⟨gb373, 1, none⟩ = some (.slice A0_1 l0_1.length c0_1) ∧ w24.cell? ⟨gb374, 0, none⟩ = some (.int .i64 a1_0) ∧ w24.cell? ⟨gb374, 1, none⟩ = some (.int .i64 a1_1) ∧ w24.cell? ⟨gb374, 2, none⟩ = some (.string a1_2) ∧ w24.cell? ⟨gb374, 3, none⟩ = some (.string a1_3) ∧ w24.cell? ⟨gb374, 4, none⟩ = some (.int .i64 a1_4) ∧ w24.cell? ⟨gb374, 5, none⟩ = some (.bool a1_5) := hS_
    obtain ⟨Ao26, co26, eo26⟩ := Kd.R_slice HO383.out
    (first | subst eo26 | (injection eo26 with f1_ f2_ f3_; have f4_ := f1_.symm; have f5_ := f3_.symm; clear f1_ f2_ f3_; subst f4_; subst f5_))
    refine norm_ (a' := ?_) ?_ ?_
    rotate_left
    ·simp only [putAll, Act.put, List.setIfInBounds_toArray, List.set_cons_zero, List.set_cons_succ]
     rfl
    refine one_ (i := 7) (N := some 26) #[I,I,I,I,I,I,I,I,O,O,O] rfl rfl (one_of HT_.out (by kernel_rfl)) (by decide) (fun K hK => ?_)
    refine Kd.R_append_rows_step k25 (w0 := w) w.heap.size (by rfl) (.tmp 23) (.tmp 25) 36 25 (.agg #[(.int .i64 0), (.int .i64 0), (.string ⟨#[]⟩), (.string ⟨#[]⟩), (.int .i64 0), (.bool false)]) 64 rfl Try.underlying36 info25 rfl (by decide) (by omega) v379 t378 y381 _ _ _ (fun k_ => some k_ ≠ (.slice Ao26 y381.length co26 : Value).ownBlock ∧ k_ ≠ gb374) (fun _ => False) rfl rfl ?aO ?aR (fun _ _ h => h) (fun _ h => h.elim) ?aF ?aB ?aS ?aL ?_
    (case aR => repeat (first | exact (Kd.R_reads' HO383.out).2.2 | (with_reducible refine Kd.C_alloc ?_ _) | (with_reducible refine Kd.C_drewN ?_ _) | (with_reducible refine Kd.C_drew ?_)))
    (case aB => exact bo)
    (case aF => exact (fun k_ hk => ⟨Kd.fresh' (Kd.R_lt (rk HO383.out)) k_ hk, Kd.freshB (g := gb374) (o := .cells #[.int .i64 a1_0, .int .i64 a1_1, .string a1_2, .string a1_3, .int .i64 a1_4, .bool a1_5] 25 (0, 0)) (bk BK374.out) k_ hk⟩))
    (case aO => exact (rk HO380.out))
    (case aS => exact (below_size bo))
    (case aL => have := LMc8.out; omega)
    intro v385 w25 ho hb hg hat
    rw [← Ny384.out] at ho
    have n0_ := Aside0.mk (blk_grown (g := gb373) (o := .cells #[.int .i64 a0_0, .slice A0_1 l0_1.length c0_1] 53 (0, 0)) (bk BK373.out) hg (Kd.R_ne HO380.out BK373.out (by decide)))
    have n1_ := Aside0.mk (blk_grown (g := gb374) (o := .cells #[.int .i64 a1_0, .int .i64 a1_1, .string a1_2, .string a1_3, .int .i64 a1_4, .bool a1_5] 25 (0, 0)) (bk BK374.out) hg (Kd.R_away HO380.out (fun _ hk => hk.2)))
    have n2_ := Aside0.mk (blk_grown (g := gb375) (o := .cells #[.int .i64 0, .slice none 0 0] 53 (0, 0)) (bk BK375.out) hg (Kd.R_ne HO380.out BK375.out (by decide)))
    have n3_ := Aside0.mk (Kd.R_after (ok := (fun k_ => k_ ≠ gb374)) (by (with_reducible repeat (first | apply Kd.R_alloc | apply Kd.R_drewN | apply Kd.R_drew)); exact Kd.R_mono HO383.out (fun _ hk => ⟨hk.2, hk.1⟩)) hg hat)
    have n4_ := Aside0.mk (hb)
    have n5_ := Aside0.mk (ho)
    clear BK373
    clear BK374
    clear BK375
    clear HO383
    clear HB
    clear HO380
    have BK373 := n0_
    have BK374 := n1_
    have BK375 := n2_
    have HO383 := n3_
    have HB := n4_
    have HO386 := n5_
    clear n0_ n1_ n2_ n3_ n4_ n5_
    clear ho hb hg hat
    obtain ⟨Ao27, co27, eo27⟩ := Kd.R_slice HO386.out
    (first | subst eo27 | (injection eo27 with f1_ f2_ f3_; have f4_ := f1_.symm; have f5_ := f3_.symm; clear f1_ f2_ f3_; subst f4_; subst f5_))
    refine hK.out _ _ ⟨(blk_cell BK373.out 0).trans rfl, (blk_cell BK373.out 1).trans rfl, (blk_cell BK374.out 0).trans rfl, (blk_cell BK374.out 1).trans rfl, (blk_cell BK374.out 2).trans rfl, (blk_cell BK374.out 3).trans rfl, (blk_cell BK374.out 4).trans rfl, (blk_cell BK374.out 5).trans rfl⟩ (fun hHeld => ?_)
    clear hK K
    refine norm_ (a' := ?_) ?_ ?_
    rotate_left
    ·show Act.put _ (some 26) _ = _
     simp only [Act.put, List.setIfInBounds_toArray, List.set_cons_zero, List.set_cons_succ, i64_w, i32_w]
     rfl
    refine pz (i := 8) (N := some 27) #[I,I,I,I,I,I,I,I,I,O,O] ?_
    refine one_ (i := 9) (N := none) #[I,I,I,I,I,I,I,I,I,I,O] rfl rfl (one_of HT_.out (by kernel_rfl)) (by decide) (fun K hK => ?_)
    have hs28 : w25.cell? ⟨gb375, 0, none⟩ = some (.int .i64 0) := (blk_cell BK375.out 0).trans rfl
    have hfs28 := blk_frozen BK375.out 0
    have hns28_0 := NB373_375.out
    have hns28_1 := NB374_375.out
    have hms28_0 := NB375_373.out
    have hms28_1 := NB375_374.out
    have hs29 : w25.cell? ⟨gb375, 1, none⟩ = some (.slice none 0 0) := (blk_cell BK375.out 1).trans rfl
    have hfs29 := blk_frozen BK375.out 1
    have hns29_0 := NB373_375.out
    have hns29_1 := NB374_375.out
    have hms29_0 := NB375_373.out
    have hms29_1 := NB375_374.out
    refine skip_ (w1 := ?_) (by rfl) rfl ?_ ?_
    rotate_left
    ·go_simp
     rfl
    refine hK.out _ _ ⟨((cell_far (p := ⟨gb375, _, none⟩) NB373_375.out _).trans (((cell_far (p := ⟨gb375, _, none⟩) NB373_375.out _).trans (hHeld.1)))), ((cell_far (p := ⟨gb375, _, none⟩) NB373_375.out _).trans (((cell_far (p := ⟨gb375, _, none⟩) NB373_375.out _).trans (hHeld.2.1)))), ((cell_far (p := ⟨gb375, _, none⟩) NB374_375.out _).trans (((cell_far (p := ⟨gb375, _, none⟩) NB374_375.out _).trans (hHeld.2.2.1)))), ((cell_far (p := ⟨gb375, _, none⟩) NB374_375.out _).trans (((cell_far (p := ⟨gb375, _, none⟩) NB374_375.out _).trans (hHeld.2.2.2.1)))), ((cell_far (p := ⟨gb375, _, none⟩) NB374_375.out _).trans (((cell_far (p := ⟨gb375, _, none⟩) NB374_375.out _).trans (hHeld.2.2.2.2.1)))), ((cell_far (p := ⟨gb375, _, none⟩) NB374_375.out _).trans (((cell_far (p := ⟨gb375, _, none⟩) NB374_375.out _).trans (hHeld.2.2.2.2.2.1)))), ((cell_far (p := ⟨gb375, _, none⟩) NB374_375.out _).trans (((cell_far (p := ⟨gb375, _, none⟩) NB374_375.out _).trans (hHeld.2.2.2.2.2.2.1)))), ((cell_far (p := ⟨gb375, _, none⟩) NB374_375.out _).trans (((cell_far (p := ⟨gb375, _, none⟩) NB374_375.out _).trans (hHeld.2.2.2.2.2.2.2))))⟩ (fun hHeld => ?_)
    clear hK K
    refine pz (i := 10) (N := some 5) #[I,I,I,I,I,I,I,I,I,I,I] ?_
    refine done_ (done_of HT_.out (by kernel_rfl)) ?_
    try go_wp2
    refine bodyPost_ret (results_ct rfl _ _ gb375 53 #[.int .i64 a0_0, .slice Ao27 y384.length co27] (0, 0) _ rfl (by (with_reducible repeat (first | refine blk_drewN ?_ _ | refine blk_drew ?_ | refine blk_alloc ?_ _)); refine blk_put (cs := #[.int .i64 a0_0, .slice none 0 0]) ?_ 1 _ rfl; (with_reducible repeat (first | refine blk_drewN ?_ _ | refine blk_drew ?_ | refine blk_alloc ?_ _)); refine blk_put (cs := #[.int .i64 0, .slice none 0 0]) ?_ 0 _ rfl; (with_reducible repeat (first | refine blk_drewN ?_ _ | refine blk_drew ?_ | refine blk_alloc ?_ _)); exact BK375.out) Try.underlying53 rfl (by kernel_rfl)) rfl ?_
    exact ⟨_, er, by (with_reducible repeat (first | apply Kd.R_alloc | apply Kd.R_drewN | apply Kd.R_drew)); exact Kd.R_mono (Kd.R_far (p := ⟨gb375, 1, none⟩) (Kd.R_far (p := ⟨gb375, 0, none⟩) (Kd.R_types HO386.out BK375.out (by decide)) (fun _ hk => hk.2) (.int .i64 a0_0)) (fun _ hk => hk.2) (.slice Ao27 y384.length co27)) (fun _ hk => trivial), bo⟩
   ·rw [if_neg c8] at H
    exact absurd H (by simp)
  ·replace c6 := Bool.eq_false_iff.mpr c6
   subst c6
   have H1 : (some (0, ([] : List (S25)), 1)) = some (r1, r2, r3) := by rw [if_neg (show ¬ (false = true) by decide)] at H; exact H
   clear H
   have H := H1
   clear H1
   simp only [Option.some.injEq, Prod.mk.injEq] at H
   obtain ⟨rfl, rfl, rfl⟩ := H
   go_enter Try.func47, Try.ntmps47
   go_wp2_with (first | ((with_reducible refine gate_dst (N := 2) rfl ?_); refine box_event ?hg (N := 2) ?hd (cs := #[.int .i64 a0_0, .slice A0_1 l0_1.length c0_1]) (t := 53) ?hr ?_; (case hd => rfl); (case hg => rfl); (case hr => first | (go_simp; done) | (go_simp; rfl)); intro gb373 hg w30 hbox hb; have BK373 := Aside0.mk (hbox); have GW373 := Aside0.mk ((by rw [hg]; exact (below_size bo) : w.heap.size ≤ gb373)); have GE373 := Aside0.mk ((by rw [hg]; exact (below_size bo) : w.heap.size ≤ gb373)); replace HB := Aside0.mk (below_step bo hb); clear hb hbox hg) | ((with_reducible refine gate_dst (N := 3) rfl ?_); refine box_event ?hg (N := 3) ?hd (cs := #[.int .i64 a1_0, .int .i64 a1_1, .string a1_2, .string a1_3, .int .i64 a1_4, .bool a1_5]) (t := 25) ?hr ?_; (case hd => rfl); (case hg => rfl); (case hr => first | (go_simp; done) | (go_simp; rfl)); intro gb374 hg w31 hbox hb; have BK374 := Aside0.mk (hbox); have GW374 := Aside0.mk ((by rw [hg]; exact (below_size bo) : w.heap.size ≤ gb374)); have GE374 := Aside0.mk ((by rw [hg]; exact (below_size bo) : w.heap.size ≤ gb374)); replace HB := Aside0.mk (below_step bo hb); have NB373_374 := Aside0.mk ((by rw [hg]; exact Nat.ne_of_lt (blk_lt (g := gb373) (o := .cells #[.int .i64 a0_0, .slice A0_1 l0_1.length c0_1] 53 (0, 0)) (bk BK373.out)) : gb373 ≠ gb374)); have NB374_373 := Aside0.mk ((by rw [hg]; exact Nat.ne_of_gt (blk_lt (g := gb373) (o := .cells #[.int .i64 a0_0, .slice A0_1 l0_1.length c0_1] 53 (0, 0)) (bk BK373.out)) : gb374 ≠ gb373)); replace BK373 := Aside0.mk (blk_below (g := gb373) (o := .cells #[.int .i64 a0_0, .slice A0_1 l0_1.length c0_1] 53 (0, 0)) (bk BK373.out) hb); clear hb hbox hg) | ((with_reducible refine gate_dst (N := 4) rfl ?_); refine box_event ?hg (N := 4) ?hd (cs := #[.int .i64 0, .slice none 0 0]) (t := 53) ?hr ?_; (case hd => rfl); (case hg => rfl); (case hr => first | (go_simp; done) | (go_simp; rfl)); intro gb375 hg w32 hbox hb; have BK375 := Aside0.mk (hbox); have GW375 := Aside0.mk ((by rw [hg]; exact (below_size bo) : w.heap.size ≤ gb375)); have GE375 := Aside0.mk ((by rw [hg]; exact (below_size bo) : w.heap.size ≤ gb375)); replace HB := Aside0.mk (below_step bo hb); have NB373_375 := Aside0.mk ((by rw [hg]; exact Nat.ne_of_lt (blk_lt (g := gb373) (o := .cells #[.int .i64 a0_0, .slice A0_1 l0_1.length c0_1] 53 (0, 0)) (bk BK373.out)) : gb373 ≠ gb375)); have NB375_373 := Aside0.mk ((by rw [hg]; exact Nat.ne_of_gt (blk_lt (g := gb373) (o := .cells #[.int .i64 a0_0, .slice A0_1 l0_1.length c0_1] 53 (0, 0)) (bk BK373.out)) : gb375 ≠ gb373)); replace BK373 := Aside0.mk (blk_below (g := gb373) (o := .cells #[.int .i64 a0_0, .slice A0_1 l0_1.length c0_1] 53 (0, 0)) (bk BK373.out) hb); have NB374_375 := Aside0.mk ((by rw [hg]; exact Nat.ne_of_lt (blk_lt (g := gb374) (o := .cells #[.int .i64 a1_0, .int .i64 a1_1, .string a1_2, .string a1_3, .int .i64 a1_4, .bool a1_5] 25 (0, 0)) (bk BK374.out)) : gb374 ≠ gb375)); have NB375_374 := Aside0.mk ((by rw [hg]; exact Nat.ne_of_gt (blk_lt (g := gb374) (o := .cells #[.int .i64 a1_0, .int .i64 a1_1, .string a1_2, .string a1_3, .int .i64 a1_4, .bool a1_5] 25 (0, 0)) (bk BK374.out)) : gb375 ≠ gb374)); replace BK374 := Aside0.mk (blk_below (g := gb374) (o := .cells #[.int .i64 a1_0, .int .i64 a1_1, .string a1_2, .string a1_3, .int .i64 a1_4, .bool a1_5] 25 (0, 0)) (bk BK374.out) hb); clear hb hbox hg; have hnb33 := NB373_374.out; have hnc33 := NB374_373.out; have hnb34 := NB373_375.out; have hnc34 := NB375_373.out; obtain ⟨hcz35_0, hcz35_1⟩ := cl2 BK373.out; obtain ⟨hfz35_0, hfz35_1⟩ := fz2 BK373.out) | ((with_reducible refine gate_callee (f := 46) rfl ?_); refine goesL_ (some 7) rfl rfl Try.func46 (by kernel_rfl) rfl #[.agg #[.int .i64 a0_0, .slice A0_1 l0_1.length c0_1]] rfl aa ?_; (with_reducible refine (seg_Check.calls k a0_0 _ _ l0_1 t376 _ ?side1 ?side2 A3.out).mono ?_); (case side1 => repeat (first | exact (Kd.C_below HR0_1.out HB.out) | (with_reducible refine Kd.C_alloc ?_ _) | (with_reducible refine Kd.C_drewN ?_ _) | (with_reducible refine Kd.C_drew ?_))); (case side2 => exact HC0_1.out); rintro e w36 ⟨rfl, hb⟩; refine ⟨_, rfl, ?_⟩; replace BK373 := Aside0.mk (blk_below (g := gb373) (o := .cells #[.int .i64 a0_0, .slice A0_1 l0_1.length c0_1] 53 (0, 0)) (bk BK373.out) hb); replace BK374 := Aside0.mk (blk_below (g := gb374) (o := .cells #[.int .i64 a1_0, .int .i64 a1_1, .string a1_2, .string a1_3, .int .i64 a1_4, .bool a1_5] 25 (0, 0)) (bk BK374.out) hb); replace BK375 := Aside0.mk (blk_below (g := gb375) (o := .cells #[.int .i64 0, .slice none 0 0] 53 (0, 0)) (bk BK375.out) hb); replace HB := Aside0.mk (below_step bo hb); (try clear hb); (try clear hb2); (try clear hk); (try clear hi); obtain ⟨hcz37_0, hcz37_1⟩ := cl2 BK373.out; obtain ⟨hfz37_0, hfz37_1⟩ := fz2 BK373.out; have hnb38 := NB374_375.out; have hnc38 := NB375_374.out; obtain ⟨hcz39_0, hcz39_1, hcz39_2, hcz39_3, hcz39_4, hcz39_5⟩ := cl6 BK374.out; obtain ⟨hfz39_0, hfz39_1, hfz39_2, hfz39_3, hfz39_4, hfz39_5⟩ := fz6 BK374.out) | (go_at_call 75; (with_reducible refine (seg_behind.calls k a0_0 _ _ l0_1 a1_0 a1_1 a1_2 a1_3 a1_4 a1_5 false _ ?side1 ?side2 A5.out).mono ?_); (case side1 => repeat (first | exact (Kd.C_below HR0_1.out HB.out) | (with_reducible refine Kd.C_alloc ?_ _) | (with_reducible refine Kd.C_drewN ?_ _) | (with_reducible refine Kd.C_drew ?_))); (case side2 => exact HC0_1.out); rintro e w40 ⟨rfl, hb⟩; replace BK373 := Aside0.mk (blk_below (g := gb373) (o := .cells #[.int .i64 a0_0, .slice A0_1 l0_1.length c0_1] 53 (0, 0)) (bk BK373.out) hb); replace BK374 := Aside0.mk (blk_below (g := gb374) (o := .cells #[.int .i64 a1_0, .int .i64 a1_1, .string a1_2, .string a1_3, .int .i64 a1_4, .bool a1_5] 25 (0, 0)) (bk BK374.out) hb); replace BK375 := Aside0.mk (blk_below (g := gb375) (o := .cells #[.int .i64 0, .slice none 0 0] 53 (0, 0)) (bk BK375.out) hb); replace HB := Aside0.mk (below_step bo hb); (try clear hb); (try clear hb2); (try clear hk); (try clear hi); obtain ⟨hcz41_0, hcz41_1⟩ := cl2 BK375.out; obtain ⟨hfz41_0, hfz41_1⟩ := fz2 BK375.out))
   refine bodyPost_ret (results_ct rfl _ _ gb375 53 #[.int .i64 0, .slice none 0 0] (0, 0) _ rfl (by (with_reducible repeat (first | refine blk_drewN ?_ _ | refine blk_drew ?_ | refine blk_alloc ?_ _)); refine blk_put (cs := #[.int .i64 0, .slice none 0 0]) ?_ 1 _ rfl; (with_reducible repeat (first | refine blk_drewN ?_ _ | refine blk_drew ?_ | refine blk_alloc ?_ _)); refine blk_put (cs := #[.int .i64 0, .slice none 0 0]) ?_ 0 _ rfl; (with_reducible repeat (first | refine blk_drewN ?_ _ | refine blk_drew ?_ | refine blk_alloc ?_ _)); exact BK375.out) Try.underlying53 rfl (by kernel_rfl)) rfl ?_
   exact ⟨_, er, by first | exact Kd.R_nil _ _ _ _ _ | exact Kd.N_nil _ _ _ _ _ | exact Kd.V_nil _ _ _ _ _ | exact Kd.Q_nil _ _ _ _ _ | exact Kd.S_nil _ _ _ _ _, bo⟩
 ·rw [if_neg c4] at H
  have c4b0 : (t376 == 0) = false := beq_eq_false_iff_ne.mpr c4
  have c4b1 : (t376 != 0) = true := bne_iff_ne.mpr c4
  simp only [Option.some.injEq, Prod.mk.injEq] at H
  obtain ⟨rfl, rfl, rfl⟩ := H
  go_enter Try.func47, Try.ntmps47
  go_wp2_with (first | ((with_reducible refine gate_dst (N := 2) rfl ?_); refine box_event ?hg (N := 2) ?hd (cs := #[.int .i64 a0_0, .slice A0_1 l0_1.length c0_1]) (t := 53) ?hr ?_; (case hd => rfl); (case hg => rfl); (case hr => first | (go_simp; done) | (go_simp; rfl)); intro gb373 hg w42 hbox hb; have BK373 := Aside0.mk (hbox); have GW373 := Aside0.mk ((by rw [hg]; exact (below_size bo) : w.heap.size ≤ gb373)); have GE373 := Aside0.mk ((by rw [hg]; exact (below_size bo) : w.heap.size ≤ gb373)); replace HB := Aside0.mk (below_step bo hb); clear hb hbox hg) | ((with_reducible refine gate_dst (N := 3) rfl ?_); refine box_event ?hg (N := 3) ?hd (cs := #[.int .i64 a1_0, .int .i64 a1_1, .string a1_2, .string a1_3, .int .i64 a1_4, .bool a1_5]) (t := 25) ?hr ?_; (case hd => rfl); (case hg => rfl); (case hr => first | (go_simp; done) | (go_simp; rfl)); intro gb374 hg w43 hbox hb; have BK374 := Aside0.mk (hbox); have GW374 := Aside0.mk ((by rw [hg]; exact (below_size bo) : w.heap.size ≤ gb374)); have GE374 := Aside0.mk ((by rw [hg]; exact (below_size bo) : w.heap.size ≤ gb374)); replace HB := Aside0.mk (below_step bo hb); have NB373_374 := Aside0.mk ((by rw [hg]; exact Nat.ne_of_lt (blk_lt (g := gb373) (o := .cells #[.int .i64 a0_0, .slice A0_1 l0_1.length c0_1] 53 (0, 0)) (bk BK373.out)) : gb373 ≠ gb374)); have NB374_373 := Aside0.mk ((by rw [hg]; exact Nat.ne_of_gt (blk_lt (g := gb373) (o := .cells #[.int .i64 a0_0, .slice A0_1 l0_1.length c0_1] 53 (0, 0)) (bk BK373.out)) : gb374 ≠ gb373)); replace BK373 := Aside0.mk (blk_below (g := gb373) (o := .cells #[.int .i64 a0_0, .slice A0_1 l0_1.length c0_1] 53 (0, 0)) (bk BK373.out) hb); clear hb hbox hg) | ((with_reducible refine gate_dst (N := 4) rfl ?_); refine box_event ?hg (N := 4) ?hd (cs := #[.int .i64 0, .slice none 0 0]) (t := 53) ?hr ?_; (case hd => rfl); (case hg => rfl); (case hr => first | (go_simp; done) | (go_simp; rfl)); intro gb375 hg w44 hbox hb; have BK375 := Aside0.mk (hbox); have GW375 := Aside0.mk ((by rw [hg]; exact (below_size bo) : w.heap.size ≤ gb375)); have GE375 := Aside0.mk ((by rw [hg]; exact (below_size bo) : w.heap.size ≤ gb375)); replace HB := Aside0.mk (below_step bo hb); have NB373_375 := Aside0.mk ((by rw [hg]; exact Nat.ne_of_lt (blk_lt (g := gb373) (o := .cells #[.int .i64 a0_0, .slice A0_1 l0_1.length c0_1] 53 (0, 0)) (bk BK373.out)) : gb373 ≠ gb375)); have NB375_373 := Aside0.mk ((by rw [hg]; exact Nat.ne_of_gt (blk_lt (g := gb373) (o := .cells #[.int .i64 a0_0, .slice A0_1 l0_1.length c0_1] 53 (0, 0)) (bk BK373.out)) : gb375 ≠ gb373)); replace BK373 := Aside0.mk (blk_below (g := gb373) (o := .cells #[.int .i64 a0_0, .slice A0_1 l0_1.length c0_1] 53 (0, 0)) (bk BK373.out) hb); have NB374_375 := Aside0.mk ((by rw [hg]; exact Nat.ne_of_lt (blk_lt (g := gb374) (o := .cells #[.int .i64 a1_0, .int .i64 a1_1, .string a1_2, .string a1_3, .int .i64 a1_4, .bool a1_5] 25 (0, 0)) (bk BK374.out)) : gb374 ≠ gb375)); have NB375_374 := Aside0.mk ((by rw [hg]; exact Nat.ne_of_gt (blk_lt (g := gb374) (o := .cells #[.int .i64 a1_0, .int .i64 a1_1, .string a1_2, .string a1_3, .int .i64 a1_4, .bool a1_5] 25 (0, 0)) (bk BK374.out)) : gb375 ≠ gb374)); replace BK374 := Aside0.mk (blk_below (g := gb374) (o := .cells #[.int .i64 a1_0, .int .i64 a1_1, .string a1_2, .string a1_3, .int .i64 a1_4, .bool a1_5] 25 (0, 0)) (bk BK374.out) hb); clear hb hbox hg; have hnb45 := NB373_374.out; have hnc45 := NB374_373.out; have hnb46 := NB373_375.out; have hnc46 := NB375_373.out; obtain ⟨hcz47_0, hcz47_1⟩ := cl2 BK373.out; obtain ⟨hfz47_0, hfz47_1⟩ := fz2 BK373.out) | ((with_reducible refine gate_callee (f := 46) rfl ?_); refine goesL_ (some 7) rfl rfl Try.func46 (by kernel_rfl) rfl #[.agg #[.int .i64 a0_0, .slice A0_1 l0_1.length c0_1]] rfl aa ?_; (with_reducible refine (seg_Check.calls k a0_0 _ _ l0_1 t376 _ ?side1 ?side2 A3.out).mono ?_); (case side1 => repeat (first | exact (Kd.C_below HR0_1.out HB.out) | (with_reducible refine Kd.C_alloc ?_ _) | (with_reducible refine Kd.C_drewN ?_ _) | (with_reducible refine Kd.C_drew ?_))); (case side2 => exact HC0_1.out); rintro e w48 ⟨rfl, hb⟩; refine ⟨_, rfl, ?_⟩; replace BK373 := Aside0.mk (blk_below (g := gb373) (o := .cells #[.int .i64 a0_0, .slice A0_1 l0_1.length c0_1] 53 (0, 0)) (bk BK373.out) hb); replace BK374 := Aside0.mk (blk_below (g := gb374) (o := .cells #[.int .i64 a1_0, .int .i64 a1_1, .string a1_2, .string a1_3, .int .i64 a1_4, .bool a1_5] 25 (0, 0)) (bk BK374.out) hb); replace BK375 := Aside0.mk (blk_below (g := gb375) (o := .cells #[.int .i64 0, .slice none 0 0] 53 (0, 0)) (bk BK375.out) hb); replace HB := Aside0.mk (below_step bo hb); (try clear hb); (try clear hb2); (try clear hk); (try clear hi); have hnb49 := NB375_374.out; have hnc49 := NB374_375.out; obtain ⟨hcz50_0, hcz50_1⟩ := cl2 BK375.out; obtain ⟨hfz50_0, hfz50_1⟩ := fz2 BK375.out))
  refine bodyPost_ret (results_ct rfl _ _ gb375 53 #[.int .i64 0, .slice none 0 0] (0, 0) _ rfl (by (with_reducible repeat (first | refine blk_drewN ?_ _ | refine blk_drew ?_ | refine blk_alloc ?_ _)); refine blk_put (cs := #[.int .i64 0, .slice none 0 0]) ?_ 1 _ rfl; (with_reducible repeat (first | refine blk_drewN ?_ _ | refine blk_drew ?_ | refine blk_alloc ?_ _)); refine blk_put (cs := #[.int .i64 0, .slice none 0 0]) ?_ 0 _ rfl; (with_reducible repeat (first | refine blk_drewN ?_ _ | refine blk_drew ?_ | refine blk_alloc ?_ _)); exact BK375.out) Try.underlying53 rfl (by kernel_rfl)) rfl ?_
  exact ⟨_, er, by first | exact Kd.R_nil _ _ _ _ _ | exact Kd.N_nil _ _ _ _ _ | exact Kd.V_nil _ _ _ _ _ | exact Kd.Q_nil _ _ _ _ _ | exact Kd.S_nil _ _ _ _ _, bo⟩

end Go.Proofs.Ytmabdfdmccbfnaa.P

-- written by a program of the proving session, out of the translation; Lean checks it
namespace Go.Proofs.Ytmabdfdmccbfnaa.P
open Go.RowKit Go.Proofs.Ytmabdfdmccbfnaa.Sq Go.Proofs.YtmabdfdmccbfnaaW.PrintWords Go.Proofs.YtmabdfdmccbfnaaW.PrintLast Go.Proofs.YtmabdfdmccbfnaaW.PrintMore
attribute [local go_sem] max2_int min2_int max_two min_two max_three min_three max_four min_four   -- for this text's walks alone
set_option linter.unusedVariables false
set_option linter.unusedSimpArgs false

/-! ### fairwaylaw11_wakes: function 37 -/
def fairwaylaw11_wakes.f (k : Nat)  : Option (Bool) := (fairwaylaw10_R.f 3 0 (⟨#[]⟩ : ByteArray) (⟨#[120]⟩ : ByteArray)).bind fun bt387 => ((seg_Add.f k 0 ([] : List (S25)) bt387.1 bt387.2.1 bt387.2.2.1 bt387.2.2.2.1 bt387.2.2.2.2.1 bt387.2.2.2.2.2).bind fun bt393 => ((seg_Find.f k bt393.1 bt393.2.1 2).bind fun bt399 => ((fairwaylaw11_num.f bt393.2.2).bind fun t407 => (if t407 = 0 then ((fairwaylaw11_num.f bt399.2.2.2.2.2.2).bind fun t408 => (if t408 = 0 then (some (bt399.1 == 3)) else (some false))) else (some false)))))
theorem fairwaylaw11_wakes.mono : ∀ k, LeO (fairwaylaw11_wakes.f k ) (fairwaylaw11_wakes.f (k + 1) ) := by
 intro  k
 unfold fairwaylaw11_wakes.f
 repeat' first
  | (with_reducible exact seg_Add.mono _ _ _ _ _ _ _ _ _)
  | (with_reducible exact seg_Find.mono _ _ _ _)
  | (with_reducible exact LeO.refl _)
  | (with_reducible exact LeO.none _)
  | (with_reducible refine LeO.ite ?_ ?_)
  | (with_reducible refine LeO.bind ?_ (fun _ => ?_))
  | exact seg_Add.mono _ _ _ _ _ _ _ _ _
  | exact seg_Find.mono _ _ _ _
  | exact LeO.none _
  | refine LeO.ite ?_ ?_
  | refine LeO.bind ?_ (fun _ => ?_)
set_option maxHeartbeats 8000000 in
set_option maxRecDepth 100000 in
theorem fairwaylaw11_wakes.calls (k : Nat)  (r : Bool) (w : World) (h : fairwaylaw11_wakes.f k  = some r) :
 Calls Try.prog 37 #[] w fun e w' => e = .returned (.bool r) ∧ Below w.heap.size w w' := by
 have hu53 := Try.underlying53
 have hu25 := Try.underlying25
 have HB := Aside0.mk (Below.refl w.heap.size w)
 have H : ((fairwaylaw10_R.f 3 0 (⟨#[]⟩ : ByteArray) (⟨#[120]⟩ : ByteArray)).bind fun bt387 => ((seg_Add.f k 0 ([] : List (S25)) bt387.1 bt387.2.1 bt387.2.2.1 bt387.2.2.2.1 bt387.2.2.2.2.1 bt387.2.2.2.2.2).bind fun bt393 => ((seg_Find.f k bt393.1 bt393.2.1 2).bind fun bt399 => ((fairwaylaw11_num.f bt393.2.2).bind fun t407 => (if t407 = 0 then ((fairwaylaw11_num.f bt399.2.2.2.2.2.2).bind fun t408 => (if t408 = 0 then (some (bt399.1 == 3)) else (some false))) else (some false)))))) = some r := h
 clear h
 replace H := Option.bind_eq_some_iff.mp H
 obtain ⟨⟨t387, t388, t389, t390, t391, t392⟩, A10, H⟩ := H
 replace H : ((seg_Add.f k 0 ([] : List (S25)) t387 t388 t389 t390 t391 t392).bind fun bt393 => ((seg_Find.f k bt393.1 bt393.2.1 2).bind fun bt399 => ((fairwaylaw11_num.f bt393.2.2).bind fun t407 => (if t407 = 0 then ((fairwaylaw11_num.f bt399.2.2.2.2.2.2).bind fun t408 => (if t408 = 0 then (some (bt399.1 == 3)) else (some false))) else (some false))))) = some r := H
 have A1 := Aside0.mk A10
 clear A10
 replace H := Option.bind_eq_some_iff.mp H
 obtain ⟨⟨t393, t394, t397⟩, A20, H⟩ := H
 replace H : ((seg_Find.f k t393 t394 2).bind fun bt399 => ((fairwaylaw11_num.f t397).bind fun t407 => (if t407 = 0 then ((fairwaylaw11_num.f bt399.2.2.2.2.2.2).bind fun t408 => (if t408 = 0 then (some (bt399.1 == 3)) else (some false))) else (some false)))) = some r := H
 have A2 := Aside0.mk A20
 clear A20
 replace H := Option.bind_eq_some_iff.mp H
 obtain ⟨⟨t399, t400, t401, t402, t403, t404, t405⟩, A30, H⟩ := H
 replace H : ((fairwaylaw11_num.f t397).bind fun t407 => (if t407 = 0 then ((fairwaylaw11_num.f t405).bind fun t408 => (if t408 = 0 then (some (t399 == 3)) else (some false))) else (some false))) = some r := H
 have A3 := Aside0.mk A30
 clear A30
 replace H := Option.bind_eq_some_iff.mp H
 obtain ⟨t407, A40, H⟩ := H
 replace H : (if t407 = 0 then ((fairwaylaw11_num.f t405).bind fun t408 => (if t408 = 0 then (some (t399 == 3)) else (some false))) else (some false)) = some r := H
 have A4 := Aside0.mk A40
 clear A40
 by_cases c5 : t407 = 0
 ·rw [if_pos c5] at H
  have c5b0 : (t407 == 0) = true := beq_iff_eq.mpr c5
  have c5b1 : (t407 != 0) = false := bne_eq_false_iff_eq.mpr c5
  clear c5
  replace H := Option.bind_eq_some_iff.mp H
  obtain ⟨t408, A60, H⟩ := H
  replace H : (if t408 = 0 then (some (t399 == 3)) else (some false)) = some r := H
  have A6 := Aside0.mk A60
  clear A60
  by_cases c7 : t408 = 0
  ·rw [if_pos c7] at H
   have c7b0 : (t408 == 0) = true := beq_iff_eq.mpr c7
   have c7b1 : (t408 != 0) = false := bne_eq_false_iff_eq.mpr c7
   clear c7
   obtain rfl := Option.some.inj H
   go_enter Try.func37, Try.ntmps37
   go_wp2_with (first | ((with_reducible refine gate_callee (f := 67) rfl ?_); refine goesL_ (some 7) rfl rfl Try.func67 (by kernel_rfl) rfl #[.int .i64 3, .int .i64 0, .string (⟨#[]⟩ : ByteArray), .string (⟨#[120]⟩ : ByteArray)] rfl aa ?_; (with_reducible refine (fairwaylaw10_R.calls 3 0 (⟨#[]⟩ : ByteArray) (⟨#[120]⟩ : ByteArray) t387 t388 t389 t390 t391 t392 _ A1.out).mono ?_); rintro e w8 ⟨rfl, hb⟩; refine ⟨_, rfl, ?_⟩; replace HB := Aside0.mk (below_step bo hb); (try clear hb); (try clear hb2); (try clear hk); (try clear hi)) | ((with_reducible refine gate_callee (f := 47) rfl ?_); refine goesL_ (some 8) rfl rfl Try.func47 (by kernel_rfl) rfl #[.agg #[.int .i64 0, .slice none 0 0], .agg #[.int .i64 t387, .int .i64 t388, .string t389, .string t390, .int .i64 t391, .bool t392]] rfl aa ?_; (refine (seg_Add.calls k 0 _ _ ([] : List (S25)) t387 t388 t389 t390 t391 t392 t393 t394 t397 _ ?side1 ?side2 A2.out).mono ?_); (case side1 => exact Kd.C_nil _ _); (case side2 => exact Nat.le_refl _); rintro e w9 ⟨v395, rfl, ho0, hb⟩; refine ⟨_, rfl, ?_⟩; have HO396 := Aside0.mk (Kd.R_lower ho0 (below_size bo)); replace HB := Aside0.mk (below_step bo hb); (try clear hb); (try clear hb2); (try clear hk); (try clear hi); (try clear ho0)) | ((with_reducible refine gate_dst (N := 1) rfl ?_); refine box_event ?hg (N := 1) ?hd (cs := #[.int .i64 0, .slice none 0 0]) (t := 53) ?hr ?_; (case hd => rfl); (case hg => rfl); (case hr => first | (go_simp; done) | (go_simp; rfl)); intro gb398 hg w10 hbox hb; replace HO396 := Aside0.mk (Kd.R_below (rk HO396.out) hb); have BK398 := Aside0.mk (hbox); have GW398 := Aside0.mk ((by rw [hg]; exact (below_size bo) : w.heap.size ≤ gb398)); have GE398 := Aside0.mk ((by rw [hg]; exact (below_size bo) : w.heap.size ≤ gb398)); replace HB := Aside0.mk (below_step bo hb); clear hb hbox hg; obtain ⟨hcz11_0, hcz11_1⟩ := cl2 BK398.out; obtain ⟨hfz11_0, hfz11_1⟩ := fz2 BK398.out; obtain ⟨Ao12, co12, eo12⟩ := Kd.R_slice HO396.out; subst eo12) | ((with_reducible refine gate_callee (f := 32) rfl ?_); refine goesL_ (some 13) rfl rfl Try.func32 (by kernel_rfl) rfl #[.agg #[.int .i64 t393, .slice Ao12 t394.length co12], .int .i64 2] rfl aa ?_; (with_reducible refine (seg_Find.calls k t393 _ _ t394 2 t399 t400 t401 t402 t403 t404 t405 _ ?side1 ?side2 A3.out).mono ?_); (case side1 => refine (Kd.R_reads' (e := 25) (base := w.heap.size) (ok := fun k_ => True) (n := t394.length) (c := co12) ?_).2.2; exact (by (with_reducible repeat (first | apply Kd.R_alloc | apply Kd.R_drewN | apply Kd.R_drew)); exact (Kd.R_mono (Kd.R_far (p := ⟨gb398, 1, none⟩) (Kd.R_far (p := ⟨gb398, 0, none⟩) (Kd.R_types HO396.out BK398.out (by decide)) (fun _ hk => hk.2) (.int .i64 t393)) (fun _ hk => hk.2) (.slice Ao12 t394.length co12)) (fun _ h_ => h_.1)))); (case side2 => exact (Kd.R_reads' HO396.out).2.1); rintro e w13 ⟨rfl, hb⟩; refine ⟨_, rfl, ?_⟩; replace HO396 := Aside0.mk (Kd.R_below (by (with_reducible repeat (first | apply Kd.R_alloc | apply Kd.R_drewN | apply Kd.R_drew)); exact (Kd.R_mono (Kd.R_far (p := ⟨gb398, 1, none⟩) (Kd.R_far (p := ⟨gb398, 0, none⟩) (Kd.R_types HO396.out BK398.out (by decide)) (fun _ hk => hk.2) (.int .i64 t393)) (fun _ hk => hk.2) (.slice Ao12 t394.length co12)) (fun _ h_ => h_.1))) hb); replace BK398 := Aside0.mk (blk_below (g := gb398) (o := .cells #[.int .i64 t393, .slice Ao12 t394.length co12] 53 (0, 0)) (by (with_reducible repeat (first | refine blk_drewN ?_ _ | refine blk_drew ?_ | refine blk_alloc ?_ _)); refine blk_put (cs := #[.int .i64 t393, .slice none 0 0]) ?_ 1 _ rfl; (with_reducible repeat (first | refine blk_drewN ?_ _ | refine blk_drew ?_ | refine blk_alloc ?_ _)); refine blk_put (cs := #[.int .i64 0, .slice none 0 0]) ?_ 0 _ rfl; (with_reducible repeat (first | refine blk_drewN ?_ _ | refine blk_drew ?_ | refine blk_alloc ?_ _)); exact BK398.out) hb); replace HB := Aside0.mk (below_step bo hb); (try clear hb); (try clear hb2); (try clear hk); (try clear hi)) | ((with_reducible refine gate_dst (N := 3) rfl ?_); refine box_event ?hg (N := 3) ?hd (cs := #[.int .i64 0, .int .i64 0, .string (⟨#[]⟩ : ByteArray), .string (⟨#[]⟩ : ByteArray), .int .i64 0, .bool false]) (t := 25) ?hr ?_; (case hd => rfl); (case hg => rfl); (case hr => first | (go_simp; done) | (go_simp; rfl)); intro gb406 hg w14 hbox hb; replace HO396 := Aside0.mk (Kd.R_below (Kd.R_elderB (rk HO396.out) gb406 (Nat.le_of_eq hg.symm)) hb); have BK406 := Aside0.mk (hbox); have GW406 := Aside0.mk ((by rw [hg]; exact (below_size bo) : w.heap.size ≤ gb406)); have GE406 := Aside0.mk ((by rw [hg]; exact (below_size bo) : w.heap.size ≤ gb406)); replace HB := Aside0.mk (below_step bo hb); have NB398_406 := Aside0.mk ((by rw [hg]; exact Nat.ne_of_lt (blk_lt (g := gb398) (o := .cells #[.int .i64 t393, .slice Ao12 t394.length co12] 53 (0, 0)) (bk BK398.out)) : gb398 ≠ gb406)); have NB406_398 := Aside0.mk ((by rw [hg]; exact Nat.ne_of_gt (blk_lt (g := gb398) (o := .cells #[.int .i64 t393, .slice Ao12 t394.length co12] 53 (0, 0)) (bk BK398.out)) : gb406 ≠ gb398)); replace BK398 := Aside0.mk (blk_below (g := gb398) (o := .cells #[.int .i64 t393, .slice Ao12 t394.length co12] 53 (0, 0)) (bk BK398.out) hb); clear hb hbox hg; have hnb15 := NB406_398.out; have hnc15 := NB398_406.out; obtain ⟨hcz16_0, hcz16_1, hcz16_2, hcz16_3, hcz16_4, hcz16_5⟩ := cl6 BK406.out; obtain ⟨hfz16_0, hfz16_1, hfz16_2, hfz16_3, hfz16_4, hfz16_5⟩ := fz6 BK406.out) | ((with_reducible refine gate_callee (f := 36) rfl ?_); refine goesL_ (some 17) rfl rfl Try.func36 (by kernel_rfl) rfl #[.int .i64 t397] rfl aa ?_; (with_reducible refine (fairwaylaw11_num.calls t397 t407 _ A4.out).mono ?_); rintro e w' ⟨rfl, ⟨nd, rfl⟩⟩; refine ⟨_, rfl, ?_⟩) | (go_at_call 36; (with_reducible refine (fairwaylaw11_num.calls t405 t408 _ A6.out).mono ?_); rintro e w' ⟨rfl, ⟨nd, rfl⟩⟩))
   go_ret
   exact ⟨er, bo⟩
  ·rw [if_neg c7] at H
   have c7b0 : (t408 == 0) = false := beq_eq_false_iff_ne.mpr c7
   have c7b1 : (t408 != 0) = true := bne_iff_ne.mpr c7
   obtain rfl := Option.some.inj H
   go_enter Try.func37, Try.ntmps37
   go_wp2_with (first | ((with_reducible refine gate_callee (f := 67) rfl ?_); refine goesL_ (some 7) rfl rfl Try.func67 (by kernel_rfl) rfl #[.int .i64 3, .int .i64 0, .string (⟨#[]⟩ : ByteArray), .string (⟨#[120]⟩ : ByteArray)] rfl aa ?_; (with_reducible refine (fairwaylaw10_R.calls 3 0 (⟨#[]⟩ : ByteArray) (⟨#[120]⟩ : ByteArray) t387 t388 t389 t390 t391 t392 _ A1.out).mono ?_); rintro e w17 ⟨rfl, hb⟩; refine ⟨_, rfl, ?_⟩; replace HB := Aside0.mk (below_step bo hb); (try clear hb); (try clear hb2); (try clear hk); (try clear hi)) | ((with_reducible refine gate_callee (f := 47) rfl ?_); refine goesL_ (some 8) rfl rfl Try.func47 (by kernel_rfl) rfl #[.agg #[.int .i64 0, .slice none 0 0], .agg #[.int .i64 t387, .int .i64 t388, .string t389, .string t390, .int .i64 t391, .bool t392]] rfl aa ?_; (refine (seg_Add.calls k 0 _ _ ([] : List (S25)) t387 t388 t389 t390 t391 t392 t393 t394 t397 _ ?side1 ?side2 A2.out).mono ?_); (case side1 => exact Kd.C_nil _ _); (case side2 => exact Nat.le_refl _); rintro e w18 ⟨v395, rfl, ho0, hb⟩; refine ⟨_, rfl, ?_⟩; have HO396 := Aside0.mk (Kd.R_lower ho0 (below_size bo)); replace HB := Aside0.mk (below_step bo hb); (try clear hb); (try clear hb2); (try clear hk); (try clear hi); (try clear ho0)) | ((with_reducible refine gate_dst (N := 1) rfl ?_); refine box_event ?hg (N := 1) ?hd (cs := #[.int .i64 0, .slice none 0 0]) (t := 53) ?hr ?_; (case hd => rfl); (case hg => rfl); (case hr => first | (go_simp; done) | (go_simp; rfl)); intro gb398 hg w19 hbox hb; replace HO396 := Aside0.mk (Kd.R_below (rk HO396.out) hb); have BK398 := Aside0.mk (hbox); have GW398 := Aside0.mk ((by rw [hg]; exact (below_size bo) : w.heap.size ≤ gb398)); have GE398 := Aside0.mk ((by rw [hg]; exact (below_size bo) : w.heap.size ≤ gb398)); replace HB := Aside0.mk (below_step bo hb); clear hb hbox hg; obtain ⟨hcz20_0, hcz20_1⟩ := cl2 BK398.out; obtain ⟨hfz20_0, hfz20_1⟩ := fz2 BK398.out; obtain ⟨Ao21, co21, eo21⟩ := Kd.R_slice HO396.out; subst eo21) | ((with_reducible refine gate_callee (f := 32) rfl ?_); refine goesL_ (some 13) rfl rfl Try.func32 (by kernel_rfl) rfl #[.agg #[.int .i64 t393, .slice Ao21 t394.length co21], .int .i64 2] rfl aa ?_; (with_reducible refine (seg_Find.calls k t393 _ _ t394 2 t399 t400 t401 t402 t403 t404 t405 _ ?side1 ?side2 A3.out).mono ?_); (case side1 => refine (Kd.R_reads' (e := 25) (base := w.heap.size) (ok := fun k_ => True) (n := t394.length) (c := co21) ?_).2.2; exact (by (with_reducible repeat (first | apply Kd.R_alloc | apply Kd.R_drewN | apply Kd.R_drew)); exact (Kd.R_mono (Kd.R_far (p := ⟨gb398, 1, none⟩) (Kd.R_far (p := ⟨gb398, 0, none⟩) (Kd.R_types HO396.out BK398.out (by decide)) (fun _ hk => hk.2) (.int .i64 t393)) (fun _ hk => hk.2) (.slice Ao21 t394.length co21)) (fun _ h_ => h_.1)))); (case side2 => exact (Kd.R_reads' HO396.out).2.1); rintro e w22 ⟨rfl, hb⟩; refine ⟨_, rfl, ?_⟩; replace HO396 := Aside0.mk (Kd.R_below (by (with_reducible repeat (first | apply Kd.R_alloc | apply Kd.R_drewN | apply Kd.R_drew)); exact (Kd.R_mono (Kd.R_far (p := ⟨gb398, 1, none⟩) (Kd.R_far (p := ⟨gb398, 0, none⟩) (Kd.R_types HO396.out BK398.out (by decide)) (fun _ hk => hk.2) (.int .i64 t393)) (fun _ hk => hk.2) (.slice Ao21 t394.length co21)) (fun _ h_ => h_.1))) hb); replace BK398 := Aside0.mk (blk_below (g := gb398) (o := .cells #[.int .i64 t393, .slice Ao21 t394.length co21] 53 (0, 0)) (by (with_reducible repeat (first | refine blk_drewN ?_ _ | refine blk_drew ?_ | refine blk_alloc ?_ _)); refine blk_put (cs := #[.int .i64 t393, .slice none 0 0]) ?_ 1 _ rfl; (with_reducible repeat (first | refine blk_drewN ?_ _ | refine blk_drew ?_ | refine blk_alloc ?_ _)); refine blk_put (cs := #[.int .i64 0, .slice none 0 0]) ?_ 0 _ rfl; (with_reducible repeat (first | refine blk_drewN ?_ _ | refine blk_drew ?_ | refine blk_alloc ?_ _)); exact BK398.out) hb); replace HB := Aside0.mk (below_step bo hb); (try clear hb); (try clear hb2); (try clear hk); (try clear hi)) | ((with_reducible refine gate_dst (N := 3) rfl ?_); refine box_event ?hg (N := 3) ?hd (cs := #[.int .i64 0, .int .i64 0, .string (⟨#[]⟩ : ByteArray), .string (⟨#[]⟩ : ByteArray), .int .i64 0, .bool false]) (t := 25) ?hr ?_; (case hd => rfl); (case hg => rfl); (case hr => first | (go_simp; done) | (go_simp; rfl)); intro gb406 hg w23 hbox hb; replace HO396 := Aside0.mk (Kd.R_below (Kd.R_elderB (rk HO396.out) gb406 (Nat.le_of_eq hg.symm)) hb); have BK406 := Aside0.mk (hbox); have GW406 := Aside0.mk ((by rw [hg]; exact (below_size bo) : w.heap.size ≤ gb406)); have GE406 := Aside0.mk ((by rw [hg]; exact (below_size bo) : w.heap.size ≤ gb406)); replace HB := Aside0.mk (below_step bo hb); have NB398_406 := Aside0.mk ((by rw [hg]; exact Nat.ne_of_lt (blk_lt (g := gb398) (o := .cells #[.int .i64 t393, .slice Ao21 t394.length co21] 53 (0, 0)) (bk BK398.out)) : gb398 ≠ gb406)); have NB406_398 := Aside0.mk ((by rw [hg]; exact Nat.ne_of_gt (blk_lt (g := gb398) (o := .cells #[.int .i64 t393, .slice Ao21 t394.length co21] 53 (0, 0)) (bk BK398.out)) : gb406 ≠ gb398)); replace BK398 := Aside0.mk (blk_below (g := gb398) (o := .cells #[.int .i64 t393, .slice Ao21 t394.length co21] 53 (0, 0)) (bk BK398.out) hb); clear hb hbox hg; have hnb24 := NB406_398.out; have hnc24 := NB398_406.out; obtain ⟨hcz25_0, hcz25_1, hcz25_2, hcz25_3, hcz25_4, hcz25_5⟩ := cl6 BK406.out; obtain ⟨hfz25_0, hfz25_1, hfz25_2, hfz25_3, hfz25_4, hfz25_5⟩ := fz6 BK406.out) | ((with_reducible refine gate_callee (f := 36) rfl ?_); refine goesL_ (some 17) rfl rfl Try.func36 (by kernel_rfl) rfl #[.int .i64 t397] rfl aa ?_; (with_reducible refine (fairwaylaw11_num.calls t397 t407 _ A4.out).mono ?_); rintro e w' ⟨rfl, ⟨nd, rfl⟩⟩; refine ⟨_, rfl, ?_⟩) | (go_at_call 36; (with_reducible refine (fairwaylaw11_num.calls t405 t408 _ A6.out).mono ?_); rintro e w' ⟨rfl, ⟨nd, rfl⟩⟩))
   go_ret
   exact ⟨er, bo⟩
 ·rw [if_neg c5] at H
  have c5b0 : (t407 == 0) = false := beq_eq_false_iff_ne.mpr c5
  have c5b1 : (t407 != 0) = true := bne_iff_ne.mpr c5
  obtain rfl := Option.some.inj H
  go_enter Try.func37, Try.ntmps37
  go_wp2_with (first | ((with_reducible refine gate_callee (f := 67) rfl ?_); refine goesL_ (some 7) rfl rfl Try.func67 (by kernel_rfl) rfl #[.int .i64 3, .int .i64 0, .string (⟨#[]⟩ : ByteArray), .string (⟨#[120]⟩ : ByteArray)] rfl aa ?_; (with_reducible refine (fairwaylaw10_R.calls 3 0 (⟨#[]⟩ : ByteArray) (⟨#[120]⟩ : ByteArray) t387 t388 t389 t390 t391 t392 _ A1.out).mono ?_); rintro e w26 ⟨rfl, hb⟩; refine ⟨_, rfl, ?_⟩; replace HB := Aside0.mk (below_step bo hb); (try clear hb); (try clear hb2); (try clear hk); (try clear hi)) | ((with_reducible refine gate_callee (f := 47) rfl ?_); refine goesL_ (some 8) rfl rfl Try.func47 (by kernel_rfl) rfl #[.agg #[.int .i64 0, .slice none 0 0], .agg #[.int .i64 t387, .int .i64 t388, .string t389, .string t390, .int .i64 t391, .bool t392]] rfl aa ?_; (refine (seg_Add.calls k 0 _ _ ([] : List (S25)) t387 t388 t389 t390 t391 t392 t393 t394 t397 _ ?side1 ?side2 A2.out).mono ?_); (case side1 => exact Kd.C_nil _ _); (case side2 => exact Nat.le_refl _); rintro e w27 ⟨v395, rfl, ho0, hb⟩; refine ⟨_, rfl, ?_⟩; have HO396 := Aside0.mk (Kd.R_lower ho0 (below_size bo)); replace HB := Aside0.mk (below_step bo hb); (try clear hb); (try clear hb2); (try clear hk); (try clear hi); (try clear ho0)) | ((with_reducible refine gate_dst (N := 1) rfl ?_); refine box_event ?hg (N := 1) ?hd (cs := #[.int .i64 0, .slice none 0 0]) (t := 53) ?hr ?_; (case hd => rfl); (case hg => rfl); (case hr => first | (go_simp; done) | (go_simp; rfl)); intro gb398 hg w28 hbox hb; replace HO396 := Aside0.mk (Kd.R_below (rk HO396.out) hb); have BK398 := Aside0.mk (hbox); have GW398 := Aside0.mk ((by rw [hg]; exact (below_size bo) : w.heap.size ≤ gb398)); have GE398 := Aside0.mk ((by rw [hg]; exact (below_size bo) : w.heap.size ≤ gb398)); replace HB := Aside0.mk (below_step bo hb); clear hb hbox hg; obtain ⟨hcz29_0, hcz29_1⟩ := cl2 BK398.out; obtain ⟨hfz29_0, hfz29_1⟩ := fz2 BK398.out; obtain ⟨Ao30, co30, eo30⟩ := Kd.R_slice HO396.out; subst eo30) | ((with_reducible refine gate_callee (f := 32) rfl ?_); refine goesL_ (some 13) rfl rfl Try.func32 (by kernel_rfl) rfl #[.agg #[.int .i64 t393, .slice Ao30 t394.length co30], .int .i64 2] rfl aa ?_; (with_reducible refine (seg_Find.calls k t393 _ _ t394 2 t399 t400 t401 t402 t403 t404 t405 _ ?side1 ?side2 A3.out).mono ?_); (case side1 => refine (Kd.R_reads' (e := 25) (base := w.heap.size) (ok := fun k_ => True) (n := t394.length) (c := co30) ?_).2.2; exact (by (with_reducible repeat (first | apply Kd.R_alloc | apply Kd.R_drewN | apply Kd.R_drew)); exact (Kd.R_mono (Kd.R_far (p := ⟨gb398, 1, none⟩) (Kd.R_far (p := ⟨gb398, 0, none⟩) (Kd.R_types HO396.out BK398.out (by decide)) (fun _ hk => hk.2) (.int .i64 t393)) (fun _ hk => hk.2) (.slice Ao30 t394.length co30)) (fun _ h_ => h_.1)))); (case side2 => exact (Kd.R_reads' HO396.out).2.1); rintro e w31 ⟨rfl, hb⟩; refine ⟨_, rfl, ?_⟩; replace HO396 := Aside0.mk (Kd.R_below (by (with_reducible repeat (first | apply Kd.R_alloc | apply Kd.R_drewN | apply Kd.R_drew)); exact (Kd.R_mono (Kd.R_far (p := ⟨gb398, 1, none⟩) (Kd.R_far (p := ⟨gb398, 0, none⟩) (Kd.R_types HO396.out BK398.out (by decide)) (fun _ hk => hk.2) (.int .i64 t393)) (fun _ hk => hk.2) (.slice Ao30 t394.length co30)) (fun _ h_ => h_.1))) hb); replace BK398 := Aside0.mk (blk_below (g := gb398) (o := .cells #[.int .i64 t393, .slice Ao30 t394.length co30] 53 (0, 0)) (by (with_reducible repeat (first | refine blk_drewN ?_ _ | refine blk_drew ?_ | refine blk_alloc ?_ _)); refine blk_put (cs := #[.int .i64 t393, .slice none 0 0]) ?_ 1 _ rfl; (with_reducible repeat (first | refine blk_drewN ?_ _ | refine blk_drew ?_ | refine blk_alloc ?_ _)); refine blk_put (cs := #[.int .i64 0, .slice none 0 0]) ?_ 0 _ rfl; (with_reducible repeat (first | refine blk_drewN ?_ _ | refine blk_drew ?_ | refine blk_alloc ?_ _)); exact BK398.out) hb); replace HB := Aside0.mk (below_step bo hb); (try clear hb); (try clear hb2); (try clear hk); (try clear hi)) | ((with_reducible refine gate_dst (N := 3) rfl ?_); refine box_event ?hg (N := 3) ?hd (cs := #[.int .i64 0, .int .i64 0, .string (⟨#[]⟩ : ByteArray), .string (⟨#[]⟩ : ByteArray), .int .i64 0, .bool false]) (t := 25) ?hr ?_; (case hd => rfl); (case hg => rfl); (case hr => first | (go_simp; done) | (go_simp; rfl)); intro gb406 hg w32 hbox hb; replace HO396 := Aside0.mk (Kd.R_below (Kd.R_elderB (rk HO396.out) gb406 (Nat.le_of_eq hg.symm)) hb); have BK406 := Aside0.mk (hbox); have GW406 := Aside0.mk ((by rw [hg]; exact (below_size bo) : w.heap.size ≤ gb406)); have GE406 := Aside0.mk ((by rw [hg]; exact (below_size bo) : w.heap.size ≤ gb406)); replace HB := Aside0.mk (below_step bo hb); have NB398_406 := Aside0.mk ((by rw [hg]; exact Nat.ne_of_lt (blk_lt (g := gb398) (o := .cells #[.int .i64 t393, .slice Ao30 t394.length co30] 53 (0, 0)) (bk BK398.out)) : gb398 ≠ gb406)); have NB406_398 := Aside0.mk ((by rw [hg]; exact Nat.ne_of_gt (blk_lt (g := gb398) (o := .cells #[.int .i64 t393, .slice Ao30 t394.length co30] 53 (0, 0)) (bk BK398.out)) : gb406 ≠ gb398)); replace BK398 := Aside0.mk (blk_below (g := gb398) (o := .cells #[.int .i64 t393, .slice Ao30 t394.length co30] 53 (0, 0)) (bk BK398.out) hb); clear hb hbox hg; have hnb33 := NB406_398.out; have hnc33 := NB398_406.out; obtain ⟨hcz34_0, hcz34_1, hcz34_2, hcz34_3, hcz34_4, hcz34_5⟩ := cl6 BK406.out; obtain ⟨hfz34_0, hfz34_1, hfz34_2, hfz34_3, hfz34_4, hfz34_5⟩ := fz6 BK406.out) | ((with_reducible refine gate_callee (f := 36) rfl ?_); refine goesL_ (some 17) rfl rfl Try.func36 (by kernel_rfl) rfl #[.int .i64 t397] rfl aa ?_; (with_reducible refine (fairwaylaw11_num.calls t397 t407 _ A4.out).mono ?_); rintro e w' ⟨rfl, ⟨nd, rfl⟩⟩; refine ⟨_, rfl, ?_⟩))
  go_ret
  exact ⟨er, bo⟩

end Go.Proofs.Ytmabdfdmccbfnaa.P

-- written by a program of the proving session, out of the translation; Lean checks it
namespace Go.Proofs.Ytmabdfdmccbfnaa.P
open Go.RowKit Go.Proofs.Ytmabdfdmccbfnaa.Sq Go.Proofs.YtmabdfdmccbfnaaW.PrintWords Go.Proofs.YtmabdfdmccbfnaaW.PrintLast Go.Proofs.YtmabdfdmccbfnaaW.PrintMore
attribute [local go_sem] max2_int min2_int max_two min_two max_three min_three max_four min_four   -- for this text's walks alone
set_option linter.unusedVariables false
set_option linter.unusedSimpArgs false

/-! ### rec_Size: function 21 -/
def rec_Size.f (k : Nat) (a0_0 : Int) (a0_1 : Int) (a0_2 : ByteArray) (a0_3 : ByteArray) (a0_4 : Int) (a0_5 : Bool) : Option (Int × Int) := (rec_Check.f k a0_0 a0_1 a0_2 a0_3 a0_4 a0_5).bind fun t228 => (if t228 = 0 then (some (wrap64 ((wrap64 (25 + (a0_2.size : Int))) + (a0_3.size : Int)), 0)) else (some (0, t228)))
theorem rec_Size.mono : ∀ a0 a1 a2 a3 a4 a5 k, LeO (rec_Size.f k a0 a1 a2 a3 a4 a5) (rec_Size.f (k + 1) a0 a1 a2 a3 a4 a5) := by
 intro a0 a1 a2 a3 a4 a5 k
 unfold rec_Size.f
 repeat' first
  | (with_reducible exact rec_Check.mono _ _ _ _ _ _ _)
  | (with_reducible exact LeO.refl _)
  | (with_reducible exact LeO.none _)
  | (with_reducible refine LeO.ite ?_ ?_)
  | (with_reducible refine LeO.bind ?_ (fun _ => ?_))
  | exact rec_Check.mono _ _ _ _ _ _ _
  | exact LeO.none _
  | refine LeO.ite ?_ ?_
  | refine LeO.bind ?_ (fun _ => ?_)
set_option maxHeartbeats 8000000 in
set_option maxRecDepth 100000 in
theorem rec_Size.calls (k : Nat) (a0_0 : Int) (a0_1 : Int) (a0_2 : ByteArray) (a0_3 : ByteArray) (a0_4 : Int) (a0_5 : Bool) (r1 : Int) (r2 : Int) (w : World) (h : rec_Size.f k a0_0 a0_1 a0_2 a0_3 a0_4 a0_5 = some (r1, r2)) :
 Calls Try.prog 21 #[.agg #[.int .i64 a0_0, .int .i64 a0_1, .string a0_2, .string a0_3, .int .i64 a0_4, .bool a0_5]] w fun e w' => e = .returned (.tuple #[.int .i64 r1, .int .i64 r2]) ∧ Below w.heap.size w w' := by
 have hu25 := Try.underlying25
 have HB := Aside0.mk (Below.refl w.heap.size w)
 have H : ((rec_Check.f k a0_0 a0_1 a0_2 a0_3 a0_4 a0_5).bind fun t228 => (if t228 = 0 then (some (wrap64 ((wrap64 (25 + (a0_2.size : Int))) + (a0_3.size : Int)), 0)) else (some (0, t228)))) = some (r1, r2) := h
 clear h
 replace H := Option.bind_eq_some_iff.mp H
 obtain ⟨t228, A20, H⟩ := H
 replace H : (if t228 = 0 then (some (wrap64 ((wrap64 (25 + (a0_2.size : Int))) + (a0_3.size : Int)), 0)) else (some (0, t228))) = some (r1, r2) := H
 have A2 := Aside0.mk A20
 clear A20
 by_cases c3 : t228 = 0
 ·rw [if_pos c3] at H
  have c3b0 : (t228 == 0) = true := beq_iff_eq.mpr c3
  have c3b1 : (t228 != 0) = false := bne_eq_false_iff_eq.mpr c3
  clear c3
  simp only [Option.some.injEq, Prod.mk.injEq] at H
  obtain ⟨rfl, rfl⟩ := H
  go_enter Try.func21, Try.ntmps21
  go_wp2_with (first | ((with_reducible refine gate_dst (N := 1) rfl ?_); refine box_event ?hg (N := 1) ?hd (cs := #[.int .i64 a0_0, .int .i64 a0_1, .string a0_2, .string a0_3, .int .i64 a0_4, .bool a0_5]) (t := 25) ?hr ?_; (case hd => rfl); (case hg => rfl); (case hr => first | (go_simp; done) | (go_simp; rfl)); intro gb227 hg w4 hbox hb; have BK227 := Aside0.mk (hbox); have GW227 := Aside0.mk ((by rw [hg]; exact (below_size bo) : w.heap.size ≤ gb227)); have GE227 := Aside0.mk ((by rw [hg]; exact (below_size bo) : w.heap.size ≤ gb227)); replace HB := Aside0.mk (below_step bo hb); clear hb hbox hg; obtain ⟨hcz5_0, hcz5_1, hcz5_2, hcz5_3, hcz5_4, hcz5_5⟩ := cl6 BK227.out; obtain ⟨hfz5_0, hfz5_1, hfz5_2, hfz5_3, hfz5_4, hfz5_5⟩ := fz6 BK227.out) | ((with_reducible refine gate_callee (f := 22) rfl ?_); refine goesL_ (some 6) rfl rfl Try.func22 (by kernel_rfl) rfl #[.agg #[.int .i64 a0_0, .int .i64 a0_1, .string a0_2, .string a0_3, .int .i64 a0_4, .bool a0_5]] rfl aa ?_; (with_reducible refine (rec_Check.calls k a0_0 a0_1 a0_2 a0_3 a0_4 a0_5 t228 _ A2.out).mono ?_); rintro e w6 ⟨rfl, hb⟩; refine ⟨_, rfl, ?_⟩; replace BK227 := Aside0.mk (blk_below (g := gb227) (o := .cells #[.int .i64 a0_0, .int .i64 a0_1, .string a0_2, .string a0_3, .int .i64 a0_4, .bool a0_5] 25 (0, 0)) (bk BK227.out) hb); replace HB := Aside0.mk (below_step bo hb); (try clear hb); (try clear hb2); (try clear hk); (try clear hi); obtain ⟨hcz7_0, hcz7_1, hcz7_2, hcz7_3, hcz7_4, hcz7_5⟩ := cl6 BK227.out; obtain ⟨hfz7_0, hfz7_1, hfz7_2, hfz7_3, hfz7_4, hfz7_5⟩ := fz6 BK227.out))
  go_ret2
  exact ⟨er, bo⟩
 ·rw [if_neg c3] at H
  have c3b0 : (t228 == 0) = false := beq_eq_false_iff_ne.mpr c3
  have c3b1 : (t228 != 0) = true := bne_iff_ne.mpr c3
  simp only [Option.some.injEq, Prod.mk.injEq] at H
  obtain ⟨rfl, rfl⟩ := H
  go_enter Try.func21, Try.ntmps21
  go_wp2_with (first | ((with_reducible refine gate_dst (N := 1) rfl ?_); refine box_event ?hg (N := 1) ?hd (cs := #[.int .i64 a0_0, .int .i64 a0_1, .string a0_2, .string a0_3, .int .i64 a0_4, .bool a0_5]) (t := 25) ?hr ?_; (case hd => rfl); (case hg => rfl); (case hr => first | (go_simp; done) | (go_simp; rfl)); intro gb227 hg w8 hbox hb; have BK227 := Aside0.mk (hbox); have GW227 := Aside0.mk ((by rw [hg]; exact (below_size bo) : w.heap.size ≤ gb227)); have GE227 := Aside0.mk ((by rw [hg]; exact (below_size bo) : w.heap.size ≤ gb227)); replace HB := Aside0.mk (below_step bo hb); clear hb hbox hg; obtain ⟨hcz9_0, hcz9_1, hcz9_2, hcz9_3, hcz9_4, hcz9_5⟩ := cl6 BK227.out; obtain ⟨hfz9_0, hfz9_1, hfz9_2, hfz9_3, hfz9_4, hfz9_5⟩ := fz6 BK227.out) | ((with_reducible refine gate_callee (f := 22) rfl ?_); refine goesL_ (some 6) rfl rfl Try.func22 (by kernel_rfl) rfl #[.agg #[.int .i64 a0_0, .int .i64 a0_1, .string a0_2, .string a0_3, .int .i64 a0_4, .bool a0_5]] rfl aa ?_; (with_reducible refine (rec_Check.calls k a0_0 a0_1 a0_2 a0_3 a0_4 a0_5 t228 _ A2.out).mono ?_); rintro e w10 ⟨rfl, hb⟩; refine ⟨_, rfl, ?_⟩; replace BK227 := Aside0.mk (blk_below (g := gb227) (o := .cells #[.int .i64 a0_0, .int .i64 a0_1, .string a0_2, .string a0_3, .int .i64 a0_4, .bool a0_5] 25 (0, 0)) (bk BK227.out) hb); replace HB := Aside0.mk (below_step bo hb); (try clear hb); (try clear hb2); (try clear hk); (try clear hi)))
  go_ret2
  exact ⟨er, bo⟩

end Go.Proofs.Ytmabdfdmccbfnaa.P

-- written by a program of the proving session, out of the translation; Lean checks it
namespace Go.Proofs.Ytmabdfdmccbfnaa.P
open Go.RowKit Go.Proofs.Ytmabdfdmccbfnaa.Sq Go.Proofs.YtmabdfdmccbfnaaW.PrintWords Go.Proofs.YtmabdfdmccbfnaaW.PrintLast Go.Proofs.YtmabdfdmccbfnaaW.PrintMore
attribute [local go_sem] max2_int min2_int max_two min_two max_three min_three max_four min_four   -- for this text's walks alone
set_option linter.unusedVariables false
set_option linter.unusedSimpArgs false

/-! ### sum_Sum: function 63 -/
mutual
def sum_Sum.l0 : Nat → Int → ByteArray → Int → Int → Option (Int)
 | 0, _, _, _, _ => none
 | k + 1, x0, x1, x9, x10 => if x10 < x9 then (if 0 ≤ x10 then (if x10 < (x1.size : Int) then (sum_Sum.l1 k (Go.bits .xor .u32 x0 ((bt x1 x10) % 4294967296)) x1 x9 x10 0) else (none)) else (none)) else (some (Go.bits .xor .u32 4294967295 x0))
def sum_Sum.l1 : Nat → Int → ByteArray → Int → Int → Int → Option (Int)
 | 0, _, _, _, _, _ => none
 | k + 1, x0, x1, x9, x10, x19 => if x19 < 8 then (sum_Sum.l1 k (Go.bits .xor .u32 (x0 / 2) (Go.bits .and .u32 2197175160 ((-(Go.bits .and .u32 x0 1)) % 4294967296))) x1 x9 x10 (wrap64 (x19 + 1))) else (sum_Sum.l0 k x0 x1 x9 (wrap64 (x10 + 1)))
end
def sum_Sum.f (k : Nat) (a0 : Int) (a1 : ByteArray) : Option (Int) := sum_Sum.l0 k (Go.bits .xor .u32 4294967295 a0) a1 (a1.size : Int) 0
theorem sum_Sum.mono_l : ∀ k, (∀ y0 y1 y2 y3, LeO (sum_Sum.l0 k y0 y1 y2 y3) (sum_Sum.l0 (k + 1) y0 y1 y2 y3)) ∧ (∀ y0 y1 y2 y3 y4, LeO (sum_Sum.l1 k y0 y1 y2 y3 y4) (sum_Sum.l1 (k + 1) y0 y1 y2 y3 y4))
 | 0 => ⟨fun _ _ _ _ r h => by simp [sum_Sum.l0] at h, fun _ _ _ _ _ r h => by simp [sum_Sum.l1] at h⟩
 | k + 1 => by
  obtain ⟨ih0, ih1⟩ := sum_Sum.mono_l k
  refine ⟨?_, ?_⟩
  ·intro y0 y1 y2 y3
   unfold sum_Sum.l0
   repeat' first
   | (with_reducible exact ih0 _ _ _ _)
   | (with_reducible exact ih1 _ _ _ _ _)
   | (with_reducible exact LeO.refl _)
   | (with_reducible exact LeO.none _)
   | (with_reducible refine LeO.ite ?_ ?_)
   | (with_reducible refine LeO.bind ?_ (fun _ => ?_))
   | exact ih0 _ _ _ _
   | exact ih1 _ _ _ _ _
   | exact LeO.none _
   | refine LeO.ite ?_ ?_
   | refine LeO.bind ?_ (fun _ => ?_)
  ·intro y0 y1 y2 y3 y4
   unfold sum_Sum.l1
   repeat' first
   | (with_reducible exact ih0 _ _ _ _)
   | (with_reducible exact ih1 _ _ _ _ _)
   | (with_reducible exact LeO.refl _)
   | (with_reducible exact LeO.none _)
   | (with_reducible refine LeO.ite ?_ ?_)
   | (with_reducible refine LeO.bind ?_ (fun _ => ?_))
   | exact ih0 _ _ _ _
   | exact ih1 _ _ _ _ _
   | exact LeO.none _
   | refine LeO.ite ?_ ?_
   | refine LeO.bind ?_ (fun _ => ?_)
theorem sum_Sum.mono : ∀ a0 a1 k, LeO (sum_Sum.f k a0 a1) (sum_Sum.f (k + 1) a0 a1) := by
 intro a0 a1 k
 obtain ⟨ih0, ih1⟩ := sum_Sum.mono_l k
 unfold sum_Sum.f
 repeat' first
  | (with_reducible exact ih0 _ _ _ _)
  | (with_reducible exact ih1 _ _ _ _ _)
  | (with_reducible exact LeO.refl _)
  | (with_reducible exact LeO.none _)
  | (with_reducible refine LeO.ite ?_ ?_)
  | (with_reducible refine LeO.bind ?_ (fun _ => ?_))
  | exact ih0 _ _ _ _
  | exact ih1 _ _ _ _ _
  | exact LeO.none _
  | refine LeO.ite ?_ ?_
  | refine LeO.bind ?_ (fun _ => ?_)
set_option maxHeartbeats 8000000 in
set_option maxRecDepth 100000 in
theorem sum_Sum.calls (k : Nat) (a0 : Int) (a1 : ByteArray) (r : Int) (w : World) (h : sum_Sum.f k a0 a1 = some r) :
 Calls Try.prog 63 #[.int .u32 a0, .string a1] w fun e w' => e = .returned (.int .u32 r) ∧ Drawn0 w w' := by
 have H : (sum_Sum.l0 k (Go.bits .xor .u32 4294967295 a0) a1 (a1.size : Int) 0) = some r := h
 clear h
 have H' := Aside0.mk H
 clear H
 go_enter Try.func63, Try.ntmps63
 go_wp2
 go_loopg [0, 10] k (fun kq v0 v10 w' => ∃ (x0_1 : Int) (x10_1 : Int), v0 = .int .u32 x0_1 ∧ v10 = .int .i64 x10_1 ∧ Aside0 (sum_Sum.l0 kq x0_1 a1 (a1.size : Int) x10_1 = some r) ∧ Aside0 (kq ≤ k) ∧ Drawn0 w w')
 case atStart => exact ⟨(Go.bits .xor .u32 4294967295 a0), (0), ap, ap, H', ⟨Nat.le_refl _⟩, dr⟩
 case round =>
  clear H'
  try clear p2
  obtain ⟨x0_1, x10_1, rfl, rfl, HA, HK1, ⟨m1, rfl⟩⟩ := hrel
  cases gk with
  | zero => exact absurd HA.out (by simp [sum_Sum.l0])
  | succ k1 =>
   have H := HA.out
   clear HA
   simp only [sum_Sum.l0] at H
   by_cases c3 : x10_1 < (a1.size : Int)
   ·rw [if_pos c3] at H
    have c3b0 : decide (x10_1 < (a1.size : Int)) = true := decide_eq_true c3
    clear c3
    by_cases c4 : 0 ≤ x10_1
    ·rw [if_pos c4] at H
     have c4b0 : decide (0 ≤ x10_1) = true := decide_eq_true c4
     clear c4
     by_cases c5 : x10_1 < (a1.size : Int)
     ·rw [if_pos c5] at H
      have c5b0 : decide (x10_1 < (a1.size : Int)) = true := decide_eq_true c5
      clear c5
      have H' := Aside0.mk H
      clear H
      have p6 : 0 ≤ (x10_1 : Int) := od
      have q6 : x10_1 < (a1.size : Int) := od
      have hx6 := bt_at a1 x10_1
      replace p6 := eq_true p6
      replace q6 := eq_true q6
      go_wp2
      go_loopg [0, 19] k1 (fun kq v0 v19 w' => ∃ (x0_2 : Int) (x19_2 : Int), v0 = .int .u32 x0_2 ∧ v19 = .int .i64 x19_2 ∧ Aside0 (sum_Sum.l1 kq x0_2 a1 (a1.size : Int) x10_1 x19_2 = some r) ∧ Aside0 (kq ≤ k1) ∧ Drawn0 w w')
      case atStart => exact ⟨(Go.bits .xor .u32 x0_1 ((bt a1 x10_1) % 4294967296)), (0), ap, ap, H', ⟨Nat.le_refl _⟩, dr⟩
      case round =>
       clear H'
       try clear p2
       try clear c3
       try clear c3b0
       try clear c4
       try clear c4b0
       try clear c5
       try clear c5b0
       try clear c6
       try clear p6
       try clear q6
       try clear hx6
       try clear p2
       try clear p6
       try clear q6
       obtain ⟨x0_2, x19_2, rfl, rfl, HA, HK2, ⟨m2, rfl⟩⟩ := hrel
       cases gk with
       | zero => exact absurd HA.out (by simp [sum_Sum.l1])
       | succ k2 =>
        have H := HA.out
        clear HA
        simp only [sum_Sum.l1] at H
        by_cases c7 : x19_2 < 8
        ·rw [if_pos c7] at H
         have c7b0 : decide (x19_2 < 8) = true := decide_eq_true c7
         clear c7
         have H' := Aside0.mk H
         clear H
         go_wp2
         go_roundg k2
         case measure => have := HK1.out; have := HK2.out; omega
         case rel => exact ⟨(Go.bits .xor .u32 (x0_2 / 2) (Go.bits .and .u32 2197175160 ((-(Go.bits .and .u32 x0_2 1)) % 4294967296))), (wrap64 (x19_2 + 1)), ap, ap, H', ⟨by have := HK1.out; have := HK2.out; omega⟩, dr⟩
        ·rw [if_neg c7] at H
         have c7b0 : decide (x19_2 < 8) = false := decide_eq_false c7
         clear c7
         have H' := Aside0.mk H
         clear H
         go_wp2
         go_roundg k2
         case measure => have := HK1.out; have := HK2.out; omega
         case rel => exact ⟨(x0_2), (wrap64 (x10_1 + 1)), ap, ap, H', ⟨by have := HK1.out; have := HK2.out; omega⟩, dr⟩
     ·rw [if_neg c5] at H
      exact absurd H (by simp)
    ·rw [if_neg c4] at H
     exact absurd H (by simp)
   ·rw [if_neg c3] at H
    have c3b0 : decide (x10_1 < (a1.size : Int)) = false := decide_eq_false c3
    clear c3
    obtain rfl := Option.some.inj H
    go_wp2
    go_ret
    exact ⟨ap, dr⟩

end Go.Proofs.Ytmabdfdmccbfnaa.P

-- written by a program of the proving session, out of the translation; Lean checks it
namespace Go.Proofs.Ytmabdfdmccbfnaa.P
open Go.RowKit Go.Proofs.Ytmabdfdmccbfnaa.Sq Go.Proofs.YtmabdfdmccbfnaaW.PrintWords Go.Proofs.YtmabdfdmccbfnaaW.PrintLast Go.Proofs.YtmabdfdmccbfnaaW.PrintMore
attribute [local go_sem] max2_int min2_int max_two min_two max_three min_three max_four min_four   -- for this text's walks alone
set_option linter.unusedVariables false
set_option linter.unusedSimpArgs false

/-! ### vbi_taken: function 82 -/
def vbi_taken.l0 : Nat → ByteArray → Int → Int → Int → Option (Int × Int)
 | 0, _, _, _, _ => none
 | k + 1, x0, x6, x12, x13 => if x13 < x12 then (if 0 ≤ x13 then (if x13 < (x0.size : Int) then (vbi_taken.l0 k x0 (Go.bits .or .i64 (wrap64 (x6 * 256)) (wrap64 (bt x0 x13))) x12 (wrap64 (x13 + 1))) else (none)) else (none)) else (some (x6, 0))
def vbi_taken.f (k : Nat) (a0 : ByteArray) (a1 : Int) : Option (Int × Int) := if (a0.size : Int) < a1 then (some (0, 7)) else (vbi_taken.l0 k a0 0 a1 0)
theorem vbi_taken.mono_l : ∀ k, (∀ y0 y1 y2 y3, LeO (vbi_taken.l0 k y0 y1 y2 y3) (vbi_taken.l0 (k + 1) y0 y1 y2 y3))
 | 0 => fun _ _ _ _ r h => by simp [vbi_taken.l0] at h
 | k + 1 => by
  have ih0 := vbi_taken.mono_l k
  ·intro y0 y1 y2 y3
   unfold vbi_taken.l0
   repeat' first
   | (with_reducible exact ih0 _ _ _ _)
   | (with_reducible exact LeO.refl _)
   | (with_reducible exact LeO.none _)
   | (with_reducible refine LeO.ite ?_ ?_)
   | (with_reducible refine LeO.bind ?_ (fun _ => ?_))
   | exact ih0 _ _ _ _
   | exact LeO.none _
   | refine LeO.ite ?_ ?_
   | refine LeO.bind ?_ (fun _ => ?_)
theorem vbi_taken.mono : ∀ a0 a1 k, LeO (vbi_taken.f k a0 a1) (vbi_taken.f (k + 1) a0 a1) := by
 intro a0 a1 k
 have ih0 := vbi_taken.mono_l k
 unfold vbi_taken.f
 repeat' first
  | (with_reducible exact ih0 _ _ _ _)
  | (with_reducible exact LeO.refl _)
  | (with_reducible exact LeO.none _)
  | (with_reducible refine LeO.ite ?_ ?_)
  | (with_reducible refine LeO.bind ?_ (fun _ => ?_))
  | exact ih0 _ _ _ _
  | exact LeO.none _
  | refine LeO.ite ?_ ?_
  | refine LeO.bind ?_ (fun _ => ?_)
set_option maxHeartbeats 8000000 in
set_option maxRecDepth 100000 in
theorem vbi_taken.calls (k : Nat) (a0 : ByteArray) (a1 : Int) (r1 : Int) (r2 : Int) (w : World) (h : vbi_taken.f k a0 a1 = some (r1, r2)) :
 Calls Try.prog 82 #[.string a0, .int .i64 a1] w fun e w' => e = .returned (.tuple #[.int .i64 r1, .int .i64 r2]) ∧ Drawn0 w w' := by
 have H : (if (a0.size : Int) < a1 then (some (0, 7)) else (vbi_taken.l0 k a0 0 a1 0)) = some (r1, r2) := h
 clear h
 by_cases c3 : (a0.size : Int) < a1
 ·rw [if_pos c3] at H
  have c3b0 : decide ((a0.size : Int) < a1) = true := decide_eq_true c3
  clear c3
  simp only [Option.some.injEq, Prod.mk.injEq] at H
  obtain ⟨rfl, rfl⟩ := H
  go_enter Try.func82, Try.ntmps82
  go_wp2
  go_ret2
  exact ⟨ap, dr⟩
 ·rw [if_neg c3] at H
  have c3b0 : decide ((a0.size : Int) < a1) = false := decide_eq_false c3
  clear c3
  have H' := Aside0.mk H
  clear H
  go_enter Try.func82, Try.ntmps82
  go_wp2
  go_loopg [6, 13] k (fun kq v6 v13 w' => ∃ (x6_1 : Int) (x13_1 : Int), v6 = .int .i64 x6_1 ∧ v13 = .int .i64 x13_1 ∧ Aside0 (vbi_taken.l0 kq a0 x6_1 a1 x13_1 = some (r1, r2)) ∧ Aside0 (kq ≤ k) ∧ Drawn0 w w')
  case atStart => exact ⟨(0), (0), ap, ap, H', ⟨Nat.le_refl _⟩, dr⟩
  case round =>
   clear H'
   try clear p2
   try clear c3
   try clear c3b0
   obtain ⟨x6_1, x13_1, rfl, rfl, HA, HK1, ⟨m1, rfl⟩⟩ := hrel
   cases gk with
   | zero => exact absurd HA.out (by simp [vbi_taken.l0])
   | succ k1 =>
    have H := HA.out
    clear HA
    simp only [vbi_taken.l0] at H
    by_cases c4 : x13_1 < a1
    ·rw [if_pos c4] at H
     have c4b0 : decide (x13_1 < a1) = true := decide_eq_true c4
     clear c4
     by_cases c5 : 0 ≤ x13_1
     ·rw [if_pos c5] at H
      have c5b0 : decide (0 ≤ x13_1) = true := decide_eq_true c5
      clear c5
      by_cases c6 : x13_1 < (a0.size : Int)
      ·rw [if_pos c6] at H
       have c6b0 : decide (x13_1 < (a0.size : Int)) = true := decide_eq_true c6
       clear c6
       have H' := Aside0.mk H
       clear H
       have p7 : 0 ≤ (x13_1 : Int) := od
       have q7 : x13_1 < (a0.size : Int) := od
       have hx7 := bt_at a0 x13_1
       replace p7 := eq_true p7
       replace q7 := eq_true q7
       go_wp2
       go_roundg k1
       case measure => have := HK1.out; omega
       case rel => exact ⟨(Go.bits .or .i64 (wrap64 (x6_1 * 256)) (wrap64 (bt a0 x13_1))), (wrap64 (x13_1 + 1)), ap, ap, H', ⟨by have := HK1.out; omega⟩, dr⟩
      ·rw [if_neg c6] at H
       exact absurd H (by simp)
     ·rw [if_neg c5] at H
      exact absurd H (by simp)
    ·rw [if_neg c4] at H
     have c4b0 : decide (x13_1 < a1) = false := decide_eq_false c4
     clear c4
     simp only [Option.some.injEq, Prod.mk.injEq] at H
     obtain ⟨rfl, rfl⟩ := H
     go_wp2
     go_ret2
     exact ⟨ap, dr⟩

end Go.Proofs.Ytmabdfdmccbfnaa.P

-- written by a program of the proving session, out of the translation; Lean checks it
namespace Go.Proofs.Ytmabdfdmccbfnaa.P
open Go.RowKit Go.Proofs.Ytmabdfdmccbfnaa.Sq Go.Proofs.YtmabdfdmccbfnaaW.PrintWords Go.Proofs.YtmabdfdmccbfnaaW.PrintLast Go.Proofs.YtmabdfdmccbfnaaW.PrintMore
attribute [local go_sem] max2_int min2_int max_two min_two max_three min_three max_four min_four   -- for this text's walks alone
set_option linter.unusedVariables false
set_option linter.unusedSimpArgs false

/-! ### vbi_TakeTwo: function 64 -/
def vbi_TakeTwo.f (k : Nat) (a0 : ByteArray) : Option (Int × Int) := (vbi_taken.f k a0 2).bind fun bt129 => (some (bt129.1, bt129.2))
theorem vbi_TakeTwo.mono : ∀ a0 k, LeO (vbi_TakeTwo.f k a0) (vbi_TakeTwo.f (k + 1) a0) := by
 intro a0 k
 unfold vbi_TakeTwo.f
 repeat' first
  | (with_reducible exact vbi_taken.mono _ _ _)
  | (with_reducible exact LeO.refl _)
  | (with_reducible exact LeO.none _)
  | (with_reducible refine LeO.ite ?_ ?_)
  | (with_reducible refine LeO.bind ?_ (fun _ => ?_))
  | exact vbi_taken.mono _ _ _
  | exact LeO.none _
  | refine LeO.ite ?_ ?_
  | refine LeO.bind ?_ (fun _ => ?_)
set_option maxHeartbeats 8000000 in
set_option maxRecDepth 100000 in
theorem vbi_TakeTwo.calls (k : Nat) (a0 : ByteArray) (r1 : Int) (r2 : Int) (w : World) (h : vbi_TakeTwo.f k a0 = some (r1, r2)) :
 Calls Try.prog 64 #[.string a0] w fun e w' => e = .returned (.tuple #[.int .i64 r1, .int .i64 r2]) ∧ Drawn0 w w' := by
 have H : ((vbi_taken.f k a0 2).bind fun bt129 => (some (bt129.1, bt129.2))) = some (r1, r2) := h
 clear h
 replace H := Option.bind_eq_some_iff.mp H
 obtain ⟨⟨t129, t130⟩, A20, H⟩ := H
 replace H : (some (t129, t130)) = some (r1, r2) := H
 have A2 := Aside0.mk A20
 clear A20
 simp only [Option.some.injEq, Prod.mk.injEq] at H
 obtain ⟨rfl, rfl⟩ := H
 go_enter Try.func64, Try.ntmps64
 go_wp2_with (first | ((with_reducible refine gate_callee (f := 82) rfl ?_); refine goesL_ (some 5) rfl rfl Try.func82 (by kernel_rfl) rfl #[.string a0, .int .i64 2] rfl aa ?_; (with_reducible refine (vbi_taken.calls k a0 2 t129 t130 _ A2.out).mono ?_); rintro e w' ⟨rfl, ⟨nd, rfl⟩⟩; refine ⟨_, rfl, ?_⟩))
 go_ret2
 exact ⟨ap, dr⟩

end Go.Proofs.Ytmabdfdmccbfnaa.P

-- written by a program of the proving session, out of the translation; Lean checks it
namespace Go.Proofs.Ytmabdfdmccbfnaa.P
open Go.RowKit Go.Proofs.Ytmabdfdmccbfnaa.Sq Go.Proofs.YtmabdfdmccbfnaaW.PrintWords Go.Proofs.YtmabdfdmccbfnaaW.PrintLast Go.Proofs.YtmabdfdmccbfnaaW.PrintMore
attribute [local go_sem] max2_int min2_int max_two min_two max_three min_three max_four min_four   -- for this text's walks alone
set_option linter.unusedVariables false
set_option linter.unusedSimpArgs false

/-! ### vbi_TakeFour: function 65 -/
def vbi_TakeFour.f (k : Nat) (a0 : ByteArray) : Option (Int × Int) := (vbi_taken.f k a0 4).bind fun bt131 => (some (bt131.1, bt131.2))
theorem vbi_TakeFour.mono : ∀ a0 k, LeO (vbi_TakeFour.f k a0) (vbi_TakeFour.f (k + 1) a0) := by
 intro a0 k
 unfold vbi_TakeFour.f
 repeat' first
  | (with_reducible exact vbi_taken.mono _ _ _)
  | (with_reducible exact LeO.refl _)
  | (with_reducible exact LeO.none _)
  | (with_reducible refine LeO.ite ?_ ?_)
  | (with_reducible refine LeO.bind ?_ (fun _ => ?_))
  | exact vbi_taken.mono _ _ _
  | exact LeO.none _
  | refine LeO.ite ?_ ?_
  | refine LeO.bind ?_ (fun _ => ?_)
set_option maxHeartbeats 8000000 in
set_option maxRecDepth 100000 in
theorem vbi_TakeFour.calls (k : Nat) (a0 : ByteArray) (r1 : Int) (r2 : Int) (w : World) (h : vbi_TakeFour.f k a0 = some (r1, r2)) :
 Calls Try.prog 65 #[.string a0] w fun e w' => e = .returned (.tuple #[.int .i64 r1, .int .i64 r2]) ∧ Drawn0 w w' := by
 have H : ((vbi_taken.f k a0 4).bind fun bt131 => (some (bt131.1, bt131.2))) = some (r1, r2) := h
 clear h
 replace H := Option.bind_eq_some_iff.mp H
 obtain ⟨⟨t131, t132⟩, A20, H⟩ := H
 replace H : (some (t131, t132)) = some (r1, r2) := H
 have A2 := Aside0.mk A20
 clear A20
 simp only [Option.some.injEq, Prod.mk.injEq] at H
 obtain ⟨rfl, rfl⟩ := H
 go_enter Try.func65, Try.ntmps65
 go_wp2_with (first | ((with_reducible refine gate_callee (f := 82) rfl ?_); refine goesL_ (some 5) rfl rfl Try.func82 (by kernel_rfl) rfl #[.string a0, .int .i64 4] rfl aa ?_; (with_reducible refine (vbi_taken.calls k a0 4 t131 t132 _ A2.out).mono ?_); rintro e w' ⟨rfl, ⟨nd, rfl⟩⟩; refine ⟨_, rfl, ?_⟩))
 go_ret2
 exact ⟨ap, dr⟩

end Go.Proofs.Ytmabdfdmccbfnaa.P

-- written by a program of the proving session, out of the translation; Lean checks it
namespace Go.Proofs.Ytmabdfdmccbfnaa.P
open Go.RowKit Go.Proofs.Ytmabdfdmccbfnaa.Sq Go.Proofs.YtmabdfdmccbfnaaW.PrintWords Go.Proofs.YtmabdfdmccbfnaaW.PrintLast Go.Proofs.YtmabdfdmccbfnaaW.PrintMore
attribute [local go_sem] max2_int min2_int max_two min_two max_three min_three max_four min_four   -- for this text's walks alone
set_option linter.unusedVariables false
set_option linter.unusedSimpArgs false

/-! ### rec_number: function 83 -/
def rec_number.f (k : Nat) (a0 : ByteArray) : Option (Int) := (vbi_TakeFour.f k a0).bind fun bt133 => (if 4 ≤ (a0.size : Int) then ((vbi_TakeFour.f k (a0.extract 4 a0.size)).bind fun bt135 => (some (Go.bits .or .i64 (wrap64 (bt133.1 * 4294967296)) bt135.1))) else (none))
theorem rec_number.mono : ∀ a0 k, LeO (rec_number.f k a0) (rec_number.f (k + 1) a0) := by
 intro a0 k
 unfold rec_number.f
 repeat' first
  | (with_reducible exact vbi_TakeFour.mono _ _)
  | (with_reducible exact LeO.refl _)
  | (with_reducible exact LeO.none _)
  | (with_reducible refine LeO.ite ?_ ?_)
  | (with_reducible refine LeO.bind ?_ (fun _ => ?_))
  | exact vbi_TakeFour.mono _ _
  | exact LeO.none _
  | refine LeO.ite ?_ ?_
  | refine LeO.bind ?_ (fun _ => ?_)
set_option maxHeartbeats 8000000 in
set_option maxRecDepth 100000 in
theorem rec_number.calls (k : Nat) (a0 : ByteArray) (r : Int) (w : World) (h : rec_number.f k a0 = some r) :
 Calls Try.prog 83 #[.string a0] w fun e w' => e = .returned (.int .i64 r) ∧ Drawn0 w w' := by
 have H : ((vbi_TakeFour.f k a0).bind fun bt133 => (if 4 ≤ (a0.size : Int) then ((vbi_TakeFour.f k (a0.extract 4 a0.size)).bind fun bt135 => (some (Go.bits .or .i64 (wrap64 (bt133.1 * 4294967296)) bt135.1))) else (none))) = some r := h
 clear h
 replace H := Option.bind_eq_some_iff.mp H
 obtain ⟨⟨t133, t134⟩, A20, H⟩ := H
 replace H : (if 4 ≤ (a0.size : Int) then ((vbi_TakeFour.f k (a0.extract 4 a0.size)).bind fun bt135 => (some (Go.bits .or .i64 (wrap64 (t133 * 4294967296)) bt135.1))) else (none)) = some r := H
 have A2 := Aside0.mk A20
 clear A20
 by_cases c3 : 4 ≤ (a0.size : Int)
 ·rw [if_pos c3] at H
  have c3b0 := eq_true c3
  have c3b1 : decide (4 ≤ (a0.size : Int)) = true := decide_eq_true c3
  clear c3
  replace H := Option.bind_eq_some_iff.mp H
  obtain ⟨⟨t135, t136⟩, A40, H⟩ := H
  replace H : (some (Go.bits .or .i64 (wrap64 (t133 * 4294967296)) t135)) = some r := H
  have A4 := Aside0.mk A40
  clear A40
  obtain rfl := Option.some.inj H
  go_enter Try.func83, Try.ntmps83
  go_wp2_with (first | ((with_reducible refine gate_callee (f := 65) rfl ?_); refine goesL_ (some 9) rfl rfl Try.func65 (by kernel_rfl) rfl #[.string a0] rfl aa ?_; (with_reducible refine (vbi_TakeFour.calls k a0 t133 t134 _ A2.out).mono ?_); rintro e w' ⟨rfl, ⟨nd, rfl⟩⟩; refine ⟨_, rfl, ?_⟩) | ((with_reducible refine gate_callee (f := 65) rfl ?_); refine goesL_ (some 15) rfl rfl Try.func65 (by kernel_rfl) rfl #[.string (a0.extract 4 a0.size)] rfl aa ?_; (with_reducible refine (vbi_TakeFour.calls k (a0.extract 4 a0.size) t135 t136 _ A4.out).mono ?_); rintro e w' ⟨rfl, ⟨nd, rfl⟩⟩; refine ⟨_, rfl, ?_⟩))
  go_ret
  exact ⟨ap, dr⟩
 ·rw [if_neg c3] at H
  exact absurd H (by simp)

end Go.Proofs.Ytmabdfdmccbfnaa.P

-- written by a program of the proving session, out of the translation; Lean checks it
namespace Go.Proofs.Ytmabdfdmccbfnaa.P
open Go.RowKit Go.Proofs.Ytmabdfdmccbfnaa.Sq Go.Proofs.YtmabdfdmccbfnaaW.PrintWords Go.Proofs.YtmabdfdmccbfnaaW.PrintLast Go.Proofs.YtmabdfdmccbfnaaW.PrintMore
attribute [local go_sem] max2_int min2_int max_two min_two max_three min_three max_four min_four   -- for this text's walks alone
set_option linter.unusedVariables false
set_option linter.unusedSimpArgs false

/-! ### rec_read: function 66 -/
def rec_read.j0 : Nat → ByteArray → Int → Bool → Int → Int → ByteArray → ByteArray → Int → Bool → Option (Int × Int × ByteArray × ByteArray × Int × Bool × Bool)
 | 0, _, _, _, _, _, _, _, _, _ => none
 | k + 1, x0, x4, x35, x138000, x138001, x138002, x138003, x138004, x138005 => if x35 = true then (some (x138000, x138001, x138002, x138003, x138004, x138005, false)) else ((rec_number.f k x0).bind fun t140 => (if 8 ≤ (x0.size : Int) then ((rec_number.f k (x0.extract 8 x0.size)).bind fun t141 => (if 19 ≤ (wrap64 (19 + x4)) then (if (wrap64 (19 + x4)) ≤ (x0.size : Int) then (if 0 ≤ (wrap64 (19 + x4)) then (if 16 < (x0.size : Int) then ((rec_Check.f k t140 t141 (x0.extract 19 ((wrap64 (19 + x4)) : Int).toNat) (x0.extract ((wrap64 (19 + x4)) : Int).toNat x0.size) (wrap64 (Go.bits .and .u8 (bt x0 16) 3)) (decide ((Go.bits .and .u8 (bt x0 16) 4) > 0))).bind fun t142 => (some (t140, t141, x0.extract 19 ((wrap64 (19 + x4)) : Int).toNat, x0.extract ((wrap64 (19 + x4)) : Int).toNat x0.size, wrap64 (Go.bits .and .u8 (bt x0 16) 3), decide ((Go.bits .and .u8 (bt x0 16) 4) > 0), (t142 == 0)))) else (none)) else (none)) else (none)) else (none))) else (none)))
def rec_read.f (k : Nat) (a0 : ByteArray) : Option (Int × Int × ByteArray × ByteArray × Int × Bool × Bool) := if (a0.size : Int) < 19 then (some (0, 0, (⟨#[]⟩ : ByteArray), (⟨#[]⟩ : ByteArray), 0, false, false)) else (if 17 ≤ (a0.size : Int) then ((vbi_TakeTwo.f k (a0.extract 17 a0.size)).bind fun bt138 => (if 16 < (a0.size : Int) then (if (bt a0 16) > 7 then (rec_read.j0 k a0 bt138.1 true 0 0 (⟨#[]⟩ : ByteArray) (⟨#[]⟩ : ByteArray) 0 false) else (if bt138.1 > (wrap64 ((a0.size : Int) - 19)) then (rec_read.j0 k a0 bt138.1 true 0 0 (⟨#[]⟩ : ByteArray) (⟨#[]⟩ : ByteArray) 0 false) else (if 0 < (a0.size : Int) then (if (bt a0 0) > 127 then (rec_read.j0 k a0 bt138.1 true 0 0 (⟨#[]⟩ : ByteArray) (⟨#[]⟩ : ByteArray) 0 false) else (if 8 < (a0.size : Int) then (rec_read.j0 k a0 bt138.1 (decide ((bt a0 8) > 127)) 0 0 (⟨#[]⟩ : ByteArray) (⟨#[]⟩ : ByteArray) 0 false) else (none))) else (none)))) else (none))) else (none))
theorem rec_read.mono_l : ∀ k, (∀ y0 y1 y2 y3 y4 y5 y6 y7 y8, LeO (rec_read.j0 k y0 y1 y2 y3 y4 y5 y6 y7 y8) (rec_read.j0 (k + 1) y0 y1 y2 y3 y4 y5 y6 y7 y8))
 | 0 => fun _ _ _ _ _ _ _ _ _ r h => by simp [rec_read.j0] at h
 | k + 1 => by
  have ih0 := rec_read.mono_l k
  ·intro y0 y1 y2 y3 y4 y5 y6 y7 y8
   unfold rec_read.j0
   repeat' first
   | (with_reducible exact ih0 _ _ _ _ _ _ _ _ _)
   | (with_reducible exact rec_Check.mono _ _ _ _ _ _ _)
   | (with_reducible exact rec_number.mono _ _)
   | (with_reducible exact vbi_TakeTwo.mono _ _)
   | (with_reducible exact LeO.refl _)
   | (with_reducible exact LeO.none _)
   | (with_reducible refine LeO.ite ?_ ?_)
   | (with_reducible refine LeO.bind ?_ (fun _ => ?_))
   | exact ih0 _ _ _ _ _ _ _ _ _
   | exact rec_Check.mono _ _ _ _ _ _ _
   | exact rec_number.mono _ _
   | exact vbi_TakeTwo.mono _ _
   | exact LeO.none _
   | refine LeO.ite ?_ ?_
   | refine LeO.bind ?_ (fun _ => ?_)
theorem rec_read.mono : ∀ a0 k, LeO (rec_read.f k a0) (rec_read.f (k + 1) a0) := by
 intro a0 k
 have ih0 := rec_read.mono_l k
 unfold rec_read.f
 repeat' first
  | (with_reducible exact ih0 _ _ _ _ _ _ _ _ _)
  | (with_reducible exact rec_Check.mono _ _ _ _ _ _ _)
  | (with_reducible exact rec_number.mono _ _)
  | (with_reducible exact vbi_TakeTwo.mono _ _)
  | (with_reducible exact LeO.refl _)
  | (with_reducible exact LeO.none _)
  | (with_reducible refine LeO.ite ?_ ?_)
  | (with_reducible refine LeO.bind ?_ (fun _ => ?_))
  | exact ih0 _ _ _ _ _ _ _ _ _
  | exact rec_Check.mono _ _ _ _ _ _ _
  | exact rec_number.mono _ _
  | exact vbi_TakeTwo.mono _ _
  | exact LeO.none _
  | refine LeO.ite ?_ ?_
  | refine LeO.bind ?_ (fun _ => ?_)
def rec_read.T6 : Bool × List (List Nat × List Nat) := (true, [([], []), ([0], [0]), ([], []), ([2], [2]), ([3, 1], [3]), ([], []), ([], []), ([6], [6]), ([5, 7], [5, 7]), ([], []), ([], []), ([10], [10]), ([9, 11], [9, 11]), ([], []), ([13], [13]), ([14], [14]), ([15], [15]), ([], []), ([17], [17]), ([18], [18]), ([19], [19]), ([1, 4, 8, 12, 16, 20], [1, 4, 8, 12, 16, 20]), ([21, 4, 0, 1, 2, 3, 4, 5, 6, 7, 8, 9, 10, 11, 12, 13, 14, 15, 16, 17, 18, 19, 20, 21], [21])])
def rec_read.B6 : List Nat := [0, 1, 0, 4, 15, 0, 0, 64, 224, 0, 0, 1024, 3584, 0, 8192, 24576, 57344, 0, 131072, 393216, 917504, 2097151, 4194303]
theorem rec_read.tab6 : rtab .any (opsOf Try.f66 6) = rec_read.T6 := by kernel_rfl
theorem rec_read.bits6 : waitsOk rec_read.T6.2 rec_read.B6 = true := by kernel_rfl
set_option maxHeartbeats 8000000 in
set_option maxRecDepth 100000 in
theorem rec_read.calls (k : Nat) (a0 : ByteArray) (r1 : Int) (r2 : Int) (r3 : ByteArray) (r4 : ByteArray) (r5 : Int) (r6 : Bool) (r7 : Bool) (w : World) (h : rec_read.f k a0 = some (r1, r2, r3, r4, r5, r6, r7)) :
 Calls Try.prog 66 #[.string a0] w fun e w' => e = .returned (.tuple #[.agg #[.int .i64 r1, .int .i64 r2, .string r3, .string r4, .int .i64 r5, .bool r6], .bool r7]) ∧ Below w.heap.size w w' := by
 have hu25 := Try.underlying25
 have HB := Aside0.mk (Below.refl w.heap.size w)
 have H : (if (a0.size : Int) < 19 then (some (0, 0, (⟨#[]⟩ : ByteArray), (⟨#[]⟩ : ByteArray), 0, false, false)) else (if 17 ≤ (a0.size : Int) then ((vbi_TakeTwo.f k (a0.extract 17 a0.size)).bind fun bt138 => (if 16 < (a0.size : Int) then (if (bt a0 16) > 7 then (rec_read.j0 k a0 bt138.1 true 0 0 (⟨#[]⟩ : ByteArray) (⟨#[]⟩ : ByteArray) 0 false) else (if bt138.1 > (wrap64 ((a0.size : Int) - 19)) then (rec_read.j0 k a0 bt138.1 true 0 0 (⟨#[]⟩ : ByteArray) (⟨#[]⟩ : ByteArray) 0 false) else (if 0 < (a0.size : Int) then (if (bt a0 0) > 127 then (rec_read.j0 k a0 bt138.1 true 0 0 (⟨#[]⟩ : ByteArray) (⟨#[]⟩ : ByteArray) 0 false) else (if 8 < (a0.size : Int) then (rec_read.j0 k a0 bt138.1 (decide ((bt a0 8) > 127)) 0 0 (⟨#[]⟩ : ByteArray) (⟨#[]⟩ : ByteArray) 0 false) else (none))) else (none)))) else (none))) else (none))) = some (r1, r2, r3, r4, r5, r6, r7) := h
 clear h
 by_cases c2 : (a0.size : Int) < 19
 ·rw [if_pos c2] at H
  have c2b0 : decide ((a0.size : Int) < 19) = true := decide_eq_true c2
  have c2b1 : decide (a0.size < 19) = true := decide_eq_true (by omega)
  clear c2
  simp only [Option.some.injEq, Prod.mk.injEq] at H
  obtain ⟨rfl, rfl, rfl, rfl, rfl, rfl, rfl⟩ := H
  go_enter Try.func66, Try.ntmps66
  go_wp2_with (first | ((with_reducible refine gate_dst (N := 2) rfl ?_); (try (refine gate_guard (by rfl) ?_; dsimp only)); refine box_event ?hg (N := 2) ?hd (cs := #[.int .i64 0, .int .i64 0, .string (⟨#[]⟩ : ByteArray), .string (⟨#[]⟩ : ByteArray), .int .i64 0, .bool false]) (t := 25) ?hr ?_; (case hd => rfl); (case hg => rfl); (case hr => first | (go_simp; done) | (go_simp; rfl)); intro gb137 hg w3 hbox hb; have BK137 := Aside0.mk (hbox); have GW137 := Aside0.mk ((by rw [hg]; exact (below_size bo) : w.heap.size ≤ gb137)); have GE137 := Aside0.mk ((by rw [hg]; exact (below_size bo) : w.heap.size ≤ gb137)); replace HB := Aside0.mk (below_step bo hb); clear hb hbox hg; obtain ⟨hcz4_0, hcz4_1, hcz4_2, hcz4_3, hcz4_4, hcz4_5⟩ := cl6 BK137.out; obtain ⟨hfz4_0, hfz4_1, hfz4_2, hfz4_3, hfz4_4, hfz4_5⟩ := fz6 BK137.out))
  refine bodyPost_ret (results_ct rfl _ _ gb137 25 #[.int .i64 0, .int .i64 0, .string (⟨#[]⟩ : ByteArray), .string (⟨#[]⟩ : ByteArray), .int .i64 0, .bool false] (0, 0) _ rfl (by (with_reducible repeat (first | refine blk_drewN ?_ _ | refine blk_drew ?_ | refine blk_alloc ?_ _)); refine blk_put (cs := #[.int .i64 0, .int .i64 0, .string (⟨#[]⟩ : ByteArray), .string (⟨#[]⟩ : ByteArray), .int .i64 0, .bool false]) ?_ 5 _ rfl; (with_reducible repeat (first | refine blk_drewN ?_ _ | refine blk_drew ?_ | refine blk_alloc ?_ _)); refine blk_put (cs := #[.int .i64 0, .int .i64 0, .string (⟨#[]⟩ : ByteArray), .string (⟨#[]⟩ : ByteArray), .int .i64 0, .bool false]) ?_ 4 _ rfl; (with_reducible repeat (first | refine blk_drewN ?_ _ | refine blk_drew ?_ | refine blk_alloc ?_ _)); refine blk_put (cs := #[.int .i64 0, .int .i64 0, .string (⟨#[]⟩ : ByteArray), .string (⟨#[]⟩ : ByteArray), .int .i64 0, .bool false]) ?_ 3 _ rfl; (with_reducible repeat (first | refine blk_drewN ?_ _ | refine blk_drew ?_ | refine blk_alloc ?_ _)); refine blk_put (cs := #[.int .i64 0, .int .i64 0, .string (⟨#[]⟩ : ByteArray), .string (⟨#[]⟩ : ByteArray), .int .i64 0, .bool false]) ?_ 2 _ rfl; (with_reducible repeat (first | refine blk_drewN ?_ _ | refine blk_drew ?_ | refine blk_alloc ?_ _)); refine blk_put (cs := #[.int .i64 0, .int .i64 0, .string (⟨#[]⟩ : ByteArray), .string (⟨#[]⟩ : ByteArray), .int .i64 0, .bool false]) ?_ 1 _ rfl; (with_reducible repeat (first | refine blk_drewN ?_ _ | refine blk_drew ?_ | refine blk_alloc ?_ _)); refine blk_put (cs := #[.int .i64 0, .int .i64 0, .string (⟨#[]⟩ : ByteArray), .string (⟨#[]⟩ : ByteArray), .int .i64 0, .bool false]) ?_ 0 _ rfl; (with_reducible repeat (first | refine blk_drewN ?_ _ | refine blk_drew ?_ | refine blk_alloc ?_ _)); exact BK137.out) Try.underlying25 rfl (by kernel_rfl)) rfl ?_
  exact ⟨er, bo⟩
 ·rw [if_neg c2] at H
  have c2b0 : decide ((a0.size : Int) < 19) = false := decide_eq_false c2
  have c2b1 : decide (a0.size < 19) = false := decide_eq_false (by omega)
  clear c2
  by_cases c5 : 17 ≤ (a0.size : Int)
  ·rw [if_pos c5] at H
   have c5b0 := eq_true c5
   have c5b1 : decide (17 ≤ (a0.size : Int)) = true := decide_eq_true c5
   clear c5
   replace H := Option.bind_eq_some_iff.mp H
   obtain ⟨⟨t138, t139⟩, A60, H⟩ := H
   replace H : (if 16 < (a0.size : Int) then (if (bt a0 16) > 7 then (rec_read.j0 k a0 t138 true 0 0 (⟨#[]⟩ : ByteArray) (⟨#[]⟩ : ByteArray) 0 false) else (if t138 > (wrap64 ((a0.size : Int) - 19)) then (rec_read.j0 k a0 t138 true 0 0 (⟨#[]⟩ : ByteArray) (⟨#[]⟩ : ByteArray) 0 false) else (if 0 < (a0.size : Int) then (if (bt a0 0) > 127 then (rec_read.j0 k a0 t138 true 0 0 (⟨#[]⟩ : ByteArray) (⟨#[]⟩ : ByteArray) 0 false) else (if 8 < (a0.size : Int) then (rec_read.j0 k a0 t138 (decide ((bt a0 8) > 127)) 0 0 (⟨#[]⟩ : ByteArray) (⟨#[]⟩ : ByteArray) 0 false) else (none))) else (none)))) else (none)) = some (r1, r2, r3, r4, r5, r6, r7) := H
   have A6 := Aside0.mk A60
   clear A60
   have HC7 := Aside0.mk H
   clear H
   go_enter Try.func66, Try.ntmps66
   go_upto_region 4 with (first | ((with_reducible refine gate_dst (N := 2) rfl ?_); (try (refine gate_guard (by rfl) ?_; dsimp only)); refine box_event ?hg (N := 2) ?hd (cs := #[.int .i64 0, .int .i64 0, .string (⟨#[]⟩ : ByteArray), .string (⟨#[]⟩ : ByteArray), .int .i64 0, .bool false]) (t := 25) ?hr ?_; (case hd => rfl); (case hg => rfl); (case hr => first | (go_simp; done) | (go_simp; rfl)); intro gb137 hg w8 hbox hb; have BK137 := Aside0.mk (hbox); have GW137 := Aside0.mk ((by rw [hg]; exact (below_size bo) : w.heap.size ≤ gb137)); have GE137 := Aside0.mk ((by rw [hg]; exact (below_size bo) : w.heap.size ≤ gb137)); replace HB := Aside0.mk (below_step bo hb); clear hb hbox hg) | ((with_reducible refine gate_callee (f := 64) rfl ?_); refine goesL_ (some 13) rfl rfl Try.func64 (by kernel_rfl) rfl #[.string (a0.extract 17 a0.size)] rfl aa ?_; (with_reducible refine (vbi_TakeTwo.calls k (a0.extract 17 a0.size) t138 t139 _ A6.out).mono ?_); rintro e w' ⟨rfl, ⟨nd, rfl⟩⟩; refine ⟨_, rfl, ?_⟩))
   (try simp only [Act.put, List.setIfInBounds_toArray, List.set_cons_zero, List.set_cons_succ])
   go_cut [35] (fun v35 wc => ∃ (kq : Nat) (x35_6 : Bool), v35 = .bool x35_6 ∧ Aside0 (rec_read.j0 kq a0 t138 x35_6 0 0 (⟨#[]⟩ : ByteArray) (⟨#[]⟩ : ByteArray) 0 false = some (r1, r2, r3, r4, r5, r6, r7)) ∧ Aside0 (kq ≤ k) ∧ Aside0 (wc.heap[gb137]? = some (.cells #[.int .i64 0, .int .i64 0, .string (⟨#[]⟩ : ByteArray), .string (⟨#[]⟩ : ByteArray), .int .i64 0, .bool false] 25 (0, 0))) ∧ Aside0 (Below w.heap.size w wc))
   case first =>
    have H := HC7.out
    clear HC7
    by_cases c9 : 16 < (a0.size : Int)
    ·rw [if_pos c9] at H
     have c9b0 : decide (16 < (a0.size : Int)) = true := decide_eq_true c9
     have c9b1 : decide (16 < a0.size) = true := decide_eq_true (by omega)
     clear c9
     (first | rw [c9b0] | (simp only [i64_w, i32_w]; rw [c9b0]) | skip)
     by_cases c11 : (bt a0 16) > 7
     ·rw [if_pos c11] at H
      have c11b0 : decide (7 < (bt a0 16)) = true := decide_eq_true c11
      clear c11
      have H' := Aside0.mk H
      clear H
      have p10 : 0 ≤ (16 : Int) := (by omega)
      have q10 : 16 < a0.size := (by have : (16 : Int) < (a0.size : Int) := od; omega)
      have hx10 : ∀ h : 16 < a0.size, ((a0[16]'h).toNat : Int) = bt a0 16 := bt_at a0 16
      clear p10
      have qi10 : (16 < (a0.size : Int)) = True := eq_true (od)
      replace q10 := eq_true q10
      go_wp2
      go_meet
      case rel => exact ⟨_, (true), ap, H', ⟨by first | omega | exact Nat.le_refl _⟩, ⟨by (with_reducible repeat (first | refine blk_drewN ?_ _ | refine blk_drew ?_ | refine blk_alloc ?_ _)); exact BK137.out⟩, ⟨bo⟩⟩
     ·rw [if_neg c11] at H
      have c11b0 : decide (7 < (bt a0 16)) = false := decide_eq_false c11
      clear c11
      by_cases c12 : t138 > (wrap64 ((a0.size : Int) - 19))
      ·rw [if_pos c12] at H
       have c12b0 : decide ((wrap64 ((a0.size : Int) - 19)) < t138) = true := decide_eq_true c12
       clear c12
       have H' := Aside0.mk H
       clear H
       have p10 : 0 ≤ (16 : Int) := (by omega)
       have q10 : 16 < a0.size := (by have : (16 : Int) < (a0.size : Int) := od; omega)
       have hx10 : ∀ h : 16 < a0.size, ((a0[16]'h).toNat : Int) = bt a0 16 := bt_at a0 16
       clear p10
       have qi10 : (16 < (a0.size : Int)) = True := eq_true (od)
       replace q10 := eq_true q10
       go_wp2
       go_meet
       case rel => exact ⟨_, (true), ap, H', ⟨by first | omega | exact Nat.le_refl _⟩, ⟨by (with_reducible repeat (first | refine blk_drewN ?_ _ | refine blk_drew ?_ | refine blk_alloc ?_ _)); exact BK137.out⟩, ⟨bo⟩⟩
      ·rw [if_neg c12] at H
       have c12b0 : decide ((wrap64 ((a0.size : Int) - 19)) < t138) = false := decide_eq_false c12
       clear c12
       by_cases c13 : 0 < (a0.size : Int)
       ·rw [if_pos c13] at H
        have c13b0 : decide (0 < (a0.size : Int)) = true := decide_eq_true c13
        have c13b1 : decide (0 < a0.size) = true := decide_eq_true (by omega)
        clear c13
        by_cases c15 : (bt a0 0) > 127
        ·rw [if_pos c15] at H
         have c15b0 : decide (127 < (bt a0 0)) = true := decide_eq_true c15
         clear c15
         have H' := Aside0.mk H
         clear H
         have p10 : 0 ≤ (16 : Int) := (by omega)
         have q10 : 16 < a0.size := (by have : (16 : Int) < (a0.size : Int) := od; omega)
         have hx10 : ∀ h : 16 < a0.size, ((a0[16]'h).toNat : Int) = bt a0 16 := bt_at a0 16
         clear p10
         have qi10 : (16 < (a0.size : Int)) = True := eq_true (od)
         replace q10 := eq_true q10
         have p14 : 0 ≤ (0 : Int) := (by omega)
         have q14 : 0 < a0.size := (by have : (0 : Int) < (a0.size : Int) := od; omega)
         have hx14 : ∀ h : 0 < a0.size, ((a0[0]'h).toNat : Int) = bt a0 0 := bt_at a0 0
         clear p14
         have qi14 : (0 < (a0.size : Int)) = True := eq_true (od)
         replace q14 := eq_true q14
         go_wp2
         go_meet
         case rel => exact ⟨_, (true), ap, H', ⟨by first | omega | exact Nat.le_refl _⟩, ⟨by (with_reducible repeat (first | refine blk_drewN ?_ _ | refine blk_drew ?_ | refine blk_alloc ?_ _)); exact BK137.out⟩, ⟨bo⟩⟩
        ·rw [if_neg c15] at H
         have c15b0 : decide (127 < (bt a0 0)) = false := decide_eq_false c15
         clear c15
         by_cases c16 : 8 < (a0.size : Int)
         ·rw [if_pos c16] at H
          have c16b0 : decide (8 < (a0.size : Int)) = true := decide_eq_true c16
          have c16b1 : decide (8 < a0.size) = true := decide_eq_true (by omega)
          clear c16
          have H' := Aside0.mk H
          clear H
          have p10 : 0 ≤ (16 : Int) := (by omega)
          have q10 : 16 < a0.size := (by have : (16 : Int) < (a0.size : Int) := od; omega)
          have hx10 : ∀ h : 16 < a0.size, ((a0[16]'h).toNat : Int) = bt a0 16 := bt_at a0 16
          clear p10
          have qi10 : (16 < (a0.size : Int)) = True := eq_true (od)
          replace q10 := eq_true q10
          have p14 : 0 ≤ (0 : Int) := (by omega)
          have q14 : 0 < a0.size := (by have : (0 : Int) < (a0.size : Int) := od; omega)
          have hx14 : ∀ h : 0 < a0.size, ((a0[0]'h).toNat : Int) = bt a0 0 := bt_at a0 0
          clear p14
          have qi14 : (0 < (a0.size : Int)) = True := eq_true (od)
          replace q14 := eq_true q14
          have p17 : 0 ≤ (8 : Int) := (by omega)
          have q17 : 8 < a0.size := (by have : (8 : Int) < (a0.size : Int) := od; omega)
          have hx17 : ∀ h : 8 < a0.size, ((a0[8]'h).toNat : Int) = bt a0 8 := bt_at a0 8
          clear p17
          have qi17 : (8 < (a0.size : Int)) = True := eq_true (od)
          replace q17 := eq_true q17
          go_wp2
          go_meet
          case rel => exact ⟨_, (decide ((bt a0 8) > 127)), ap, H', ⟨by first | omega | exact Nat.le_refl _⟩, ⟨by (with_reducible repeat (first | refine blk_drewN ?_ _ | refine blk_drew ?_ | refine blk_alloc ?_ _)); exact BK137.out⟩, ⟨bo⟩⟩
         ·rw [if_neg c16] at H
          exact absurd H (by simp)
       ·rw [if_neg c13] at H
        exact absurd H (by simp)
    ·rw [if_neg c9] at H
     exact absurd H (by simp)
   case rest =>
    clear HC7
    try clear c1
    try clear p1
    try clear q1
    try clear hx1
    try clear qi1
    try clear c2
    try clear c2b0
    try clear c2b1
    try clear p2
    try clear c5
    try clear c5b0
    try clear c5b1
    try clear c6
    try clear p6
    try clear c9
    try clear c9b0
    try clear c9b1
    try clear p10
    try clear q10
    try clear hx10
    try clear qi10
    try clear c11
    try clear c11b0
    try clear c12
    try clear c12b0
    try clear c13
    try clear c13b0
    try clear c13b1
    try clear p14
    try clear q14
    try clear hx14
    try clear qi14
    try clear c15
    try clear c15b0
    try clear c16
    try clear c16b0
    try clear c16b1
    try clear p17
    try clear q17
    try clear hx17
    try clear qi17
    try clear hcz4_0
    try clear hcz4_1
    try clear hcz4_2
    try clear hcz4_3
    try clear hcz4_4
    try clear hcz4_5
    try clear hfz4_0
    try clear hfz4_1
    try clear hfz4_2
    try clear hfz4_3
    try clear hfz4_4
    try clear hfz4_5
    try clear p10
    try clear p14
    try clear p17
    try clear q10
    try clear q14
    try clear q17
    obtain ⟨kq, x35_6, rfl, HA, HJ6, BK137, HB⟩ := hcut
    cases kq with
    | zero => exact absurd HA.out (by simp [rec_read.j0])
    | succ kj6 =>
     have H := HA.out
     clear HA
     simp only [rec_read.j0] at H
     by_cases c18 : x35_6 = true
     ·subst c18
      have H1 : (some (0, 0, (⟨#[]⟩ : ByteArray), (⟨#[]⟩ : ByteArray), 0, false, false)) = some (r1, r2, r3, r4, r5, r6, r7) := by rw [if_pos rfl] at H; exact H
      clear H
      have H := H1
      clear H1
      simp only [Option.some.injEq, Prod.mk.injEq] at H
      obtain ⟨rfl, rfl, rfl, rfl, rfl, rfl, rfl⟩ := H
      have hcz19_0 : wc.cell? ⟨gb137, 0, none⟩ = some (.int .i64 0) := (blk_cell BK137.out 0).trans rfl
      have hcz19_1 : wc.cell? ⟨gb137, 1, none⟩ = some (.int .i64 0) := (blk_cell BK137.out 1).trans rfl
      have hcz19_2 : wc.cell? ⟨gb137, 2, none⟩ = some (.string (⟨#[]⟩ : ByteArray)) := (blk_cell BK137.out 2).trans rfl
      have hcz19_3 : wc.cell? ⟨gb137, 3, none⟩ = some (.string (⟨#[]⟩ : ByteArray)) := (blk_cell BK137.out 3).trans rfl
      have hcz19_4 : wc.cell? ⟨gb137, 4, none⟩ = some (.int .i64 0) := (blk_cell BK137.out 4).trans rfl
      have hcz19_5 : wc.cell? ⟨gb137, 5, none⟩ = some (.bool false) := (blk_cell BK137.out 5).trans rfl
      have hfz19_0 := blk_frozen BK137.out 0
      have hfz19_1 := blk_frozen BK137.out 1
      have hfz19_2 := blk_frozen BK137.out 2
      have hfz19_3 := blk_frozen BK137.out 3
      have hfz19_4 := blk_frozen BK137.out 4
      have hfz19_5 := blk_frozen BK137.out 5
      go_wp2
      refine bodyPost_ret (results_ct rfl _ _ gb137 25 #[.int .i64 0, .int .i64 0, .string (⟨#[]⟩ : ByteArray), .string (⟨#[]⟩ : ByteArray), .int .i64 0, .bool false] (0, 0) _ rfl (by (with_reducible repeat (first | refine blk_drewN ?_ _ | refine blk_drew ?_ | refine blk_alloc ?_ _)); refine blk_put (cs := #[.int .i64 0, .int .i64 0, .string (⟨#[]⟩ : ByteArray), .string (⟨#[]⟩ : ByteArray), .int .i64 0, .bool false]) ?_ 5 _ rfl; (with_reducible repeat (first | refine blk_drewN ?_ _ | refine blk_drew ?_ | refine blk_alloc ?_ _)); refine blk_put (cs := #[.int .i64 0, .int .i64 0, .string (⟨#[]⟩ : ByteArray), .string (⟨#[]⟩ : ByteArray), .int .i64 0, .bool false]) ?_ 4 _ rfl; (with_reducible repeat (first | refine blk_drewN ?_ _ | refine blk_drew ?_ | refine blk_alloc ?_ _)); refine blk_put (cs := #[.int .i64 0, .int .i64 0, .string (⟨#[]⟩ : ByteArray), .string (⟨#[]⟩ : ByteArray), .int .i64 0, .bool false]) ?_ 3 _ rfl; (with_reducible repeat (first | refine blk_drewN ?_ _ | refine blk_drew ?_ | refine blk_alloc ?_ _)); refine blk_put (cs := #[.int .i64 0, .int .i64 0, .string (⟨#[]⟩ : ByteArray), .string (⟨#[]⟩ : ByteArray), .int .i64 0, .bool false]) ?_ 2 _ rfl; (with_reducible repeat (first | refine blk_drewN ?_ _ | refine blk_drew ?_ | refine blk_alloc ?_ _)); refine blk_put (cs := #[.int .i64 0, .int .i64 0, .string (⟨#[]⟩ : ByteArray), .string (⟨#[]⟩ : ByteArray), .int .i64 0, .bool false]) ?_ 1 _ rfl; (with_reducible repeat (first | refine blk_drewN ?_ _ | refine blk_drew ?_ | refine blk_alloc ?_ _)); refine blk_put (cs := #[.int .i64 0, .int .i64 0, .string (⟨#[]⟩ : ByteArray), .string (⟨#[]⟩ : ByteArray), .int .i64 0, .bool false]) ?_ 0 _ rfl; (with_reducible repeat (first | refine blk_drewN ?_ _ | refine blk_drew ?_ | refine blk_alloc ?_ _)); exact BK137.out) Try.underlying25 rfl (by kernel_rfl)) rfl ?_
      exact ⟨er, bo⟩
     ·replace c18 := Bool.eq_false_iff.mpr c18
      subst c18
      have H1 : ((rec_number.f kj6 a0).bind fun t140 => (if 8 ≤ (a0.size : Int) then ((rec_number.f kj6 (a0.extract 8 a0.size)).bind fun t141 => (if 19 ≤ (wrap64 (19 + t138)) then (if (wrap64 (19 + t138)) ≤ (a0.size : Int) then (if 0 ≤ (wrap64 (19 + t138)) then (if 16 < (a0.size : Int) then ((rec_Check.f kj6 t140 t141 (a0.extract 19 ((wrap64 (19 + t138)) : Int).toNat) (a0.extract ((wrap64 (19 + t138)) : Int).toNat a0.size) (wrap64 (Go.bits .and .u8 (bt a0 16) 3)) (decide ((Go.bits .and .u8 (bt a0 16) 4) > 0))).bind fun t142 => (some (t140, t141, a0.extract 19 ((wrap64 (19 + t138)) : Int).toNat, a0.extract ((wrap64 (19 + t138)) : Int).toNat a0.size, wrap64 (Go.bits .and .u8 (bt a0 16) 3), decide ((Go.bits .and .u8 (bt a0 16) 4) > 0), (t142 == 0)))) else (none)) else (none)) else (none)) else (none))) else (none))) = some (r1, r2, r3, r4, r5, r6, r7) := by rw [if_neg (show ¬ (false = true) by decide)] at H; exact H
      clear H
      have H := H1
      clear H1
      replace H := Option.bind_eq_some_iff.mp H
      obtain ⟨t140, A200, H⟩ := H
      replace H : (if 8 ≤ (a0.size : Int) then ((rec_number.f kj6 (a0.extract 8 a0.size)).bind fun t141 => (if 19 ≤ (wrap64 (19 + t138)) then (if (wrap64 (19 + t138)) ≤ (a0.size : Int) then (if 0 ≤ (wrap64 (19 + t138)) then (if 16 < (a0.size : Int) then ((rec_Check.f kj6 t140 t141 (a0.extract 19 ((wrap64 (19 + t138)) : Int).toNat) (a0.extract ((wrap64 (19 + t138)) : Int).toNat a0.size) (wrap64 (Go.bits .and .u8 (bt a0 16) 3)) (decide ((Go.bits .and .u8 (bt a0 16) 4) > 0))).bind fun t142 => (some (t140, t141, a0.extract 19 ((wrap64 (19 + t138)) : Int).toNat, a0.extract ((wrap64 (19 + t138)) : Int).toNat a0.size, wrap64 (Go.bits .and .u8 (bt a0 16) 3), decide ((Go.bits .and .u8 (bt a0 16) 4) > 0), (t142 == 0)))) else (none)) else (none)) else (none)) else (none))) else (none)) = some (r1, r2, r3, r4, r5, r6, r7) := H
      have A20 := Aside0.mk A200
      clear A200
      by_cases c21 : 8 ≤ (a0.size : Int)
      ·rw [if_pos c21] at H
       have c21b0 := eq_true c21
       have c21b1 : decide (8 ≤ (a0.size : Int)) = true := decide_eq_true c21
       clear c21
       replace H := Option.bind_eq_some_iff.mp H
       obtain ⟨t141, A220, H⟩ := H
       replace H : (if 19 ≤ (wrap64 (19 + t138)) then (if (wrap64 (19 + t138)) ≤ (a0.size : Int) then (if 0 ≤ (wrap64 (19 + t138)) then (if 16 < (a0.size : Int) then ((rec_Check.f kj6 t140 t141 (a0.extract 19 ((wrap64 (19 + t138)) : Int).toNat) (a0.extract ((wrap64 (19 + t138)) : Int).toNat a0.size) (wrap64 (Go.bits .and .u8 (bt a0 16) 3)) (decide ((Go.bits .and .u8 (bt a0 16) 4) > 0))).bind fun t142 => (some (t140, t141, a0.extract 19 ((wrap64 (19 + t138)) : Int).toNat, a0.extract ((wrap64 (19 + t138)) : Int).toNat a0.size, wrap64 (Go.bits .and .u8 (bt a0 16) 3), decide ((Go.bits .and .u8 (bt a0 16) 4) > 0), (t142 == 0)))) else (none)) else (none)) else (none)) else (none)) = some (r1, r2, r3, r4, r5, r6, r7) := H
       have A22 := Aside0.mk A220
       clear A220
       by_cases c23 : 19 ≤ (wrap64 (19 + t138))
       ·rw [if_pos c23] at H
        have c23b0 := eq_true c23
        have c23b1 : decide (19 ≤ (wrap64 (19 + t138))) = true := decide_eq_true c23
        by_cases c24 : (wrap64 (19 + t138)) ≤ (a0.size : Int)
        ·rw [if_pos c24] at H
         have c24b0 := eq_true c24
         have c24b1 : decide ((wrap64 (19 + t138)) ≤ (a0.size : Int)) = true := decide_eq_true c24
         obtain ⟨ji25, hji25⟩ : ∃ j_ : Int, (wrap64 (19 + t138)) = j_ := ⟨_, rfl⟩
         replace H : (if 0 ≤ (ji25) then (if 16 < (a0.size : Int) then ((rec_Check.f kj6 t140 t141 (a0.extract 19 ((ji25) : Int).toNat) (a0.extract ((ji25) : Int).toNat a0.size) (wrap64 (Go.bits .and .u8 (bt a0 16) 3)) (decide ((Go.bits .and .u8 (bt a0 16) 4) > 0))).bind fun t142 => (some (t140, t141, a0.extract 19 ((ji25) : Int).toNat, a0.extract ((ji25) : Int).toNat a0.size, wrap64 (Go.bits .and .u8 (bt a0 16) 3), decide ((Go.bits .and .u8 (bt a0 16) 4) > 0), (t142 == 0)))) else (none)) else (none)) = some (r1, r2, r3, r4, r5, r6, r7) := by first | (rw [hji25] at H; exact H) | (simp only [hji25] at H ⊢; exact H)
         (try rw [hji25] at c23b0)
         (try rw [hji25] at c23b1)
         (try rw [hji25] at c23)
         (try rw [hji25] at c24b0)
         (try rw [hji25] at c24b1)
         (try rw [hji25] at c24)
         (try rw [hji25] at A20)
         (try rw [hji25] at A22)
         have hji25w : (IntKind.i64.wrap (19 + t138)) = ji25 := (i64_w _).trans hji25
         by_cases c26 : 0 ≤ (ji25)
         ·rw [if_pos c26] at H
          have c26b0 := eq_true c26
          have c26b1 : decide (0 ≤ (ji25)) = true := decide_eq_true c26
          clear c26
          have c27b0 := eq_true (od : (ji25) ≤ (a0.size : Int))
          by_cases c28 : 16 < (a0.size : Int)
          ·rw [if_pos c28] at H
           have c28b0 : decide (16 < (a0.size : Int)) = true := decide_eq_true c28
           have c28b1 : decide (16 < a0.size) = true := decide_eq_true (by omega)
           clear c28
           replace H := Option.bind_eq_some_iff.mp H
           obtain ⟨t142, A310, H⟩ := H
           replace H : (some (t140, t141, a0.extract 19 ((ji25) : Int).toNat, a0.extract ((ji25) : Int).toNat a0.size, wrap64 (Go.bits .and .u8 (bt a0 16) 3), decide ((Go.bits .and .u8 (bt a0 16) 4) > 0), (t142 == 0))) = some (r1, r2, r3, r4, r5, r6, r7) := H
           have A31 := Aside0.mk A310
           clear A310
           simp only [Option.some.injEq, Prod.mk.injEq] at H
           obtain ⟨rfl, rfl, rfl, rfl, rfl, rfl, rfl⟩ := H
           try go_wp2
           replace BK137 := Aside0.mk (blk_drew BK137.out)
           replace HB := Aside0.mk (below_drew1 HB.out)
           have p29 : 0 ≤ (16 : Int) := (by omega)
           have q29 : 16 < a0.size := (by have : (16 : Int) < (a0.size : Int) := od; omega)
           have hx29 : ∀ h : 16 < a0.size, ((a0[16]'h).toNat : Int) = bt a0 16 := bt_at a0 16
           clear p29
           have qi29 : (16 < (a0.size : Int)) = True := eq_true (od)
           replace q29 := eq_true q29
           have p30 : 0 ≤ (16 : Int) := (by omega)
           have q30 : 16 < a0.size := (by have : (16 : Int) < (a0.size : Int) := od; omega)
           have hx30 : ∀ h : 16 < a0.size, ((a0[16]'h).toNat : Int) = bt a0 16 := bt_at a0 16
           clear p30
           have qi30 : (16 < (a0.size : Int)) = True := eq_true (od)
           replace q30 := eq_true q30
           refine start_ (n := 23) (S := fun w' => True) (ds := []) #[O,O,O,O,O,O,O,O,O,O,O,O,O,O,O,O,O,O,O,O,O,O,O] (by kernel_rfl) rfl rfl trivial (fun hHeld => ?_); refine with_tabW rec_read.tab6 rec_read.bits6 (fun HT_ HW_ => ?_)
           generalize wc.drew = w32 at BK137 HB hHeld ⊢
           refine pz (i := 0) (N := some 37) #[I,O,O,O,O,O,O,O,O,O,O,O,O,O,O,O,O,O,O,O,O,O,O] ?_
           refine pz (i := 2) (N := some 39) #[I,O,I,O,O,O,O,O,O,O,O,O,O,O,O,O,O,O,O,O,O,O,O] ?_
           refine pz (i := 3) (N := some 40) #[I,O,I,I,O,O,O,O,O,O,O,O,O,O,O,O,O,O,O,O,O,O,O] ?_
           refine pz (i := 5) (N := some 42) #[I,O,I,I,O,I,O,O,O,O,O,O,O,O,O,O,O,O,O,O,O,O,O] ?_
           refine pz (i := 6) (N := some 43) #[I,O,I,I,O,I,I,O,O,O,O,O,O,O,O,O,O,O,O,O,O,O,O] ?_
           refine pz (i := 7) (N := some 44) #[I,O,I,I,O,I,I,I,O,O,O,O,O,O,O,O,O,O,O,O,O,O,O] ?_
           refine pz (i := 8) (N := some 45) #[I,O,I,I,O,I,I,I,I,O,O,O,O,O,O,O,O,O,O,O,O,O,O] ?_
           refine pz (i := 9) (N := some 46) #[I,O,I,I,O,I,I,I,I,I,O,O,O,O,O,O,O,O,O,O,O,O,O] ?_
           refine pz (i := 10) (N := some 47) #[I,O,I,I,O,I,I,I,I,I,I,O,O,O,O,O,O,O,O,O,O,O,O] ?_
           refine pz (i := 11) (N := some 48) #[I,O,I,I,O,I,I,I,I,I,I,I,O,O,O,O,O,O,O,O,O,O,O] ?_
           refine pz (i := 12) (N := some 49) #[I,O,I,I,O,I,I,I,I,I,I,I,I,O,O,O,O,O,O,O,O,O,O] ?_
           refine pz (i := 13) (N := some 50) #[I,O,I,I,O,I,I,I,I,I,I,I,I,I,O,O,O,O,O,O,O,O,O] ?_
           refine pz (i := 17) (N := some 54) #[I,O,I,I,O,I,I,I,I,I,I,I,I,I,O,O,O,I,O,O,O,O,O] ?_
           refine take_ (i := 14) (N := some 51) (v := ?_) (a' := ?_) #[I,O,I,I,O,I,I,I,I,I,I,I,I,I,I,O,O,I,O,O,O,O,O] rfl rfl (take_ofW HT_.out HW_.out (by kernel_rfl)) (fun _ _ _ h => h) (Or.inl ⟨by rfl, ?_⟩) hHeld ?_ ?_
           rotate_left
           ·intro w' _
            go_simp
            with_reducible rfl
           rotate_left
           ·simp only [Act.put, List.setIfInBounds_toArray, List.set_cons_zero, List.set_cons_succ, i64_w, i32_w]
            rfl
           refine pz (i := 15) (N := some 52) #[I,O,I,I,O,I,I,I,I,I,I,I,I,I,I,I,O,I,O,O,O,O,O] ?_
           refine pz (i := 16) (N := some 53) #[I,O,I,I,O,I,I,I,I,I,I,I,I,I,I,I,I,I,O,O,O,O,O] ?_
           refine take_ (i := 18) (N := some 55) (v := ?_) (a' := ?_) #[I,O,I,I,O,I,I,I,I,I,I,I,I,I,I,I,I,I,I,O,O,O,O] rfl rfl (take_ofW HT_.out HW_.out (by kernel_rfl)) (fun _ _ _ h => h) (Or.inl ⟨by rfl, ?_⟩) hHeld ?_ ?_
           rotate_left
           ·intro w' _
            go_simp
            with_reducible rfl
           rotate_left
           ·simp only [Act.put, List.setIfInBounds_toArray, List.set_cons_zero, List.set_cons_succ, i64_w, i32_w]
            rfl
           refine pz (i := 19) (N := some 56) #[I,O,I,I,O,I,I,I,I,I,I,I,I,I,I,I,I,I,I,I,O,O,O] ?_
           refine pz (i := 20) (N := some 57) #[I,O,I,I,O,I,I,I,I,I,I,I,I,I,I,I,I,I,I,I,I,O,O] ?_
           refine one_ (i := 1) (N := some 38) #[I,I,I,I,O,I,I,I,I,I,I,I,I,I,I,I,I,I,I,I,I,O,O] rfl rfl (one_of HT_.out (by kernel_rfl)) (by decide) (fun K hK => ?_)
           refine goes_ Try.func83 (by kernel_rfl) rfl #[.string a0] (by rfl) rfl rfl aa ?_
           with_reducible refine (rec_number.calls kj6 a0 t140 _ A20.out).mono ?_
           rintro e w' ⟨rfl, ⟨nd, rfl⟩⟩
           refine ⟨_, rfl, ?_⟩
           refine hK.out _ _ trivial (fun hHeld => ?_)
           clear hK K
           refine norm_ (a' := ?_) ?_ ?_
           rotate_left
           ·show Act.put _ (some 38) _ = _
            simp only [Act.put, List.setIfInBounds_toArray, List.set_cons_zero, List.set_cons_succ, i64_w, i32_w]
            rfl
           refine one_ (i := 4) (N := some 41) #[I,I,I,I,I,I,I,I,I,I,I,I,I,I,I,I,I,I,I,I,I,O,O] rfl rfl (one_of HT_.out (by kernel_rfl)) (by decide) (fun K hK => ?_)
           refine goes_ Try.func83 (by kernel_rfl) rfl #[.string (a0.extract 8 a0.size)] (by rfl) rfl rfl aa ?_
           with_reducible refine (rec_number.calls kj6 (a0.extract 8 a0.size) t141 _ A22.out).mono ?_
           rintro e w' ⟨rfl, ⟨nd, rfl⟩⟩
           refine ⟨_, rfl, ?_⟩
           refine hK.out _ _ trivial (fun hHeld => ?_)
           clear hK K
           refine norm_ (a' := ?_) ?_ ?_
           rotate_left
           ·show Act.put _ (some 41) _ = _
            simp only [Act.put, List.setIfInBounds_toArray, List.set_cons_zero, List.set_cons_succ, i64_w, i32_w]
            rfl
           refine pz (i := 21) (N := some 58) #[I,I,I,I,I,I,I,I,I,I,I,I,I,I,I,I,I,I,I,I,I,I,O] ?_
           refine one_ (i := 22) (N := none) #[I,I,I,I,I,I,I,I,I,I,I,I,I,I,I,I,I,I,I,I,I,I,I] rfl rfl (one_of HT_.out (by kernel_rfl)) (by decide) (fun K hK => ?_)
           have hs33 : w32.cell? ⟨gb137, 0, none⟩ = some (.int .i64 0) := (blk_cell BK137.out 0).trans rfl
           have hfs33 := blk_frozen BK137.out 0
           have hs34 : w32.cell? ⟨gb137, 1, none⟩ = some (.int .i64 0) := (blk_cell BK137.out 1).trans rfl
           have hfs34 := blk_frozen BK137.out 1
           have hs35 : w32.cell? ⟨gb137, 2, none⟩ = some (.string (⟨#[]⟩ : ByteArray)) := (blk_cell BK137.out 2).trans rfl
           have hfs35 := blk_frozen BK137.out 2
           have hs36 : w32.cell? ⟨gb137, 3, none⟩ = some (.string (⟨#[]⟩ : ByteArray)) := (blk_cell BK137.out 3).trans rfl
           have hfs36 := blk_frozen BK137.out 3
           have hs37 : w32.cell? ⟨gb137, 4, none⟩ = some (.int .i64 0) := (blk_cell BK137.out 4).trans rfl
           have hfs37 := blk_frozen BK137.out 4
           have hs38 : w32.cell? ⟨gb137, 5, none⟩ = some (.bool false) := (blk_cell BK137.out 5).trans rfl
           have hfs38 := blk_frozen BK137.out 5
           refine skip_ (w1 := ?_) (by rfl) rfl ?_ ?_
           rotate_left
           ·go_simp
            rfl
           refine hK.out _ _ trivial (fun hHeld => ?_)
           clear hK K
           refine done_ (done_of HT_.out (by kernel_rfl)) ?_
           try go_wp2
           (try (rw [drewN_self w32]; generalize hq_ : World.drewN w32 _ = w32; have n0_ := Aside0.mk (blk_at hq_ BK137.out); have n1_ := Aside0.mk (below_at hq_ HB.out); clear hq_ BK137 HB; have BK137 := n0_; have HB := n1_; clear n0_ n1_))
           have n0_ : Aside0 (((((((w32.setCell ⟨gb137, 0, none⟩ (.int .i64 t140)).setCell ⟨gb137, 1, none⟩ (.int .i64 t141)).setCell ⟨gb137, 2, none⟩ (.string (a0.extract 19 ((ji25) : Int).toNat))).setCell ⟨gb137, 3, none⟩ (.string (a0.extract ((ji25) : Int).toNat a0.size))).setCell ⟨gb137, 4, none⟩ (.int .i64 (wrap64 (Go.bits .and .u8 (bt a0 16) 3)))).setCell ⟨gb137, 5, none⟩ (.bool (decide ((Go.bits .and .u8 (bt a0 16) 4) > 0)))).heap[gb137]? = some (.cells #[.int .i64 t140, .int .i64 t141, .string (a0.extract 19 ((ji25) : Int).toNat), .string (a0.extract ((ji25) : Int).toNat a0.size), .int .i64 (wrap64 (Go.bits .and .u8 (bt a0 16) 3)), .bool (decide ((Go.bits .and .u8 (bt a0 16) 4) > 0))] 25 (0, 0))) := ⟨by (with_reducible repeat (first | refine blk_drewN ?_ _ | refine blk_drew ?_ | refine blk_alloc ?_ _)); refine blk_put (cs := #[.int .i64 t140, .int .i64 t141, .string (a0.extract 19 ((ji25) : Int).toNat), .string (a0.extract ((ji25) : Int).toNat a0.size), .int .i64 (wrap64 (Go.bits .and .u8 (bt a0 16) 3)), .bool false]) ?_ 5 _ rfl; (with_reducible repeat (first | refine blk_drewN ?_ _ | refine blk_drew ?_ | refine blk_alloc ?_ _)); refine blk_put (cs := #[.int .i64 t140, .int .i64 t141, .string (a0.extract 19 ((ji25) : Int).toNat), .string (a0.extract ((ji25) : Int).toNat a0.size), .int .i64 0, .bool false]) ?_ 4 _ rfl; (with_reducible repeat (first | refine blk_drewN ?_ _ | refine blk_drew ?_ | refine blk_alloc ?_ _)); refine blk_put (cs := #[.int .i64 t140, .int .i64 t141, .string (a0.extract 19 ((ji25) : Int).toNat), .string (⟨#[]⟩ : ByteArray), .int .i64 0, .bool false]) ?_ 3 _ rfl; (with_reducible repeat (first | refine blk_drewN ?_ _ | refine blk_drew ?_ | refine blk_alloc ?_ _)); refine blk_put (cs := #[.int .i64 t140, .int .i64 t141, .string (⟨#[]⟩ : ByteArray), .string (⟨#[]⟩ : ByteArray), .int .i64 0, .bool false]) ?_ 2 _ rfl; (with_reducible repeat (first | refine blk_drewN ?_ _ | refine blk_drew ?_ | refine blk_alloc ?_ _)); refine blk_put (cs := #[.int .i64 t140, .int .i64 0, .string (⟨#[]⟩ : ByteArray), .string (⟨#[]⟩ : ByteArray), .int .i64 0, .bool false]) ?_ 1 _ rfl; (with_reducible repeat (first | refine blk_drewN ?_ _ | refine blk_drew ?_ | refine blk_alloc ?_ _)); refine blk_put (cs := #[.int .i64 0, .int .i64 0, .string (⟨#[]⟩ : ByteArray), .string (⟨#[]⟩ : ByteArray), .int .i64 0, .bool false]) ?_ 0 _ rfl; (with_reducible repeat (first | refine blk_drewN ?_ _ | refine blk_drew ?_ | refine blk_alloc ?_ _)); exact BK137.out⟩
           have n1_ : Aside0 (Below w.heap.size w ((((((w32.setCell ⟨gb137, 0, none⟩ (.int .i64 t140)).setCell ⟨gb137, 1, none⟩ (.int .i64 t141)).setCell ⟨gb137, 2, none⟩ (.string (a0.extract 19 ((ji25) : Int).toNat))).setCell ⟨gb137, 3, none⟩ (.string (a0.extract ((ji25) : Int).toNat a0.size))).setCell ⟨gb137, 4, none⟩ (.int .i64 (wrap64 (Go.bits .and .u8 (bt a0 16) 3)))).setCell ⟨gb137, 5, none⟩ (.bool (decide ((Go.bits .and .u8 (bt a0 16) 4) > 0))))) := ⟨bo⟩
           (try clear BK137)
           (try clear HB)
           generalize ((((((w32.setCell ⟨gb137, 0, none⟩ (.int .i64 t140)).setCell ⟨gb137, 1, none⟩ (.int .i64 t141)).setCell ⟨gb137, 2, none⟩ (.string (a0.extract 19 ((ji25) : Int).toNat))).setCell ⟨gb137, 3, none⟩ (.string (a0.extract ((ji25) : Int).toNat a0.size))).setCell ⟨gb137, 4, none⟩ (.int .i64 (wrap64 (Go.bits .and .u8 (bt a0 16) 3)))).setCell ⟨gb137, 5, none⟩ (.bool (decide ((Go.bits .and .u8 (bt a0 16) 4) > 0)))) = w39 at n0_ n1_ ⊢
           have BK137 := n0_
           have HB := n1_
           clear n0_ n1_
           (try (rw [drewN_self w39]; generalize hq_ : World.drewN w39 _ = w39; have n0_ : Aside0 (w39.heap[gb137]? = some (.cells #[.int .i64 t140, .int .i64 t141, .string (a0.extract 19 ((ji25) : Int).toNat), .string (a0.extract ((ji25) : Int).toNat a0.size), .int .i64 (wrap64 (Go.bits .and .u8 (bt a0 16) 3)), .bool (decide ((Go.bits .and .u8 (bt a0 16) 4) > 0))] 25 (0, 0))) := ⟨by rw [← hq_]; exact (bk BK137.out)⟩; have n1_ : Aside0 (Below w.heap.size w w39) := ⟨by rw [← hq_]; exact bo⟩; clear BK137 HB hq_; have BK137 := n0_; have HB := n1_; clear n0_ n1_))
           replace BK137 := Aside0.mk (blk_drew BK137.out)
           replace HB := Aside0.mk (below_drew1 HB.out)
           refine start_ (n := 6) (S := fun w' => w'.cell? ⟨gb137, 0, none⟩ = some (.int .i64 t140) ∧ w'.cell? ⟨gb137, 1, none⟩ = some (.int .i64 t141) ∧ w'.cell? ⟨gb137, 2, none⟩ = some (.string (a0.extract 19 ((ji25) : Int).toNat)) ∧ w'.cell? ⟨gb137, 3, none⟩ = some (.string (a0.extract ((ji25) : Int).toNat a0.size)) ∧ w'.cell? ⟨gb137, 4, none⟩ = some (.int .i64 (wrap64 (Go.bits .and .u8 (bt a0 16) 3))) ∧ w'.cell? ⟨gb137, 5, none⟩ = some (.bool (decide ((Go.bits .and .u8 (bt a0 16) 4) > 0)))) (ds := [4]) #[O,O,O,O,O,O] (by kernel_rfl) rfl rfl ⟨(blk_cell BK137.out 0).trans rfl, (blk_cell BK137.out 1).trans rfl, (blk_cell BK137.out 2).trans rfl, (blk_cell BK137.out 3).trans rfl, (blk_cell BK137.out 4).trans rfl, (blk_cell BK137.out 5).trans rfl⟩ (fun hHeld => ?_)
           generalize w39.drew = w40 at BK137 HB hHeld ⊢
           refine take_ (i := 0) (N := some 59) (v := ?_) (a' := ?_) #[I,O,O,O,O,O] rfl rfl (by kernel_rfl) (fun _ _ _ h => h) (Or.inl ⟨by rfl, ?_⟩) hHeld ?_ ?_
           rotate_left
           ·rintro w' ⟨s0, s1, s2, s3, s4, s5⟩
            go_simp
            with_reducible rfl
           rotate_left
           ·simp only [Act.put, List.setIfInBounds_toArray, List.set_cons_zero, List.set_cons_succ, i64_w, i32_w]
            rfl
           refine take_ (i := 1) (N := some 60) (v := ?_) (a' := ?_) #[I,I,O,O,O,O] rfl rfl (by kernel_rfl) (fun _ _ _ h => h) (Or.inl ⟨by rfl, ?_⟩) hHeld ?_ ?_
           rotate_left
           ·rintro w' ⟨s0, s1, s2, s3, s4, s5⟩
            go_simp
            with_reducible rfl
           rotate_left
           ·simp only [Act.put, List.setIfInBounds_toArray, List.set_cons_zero, List.set_cons_succ, i64_w, i32_w]
            rfl
           refine one_ (i := 2) (N := some 61) #[I,I,I,O,O,O] rfl rfl (by kernel_rfl) (by decide) (fun K hK => ?_)
           refine goes_ Try.func22 (by kernel_rfl) rfl #[.agg #[.int .i64 t140, .int .i64 t141, .string (a0.extract 19 ((ji25) : Int).toNat), .string (a0.extract ((ji25) : Int).toNat a0.size), .int .i64 (wrap64 (Go.bits .and .u8 (bt a0 16) 3)), .bool (decide ((Go.bits .and .u8 (bt a0 16) 4) > 0))]] (by rfl) rfl rfl (by (try simp only [List.map_toArray, List.map_cons, List.map_nil]); first | done | (simp only [hji25]; rfl) | rfl | (simp only [List.length_drop, List.length_take]; rfl) | (simp only [ByteArray.size_append]; rfl) | (simp; done)) ?_
           with_reducible refine (rec_Check.calls kj6 t140 t141 (a0.extract 19 ((ji25) : Int).toNat) (a0.extract ((ji25) : Int).toNat a0.size) (wrap64 (Go.bits .and .u8 (bt a0 16) 3)) (decide ((Go.bits .and .u8 (bt a0 16) 4) > 0)) t142 _ A31.out).mono ?_
           rintro e w41 ⟨rfl, hb⟩
           refine ⟨_, rfl, ?_⟩
           replace BK137 := Aside0.mk (blk_below (g := gb137) (o := .cells #[.int .i64 t140, .int .i64 t141, .string (a0.extract 19 ((ji25) : Int).toNat), .string (a0.extract ((ji25) : Int).toNat a0.size), .int .i64 (wrap64 (Go.bits .and .u8 (bt a0 16) 3)), .bool (decide ((Go.bits .and .u8 (bt a0 16) 4) > 0))] 25 (0, 0)) (bk BK137.out) hb)
           replace HB := Aside0.mk (below_step bo hb)
           (try clear hb)
           (try clear hb2)
           (try clear hk)
           (try clear hi)
           refine hK.out _ _ ⟨(blk_cell BK137.out 0).trans rfl, (blk_cell BK137.out 1).trans rfl, (blk_cell BK137.out 2).trans rfl, (blk_cell BK137.out 3).trans rfl, (blk_cell BK137.out 4).trans rfl, (blk_cell BK137.out 5).trans rfl⟩ (fun hHeld => ?_)
           clear hK K
           refine norm_ (a' := ?_) ?_ ?_
           rotate_left
           ·show Act.put _ (some 61) _ = _
            simp only [Act.put, List.setIfInBounds_toArray, List.set_cons_zero, List.set_cons_succ, i64_w, i32_w]
            rfl
           refine pure_ (i := 3) (N := some 62) (v := ?_) (a' := ?_) #[I,I,I,I,O,O] rfl rfl (by kernel_rfl) (fun _ _ _ h => h) (Or.inl ⟨by rfl, ?_⟩) ?_ ?_
           rotate_left
           ·intro w'
            go_simp
            with_reducible rfl
           rotate_left
           ·simp only [Act.put, List.setIfInBounds_toArray, List.set_cons_zero, List.set_cons_succ, i64_w, i32_w]
            rfl
           refine last_ (i := 4) (N := none) #[I,I,I,I,I,O] rfl rfl (by kernel_rfl) (by decide) (fun K hK => ?_)
           have hs42 : w41.cell? ⟨gb137, 0, none⟩ = some (.int .i64 t140) := (blk_cell BK137.out 0).trans rfl
           have hfs42 := blk_frozen BK137.out 0
           have hs43 : w41.cell? ⟨gb137, 1, none⟩ = some (.int .i64 t141) := (blk_cell BK137.out 1).trans rfl
           have hfs43 := blk_frozen BK137.out 1
           have hs44 : w41.cell? ⟨gb137, 2, none⟩ = some (.string (a0.extract 19 ((ji25) : Int).toNat)) := (blk_cell BK137.out 2).trans rfl
           have hfs44 := blk_frozen BK137.out 2
           have hs45 : w41.cell? ⟨gb137, 3, none⟩ = some (.string (a0.extract ((ji25) : Int).toNat a0.size)) := (blk_cell BK137.out 3).trans rfl
           have hfs45 := blk_frozen BK137.out 3
           have hs46 : w41.cell? ⟨gb137, 4, none⟩ = some (.int .i64 (wrap64 (Go.bits .and .u8 (bt a0 16) 3))) := (blk_cell BK137.out 4).trans rfl
           have hfs46 := blk_frozen BK137.out 4
           have hs47 : w41.cell? ⟨gb137, 5, none⟩ = some (.bool (decide ((Go.bits .and .u8 (bt a0 16) 4) > 0))) := (blk_cell BK137.out 5).trans rfl
           have hfs47 := blk_frozen BK137.out 5
           refine skip_ (w1 := ?_) (by rfl) rfl ?_ ?_
           rotate_left
           ·go_simp
            rfl
           refine hK.out _ _ ?_
           clear hK K
           refine pure_ (i := 5) (N := some 3) (v := ?_) (a' := ?_) #[I,I,I,I,I,I] rfl rfl (by kernel_rfl) (fun _ _ _ h => h) (Or.inl ⟨by rfl, ?_⟩) ?_ ?_
           rotate_left
           ·intro w'
            go_simp
            with_reducible rfl
           rotate_left
           ·simp only [Act.put, List.setIfInBounds_toArray, List.set_cons_zero, List.set_cons_succ, i64_w, i32_w]
            rfl
           refine done_ (by kernel_rfl) ?_
           try go_wp2
           refine bodyPost_ret (results_ct rfl _ _ gb137 25 #[.int .i64 t140, .int .i64 t141, .string (a0.extract 19 ((ji25) : Int).toNat), .string (a0.extract ((ji25) : Int).toNat a0.size), .int .i64 (wrap64 (Go.bits .and .u8 (bt a0 16) 3)), .bool (decide ((Go.bits .and .u8 (bt a0 16) 4) > 0))] (0, 0) _ rfl (by (with_reducible repeat (first | refine blk_drewN ?_ _ | refine blk_drew ?_ | refine blk_alloc ?_ _)); refine blk_put (cs := #[.int .i64 t140, .int .i64 t141, .string (a0.extract 19 ((ji25) : Int).toNat), .string (a0.extract ((ji25) : Int).toNat a0.size), .int .i64 (wrap64 (Go.bits .and .u8 (bt a0 16) 3)), .bool (decide ((Go.bits .and .u8 (bt a0 16) 4) > 0))]) ?_ 5 _ rfl; (with_reducible repeat (first | refine blk_drewN ?_ _ | refine blk_drew ?_ | refine blk_alloc ?_ _)); refine blk_put (cs := #[.int .i64 t140, .int .i64 t141, .string (a0.extract 19 ((ji25) : Int).toNat), .string (a0.extract ((ji25) : Int).toNat a0.size), .int .i64 (wrap64 (Go.bits .and .u8 (bt a0 16) 3)), .bool (decide ((Go.bits .and .u8 (bt a0 16) 4) > 0))]) ?_ 4 _ rfl; (with_reducible repeat (first | refine blk_drewN ?_ _ | refine blk_drew ?_ | refine blk_alloc ?_ _)); refine blk_put (cs := #[.int .i64 t140, .int .i64 t141, .string (a0.extract 19 ((ji25) : Int).toNat), .string (a0.extract ((ji25) : Int).toNat a0.size), .int .i64 (wrap64 (Go.bits .and .u8 (bt a0 16) 3)), .bool (decide ((Go.bits .and .u8 (bt a0 16) 4) > 0))]) ?_ 3 _ rfl; (with_reducible repeat (first | refine blk_drewN ?_ _ | refine blk_drew ?_ | refine blk_alloc ?_ _)); refine blk_put (cs := #[.int .i64 t140, .int .i64 t141, .string (a0.extract 19 ((ji25) : Int).toNat), .string (a0.extract ((ji25) : Int).toNat a0.size), .int .i64 (wrap64 (Go.bits .and .u8 (bt a0 16) 3)), .bool (decide ((Go.bits .and .u8 (bt a0 16) 4) > 0))]) ?_ 2 _ rfl; (with_reducible repeat (first | refine blk_drewN ?_ _ | refine blk_drew ?_ | refine blk_alloc ?_ _)); refine blk_put (cs := #[.int .i64 t140, .int .i64 t141, .string (a0.extract 19 ((ji25) : Int).toNat), .string (a0.extract ((ji25) : Int).toNat a0.size), .int .i64 (wrap64 (Go.bits .and .u8 (bt a0 16) 3)), .bool (decide ((Go.bits .and .u8 (bt a0 16) 4) > 0))]) ?_ 1 _ rfl; (with_reducible repeat (first | refine blk_drewN ?_ _ | refine blk_drew ?_ | refine blk_alloc ?_ _)); refine blk_put (cs := #[.int .i64 t140, .int .i64 t141, .string (a0.extract 19 ((ji25) : Int).toNat), .string (a0.extract ((ji25) : Int).toNat a0.size), .int .i64 (wrap64 (Go.bits .and .u8 (bt a0 16) 3)), .bool (decide ((Go.bits .and .u8 (bt a0 16) 4) > 0))]) ?_ 0 _ rfl; (with_reducible repeat (first | refine blk_drewN ?_ _ | refine blk_drew ?_ | refine blk_alloc ?_ _)); exact BK137.out) Try.underlying25 rfl (by kernel_rfl)) rfl ?_
           exact ⟨by first | rfl | (simp [errW_none, errW_some] <;> rfl) | (simp only [← hji25]; first | rfl | (simp [errW_none, errW_some] <;> rfl)) | (simp [*, errW_none, errW_some] <;> rfl), bo⟩
          ·rw [if_neg c28] at H
           exact absurd H (by simp)
         ·rw [if_neg c26] at H
          exact absurd H (by simp)
        ·rw [if_neg c24] at H
         exact absurd H (by simp)
       ·rw [if_neg c23] at H
        exact absurd H (by simp)
      ·rw [if_neg c21] at H
       exact absurd H (by simp)
  ·rw [if_neg c5] at H
   exact absurd H (by simp)

end Go.Proofs.Ytmabdfdmccbfnaa.P

-- written by a program of the proving session, out of the translation; Lean checks it
namespace Go.Proofs.Ytmabdfdmccbfnaa.P
open Go.RowKit Go.Proofs.Ytmabdfdmccbfnaa.Sq Go.Proofs.YtmabdfdmccbfnaaW.PrintWords Go.Proofs.YtmabdfdmccbfnaaW.PrintLast Go.Proofs.YtmabdfdmccbfnaaW.PrintMore
attribute [local go_sem] max2_int min2_int max_two min_two max_three min_three max_four min_four   -- for this text's walks alone
set_option linter.unusedVariables false
set_option linter.unusedSimpArgs false

/-! ### rec_Take: function 16 -/
def rec_Take.j0 : Nat → ByteArray → Int → Bool → Int → Int → ByteArray → ByteArray → Int → Bool → Option (Int × Int × ByteArray × ByteArray × Int × Bool × Int × Int)
 | 0, _, _, _, _, _, _, _, _, _ => none
 | k + 1, x0, x5, x25, x144000, x144001, x144002, x144003, x144004, x144005 => if x25 = true then (some (x144000, x144001, x144002, x144003, x144004, x144005, 0, 7)) else (if 2 ≤ (x0.size : Int) then ((vbi_TakeFour.f k (x0.extract 2 x0.size)).bind fun bt146 => (if 6 ≤ (wrap64 (6 + x5)) then (if (wrap64 (6 + x5)) ≤ (x0.size : Int) then ((rec_read.f k (x0.extract 6 ((wrap64 (6 + x5)) : Int).toNat)).bind fun bt148 => (if bt148.2.2.2.2.2.2 = true then (if 0 ≤ 2 then ((sum_Sum.f k 0 (x0.extract 0 2)).bind fun t155 => ((sum_Sum.f k t155 (x0.extract 6 ((wrap64 (6 + x5)) : Int).toNat)).bind fun t156 => (if (wrap64 (t156)) = bt146.1 then (some (bt148.1, bt148.2.1, bt148.2.2.1, bt148.2.2.2.1, bt148.2.2.2.2.1, bt148.2.2.2.2.2.1, wrap64 (6 + x5), 0)) else (some (0, 0, (⟨#[]⟩ : ByteArray), (⟨#[]⟩ : ByteArray), 0, false, 0, 8))))) else (none)) else (some (0, 0, (⟨#[]⟩ : ByteArray), (⟨#[]⟩ : ByteArray), 0, false, 0, 8)))) else (none)) else (none))) else (none))
def rec_Take.f (k : Nat) (a0 : ByteArray) : Option (Int × Int × ByteArray × ByteArray × Int × Bool × Int × Int) := (vbi_TakeTwo.f k a0).bind fun bt144 => (if (a0.size : Int) < 6 then (rec_Take.j0 k a0 bt144.1 true 0 0 (⟨#[]⟩ : ByteArray) (⟨#[]⟩ : ByteArray) 0 false) else (rec_Take.j0 k a0 bt144.1 (decide ((wrap64 ((a0.size : Int) - 6)) < bt144.1)) 0 0 (⟨#[]⟩ : ByteArray) (⟨#[]⟩ : ByteArray) 0 false))
theorem rec_Take.mono_l : ∀ k, (∀ y0 y1 y2 y3 y4 y5 y6 y7 y8, LeO (rec_Take.j0 k y0 y1 y2 y3 y4 y5 y6 y7 y8) (rec_Take.j0 (k + 1) y0 y1 y2 y3 y4 y5 y6 y7 y8))
 | 0 => fun _ _ _ _ _ _ _ _ _ r h => by simp [rec_Take.j0] at h
 | k + 1 => by
  have ih0 := rec_Take.mono_l k
  ·intro y0 y1 y2 y3 y4 y5 y6 y7 y8
   unfold rec_Take.j0
   repeat' first
   | (with_reducible exact ih0 _ _ _ _ _ _ _ _ _)
   | (with_reducible exact rec_read.mono _ _)
   | (with_reducible exact sum_Sum.mono _ _ _)
   | (with_reducible exact vbi_TakeFour.mono _ _)
   | (with_reducible exact vbi_TakeTwo.mono _ _)
   | (with_reducible exact LeO.refl _)
   | (with_reducible exact LeO.none _)
   | (with_reducible refine LeO.ite ?_ ?_)
   | (with_reducible refine LeO.bind ?_ (fun _ => ?_))
   | exact ih0 _ _ _ _ _ _ _ _ _
   | exact rec_read.mono _ _
   | exact sum_Sum.mono _ _ _
   | exact vbi_TakeFour.mono _ _
   | exact vbi_TakeTwo.mono _ _
   | exact LeO.none _
   | refine LeO.ite ?_ ?_
   | refine LeO.bind ?_ (fun _ => ?_)
theorem rec_Take.mono : ∀ a0 k, LeO (rec_Take.f k a0) (rec_Take.f (k + 1) a0) := by
 intro a0 k
 have ih0 := rec_Take.mono_l k
 unfold rec_Take.f
 repeat' first
  | (with_reducible exact ih0 _ _ _ _ _ _ _ _ _)
  | (with_reducible exact rec_read.mono _ _)
  | (with_reducible exact sum_Sum.mono _ _ _)
  | (with_reducible exact vbi_TakeFour.mono _ _)
  | (with_reducible exact vbi_TakeTwo.mono _ _)
  | (with_reducible exact LeO.refl _)
  | (with_reducible exact LeO.none _)
  | (with_reducible refine LeO.ite ?_ ?_)
  | (with_reducible refine LeO.bind ?_ (fun _ => ?_))
  | exact ih0 _ _ _ _ _ _ _ _ _
  | exact rec_read.mono _ _
  | exact sum_Sum.mono _ _ _
  | exact vbi_TakeFour.mono _ _
  | exact vbi_TakeTwo.mono _ _
  | exact LeO.none _
  | refine LeO.ite ?_ ?_
  | refine LeO.bind ?_ (fun _ => ?_)
set_option maxHeartbeats 8000000 in
set_option maxRecDepth 100000 in
theorem rec_Take.calls (k : Nat) (a0 : ByteArray) (r1 : Int) (r2 : Int) (r3 : ByteArray) (r4 : ByteArray) (r5 : Int) (r6 : Bool) (r7 : Int) (r8 : Int) (w : World) (h : rec_Take.f k a0 = some (r1, r2, r3, r4, r5, r6, r7, r8)) :
 Calls Try.prog 16 #[.string a0] w fun e w' => e = .returned (.tuple #[.agg #[.int .i64 r1, .int .i64 r2, .string r3, .string r4, .int .i64 r5, .bool r6], .int .i64 r7, .int .i64 r8]) ∧ Below w.heap.size w w' := by
 have hu25 := Try.underlying25
 have HB := Aside0.mk (Below.refl w.heap.size w)
 have H : ((vbi_TakeTwo.f k a0).bind fun bt144 => (if (a0.size : Int) < 6 then (rec_Take.j0 k a0 bt144.1 true 0 0 (⟨#[]⟩ : ByteArray) (⟨#[]⟩ : ByteArray) 0 false) else (rec_Take.j0 k a0 bt144.1 (decide ((wrap64 ((a0.size : Int) - 6)) < bt144.1)) 0 0 (⟨#[]⟩ : ByteArray) (⟨#[]⟩ : ByteArray) 0 false))) = some (r1, r2, r3, r4, r5, r6, r7, r8) := h
 clear h
 replace H := Option.bind_eq_some_iff.mp H
 obtain ⟨⟨t144, t145⟩, A20, H⟩ := H
 replace H : (if (a0.size : Int) < 6 then (rec_Take.j0 k a0 t144 true 0 0 (⟨#[]⟩ : ByteArray) (⟨#[]⟩ : ByteArray) 0 false) else (rec_Take.j0 k a0 t144 (decide ((wrap64 ((a0.size : Int) - 6)) < t144)) 0 0 (⟨#[]⟩ : ByteArray) (⟨#[]⟩ : ByteArray) 0 false)) = some (r1, r2, r3, r4, r5, r6, r7, r8) := H
 have A2 := Aside0.mk A20
 clear A20
 have HC3 := Aside0.mk H
 clear H
 go_enter Try.func16, Try.ntmps16
 go_upto_region 2 with (first | ((with_reducible refine gate_dst (N := 2) rfl ?_); (try (refine gate_guard (by rfl) ?_; dsimp only)); refine box_event ?hg (N := 2) ?hd (cs := #[.int .i64 0, .int .i64 0, .string (⟨#[]⟩ : ByteArray), .string (⟨#[]⟩ : ByteArray), .int .i64 0, .bool false]) (t := 25) ?hr ?_; (case hd => rfl); (case hg => rfl); (case hr => first | (go_simp; done) | (go_simp; rfl)); intro gb143 hg w4 hbox hb; have BK143 := Aside0.mk (hbox); have GW143 := Aside0.mk ((by rw [hg]; exact (below_size bo) : w.heap.size ≤ gb143)); have GE143 := Aside0.mk ((by rw [hg]; exact (below_size bo) : w.heap.size ≤ gb143)); replace HB := Aside0.mk (below_step bo hb); clear hb hbox hg) | (go_at_call 64; (with_reducible refine (vbi_TakeTwo.calls k a0 t144 t145 _ A2.out).mono ?_); rintro e w' ⟨rfl, ⟨nd, rfl⟩⟩; (try first | exact ⟨rfl, _, World.drewN_drewN _ _ _⟩ | exact ⟨rfl, _, Eq.trans (World.drewN_drewN _ _ _) (congrArg (World.drewN _) (Nat.add_assoc _ _ _))⟩)))
 repeat (go_quiet (first | ((with_reducible refine gate_dst (N := 2) rfl ?_); (try (refine gate_guard (by rfl) ?_; dsimp only)); refine box_event ?hg (N := 2) ?hd (cs := #[.int .i64 0, .int .i64 0, .string (⟨#[]⟩ : ByteArray), .string (⟨#[]⟩ : ByteArray), .int .i64 0, .bool false]) (t := 25) ?hr ?_; (case hd => rfl); (case hg => rfl); (case hr => first | (go_simp; done) | (go_simp; rfl)); intro gb143 hg w4 hbox hb; have BK143 := Aside0.mk (hbox); have GW143 := Aside0.mk ((by rw [hg]; exact (below_size bo) : w.heap.size ≤ gb143)); have GE143 := Aside0.mk ((by rw [hg]; exact (below_size bo) : w.heap.size ≤ gb143)); replace HB := Aside0.mk (below_step bo hb); clear hb hbox hg) | (go_at_call 64; (with_reducible refine (vbi_TakeTwo.calls k a0 t144 t145 _ A2.out).mono ?_); rintro e w' ⟨rfl, ⟨nd, rfl⟩⟩; (try first | exact ⟨rfl, _, World.drewN_drewN _ _ _⟩ | exact ⟨rfl, _, Eq.trans (World.drewN_drewN _ _ _) (congrArg (World.drewN _) (Nat.add_assoc _ _ _))⟩))); go_upto_region 2 with (first | ((with_reducible refine gate_dst (N := 2) rfl ?_); (try (refine gate_guard (by rfl) ?_; dsimp only)); refine box_event ?hg (N := 2) ?hd (cs := #[.int .i64 0, .int .i64 0, .string (⟨#[]⟩ : ByteArray), .string (⟨#[]⟩ : ByteArray), .int .i64 0, .bool false]) (t := 25) ?hr ?_; (case hd => rfl); (case hg => rfl); (case hr => first | (go_simp; done) | (go_simp; rfl)); intro gb143 hg w4 hbox hb; have BK143 := Aside0.mk (hbox); have GW143 := Aside0.mk ((by rw [hg]; exact (below_size bo) : w.heap.size ≤ gb143)); have GE143 := Aside0.mk ((by rw [hg]; exact (below_size bo) : w.heap.size ≤ gb143)); replace HB := Aside0.mk (below_step bo hb); clear hb hbox hg) | (go_at_call 64; (with_reducible refine (vbi_TakeTwo.calls k a0 t144 t145 _ A2.out).mono ?_); rintro e w' ⟨rfl, ⟨nd, rfl⟩⟩; (try first | exact ⟨rfl, _, World.drewN_drewN _ _ _⟩ | exact ⟨rfl, _, Eq.trans (World.drewN_drewN _ _ _) (congrArg (World.drewN _) (Nat.add_assoc _ _ _))⟩))))
 (try simp only [Act.put, List.setIfInBounds_toArray, List.set_cons_zero, List.set_cons_succ])
 go_cut [25] (fun v25 wc => ∃ (kq : Nat) (x25_2 : Bool), v25 = .bool x25_2 ∧ Aside0 (rec_Take.j0 kq a0 t144 x25_2 0 0 (⟨#[]⟩ : ByteArray) (⟨#[]⟩ : ByteArray) 0 false = some (r1, r2, r3, r4, r5, r6, r7, r8)) ∧ Aside0 (kq ≤ k) ∧ Aside0 (wc.heap[gb143]? = some (.cells #[.int .i64 0, .int .i64 0, .string (⟨#[]⟩ : ByteArray), .string (⟨#[]⟩ : ByteArray), .int .i64 0, .bool false] 25 (0, 0))) ∧ Aside0 (Below w.heap.size w wc))
 case first =>
  have H := HC3.out
  clear HC3
  by_cases c5 : (a0.size : Int) < 6
  ·rw [if_pos c5] at H
   have c5b0 : decide ((a0.size : Int) < 6) = true := decide_eq_true c5
   have c5b1 : decide (a0.size < 6) = true := decide_eq_true (by omega)
   clear c5
   (first | rw [c5b0] | (simp only [i64_w, i32_w]; rw [c5b0]) | skip)
   have H' := Aside0.mk H
   clear H
   go_wp2
   repeat (go_quiet (fail); try go_wp2)
   go_meet
   case rel => exact ⟨_, (true), ap, H', ⟨by first | omega | exact Nat.le_refl _⟩, ⟨by (with_reducible repeat (first | refine blk_drewN ?_ _ | refine blk_drew ?_ | refine blk_alloc ?_ _)); exact BK143.out⟩, ⟨bo⟩⟩
  ·rw [if_neg c5] at H
   have c5b0 : decide ((a0.size : Int) < 6) = false := decide_eq_false c5
   have c5b1 : decide (a0.size < 6) = false := decide_eq_false (by omega)
   clear c5
   (first | rw [c5b0] | (simp only [i64_w, i32_w]; rw [c5b0]) | skip)
   have H' := Aside0.mk H
   clear H
   go_wp2
   repeat (go_quiet (fail); try go_wp2)
   go_meet
   case rel => exact ⟨_, (decide ((wrap64 ((a0.size : Int) - 6)) < t144)), ap, H', ⟨by first | omega | exact Nat.le_refl _⟩, ⟨by (with_reducible repeat (first | refine blk_drewN ?_ _ | refine blk_drew ?_ | refine blk_alloc ?_ _)); exact BK143.out⟩, ⟨bo⟩⟩
 case rest =>
  clear HC3
  try clear c1
  try clear p2
  try clear c5
  try clear c5b0
  try clear c5b1
  obtain ⟨kq, x25_2, rfl, HA, HJ2, BK143, HB⟩ := hcut
  cases kq with
  | zero => exact absurd HA.out (by simp [rec_Take.j0])
  | succ kj2 =>
   have H := HA.out
   clear HA
   simp only [rec_Take.j0] at H
   by_cases c6 : x25_2 = true
   ·subst c6
    have H1 : (some (0, 0, (⟨#[]⟩ : ByteArray), (⟨#[]⟩ : ByteArray), 0, false, 0, 7)) = some (r1, r2, r3, r4, r5, r6, r7, r8) := by rw [if_pos rfl] at H; exact H
    clear H
    have H := H1
    clear H1
    simp only [Option.some.injEq, Prod.mk.injEq] at H
    obtain ⟨rfl, rfl, rfl, rfl, rfl, rfl, rfl, rfl⟩ := H
    have hcz7_0 : wc.cell? ⟨gb143, 0, none⟩ = some (.int .i64 0) := (blk_cell BK143.out 0).trans rfl
    have hcz7_1 : wc.cell? ⟨gb143, 1, none⟩ = some (.int .i64 0) := (blk_cell BK143.out 1).trans rfl
    have hcz7_2 : wc.cell? ⟨gb143, 2, none⟩ = some (.string (⟨#[]⟩ : ByteArray)) := (blk_cell BK143.out 2).trans rfl
    have hcz7_3 : wc.cell? ⟨gb143, 3, none⟩ = some (.string (⟨#[]⟩ : ByteArray)) := (blk_cell BK143.out 3).trans rfl
    have hcz7_4 : wc.cell? ⟨gb143, 4, none⟩ = some (.int .i64 0) := (blk_cell BK143.out 4).trans rfl
    have hcz7_5 : wc.cell? ⟨gb143, 5, none⟩ = some (.bool false) := (blk_cell BK143.out 5).trans rfl
    have hfz7_0 := blk_frozen BK143.out 0
    have hfz7_1 := blk_frozen BK143.out 1
    have hfz7_2 := blk_frozen BK143.out 2
    have hfz7_3 := blk_frozen BK143.out 3
    have hfz7_4 := blk_frozen BK143.out 4
    have hfz7_5 := blk_frozen BK143.out 5
    go_wp2
    repeat (go_quiet (fail); try go_wp2)
    refine bodyPost_ret (results_ctt rfl _ _ gb143 25 #[.int .i64 0, .int .i64 0, .string (⟨#[]⟩ : ByteArray), .string (⟨#[]⟩ : ByteArray), .int .i64 0, .bool false] (0, 0) _ rfl (by (with_reducible repeat (first | refine blk_drewN ?_ _ | refine blk_drew ?_ | refine blk_alloc ?_ _)); refine blk_put (cs := #[.int .i64 0, .int .i64 0, .string (⟨#[]⟩ : ByteArray), .string (⟨#[]⟩ : ByteArray), .int .i64 0, .bool false]) ?_ 5 _ rfl; (with_reducible repeat (first | refine blk_drewN ?_ _ | refine blk_drew ?_ | refine blk_alloc ?_ _)); refine blk_put (cs := #[.int .i64 0, .int .i64 0, .string (⟨#[]⟩ : ByteArray), .string (⟨#[]⟩ : ByteArray), .int .i64 0, .bool false]) ?_ 4 _ rfl; (with_reducible repeat (first | refine blk_drewN ?_ _ | refine blk_drew ?_ | refine blk_alloc ?_ _)); refine blk_put (cs := #[.int .i64 0, .int .i64 0, .string (⟨#[]⟩ : ByteArray), .string (⟨#[]⟩ : ByteArray), .int .i64 0, .bool false]) ?_ 3 _ rfl; (with_reducible repeat (first | refine blk_drewN ?_ _ | refine blk_drew ?_ | refine blk_alloc ?_ _)); refine blk_put (cs := #[.int .i64 0, .int .i64 0, .string (⟨#[]⟩ : ByteArray), .string (⟨#[]⟩ : ByteArray), .int .i64 0, .bool false]) ?_ 2 _ rfl; (with_reducible repeat (first | refine blk_drewN ?_ _ | refine blk_drew ?_ | refine blk_alloc ?_ _)); refine blk_put (cs := #[.int .i64 0, .int .i64 0, .string (⟨#[]⟩ : ByteArray), .string (⟨#[]⟩ : ByteArray), .int .i64 0, .bool false]) ?_ 1 _ rfl; (with_reducible repeat (first | refine blk_drewN ?_ _ | refine blk_drew ?_ | refine blk_alloc ?_ _)); refine blk_put (cs := #[.int .i64 0, .int .i64 0, .string (⟨#[]⟩ : ByteArray), .string (⟨#[]⟩ : ByteArray), .int .i64 0, .bool false]) ?_ 0 _ rfl; (with_reducible repeat (first | refine blk_drewN ?_ _ | refine blk_drew ?_ | refine blk_alloc ?_ _)); exact BK143.out) Try.underlying25 rfl (by kernel_rfl)) rfl ?_
    exact ⟨er, bo⟩
   ·replace c6 := Bool.eq_false_iff.mpr c6
    subst c6
    have H1 : (if 2 ≤ (a0.size : Int) then ((vbi_TakeFour.f kj2 (a0.extract 2 a0.size)).bind fun bt146 => (if 6 ≤ (wrap64 (6 + t144)) then (if (wrap64 (6 + t144)) ≤ (a0.size : Int) then ((rec_read.f kj2 (a0.extract 6 ((wrap64 (6 + t144)) : Int).toNat)).bind fun bt148 => (if bt148.2.2.2.2.2.2 = true then (if 0 ≤ 2 then ((sum_Sum.f kj2 0 (a0.extract 0 2)).bind fun t155 => ((sum_Sum.f kj2 t155 (a0.extract 6 ((wrap64 (6 + t144)) : Int).toNat)).bind fun t156 => (if (wrap64 (t156)) = bt146.1 then (some (bt148.1, bt148.2.1, bt148.2.2.1, bt148.2.2.2.1, bt148.2.2.2.2.1, bt148.2.2.2.2.2.1, wrap64 (6 + t144), 0)) else (some (0, 0, (⟨#[]⟩ : ByteArray), (⟨#[]⟩ : ByteArray), 0, false, 0, 8))))) else (none)) else (some (0, 0, (⟨#[]⟩ : ByteArray), (⟨#[]⟩ : ByteArray), 0, false, 0, 8)))) else (none)) else (none))) else (none)) = some (r1, r2, r3, r4, r5, r6, r7, r8) := by rw [if_neg (show ¬ (false = true) by decide)] at H; exact H
    clear H
    have H := H1
    clear H1
    by_cases c8 : 2 ≤ (a0.size : Int)
    ·rw [if_pos c8] at H
     have c8b0 := eq_true c8
     have c8b1 : decide (2 ≤ (a0.size : Int)) = true := decide_eq_true c8
     clear c8
     replace H := Option.bind_eq_some_iff.mp H
     obtain ⟨⟨t146, t147⟩, A90, H⟩ := H
     replace H : (if 6 ≤ (wrap64 (6 + t144)) then (if (wrap64 (6 + t144)) ≤ (a0.size : Int) then ((rec_read.f kj2 (a0.extract 6 ((wrap64 (6 + t144)) : Int).toNat)).bind fun bt148 => (if bt148.2.2.2.2.2.2 = true then (if 0 ≤ 2 then ((sum_Sum.f kj2 0 (a0.extract 0 2)).bind fun t155 => ((sum_Sum.f kj2 t155 (a0.extract 6 ((wrap64 (6 + t144)) : Int).toNat)).bind fun t156 => (if (wrap64 (t156)) = t146 then (some (bt148.1, bt148.2.1, bt148.2.2.1, bt148.2.2.2.1, bt148.2.2.2.2.1, bt148.2.2.2.2.2.1, wrap64 (6 + t144), 0)) else (some (0, 0, (⟨#[]⟩ : ByteArray), (⟨#[]⟩ : ByteArray), 0, false, 0, 8))))) else (none)) else (some (0, 0, (⟨#[]⟩ : ByteArray), (⟨#[]⟩ : ByteArray), 0, false, 0, 8)))) else (none)) else (none)) = some (r1, r2, r3, r4, r5, r6, r7, r8) := H
     have A9 := Aside0.mk A90
     clear A90
     by_cases c10 : 6 ≤ (wrap64 (6 + t144))
     ·rw [if_pos c10] at H
      have c10b0 := eq_true c10
      have c10b1 : decide (6 ≤ (wrap64 (6 + t144))) = true := decide_eq_true c10
      by_cases c11 : (wrap64 (6 + t144)) ≤ (a0.size : Int)
      ·rw [if_pos c11] at H
       have c11b0 := eq_true c11
       have c11b1 : decide ((wrap64 (6 + t144)) ≤ (a0.size : Int)) = true := decide_eq_true c11
       replace H := Option.bind_eq_some_iff.mp H
       obtain ⟨⟨t148, t149, t150, t151, t152, t153, t154⟩, A120, H⟩ := H
       replace H : (if t154 = true then (if 0 ≤ 2 then ((sum_Sum.f kj2 0 (a0.extract 0 2)).bind fun t155 => ((sum_Sum.f kj2 t155 (a0.extract 6 ((wrap64 (6 + t144)) : Int).toNat)).bind fun t156 => (if (wrap64 (t156)) = t146 then (some (t148, t149, t150, t151, t152, t153, wrap64 (6 + t144), 0)) else (some (0, 0, (⟨#[]⟩ : ByteArray), (⟨#[]⟩ : ByteArray), 0, false, 0, 8))))) else (none)) else (some (0, 0, (⟨#[]⟩ : ByteArray), (⟨#[]⟩ : ByteArray), 0, false, 0, 8))) = some (r1, r2, r3, r4, r5, r6, r7, r8) := H
       have A12 := Aside0.mk A120
       clear A120
       by_cases c13 : t154 = true
       ·subst c13
        have H1 : (if 0 ≤ 2 then ((sum_Sum.f kj2 0 (a0.extract 0 2)).bind fun t155 => ((sum_Sum.f kj2 t155 (a0.extract 6 ((wrap64 (6 + t144)) : Int).toNat)).bind fun t156 => (if (wrap64 (t156)) = t146 then (some (t148, t149, t150, t151, t152, t153, wrap64 (6 + t144), 0)) else (some (0, 0, (⟨#[]⟩ : ByteArray), (⟨#[]⟩ : ByteArray), 0, false, 0, 8))))) else (none)) = some (r1, r2, r3, r4, r5, r6, r7, r8) := by rw [if_pos rfl] at H; exact H
        clear H
        have H := H1
        clear H1
        by_cases c14 : 0 ≤ 2
        ·rw [if_pos c14] at H
         have c14b0 := eq_true c14
         have c14b1 : decide (0 ≤ 2) = true := decide_eq_true c14
         clear c14
         have c15b0 := eq_true (od : 2 ≤ (a0.size : Int))
         replace H := Option.bind_eq_some_iff.mp H
         obtain ⟨t155, A160, H⟩ := H
         replace H : ((sum_Sum.f kj2 t155 (a0.extract 6 ((wrap64 (6 + t144)) : Int).toNat)).bind fun t156 => (if (wrap64 (t156)) = t146 then (some (t148, t149, t150, t151, t152, t153, wrap64 (6 + t144), 0)) else (some (0, 0, (⟨#[]⟩ : ByteArray), (⟨#[]⟩ : ByteArray), 0, false, 0, 8)))) = some (r1, r2, r3, r4, r5, r6, r7, r8) := H
         have A16 := Aside0.mk A160
         clear A160
         have c17b0 := eq_true (od : 6 ≤ (wrap64 (6 + t144)))
         have c18b0 := eq_true (od : (wrap64 (6 + t144)) ≤ (a0.size : Int))
         replace H := Option.bind_eq_some_iff.mp H
         obtain ⟨t156, A190, H⟩ := H
         replace H : (if (wrap64 (t156)) = t146 then (some (t148, t149, t150, t151, t152, t153, wrap64 (6 + t144), 0)) else (some (0, 0, (⟨#[]⟩ : ByteArray), (⟨#[]⟩ : ByteArray), 0, false, 0, 8))) = some (r1, r2, r3, r4, r5, r6, r7, r8) := H
         have A19 := Aside0.mk A190
         clear A190
         by_cases c20 : (wrap64 (t156)) = t146
         ·rw [if_pos c20] at H
          have c20b0 : ((wrap64 (t156)) == t146) = true := beq_iff_eq.mpr c20
          have c20b1 : ((wrap64 (t156)) != t146) = false := bne_eq_false_iff_eq.mpr c20
          clear c20
          simp only [Option.some.injEq, Prod.mk.injEq] at H
          obtain ⟨rfl, rfl, rfl, rfl, rfl, rfl, rfl, rfl⟩ := H
          go_wp2_with (first | (go_at_call 65; (with_reducible refine (vbi_TakeFour.calls kj2 (a0.extract 2 a0.size) t146 t147 _ A9.out).mono ?_); rintro e w' ⟨rfl, ⟨nd, rfl⟩⟩; (try first | exact ⟨rfl, _, World.drewN_drewN _ _ _⟩ | exact ⟨rfl, _, Eq.trans (World.drewN_drewN _ _ _) (congrArg (World.drewN _) (Nat.add_assoc _ _ _))⟩)) | (go_at_call 66; (with_reducible refine (rec_read.calls kj2 (a0.extract 6 ((wrap64 (6 + t144)) : Int).toNat) t148 t149 t150 t151 t152 t153 true _ A12.out).mono ?_); rintro e w21 ⟨rfl, hb⟩; replace BK143 := Aside0.mk (blk_below (g := gb143) (o := .cells #[.int .i64 0, .int .i64 0, .string (⟨#[]⟩ : ByteArray), .string (⟨#[]⟩ : ByteArray), .int .i64 0, .bool false] 25 (0, 0)) (bk BK143.out) hb); replace HB := Aside0.mk (below_step bo hb); (try clear hb); (try clear hb2); (try clear hk); (try clear hi); obtain ⟨hcz22_0, hcz22_1, hcz22_2, hcz22_3, hcz22_4, hcz22_5⟩ := cl6 BK143.out; obtain ⟨hfz22_0, hfz22_1, hfz22_2, hfz22_3, hfz22_4, hfz22_5⟩ := fz6 BK143.out) | (go_at_call 63; (with_reducible refine (sum_Sum.calls kj2 0 (a0.extract 0 2) t155 _ A16.out).mono ?_); rintro e w' ⟨rfl, ⟨nd, rfl⟩⟩; (try first | exact ⟨rfl, _, World.drewN_drewN _ _ _⟩ | exact ⟨rfl, _, Eq.trans (World.drewN_drewN _ _ _) (congrArg (World.drewN _) (Nat.add_assoc _ _ _))⟩)) | (go_at_call 63; (with_reducible refine (sum_Sum.calls kj2 t155 (a0.extract 6 ((wrap64 (6 + t144)) : Int).toNat) t156 _ A19.out).mono ?_); rintro e w' ⟨rfl, ⟨nd, rfl⟩⟩; (try first | exact ⟨rfl, _, World.drewN_drewN _ _ _⟩ | exact ⟨rfl, _, Eq.trans (World.drewN_drewN _ _ _) (congrArg (World.drewN _) (Nat.add_assoc _ _ _))⟩)))
          repeat (go_quiet (first | (go_at_call 65; (with_reducible refine (vbi_TakeFour.calls kj2 (a0.extract 2 a0.size) t146 t147 _ A9.out).mono ?_); rintro e w' ⟨rfl, ⟨nd, rfl⟩⟩; (try first | exact ⟨rfl, _, World.drewN_drewN _ _ _⟩ | exact ⟨rfl, _, Eq.trans (World.drewN_drewN _ _ _) (congrArg (World.drewN _) (Nat.add_assoc _ _ _))⟩)) | (go_at_call 66; (with_reducible refine (rec_read.calls kj2 (a0.extract 6 ((wrap64 (6 + t144)) : Int).toNat) t148 t149 t150 t151 t152 t153 true _ A12.out).mono ?_); rintro e w21 ⟨rfl, hb⟩; replace BK143 := Aside0.mk (blk_below (g := gb143) (o := .cells #[.int .i64 0, .int .i64 0, .string (⟨#[]⟩ : ByteArray), .string (⟨#[]⟩ : ByteArray), .int .i64 0, .bool false] 25 (0, 0)) (bk BK143.out) hb); replace HB := Aside0.mk (below_step bo hb); (try clear hb); (try clear hb2); (try clear hk); (try clear hi); obtain ⟨hcz22_0, hcz22_1, hcz22_2, hcz22_3, hcz22_4, hcz22_5⟩ := cl6 BK143.out; obtain ⟨hfz22_0, hfz22_1, hfz22_2, hfz22_3, hfz22_4, hfz22_5⟩ := fz6 BK143.out) | (go_at_call 63; (with_reducible refine (sum_Sum.calls kj2 0 (a0.extract 0 2) t155 _ A16.out).mono ?_); rintro e w' ⟨rfl, ⟨nd, rfl⟩⟩; (try first | exact ⟨rfl, _, World.drewN_drewN _ _ _⟩ | exact ⟨rfl, _, Eq.trans (World.drewN_drewN _ _ _) (congrArg (World.drewN _) (Nat.add_assoc _ _ _))⟩)) | (go_at_call 63; (with_reducible refine (sum_Sum.calls kj2 t155 (a0.extract 6 ((wrap64 (6 + t144)) : Int).toNat) t156 _ A19.out).mono ?_); rintro e w' ⟨rfl, ⟨nd, rfl⟩⟩; (try first | exact ⟨rfl, _, World.drewN_drewN _ _ _⟩ | exact ⟨rfl, _, Eq.trans (World.drewN_drewN _ _ _) (congrArg (World.drewN _) (Nat.add_assoc _ _ _))⟩))); try go_wp2_with (first | (go_at_call 65; (with_reducible refine (vbi_TakeFour.calls kj2 (a0.extract 2 a0.size) t146 t147 _ A9.out).mono ?_); rintro e w' ⟨rfl, ⟨nd, rfl⟩⟩; (try first | exact ⟨rfl, _, World.drewN_drewN _ _ _⟩ | exact ⟨rfl, _, Eq.trans (World.drewN_drewN _ _ _) (congrArg (World.drewN _) (Nat.add_assoc _ _ _))⟩)) | (go_at_call 66; (with_reducible refine (rec_read.calls kj2 (a0.extract 6 ((wrap64 (6 + t144)) : Int).toNat) t148 t149 t150 t151 t152 t153 true _ A12.out).mono ?_); rintro e w21 ⟨rfl, hb⟩; replace BK143 := Aside0.mk (blk_below (g := gb143) (o := .cells #[.int .i64 0, .int .i64 0, .string (⟨#[]⟩ : ByteArray), .string (⟨#[]⟩ : ByteArray), .int .i64 0, .bool false] 25 (0, 0)) (bk BK143.out) hb); replace HB := Aside0.mk (below_step bo hb); (try clear hb); (try clear hb2); (try clear hk); (try clear hi); obtain ⟨hcz22_0, hcz22_1, hcz22_2, hcz22_3, hcz22_4, hcz22_5⟩ := cl6 BK143.out; obtain ⟨hfz22_0, hfz22_1, hfz22_2, hfz22_3, hfz22_4, hfz22_5⟩ := fz6 BK143.out) | (go_at_call 63; (with_reducible refine (sum_Sum.calls kj2 0 (a0.extract 0 2) t155 _ A16.out).mono ?_); rintro e w' ⟨rfl, ⟨nd, rfl⟩⟩; (try first | exact ⟨rfl, _, World.drewN_drewN _ _ _⟩ | exact ⟨rfl, _, Eq.trans (World.drewN_drewN _ _ _) (congrArg (World.drewN _) (Nat.add_assoc _ _ _))⟩)) | (go_at_call 63; (with_reducible refine (sum_Sum.calls kj2 t155 (a0.extract 6 ((wrap64 (6 + t144)) : Int).toNat) t156 _ A19.out).mono ?_); rintro e w' ⟨rfl, ⟨nd, rfl⟩⟩; (try first | exact ⟨rfl, _, World.drewN_drewN _ _ _⟩ | exact ⟨rfl, _, Eq.trans (World.drewN_drewN _ _ _) (congrArg (World.drewN _) (Nat.add_assoc _ _ _))⟩))))
          refine bodyPost_ret (results_ctt rfl _ _ gb143 25 #[.int .i64 t148, .int .i64 t149, .string t150, .string t151, .int .i64 t152, .bool t153] (0, 0) _ rfl (by (with_reducible repeat (first | refine blk_drewN ?_ _ | refine blk_drew ?_ | refine blk_alloc ?_ _)); refine blk_put (cs := #[.int .i64 t148, .int .i64 t149, .string t150, .string t151, .int .i64 t152, .bool t153]) ?_ 5 _ rfl; (with_reducible repeat (first | refine blk_drewN ?_ _ | refine blk_drew ?_ | refine blk_alloc ?_ _)); refine blk_put (cs := #[.int .i64 t148, .int .i64 t149, .string t150, .string t151, .int .i64 t152, .bool t153]) ?_ 4 _ rfl; (with_reducible repeat (first | refine blk_drewN ?_ _ | refine blk_drew ?_ | refine blk_alloc ?_ _)); refine blk_put (cs := #[.int .i64 t148, .int .i64 t149, .string t150, .string t151, .int .i64 t152, .bool t153]) ?_ 3 _ rfl; (with_reducible repeat (first | refine blk_drewN ?_ _ | refine blk_drew ?_ | refine blk_alloc ?_ _)); refine blk_put (cs := #[.int .i64 t148, .int .i64 t149, .string t150, .string t151, .int .i64 t152, .bool t153]) ?_ 2 _ rfl; (with_reducible repeat (first | refine blk_drewN ?_ _ | refine blk_drew ?_ | refine blk_alloc ?_ _)); refine blk_put (cs := #[.int .i64 t148, .int .i64 t149, .string t150, .string t151, .int .i64 t152, .bool t153]) ?_ 1 _ rfl; (with_reducible repeat (first | refine blk_drewN ?_ _ | refine blk_drew ?_ | refine blk_alloc ?_ _)); refine blk_put (cs := #[.int .i64 t148, .int .i64 t149, .string t150, .string t151, .int .i64 t152, .bool t153]) ?_ 0 _ rfl; (with_reducible repeat (first | refine blk_drewN ?_ _ | refine blk_drew ?_ | refine blk_alloc ?_ _)); refine blk_put (cs := #[.int .i64 t148, .int .i64 t149, .string t150, .string t151, .int .i64 t152, .bool false]) ?_ 5 _ rfl; (with_reducible repeat (first | refine blk_drewN ?_ _ | refine blk_drew ?_ | refine blk_alloc ?_ _)); refine blk_put (cs := #[.int .i64 t148, .int .i64 t149, .string t150, .string t151, .int .i64 0, .bool false]) ?_ 4 _ rfl; (with_reducible repeat (first | refine blk_drewN ?_ _ | refine blk_drew ?_ | refine blk_alloc ?_ _)); refine blk_put (cs := #[.int .i64 t148, .int .i64 t149, .string t150, .string (⟨#[]⟩ : ByteArray), .int .i64 0, .bool false]) ?_ 3 _ rfl; (with_reducible repeat (first | refine blk_drewN ?_ _ | refine blk_drew ?_ | refine blk_alloc ?_ _)); refine blk_put (cs := #[.int .i64 t148, .int .i64 t149, .string (⟨#[]⟩ : ByteArray), .string (⟨#[]⟩ : ByteArray), .int .i64 0, .bool false]) ?_ 2 _ rfl; (with_reducible repeat (first | refine blk_drewN ?_ _ | refine blk_drew ?_ | refine blk_alloc ?_ _)); refine blk_put (cs := #[.int .i64 t148, .int .i64 0, .string (⟨#[]⟩ : ByteArray), .string (⟨#[]⟩ : ByteArray), .int .i64 0, .bool false]) ?_ 1 _ rfl; (with_reducible repeat (first | refine blk_drewN ?_ _ | refine blk_drew ?_ | refine blk_alloc ?_ _)); refine blk_put (cs := #[.int .i64 0, .int .i64 0, .string (⟨#[]⟩ : ByteArray), .string (⟨#[]⟩ : ByteArray), .int .i64 0, .bool false]) ?_ 0 _ rfl; (with_reducible repeat (first | refine blk_drewN ?_ _ | refine blk_drew ?_ | refine blk_alloc ?_ _)); exact BK143.out) Try.underlying25 rfl (by kernel_rfl)) rfl ?_
          exact ⟨er, bo⟩
         ·rw [if_neg c20] at H
          have c20b0 : ((wrap64 (t156)) == t146) = false := beq_eq_false_iff_ne.mpr c20
          have c20b1 : ((wrap64 (t156)) != t146) = true := bne_iff_ne.mpr c20
          simp only [Option.some.injEq, Prod.mk.injEq] at H
          obtain ⟨rfl, rfl, rfl, rfl, rfl, rfl, rfl, rfl⟩ := H
          go_wp2_with (first | (go_at_call 65; (with_reducible refine (vbi_TakeFour.calls kj2 (a0.extract 2 a0.size) t146 t147 _ A9.out).mono ?_); rintro e w' ⟨rfl, ⟨nd, rfl⟩⟩; (try first | exact ⟨rfl, _, World.drewN_drewN _ _ _⟩ | exact ⟨rfl, _, Eq.trans (World.drewN_drewN _ _ _) (congrArg (World.drewN _) (Nat.add_assoc _ _ _))⟩)) | (go_at_call 66; (with_reducible refine (rec_read.calls kj2 (a0.extract 6 ((wrap64 (6 + t144)) : Int).toNat) t148 t149 t150 t151 t152 t153 true _ A12.out).mono ?_); rintro e w23 ⟨rfl, hb⟩; replace BK143 := Aside0.mk (blk_below (g := gb143) (o := .cells #[.int .i64 0, .int .i64 0, .string (⟨#[]⟩ : ByteArray), .string (⟨#[]⟩ : ByteArray), .int .i64 0, .bool false] 25 (0, 0)) (bk BK143.out) hb); replace HB := Aside0.mk (below_step bo hb); (try clear hb); (try clear hb2); (try clear hk); (try clear hi); obtain ⟨hcz24_0, hcz24_1, hcz24_2, hcz24_3, hcz24_4, hcz24_5⟩ := cl6 BK143.out; obtain ⟨hfz24_0, hfz24_1, hfz24_2, hfz24_3, hfz24_4, hfz24_5⟩ := fz6 BK143.out) | (go_at_call 63; (with_reducible refine (sum_Sum.calls kj2 0 (a0.extract 0 2) t155 _ A16.out).mono ?_); rintro e w' ⟨rfl, ⟨nd, rfl⟩⟩; (try first | exact ⟨rfl, _, World.drewN_drewN _ _ _⟩ | exact ⟨rfl, _, Eq.trans (World.drewN_drewN _ _ _) (congrArg (World.drewN _) (Nat.add_assoc _ _ _))⟩)) | (go_at_call 63; (with_reducible refine (sum_Sum.calls kj2 t155 (a0.extract 6 ((wrap64 (6 + t144)) : Int).toNat) t156 _ A19.out).mono ?_); rintro e w' ⟨rfl, ⟨nd, rfl⟩⟩; (try first | exact ⟨rfl, _, World.drewN_drewN _ _ _⟩ | exact ⟨rfl, _, Eq.trans (World.drewN_drewN _ _ _) (congrArg (World.drewN _) (Nat.add_assoc _ _ _))⟩)))
          repeat (go_quiet (first | (go_at_call 65; (with_reducible refine (vbi_TakeFour.calls kj2 (a0.extract 2 a0.size) t146 t147 _ A9.out).mono ?_); rintro e w' ⟨rfl, ⟨nd, rfl⟩⟩; (try first | exact ⟨rfl, _, World.drewN_drewN _ _ _⟩ | exact ⟨rfl, _, Eq.trans (World.drewN_drewN _ _ _) (congrArg (World.drewN _) (Nat.add_assoc _ _ _))⟩)) | (go_at_call 66; (with_reducible refine (rec_read.calls kj2 (a0.extract 6 ((wrap64 (6 + t144)) : Int).toNat) t148 t149 t150 t151 t152 t153 true _ A12.out).mono ?_); rintro e w23 ⟨rfl, hb⟩; replace BK143 := Aside0.mk (blk_below (g := gb143) (o := .cells #[.int .i64 0, .int .i64 0, .string (⟨#[]⟩ : ByteArray), .string (⟨#[]⟩ : ByteArray), .int .i64 0, .bool false] 25 (0, 0)) (bk BK143.out) hb); replace HB := Aside0.mk (below_step bo hb); (try clear hb); (try clear hb2); (try clear hk); (try clear hi); obtain ⟨hcz24_0, hcz24_1, hcz24_2, hcz24_3, hcz24_4, hcz24_5⟩ := cl6 BK143.out; obtain ⟨hfz24_0, hfz24_1, hfz24_2, hfz24_3, hfz24_4, hfz24_5⟩ := fz6 BK143.out) | (go_at_call 63; (with_reducible refine (sum_Sum.calls kj2 0 (a0.extract 0 2) t155 _ A16.out).mono ?_); rintro e w' ⟨rfl, ⟨nd, rfl⟩⟩; (try first | exact ⟨rfl, _, World.drewN_drewN _ _ _⟩ | exact ⟨rfl, _, Eq.trans (World.drewN_drewN _ _ _) (congrArg (World.drewN _) (Nat.add_assoc _ _ _))⟩)) | (go_at_call 63; (with_reducible refine (sum_Sum.calls kj2 t155 (a0.extract 6 ((wrap64 (6 + t144)) : Int).toNat) t156 _ A19.out).mono ?_); rintro e w' ⟨rfl, ⟨nd, rfl⟩⟩; (try first | exact ⟨rfl, _, World.drewN_drewN _ _ _⟩ | exact ⟨rfl, _, Eq.trans (World.drewN_drewN _ _ _) (congrArg (World.drewN _) (Nat.add_assoc _ _ _))⟩))); try go_wp2_with (first | (go_at_call 65; (with_reducible refine (vbi_TakeFour.calls kj2 (a0.extract 2 a0.size) t146 t147 _ A9.out).mono ?_); rintro e w' ⟨rfl, ⟨nd, rfl⟩⟩; (try first | exact ⟨rfl, _, World.drewN_drewN _ _ _⟩ | exact ⟨rfl, _, Eq.trans (World.drewN_drewN _ _ _) (congrArg (World.drewN _) (Nat.add_assoc _ _ _))⟩)) | (go_at_call 66; (with_reducible refine (rec_read.calls kj2 (a0.extract 6 ((wrap64 (6 + t144)) : Int).toNat) t148 t149 t150 t151 t152 t153 true _ A12.out).mono ?_); rintro e w23 ⟨rfl, hb⟩; replace BK143 := Aside0.mk (blk_below (g := gb143) (o := .cells #[.int .i64 0, .int .i64 0, .string (⟨#[]⟩ : ByteArray), .string (⟨#[]⟩ : ByteArray), .int .i64 0, .bool false] 25 (0, 0)) (bk BK143.out) hb); replace HB := Aside0.mk (below_step bo hb); (try clear hb); (try clear hb2); (try clear hk); (try clear hi); obtain ⟨hcz24_0, hcz24_1, hcz24_2, hcz24_3, hcz24_4, hcz24_5⟩ := cl6 BK143.out; obtain ⟨hfz24_0, hfz24_1, hfz24_2, hfz24_3, hfz24_4, hfz24_5⟩ := fz6 BK143.out) | (go_at_call 63; (with_reducible refine (sum_Sum.calls kj2 0 (a0.extract 0 2) t155 _ A16.out).mono ?_); rintro e w' ⟨rfl, ⟨nd, rfl⟩⟩; (try first | exact ⟨rfl, _, World.drewN_drewN _ _ _⟩ | exact ⟨rfl, _, Eq.trans (World.drewN_drewN _ _ _) (congrArg (World.drewN _) (Nat.add_assoc _ _ _))⟩)) | (go_at_call 63; (with_reducible refine (sum_Sum.calls kj2 t155 (a0.extract 6 ((wrap64 (6 + t144)) : Int).toNat) t156 _ A19.out).mono ?_); rintro e w' ⟨rfl, ⟨nd, rfl⟩⟩; (try first | exact ⟨rfl, _, World.drewN_drewN _ _ _⟩ | exact ⟨rfl, _, Eq.trans (World.drewN_drewN _ _ _) (congrArg (World.drewN _) (Nat.add_assoc _ _ _))⟩))))
          refine bodyPost_ret (results_ctt rfl _ _ gb143 25 #[.int .i64 0, .int .i64 0, .string (⟨#[]⟩ : ByteArray), .string (⟨#[]⟩ : ByteArray), .int .i64 0, .bool false] (0, 0) _ rfl (by (with_reducible repeat (first | refine blk_drewN ?_ _ | refine blk_drew ?_ | refine blk_alloc ?_ _)); refine blk_put (cs := #[.int .i64 0, .int .i64 0, .string (⟨#[]⟩ : ByteArray), .string (⟨#[]⟩ : ByteArray), .int .i64 0, .bool t153]) ?_ 5 _ rfl; (with_reducible repeat (first | refine blk_drewN ?_ _ | refine blk_drew ?_ | refine blk_alloc ?_ _)); refine blk_put (cs := #[.int .i64 0, .int .i64 0, .string (⟨#[]⟩ : ByteArray), .string (⟨#[]⟩ : ByteArray), .int .i64 t152, .bool t153]) ?_ 4 _ rfl; (with_reducible repeat (first | refine blk_drewN ?_ _ | refine blk_drew ?_ | refine blk_alloc ?_ _)); refine blk_put (cs := #[.int .i64 0, .int .i64 0, .string (⟨#[]⟩ : ByteArray), .string t151, .int .i64 t152, .bool t153]) ?_ 3 _ rfl; (with_reducible repeat (first | refine blk_drewN ?_ _ | refine blk_drew ?_ | refine blk_alloc ?_ _)); refine blk_put (cs := #[.int .i64 0, .int .i64 0, .string t150, .string t151, .int .i64 t152, .bool t153]) ?_ 2 _ rfl; (with_reducible repeat (first | refine blk_drewN ?_ _ | refine blk_drew ?_ | refine blk_alloc ?_ _)); refine blk_put (cs := #[.int .i64 0, .int .i64 t149, .string t150, .string t151, .int .i64 t152, .bool t153]) ?_ 1 _ rfl; (with_reducible repeat (first | refine blk_drewN ?_ _ | refine blk_drew ?_ | refine blk_alloc ?_ _)); refine blk_put (cs := #[.int .i64 t148, .int .i64 t149, .string t150, .string t151, .int .i64 t152, .bool t153]) ?_ 0 _ rfl; (with_reducible repeat (first | refine blk_drewN ?_ _ | refine blk_drew ?_ | refine blk_alloc ?_ _)); refine blk_put (cs := #[.int .i64 t148, .int .i64 t149, .string t150, .string t151, .int .i64 t152, .bool false]) ?_ 5 _ rfl; (with_reducible repeat (first | refine blk_drewN ?_ _ | refine blk_drew ?_ | refine blk_alloc ?_ _)); refine blk_put (cs := #[.int .i64 t148, .int .i64 t149, .string t150, .string t151, .int .i64 0, .bool false]) ?_ 4 _ rfl; (with_reducible repeat (first | refine blk_drewN ?_ _ | refine blk_drew ?_ | refine blk_alloc ?_ _)); refine blk_put (cs := #[.int .i64 t148, .int .i64 t149, .string t150, .string (⟨#[]⟩ : ByteArray), .int .i64 0, .bool false]) ?_ 3 _ rfl; (with_reducible repeat (first | refine blk_drewN ?_ _ | refine blk_drew ?_ | refine blk_alloc ?_ _)); refine blk_put (cs := #[.int .i64 t148, .int .i64 t149, .string (⟨#[]⟩ : ByteArray), .string (⟨#[]⟩ : ByteArray), .int .i64 0, .bool false]) ?_ 2 _ rfl; (with_reducible repeat (first | refine blk_drewN ?_ _ | refine blk_drew ?_ | refine blk_alloc ?_ _)); refine blk_put (cs := #[.int .i64 t148, .int .i64 0, .string (⟨#[]⟩ : ByteArray), .string (⟨#[]⟩ : ByteArray), .int .i64 0, .bool false]) ?_ 1 _ rfl; (with_reducible repeat (first | refine blk_drewN ?_ _ | refine blk_drew ?_ | refine blk_alloc ?_ _)); refine blk_put (cs := #[.int .i64 0, .int .i64 0, .string (⟨#[]⟩ : ByteArray), .string (⟨#[]⟩ : ByteArray), .int .i64 0, .bool false]) ?_ 0 _ rfl; (with_reducible repeat (first | refine blk_drewN ?_ _ | refine blk_drew ?_ | refine blk_alloc ?_ _)); exact BK143.out) Try.underlying25 rfl (by kernel_rfl)) rfl ?_
          exact ⟨er, bo⟩
        ·rw [if_neg c14] at H
         exact absurd H (by simp)
       ·replace c13 := Bool.eq_false_iff.mpr c13
        subst c13
        have H1 : (some (0, 0, (⟨#[]⟩ : ByteArray), (⟨#[]⟩ : ByteArray), 0, false, 0, 8)) = some (r1, r2, r3, r4, r5, r6, r7, r8) := by rw [if_neg (show ¬ (false = true) by decide)] at H; exact H
        clear H
        have H := H1
        clear H1
        simp only [Option.some.injEq, Prod.mk.injEq] at H
        obtain ⟨rfl, rfl, rfl, rfl, rfl, rfl, rfl, rfl⟩ := H
        go_wp2_with (first | (go_at_call 65; (with_reducible refine (vbi_TakeFour.calls kj2 (a0.extract 2 a0.size) t146 t147 _ A9.out).mono ?_); rintro e w' ⟨rfl, ⟨nd, rfl⟩⟩; (try first | exact ⟨rfl, _, World.drewN_drewN _ _ _⟩ | exact ⟨rfl, _, Eq.trans (World.drewN_drewN _ _ _) (congrArg (World.drewN _) (Nat.add_assoc _ _ _))⟩)) | (go_at_call 66; (with_reducible refine (rec_read.calls kj2 (a0.extract 6 ((wrap64 (6 + t144)) : Int).toNat) t148 t149 t150 t151 t152 t153 false _ A12.out).mono ?_); rintro e w25 ⟨rfl, hb⟩; replace BK143 := Aside0.mk (blk_below (g := gb143) (o := .cells #[.int .i64 0, .int .i64 0, .string (⟨#[]⟩ : ByteArray), .string (⟨#[]⟩ : ByteArray), .int .i64 0, .bool false] 25 (0, 0)) (bk BK143.out) hb); replace HB := Aside0.mk (below_step bo hb); (try clear hb); (try clear hb2); (try clear hk); (try clear hi); obtain ⟨hcz26_0, hcz26_1, hcz26_2, hcz26_3, hcz26_4, hcz26_5⟩ := cl6 BK143.out; obtain ⟨hfz26_0, hfz26_1, hfz26_2, hfz26_3, hfz26_4, hfz26_5⟩ := fz6 BK143.out))
        repeat (go_quiet (first | (go_at_call 65; (with_reducible refine (vbi_TakeFour.calls kj2 (a0.extract 2 a0.size) t146 t147 _ A9.out).mono ?_); rintro e w' ⟨rfl, ⟨nd, rfl⟩⟩; (try first | exact ⟨rfl, _, World.drewN_drewN _ _ _⟩ | exact ⟨rfl, _, Eq.trans (World.drewN_drewN _ _ _) (congrArg (World.drewN _) (Nat.add_assoc _ _ _))⟩)) | (go_at_call 66; (with_reducible refine (rec_read.calls kj2 (a0.extract 6 ((wrap64 (6 + t144)) : Int).toNat) t148 t149 t150 t151 t152 t153 false _ A12.out).mono ?_); rintro e w25 ⟨rfl, hb⟩; replace BK143 := Aside0.mk (blk_below (g := gb143) (o := .cells #[.int .i64 0, .int .i64 0, .string (⟨#[]⟩ : ByteArray), .string (⟨#[]⟩ : ByteArray), .int .i64 0, .bool false] 25 (0, 0)) (bk BK143.out) hb); replace HB := Aside0.mk (below_step bo hb); (try clear hb); (try clear hb2); (try clear hk); (try clear hi); obtain ⟨hcz26_0, hcz26_1, hcz26_2, hcz26_3, hcz26_4, hcz26_5⟩ := cl6 BK143.out; obtain ⟨hfz26_0, hfz26_1, hfz26_2, hfz26_3, hfz26_4, hfz26_5⟩ := fz6 BK143.out)); try go_wp2_with (first | (go_at_call 65; (with_reducible refine (vbi_TakeFour.calls kj2 (a0.extract 2 a0.size) t146 t147 _ A9.out).mono ?_); rintro e w' ⟨rfl, ⟨nd, rfl⟩⟩; (try first | exact ⟨rfl, _, World.drewN_drewN _ _ _⟩ | exact ⟨rfl, _, Eq.trans (World.drewN_drewN _ _ _) (congrArg (World.drewN _) (Nat.add_assoc _ _ _))⟩)) | (go_at_call 66; (with_reducible refine (rec_read.calls kj2 (a0.extract 6 ((wrap64 (6 + t144)) : Int).toNat) t148 t149 t150 t151 t152 t153 false _ A12.out).mono ?_); rintro e w25 ⟨rfl, hb⟩; replace BK143 := Aside0.mk (blk_below (g := gb143) (o := .cells #[.int .i64 0, .int .i64 0, .string (⟨#[]⟩ : ByteArray), .string (⟨#[]⟩ : ByteArray), .int .i64 0, .bool false] 25 (0, 0)) (bk BK143.out) hb); replace HB := Aside0.mk (below_step bo hb); (try clear hb); (try clear hb2); (try clear hk); (try clear hi); obtain ⟨hcz26_0, hcz26_1, hcz26_2, hcz26_3, hcz26_4, hcz26_5⟩ := cl6 BK143.out; obtain ⟨hfz26_0, hfz26_1, hfz26_2, hfz26_3, hfz26_4, hfz26_5⟩ := fz6 BK143.out)))
        refine bodyPost_ret (results_ctt rfl _ _ gb143 25 #[.int .i64 0, .int .i64 0, .string (⟨#[]⟩ : ByteArray), .string (⟨#[]⟩ : ByteArray), .int .i64 0, .bool false] (0, 0) _ rfl (by (with_reducible repeat (first | refine blk_drewN ?_ _ | refine blk_drew ?_ | refine blk_alloc ?_ _)); refine blk_put (cs := #[.int .i64 0, .int .i64 0, .string (⟨#[]⟩ : ByteArray), .string (⟨#[]⟩ : ByteArray), .int .i64 0, .bool t153]) ?_ 5 _ rfl; (with_reducible repeat (first | refine blk_drewN ?_ _ | refine blk_drew ?_ | refine blk_alloc ?_ _)); refine blk_put (cs := #[.int .i64 0, .int .i64 0, .string (⟨#[]⟩ : ByteArray), .string (⟨#[]⟩ : ByteArray), .int .i64 t152, .bool t153]) ?_ 4 _ rfl; (with_reducible repeat (first | refine blk_drewN ?_ _ | refine blk_drew ?_ | refine blk_alloc ?_ _)); refine blk_put (cs := #[.int .i64 0, .int .i64 0, .string (⟨#[]⟩ : ByteArray), .string t151, .int .i64 t152, .bool t153]) ?_ 3 _ rfl; (with_reducible repeat (first | refine blk_drewN ?_ _ | refine blk_drew ?_ | refine blk_alloc ?_ _)); refine blk_put (cs := #[.int .i64 0, .int .i64 0, .string t150, .string t151, .int .i64 t152, .bool t153]) ?_ 2 _ rfl; (with_reducible repeat (first | refine blk_drewN ?_ _ | refine blk_drew ?_ | refine blk_alloc ?_ _)); refine blk_put (cs := #[.int .i64 0, .int .i64 t149, .string t150, .string t151, .int .i64 t152, .bool t153]) ?_ 1 _ rfl; (with_reducible repeat (first | refine blk_drewN ?_ _ | refine blk_drew ?_ | refine blk_alloc ?_ _)); refine blk_put (cs := #[.int .i64 t148, .int .i64 t149, .string t150, .string t151, .int .i64 t152, .bool t153]) ?_ 0 _ rfl; (with_reducible repeat (first | refine blk_drewN ?_ _ | refine blk_drew ?_ | refine blk_alloc ?_ _)); refine blk_put (cs := #[.int .i64 t148, .int .i64 t149, .string t150, .string t151, .int .i64 t152, .bool false]) ?_ 5 _ rfl; (with_reducible repeat (first | refine blk_drewN ?_ _ | refine blk_drew ?_ | refine blk_alloc ?_ _)); refine blk_put (cs := #[.int .i64 t148, .int .i64 t149, .string t150, .string t151, .int .i64 0, .bool false]) ?_ 4 _ rfl; (with_reducible repeat (first | refine blk_drewN ?_ _ | refine blk_drew ?_ | refine blk_alloc ?_ _)); refine blk_put (cs := #[.int .i64 t148, .int .i64 t149, .string t150, .string (⟨#[]⟩ : ByteArray), .int .i64 0, .bool false]) ?_ 3 _ rfl; (with_reducible repeat (first | refine blk_drewN ?_ _ | refine blk_drew ?_ | refine blk_alloc ?_ _)); refine blk_put (cs := #[.int .i64 t148, .int .i64 t149, .string (⟨#[]⟩ : ByteArray), .string (⟨#[]⟩ : ByteArray), .int .i64 0, .bool false]) ?_ 2 _ rfl; (with_reducible repeat (first | refine blk_drewN ?_ _ | refine blk_drew ?_ | refine blk_alloc ?_ _)); refine blk_put (cs := #[.int .i64 t148, .int .i64 0, .string (⟨#[]⟩ : ByteArray), .string (⟨#[]⟩ : ByteArray), .int .i64 0, .bool false]) ?_ 1 _ rfl; (with_reducible repeat (first | refine blk_drewN ?_ _ | refine blk_drew ?_ | refine blk_alloc ?_ _)); refine blk_put (cs := #[.int .i64 0, .int .i64 0, .string (⟨#[]⟩ : ByteArray), .string (⟨#[]⟩ : ByteArray), .int .i64 0, .bool false]) ?_ 0 _ rfl; (with_reducible repeat (first | refine blk_drewN ?_ _ | refine blk_drew ?_ | refine blk_alloc ?_ _)); exact BK143.out) Try.underlying25 rfl (by kernel_rfl)) rfl ?_
        exact ⟨er, bo⟩
      ·rw [if_neg c11] at H
       exact absurd H (by simp)
     ·rw [if_neg c10] at H
      exact absurd H (by simp)
    ·rw [if_neg c8] at H
     exact absurd H (by simp)

end Go.Proofs.Ytmabdfdmccbfnaa.P

-- written by a program of the proving session, out of the translation; Lean checks it
namespace Go.Proofs.Ytmabdfdmccbfnaa.P
open Go.RowKit Go.Proofs.Ytmabdfdmccbfnaa.Sq Go.Proofs.YtmabdfdmccbfnaaW.PrintWords Go.Proofs.YtmabdfdmccbfnaaW.PrintLast Go.Proofs.YtmabdfdmccbfnaaW.PrintMore
attribute [local go_sem] max2_int min2_int max_two min_two max_three min_three max_four min_four   -- for this text's walks alone
set_option linter.unusedVariables false
set_option linter.unusedSimpArgs false

/-! ### rec_Scan: function 25 -/
def rec_Scan.l0 : Nat → ByteArray → List (S25) → Int → Option ((List (S25)) × Int × Bool)
 | 0, _, _, _ => none
 | k + 1, x0, x2, x3 => if x3 < (x0.size : Int) then (if 0 ≤ x3 then (if x3 ≤ (x0.size : Int) then ((rec_Take.f k (x0.extract (x3 : Int).toNat x0.size)).bind fun bt265 => (if bt265.2.2.2.2.2.2.2 = 0 then (if x2.length < 2199023255552 then (rec_Scan.l0 k x0 (x2 ++ [(⟨bt265.1, bt265.2.1, bt265.2.2.1, bt265.2.2.2.1, bt265.2.2.2.2.1, bt265.2.2.2.2.2.1⟩ : S25)]) (wrap64 (x3 + bt265.2.2.2.2.2.2.1))) else (none)) else (some (x2, x3, false)))) else (none)) else (none)) else (some (x2, x3, true))
def rec_Scan.f (k : Nat) (a0 : ByteArray) : Option ((List (S25)) × Int × Bool) := rec_Scan.l0 k a0 ([] : List (S25)) 0
theorem rec_Scan.mono_l : ∀ k, (∀ y0 y1 y2, LeO (rec_Scan.l0 k y0 y1 y2) (rec_Scan.l0 (k + 1) y0 y1 y2))
 | 0 => fun _ _ _ r h => by simp [rec_Scan.l0] at h
 | k + 1 => by
  have ih0 := rec_Scan.mono_l k
  ·intro y0 y1 y2
   unfold rec_Scan.l0
   repeat' first
   | (with_reducible exact ih0 _ _ _)
   | (with_reducible exact rec_Take.mono _ _)
   | (with_reducible exact LeO.refl _)
   | (with_reducible exact LeO.none _)
   | (with_reducible refine LeO.ite ?_ ?_)
   | (with_reducible refine LeO.bind ?_ (fun _ => ?_))
   | exact ih0 _ _ _
   | exact rec_Take.mono _ _
   | exact LeO.none _
   | refine LeO.ite ?_ ?_
   | refine LeO.bind ?_ (fun _ => ?_)
theorem rec_Scan.mono : ∀ a0 k, LeO (rec_Scan.f k a0) (rec_Scan.f (k + 1) a0) := by
 intro a0 k
 have ih0 := rec_Scan.mono_l k
 unfold rec_Scan.f
 repeat' first
  | (with_reducible exact ih0 _ _ _)
  | (with_reducible exact rec_Take.mono _ _)
  | (with_reducible exact LeO.refl _)
  | (with_reducible exact LeO.none _)
  | (with_reducible refine LeO.ite ?_ ?_)
  | (with_reducible refine LeO.bind ?_ (fun _ => ?_))
  | exact ih0 _ _ _
  | exact rec_Take.mono _ _
  | exact LeO.none _
  | refine LeO.ite ?_ ?_
  | refine LeO.bind ?_ (fun _ => ?_)
set_option maxHeartbeats 8000000 in
set_option maxRecDepth 100000 in
theorem rec_Scan.calls (k : Nat) (a0 : ByteArray) (r1 : List (S25)) (r2 : Int) (r3 : Bool) (w : World) (h : rec_Scan.f k a0 = some (r1, r2, r3)) :
 Calls Try.prog 25 #[.string a0] w fun e w' => ∃ v0_ : Value, e = .returned (.tuple #[v0_, .int .i64 r2, .bool r3]) ∧ Kd.R k25 25 w' w.heap.size (fun _ => True) v0_ r1 ∧ Below w.heap.size w w' := by
 have hu25 := Try.underlying25
 have HB := Aside0.mk (Below.refl w.heap.size w)
 have H : (rec_Scan.l0 k a0 ([] : List (S25)) 0) = some (r1, r2, r3) := h
 clear h
 have H' := Aside0.mk H
 clear H
 go_enter Try.func25, Try.ntmps25
 go_wp2
 go_loopg [2, 3] k (fun kq v2 v3 w' => ∃ (x2_1 : List (S25)) (x3_1 : Int), v3 = .int .i64 x3_1 ∧ Aside0 (rec_Scan.l0 kq a0 x2_1 x3_1 = some (r1, r2, r3)) ∧ Aside0 (kq ≤ k) ∧ Aside0 (Kd.R k25 25 w' w.heap.size (fun _ => True) v2 x2_1) ∧ Aside0 (Below w.heap.size w w'))
 case atStart => exact ⟨(([] : List (S25))), (0), ap, H', ⟨Nat.le_refl _⟩, ⟨by first | exact Kd.R_nil _ _ _ _ _ | exact Kd.N_nil _ _ _ _ _ | exact Kd.V_nil _ _ _ _ _ | exact Kd.Q_nil _ _ _ _ _ | exact Kd.S_nil _ _ _ _ _⟩, ⟨bo⟩⟩
 case round =>
  clear H'
  obtain ⟨x2_1, x3_1, rfl, HA, HK1, HO_2, HB⟩ := hrel
  cases gk with
  | zero => exact absurd HA.out (by simp [rec_Scan.l0])
  | succ k1 =>
   have H := HA.out
   clear HA
   simp only [rec_Scan.l0] at H
   by_cases c2 : x3_1 < (a0.size : Int)
   ·rw [if_pos c2] at H
    have c2b0 : decide (x3_1 < (a0.size : Int)) = true := decide_eq_true c2
    clear c2
    by_cases c3 : 0 ≤ x3_1
    ·rw [if_pos c3] at H
     have c3b0 := eq_true c3
     have c3b1 : decide (0 ≤ x3_1) = true := decide_eq_true c3
     clear c3
     by_cases c4 : x3_1 ≤ (a0.size : Int)
     ·rw [if_pos c4] at H
      have c4b0 := eq_true c4
      have c4b1 : decide (x3_1 ≤ (a0.size : Int)) = true := decide_eq_true c4
      clear c4
      replace H := Option.bind_eq_some_iff.mp H
      obtain ⟨⟨t265, t266, t267, t268, t269, t270, t271, t272⟩, A50, H⟩ := H
      replace H : (if t272 = 0 then (if x2_1.length < 2199023255552 then (rec_Scan.l0 k1 a0 (x2_1 ++ [(⟨t265, t266, t267, t268, t269, t270⟩ : S25)]) (wrap64 (x3_1 + t271))) else (none)) else (some (x2_1, x3_1, false))) = some (r1, r2, r3) := H
      have A5 := Aside0.mk A50
      clear A50
      by_cases c6 : t272 = 0
      ·rw [if_pos c6] at H
       have c6b0 : (t272 == 0) = true := beq_iff_eq.mpr c6
       have c6b1 : (t272 != 0) = false := bne_eq_false_iff_eq.mpr c6
       clear c6
       by_cases c7 : x2_1.length < 2199023255552
       ·rw [if_pos c7] at H
        have LMc7 := Aside0.mk c7
        clear c7
        obtain ⟨y274, hy274⟩ : ∃ y_ : List (S25), y_ = (x2_1 ++ [(⟨t265, t266, t267, t268, t269, t270⟩ : S25)]) := ⟨_, rfl⟩
        replace H : (rec_Scan.l0 k1 a0 y274 (wrap64 (x3_1 + t271))) = some (r1, r2, r3) := by first | (rw [hy274]; with_reducible exact H) | (have H2_ := (Option.bind_some _ _).symm.trans H; rw [hy274]; with_reducible exact H2_) | (have H2_ := (Option.bind_some _ _).symm.trans H; with_reducible exact H2_) | with_reducible exact H | (rw [hy274]; exact H) | exact H
        have Ny274 := Aside0.mk hy274
        clear hy274
        have H' := Aside0.mk H
        clear H
        go_wp2_with (first | ((with_reducible refine gate_callee (f := 16) rfl ?_); refine goesL_ (some 16) rfl rfl Try.func16 (by kernel_rfl) rfl #[.string (a0.extract (x3_1 : Int).toNat a0.size)] rfl aa ?_; (with_reducible refine (rec_Take.calls k1 (a0.extract (x3_1 : Int).toNat a0.size) t265 t266 t267 t268 t269 t270 t271 t272 _ A5.out).mono ?_); rintro e w8 ⟨rfl, hb⟩; refine ⟨_, rfl, ?_⟩; replace HO_2 := Aside0.mk (Kd.R_below (rk HO_2.out) hb); replace HB := Aside0.mk (below_step bo hb); (try clear hb); (try clear hb2); (try clear hk); (try clear hi)) | ((with_reducible refine gate_dst (N := 5) rfl ?_); refine box_event ?hg (N := 5) ?hd (cs := #[.int .i64 0, .int .i64 0, .string (⟨#[]⟩ : ByteArray), .string (⟨#[]⟩ : ByteArray), .int .i64 0, .bool false]) (t := 25) ?hr ?_; (case hd => rfl); (case hg => rfl); (case hr => first | (go_simp; done) | (go_simp; rfl)); intro gb273 hg w9 hbox hb; replace HO_2 := Aside0.mk (Kd.R_below (Kd.R_elderB (rk HO_2.out) gb273 (Nat.le_of_eq hg.symm)) hb); have BK273 := Aside0.mk (hbox); have GW273 := Aside0.mk ((by rw [hg]; exact (below_size bo) : w.heap.size ≤ gb273)); have GE273 := Aside0.mk ((by rw [hg]; exact (below_size bo) : w.heap.size ≤ gb273)); replace HB := Aside0.mk (below_step bo hb); clear hb hbox hg; obtain ⟨hcz10_0, hcz10_1, hcz10_2, hcz10_3, hcz10_4, hcz10_5⟩ := cl6 BK273.out; obtain ⟨hfz10_0, hfz10_1, hfz10_2, hfz10_3, hfz10_4, hfz10_5⟩ := fz6 BK273.out) | ((with_reducible refine gate_builtin (b := .append) (xs := #[.tmp 24, .tmp 26]) rfl ?_); at_builtin; refine Kd.R_append k25 (w0 := w) w.heap.size rfl (.tmp 24) (.tmp 26) 36 25 (.agg #[(.int .i64 0), (.int .i64 0), (.string ⟨#[]⟩), (.string ⟨#[]⟩), (.int .i64 0), (.bool false)]) 64 rfl Try.underlying36 info25 rfl (by decide) (by omega) u2 x2_1 (⟨t265, t266, t267, t268, t269, t270⟩ : S25) [.int .i64 t265, .int .i64 t266, .string t267, .string t268, .int .i64 t269, .bool t270] (fun k_ => k_ ≠ gb273) (fun _ => False) rfl (by first | (go_simp; done) | (go_simp; rfl)) ?aP (fun _ hk => hk.elim) ?aF ?aO ?aB ?aS ?aL ?_; (case aP => exact k25_mkM _ _ _ (⟨t265, t266, t267, t268, t269, t270⟩ : S25)); (case aB => exact bo); (case aF => exact (fun k_ hk => Kd.freshB (g := gb273) (o := .cells #[.int .i64 t265, .int .i64 t266, .string t267, .string t268, .int .i64 t269, .bool t270] 25 (0, 0)) (by (with_reducible repeat (first | refine blk_drewN ?_ _ | refine blk_drew ?_ | refine blk_alloc ?_ _)); refine blk_put (cs := #[.int .i64 t265, .int .i64 t266, .string t267, .string t268, .int .i64 t269, .bool false]) ?_ 5 _ rfl; (with_reducible repeat (first | refine blk_drewN ?_ _ | refine blk_drew ?_ | refine blk_alloc ?_ _)); refine blk_put (cs := #[.int .i64 t265, .int .i64 t266, .string t267, .string t268, .int .i64 0, .bool false]) ?_ 4 _ rfl; (with_reducible repeat (first | refine blk_drewN ?_ _ | refine blk_drew ?_ | refine blk_alloc ?_ _)); refine blk_put (cs := #[.int .i64 t265, .int .i64 t266, .string t267, .string (⟨#[]⟩ : ByteArray), .int .i64 0, .bool false]) ?_ 3 _ rfl; (with_reducible repeat (first | refine blk_drewN ?_ _ | refine blk_drew ?_ | refine blk_alloc ?_ _)); refine blk_put (cs := #[.int .i64 t265, .int .i64 t266, .string (⟨#[]⟩ : ByteArray), .string (⟨#[]⟩ : ByteArray), .int .i64 0, .bool false]) ?_ 2 _ rfl; (with_reducible repeat (first | refine blk_drewN ?_ _ | refine blk_drew ?_ | refine blk_alloc ?_ _)); refine blk_put (cs := #[.int .i64 t265, .int .i64 0, .string (⟨#[]⟩ : ByteArray), .string (⟨#[]⟩ : ByteArray), .int .i64 0, .bool false]) ?_ 1 _ rfl; (with_reducible repeat (first | refine blk_drewN ?_ _ | refine blk_drew ?_ | refine blk_alloc ?_ _)); refine blk_put (cs := #[.int .i64 0, .int .i64 0, .string (⟨#[]⟩ : ByteArray), .string (⟨#[]⟩ : ByteArray), .int .i64 0, .bool false]) ?_ 0 _ rfl; (with_reducible repeat (first | refine blk_drewN ?_ _ | refine blk_drew ?_ | refine blk_alloc ?_ _)); exact BK273.out) k_ hk)); (case aO => exact (by (with_reducible repeat (first | apply Kd.R_alloc | apply Kd.R_drewN | apply Kd.R_drew)); exact Kd.R_mono (Kd.R_far (p := ⟨gb273, 5, none⟩) (Kd.R_far (p := ⟨gb273, 4, none⟩) (Kd.R_far (p := ⟨gb273, 3, none⟩) (Kd.R_far (p := ⟨gb273, 2, none⟩) (Kd.R_far (p := ⟨gb273, 1, none⟩) (Kd.R_far (p := ⟨gb273, 0, none⟩) (Kd.R_mono HO_2.out (fun k_ hk => (⟨hk, hk.2⟩ : _ ∧ k_ ≠ gb273))) (fun _ hk => hk.2) (.int .i64 t265)) (fun _ hk => hk.2) (.int .i64 t266)) (fun _ hk => hk.2) (.string t267)) (fun _ hk => hk.2) (.string t268)) (fun _ hk => hk.2) (.int .i64 t269)) (fun _ hk => hk.2) (.bool t270)) (fun _ hk => hk.1.2))); (case aS => exact (below_size bo)); (case aL => have := LMc7.out; omega); intro v275 w11 ho hb hg hat; rw [← Ny274.out] at ho; have n0_ := Aside0.mk (blk_grown (g := gb273) (o := .cells #[.int .i64 t265, .int .i64 t266, .string t267, .string t268, .int .i64 t269, .bool t270] 25 (0, 0)) (by (with_reducible repeat (first | refine blk_drewN ?_ _ | refine blk_drew ?_ | refine blk_alloc ?_ _)); refine blk_put (cs := #[.int .i64 t265, .int .i64 t266, .string t267, .string t268, .int .i64 t269, .bool false]) ?_ 5 _ rfl; (with_reducible repeat (first | refine blk_drewN ?_ _ | refine blk_drew ?_ | refine blk_alloc ?_ _)); refine blk_put (cs := #[.int .i64 t265, .int .i64 t266, .string t267, .string t268, .int .i64 0, .bool false]) ?_ 4 _ rfl; (with_reducible repeat (first | refine blk_drewN ?_ _ | refine blk_drew ?_ | refine blk_alloc ?_ _)); refine blk_put (cs := #[.int .i64 t265, .int .i64 t266, .string t267, .string (⟨#[]⟩ : ByteArray), .int .i64 0, .bool false]) ?_ 3 _ rfl; (with_reducible repeat (first | refine blk_drewN ?_ _ | refine blk_drew ?_ | refine blk_alloc ?_ _)); refine blk_put (cs := #[.int .i64 t265, .int .i64 t266, .string (⟨#[]⟩ : ByteArray), .string (⟨#[]⟩ : ByteArray), .int .i64 0, .bool false]) ?_ 2 _ rfl; (with_reducible repeat (first | refine blk_drewN ?_ _ | refine blk_drew ?_ | refine blk_alloc ?_ _)); refine blk_put (cs := #[.int .i64 t265, .int .i64 0, .string (⟨#[]⟩ : ByteArray), .string (⟨#[]⟩ : ByteArray), .int .i64 0, .bool false]) ?_ 1 _ rfl; (with_reducible repeat (first | refine blk_drewN ?_ _ | refine blk_drew ?_ | refine blk_alloc ?_ _)); refine blk_put (cs := #[.int .i64 0, .int .i64 0, .string (⟨#[]⟩ : ByteArray), .string (⟨#[]⟩ : ByteArray), .int .i64 0, .bool false]) ?_ 0 _ rfl; (with_reducible repeat (first | refine blk_drewN ?_ _ | refine blk_drew ?_ | refine blk_alloc ?_ _)); exact BK273.out) hg (Kd.R_away HO_2.out (fun _ hk => hk.2))); have n1_ := Aside0.mk (hb); have n2_ := Aside0.mk (ho); clear BK273; clear HB; clear HO_2; have BK273 := n0_; have HB := n1_; have HO276 := n2_; clear n0_ n1_ n2_; clear ho hb hg hat))
        go_roundg k1
        case measure => have := HK1.out; omega
        case rel => exact ⟨(y274), (wrap64 (x3_1 + t271)), ap, H', ⟨by have := HK1.out; omega⟩, ⟨by (with_reducible repeat (first | apply Kd.R_alloc | apply Kd.R_drewN | apply Kd.R_drew)); exact Kd.R_mono HO276.out (fun _ hk => trivial)⟩, ⟨bo⟩⟩
       ·rw [if_neg c7] at H
        exact absurd H (by simp)
      ·rw [if_neg c6] at H
       have c6b0 : (t272 == 0) = false := beq_eq_false_iff_ne.mpr c6
       have c6b1 : (t272 != 0) = true := bne_iff_ne.mpr c6
       simp only [Option.some.injEq, Prod.mk.injEq] at H
       obtain ⟨rfl, rfl, rfl⟩ := H
       go_wp2_with (first | ((with_reducible refine gate_callee (f := 16) rfl ?_); refine goesL_ (some 16) rfl rfl Try.func16 (by kernel_rfl) rfl #[.string (a0.extract (x3_1 : Int).toNat a0.size)] rfl aa ?_; (with_reducible refine (rec_Take.calls k1 (a0.extract (x3_1 : Int).toNat a0.size) t265 t266 t267 t268 t269 t270 t271 t272 _ A5.out).mono ?_); rintro e w12 ⟨rfl, hb⟩; refine ⟨_, rfl, ?_⟩; replace HO_2 := Aside0.mk (Kd.R_below (rk HO_2.out) hb); replace HB := Aside0.mk (below_step bo hb); (try clear hb); (try clear hb2); (try clear hk); (try clear hi)) | ((with_reducible refine gate_dst (N := 5) rfl ?_); refine box_event ?hg (N := 5) ?hd (cs := #[.int .i64 0, .int .i64 0, .string (⟨#[]⟩ : ByteArray), .string (⟨#[]⟩ : ByteArray), .int .i64 0, .bool false]) (t := 25) ?hr ?_; (case hd => rfl); (case hg => rfl); (case hr => first | (go_simp; done) | (go_simp; rfl)); intro gb273 hg w13 hbox hb; replace HO_2 := Aside0.mk (Kd.R_below (Kd.R_elderB (rk HO_2.out) gb273 (Nat.le_of_eq hg.symm)) hb); have BK273 := Aside0.mk (hbox); have GW273 := Aside0.mk ((by rw [hg]; exact (below_size bo) : w.heap.size ≤ gb273)); have GE273 := Aside0.mk ((by rw [hg]; exact (below_size bo) : w.heap.size ≤ gb273)); replace HB := Aside0.mk (below_step bo hb); clear hb hbox hg; obtain ⟨hcz14_0, hcz14_1, hcz14_2, hcz14_3, hcz14_4, hcz14_5⟩ := cl6 BK273.out; obtain ⟨hfz14_0, hfz14_1, hfz14_2, hfz14_3, hfz14_4, hfz14_5⟩ := fz6 BK273.out))
       go_ret3
       exact ⟨_, er, by (with_reducible repeat (first | apply Kd.R_alloc | apply Kd.R_drewN | apply Kd.R_drew)); exact Kd.R_mono (Kd.R_far (p := ⟨gb273, 5, none⟩) (Kd.R_far (p := ⟨gb273, 4, none⟩) (Kd.R_far (p := ⟨gb273, 3, none⟩) (Kd.R_far (p := ⟨gb273, 2, none⟩) (Kd.R_far (p := ⟨gb273, 1, none⟩) (Kd.R_far (p := ⟨gb273, 0, none⟩) (Kd.R_mono HO_2.out (fun k_ hk => (⟨hk, hk.2⟩ : _ ∧ k_ ≠ gb273))) (fun _ hk => hk.2) (.int .i64 t265)) (fun _ hk => hk.2) (.int .i64 t266)) (fun _ hk => hk.2) (.string t267)) (fun _ hk => hk.2) (.string t268)) (fun _ hk => hk.2) (.int .i64 t269)) (fun _ hk => hk.2) (.bool t270)) (fun _ hk => trivial), bo⟩
     ·rw [if_neg c4] at H
      exact absurd H (by simp)
    ·rw [if_neg c3] at H
     exact absurd H (by simp)
   ·rw [if_neg c2] at H
    have c2b0 : decide (x3_1 < (a0.size : Int)) = false := decide_eq_false c2
    clear c2
    simp only [Option.some.injEq, Prod.mk.injEq] at H
    obtain ⟨rfl, rfl, rfl⟩ := H
    go_wp2
    go_ret3
    exact ⟨_, er, by (with_reducible repeat (first | apply Kd.R_alloc | apply Kd.R_drewN | apply Kd.R_drew)); exact HO_2.out, bo⟩

end Go.Proofs.Ytmabdfdmccbfnaa.P

-- written by a program of the proving session, out of the translation; Lean checks it
namespace Go.Proofs.Ytmabdfdmccbfnaa.P
open Go.RowKit Go.Proofs.Ytmabdfdmccbfnaa.Sq Go.Proofs.YtmabdfdmccbfnaaW.PrintWords Go.Proofs.YtmabdfdmccbfnaaW.PrintLast Go.Proofs.YtmabdfdmccbfnaaW.PrintMore
attribute [local go_sem] max2_int min2_int max_two min_two max_three min_three max_four min_four   -- for this text's walks alone
set_option linter.unusedVariables false
set_option linter.unusedSimpArgs false

/-! ### seg_Parse: function 38 -/
mutual
def seg_Parse.j0 : Nat → Int → ByteArray → Int → Bool → Int → Option (Int × (List (S25)) × Int × Int)
 | 0, _, _, _, _, _ => none
 | k + 1, x0, x1, x5, x19, x442000 => if x19 = true then (some (x442000, ([] : List (S25)), 0, 1)) else ((rec_Scan.f k x1).bind fun bt442 => (seg_Parse.l0 k x0 x5 bt442.1 (bt442.1.length : Int) 0 x0 ([] : List (S25))))
def seg_Parse.l0 : Nat → Int → Int → List (S25) → Int → Int → Int → List (S25) → Option (Int × (List (S25)) × Int × Int)
 | 0, _, _, _, _, _, _, _ => none
 | k + 1, x0, x5, x29, x30, x31, x442000, x442001 => if x31 < x30 then (if 0 ≤ x31 then (if x31 < (x29.length : Int) then ((seg_behind.f k x0 x442001 ((rd_T25 x29 x31).f0) ((rd_T25 x29 x31).f1) ((rd_T25 x29 x31).f2) ((rd_T25 x29 x31).f3) ((rd_T25 x29 x31).f4) ((rd_T25 x29 x31).f5)).bind fun t449 => (if t449 = true then ((rec_Size.f k ((rd_T25 x29 x31).f0) ((rd_T25 x29 x31).f1) ((rd_T25 x29 x31).f2) ((rd_T25 x29 x31).f3) ((rd_T25 x29 x31).f4) ((rd_T25 x29 x31).f5)).bind fun bt450 => (if x442001.length < 2199023255552 then (seg_Parse.l0 k x0 (wrap64 (x5 + bt450.1)) x29 x30 (wrap64 (x31 + 1)) x442000 (x442001 ++ [(⟨(rd_T25 x29 x31).f0, (rd_T25 x29 x31).f1, (rd_T25 x29 x31).f2, (rd_T25 x29 x31).f3, (rd_T25 x29 x31).f4, (rd_T25 x29 x31).f5⟩ : S25)])) else (none))) else (some (x442000, x442001, x5, 0)))) else (none)) else (none)) else (some (x442000, x442001, x5, 0))
end
def seg_Parse.f (k : Nat) (a0 : Int) (a1 : ByteArray) : Option (Int × (List (S25)) × Int × Int) := if a0 < 0 then (seg_Parse.j0 k a0 a1 0 true 0) else (seg_Parse.j0 k a0 a1 0 (decide (a0 > 1099511627776)) 0)
theorem seg_Parse.mono_l : ∀ k, (∀ y0 y1 y2 y3 y4, LeO (seg_Parse.j0 k y0 y1 y2 y3 y4) (seg_Parse.j0 (k + 1) y0 y1 y2 y3 y4)) ∧ (∀ y0 y1 y2 y3 y4 y5 y6, LeO (seg_Parse.l0 k y0 y1 y2 y3 y4 y5 y6) (seg_Parse.l0 (k + 1) y0 y1 y2 y3 y4 y5 y6))
 | 0 => ⟨fun _ _ _ _ _ r h => by simp [seg_Parse.j0] at h, fun _ _ _ _ _ _ _ r h => by simp [seg_Parse.l0] at h⟩
 | k + 1 => by
  obtain ⟨ih0, ih1⟩ := seg_Parse.mono_l k
  refine ⟨?_, ?_⟩
  ·intro y0 y1 y2 y3 y4
   unfold seg_Parse.j0
   repeat' first
   | (with_reducible exact ih0 _ _ _ _ _)
   | (with_reducible exact ih1 _ _ _ _ _ _ _)
   | (with_reducible exact rec_Scan.mono _ _)
   | (with_reducible exact rec_Size.mono _ _ _ _ _ _ _)
   | (with_reducible exact seg_behind.mono _ _ _ _ _ _ _ _ _)
   | (with_reducible exact LeO.refl _)
   | (with_reducible exact LeO.none _)
   | (with_reducible refine LeO.ite ?_ ?_)
   | (with_reducible refine LeO.bind ?_ (fun _ => ?_))
   | exact ih0 _ _ _ _ _
   | exact ih1 _ _ _ _ _ _ _
   | exact rec_Scan.mono _ _
   | exact rec_Size.mono _ _ _ _ _ _ _
   | exact seg_behind.mono _ _ _ _ _ _ _ _ _
   | exact LeO.none _
   | refine LeO.ite ?_ ?_
   | refine LeO.bind ?_ (fun _ => ?_)
  ·intro y0 y1 y2 y3 y4 y5 y6
   unfold seg_Parse.l0
   repeat' first
   | (with_reducible exact ih0 _ _ _ _ _)
   | (with_reducible exact ih1 _ _ _ _ _ _ _)
   | (with_reducible exact rec_Scan.mono _ _)
   | (with_reducible exact rec_Size.mono _ _ _ _ _ _ _)
   | (with_reducible exact seg_behind.mono _ _ _ _ _ _ _ _ _)
   | (with_reducible exact LeO.refl _)
   | (with_reducible exact LeO.none _)
   | (with_reducible refine LeO.ite ?_ ?_)
   | (with_reducible refine LeO.bind ?_ (fun _ => ?_))
   | exact ih0 _ _ _ _ _
   | exact ih1 _ _ _ _ _ _ _
   | exact rec_Scan.mono _ _
   | exact rec_Size.mono _ _ _ _ _ _ _
   | exact seg_behind.mono _ _ _ _ _ _ _ _ _
   | exact LeO.none _
   | refine LeO.ite ?_ ?_
   | refine LeO.bind ?_ (fun _ => ?_)
theorem seg_Parse.mono : ∀ a0 a1 k, LeO (seg_Parse.f k a0 a1) (seg_Parse.f (k + 1) a0 a1) := by
 intro a0 a1 k
 obtain ⟨ih0, ih1⟩ := seg_Parse.mono_l k
 unfold seg_Parse.f
 repeat' first
  | (with_reducible exact ih0 _ _ _ _ _)
  | (with_reducible exact ih1 _ _ _ _ _ _ _)
  | (with_reducible exact rec_Scan.mono _ _)
  | (with_reducible exact rec_Size.mono _ _ _ _ _ _ _)
  | (with_reducible exact seg_behind.mono _ _ _ _ _ _ _ _ _)
  | (with_reducible exact LeO.refl _)
  | (with_reducible exact LeO.none _)
  | (with_reducible refine LeO.ite ?_ ?_)
  | (with_reducible refine LeO.bind ?_ (fun _ => ?_))
  | exact ih0 _ _ _ _ _
  | exact ih1 _ _ _ _ _ _ _
  | exact rec_Scan.mono _ _
  | exact rec_Size.mono _ _ _ _ _ _ _
  | exact seg_behind.mono _ _ _ _ _ _ _ _ _
  | exact LeO.none _
  | refine LeO.ite ?_ ?_
  | refine LeO.bind ?_ (fun _ => ?_)
set_option maxHeartbeats 8000000 in
set_option maxRecDepth 100000 in
theorem seg_Parse.calls (k : Nat) (a0 : Int) (a1 : ByteArray) (r1 : Int) (r2 : List (S25)) (r3 : Int) (r4 : Int) (w : World) (h : seg_Parse.f k a0 a1 = some (r1, r2, r3, r4)) :
 Calls Try.prog 38 #[.int .i64 a0, .string a1] w fun e w' => ∃ v1_ : Value, e = .returned (.tuple #[.agg #[.int .i64 r1, v1_], .int .i64 r3, .int .i64 r4]) ∧ Kd.R k25 25 w' w.heap.size (fun _ => True) v1_ r2 ∧ Below w.heap.size w w' := by
 have hu53 := Try.underlying53
 have hu25 := Try.underlying25
 have HB := Aside0.mk (Below.refl w.heap.size w)
 have H : (if a0 < 0 then (seg_Parse.j0 k a0 a1 0 true 0) else (seg_Parse.j0 k a0 a1 0 (decide (a0 > 1099511627776)) 0)) = some (r1, r2, r3, r4) := h
 clear h
 have HC3 := Aside0.mk H
 clear H
 go_enter Try.func38, Try.ntmps38
 go_upto_region 1 with (first | ((with_reducible refine gate_dst (N := 4) rfl ?_); refine box_event ?hg (N := 4) ?hd (cs := #[.int .i64 0, .slice none 0 0]) (t := 53) ?hr ?_; (case hd => rfl); (case hg => rfl); (case hr => first | (go_simp; done) | (go_simp; rfl)); intro gb441 hg w4 hbox hb; have BK441 := Aside0.mk (hbox); have GW441 := Aside0.mk ((by rw [hg]; exact (below_size bo) : w.heap.size ≤ gb441)); have GE441 := Aside0.mk ((by rw [hg]; exact (below_size bo) : w.heap.size ≤ gb441)); replace HB := Aside0.mk (below_step bo hb); clear hb hbox hg))
 (try simp only [Act.put, List.setIfInBounds_toArray, List.set_cons_zero, List.set_cons_succ])
 go_cut [19] (fun v19 wc => ∃ (kq : Nat) (x19_2 : Bool), v19 = .bool x19_2 ∧ Aside0 (seg_Parse.j0 kq a0 a1 0 x19_2 0 = some (r1, r2, r3, r4)) ∧ Aside0 (kq ≤ k) ∧ Aside0 (wc.heap[gb441]? = some (.cells #[.int .i64 0, (.slice none 0 0)] 53 (0, 0))) ∧ Aside0 (Below w.heap.size w wc))
 case first =>
  have H := HC3.out
  clear HC3
  by_cases c5 : a0 < 0
  ·rw [if_pos c5] at H
   have c5b0 : decide (a0 < 0) = true := decide_eq_true c5
   clear c5
   (first | rw [c5b0] | (simp only [i64_w, i32_w]; rw [c5b0]) | skip)
   have H' := Aside0.mk H
   clear H
   go_wp2
   go_meet
   case rel => exact ⟨_, (true), ap, H', ⟨by first | omega | exact Nat.le_refl _⟩, ⟨by (with_reducible repeat (first | refine blk_drewN ?_ _ | refine blk_drew ?_ | refine blk_alloc ?_ _)); exact BK441.out⟩, ⟨bo⟩⟩
  ·rw [if_neg c5] at H
   have c5b0 : decide (a0 < 0) = false := decide_eq_false c5
   clear c5
   (first | rw [c5b0] | (simp only [i64_w, i32_w]; rw [c5b0]) | skip)
   have H' := Aside0.mk H
   clear H
   go_wp2
   go_meet
   case rel => exact ⟨_, (decide (a0 > 1099511627776)), ap, H', ⟨by first | omega | exact Nat.le_refl _⟩, ⟨by (with_reducible repeat (first | refine blk_drewN ?_ _ | refine blk_drew ?_ | refine blk_alloc ?_ _)); exact BK441.out⟩, ⟨bo⟩⟩
 case rest =>
  clear HC3
  try clear p2
  try clear c3
  try clear c5
  try clear c5b0
  obtain ⟨kq, x19_2, rfl, HA, HJ2, BK441, HB⟩ := hcut
  cases kq with
  | zero => exact absurd HA.out (by simp [seg_Parse.j0])
  | succ kj2 =>
   have H := HA.out
   clear HA
   simp only [seg_Parse.j0] at H
   by_cases c6 : x19_2 = true
   ·subst c6
    have H1 : (some (0, ([] : List (S25)), 0, 1)) = some (r1, r2, r3, r4) := by rw [if_pos rfl] at H; exact H
    clear H
    have H := H1
    clear H1
    simp only [Option.some.injEq, Prod.mk.injEq] at H
    obtain ⟨rfl, rfl, rfl, rfl⟩ := H
    have hcz7_0 : wc.cell? ⟨gb441, 0, none⟩ = some (.int .i64 0) := (blk_cell BK441.out 0).trans rfl
    have hcz7_1 : wc.cell? ⟨gb441, 1, none⟩ = some (.slice none 0 0) := (blk_cell BK441.out 1).trans rfl
    have hfz7_0 := blk_frozen BK441.out 0
    have hfz7_1 := blk_frozen BK441.out 1
    go_wp2
    refine bodyPost_ret (results_ctt rfl _ _ gb441 53 #[.int .i64 0, .slice none 0 0] (0, 0) _ rfl (by (with_reducible repeat (first | refine blk_drewN ?_ _ | refine blk_drew ?_ | refine blk_alloc ?_ _)); refine blk_put (cs := #[.int .i64 0, .slice none 0 0]) ?_ 1 _ rfl; (with_reducible repeat (first | refine blk_drewN ?_ _ | refine blk_drew ?_ | refine blk_alloc ?_ _)); refine blk_put (cs := #[.int .i64 0, .slice none 0 0]) ?_ 0 _ rfl; (with_reducible repeat (first | refine blk_drewN ?_ _ | refine blk_drew ?_ | refine blk_alloc ?_ _)); exact BK441.out) Try.underlying53 rfl (by kernel_rfl)) rfl ?_
    exact ⟨_, er, by first | exact Kd.R_nil _ _ _ _ _ | exact Kd.N_nil _ _ _ _ _ | exact Kd.V_nil _ _ _ _ _ | exact Kd.Q_nil _ _ _ _ _ | exact Kd.S_nil _ _ _ _ _, bo⟩
   ·replace c6 := Bool.eq_false_iff.mpr c6
    subst c6
    have H1 : ((rec_Scan.f kj2 a1).bind fun bt442 => (seg_Parse.l0 kj2 a0 0 bt442.1 (bt442.1.length : Int) 0 a0 ([] : List (S25)))) = some (r1, r2, r3, r4) := by rw [if_neg (show ¬ (false = true) by decide)] at H; exact H
    clear H
    have H := H1
    clear H1
    replace H := Option.bind_eq_some_iff.mp H
    obtain ⟨⟨t442, t443, t444⟩, A80, H⟩ := H
    replace H : (seg_Parse.l0 kj2 a0 0 t442 (t442.length : Int) 0 a0 ([] : List (S25))) = some (r1, r2, r3, r4) := H
    have A8 := Aside0.mk A80
    clear A80
    have H' := Aside0.mk H
    clear H
    have hcz9_0 : wc.cell? ⟨gb441, 0, none⟩ = some (.int .i64 0) := (blk_cell BK441.out 0).trans rfl
    have hcz9_1 : wc.cell? ⟨gb441, 1, none⟩ = some (.slice none 0 0) := (blk_cell BK441.out 1).trans rfl
    have hfz9_0 := blk_frozen BK441.out 0
    have hfz9_1 := blk_frozen BK441.out 1
    go_wp2_with (first | ((with_reducible refine gate_callee (f := 25) rfl ?_); refine goesL_ (some 25) rfl rfl Try.func25 (by kernel_rfl) rfl #[.string a1] rfl aa ?_; (with_reducible refine (rec_Scan.calls kj2 a1 t442 t443 t444 _ A8.out).mono ?_); rintro e w10 ⟨v445, rfl, ho0, hb⟩; refine ⟨_, rfl, ?_⟩; have HO446 := Aside0.mk (Kd.R_lower ho0 (below_size bo)); replace BK441 := Aside0.mk (blk_below (g := gb441) (o := .cells #[.int .i64 a0, .slice none 0 0] 53 (0, 0)) (by (with_reducible repeat (first | refine blk_drewN ?_ _ | refine blk_drew ?_ | refine blk_alloc ?_ _)); refine blk_put (cs := #[.int .i64 0, .slice none 0 0]) ?_ 0 _ rfl; (with_reducible repeat (first | refine blk_drewN ?_ _ | refine blk_drew ?_ | refine blk_alloc ?_ _)); exact BK441.out) hb); replace HB := Aside0.mk (below_step bo hb); (try clear hb); (try clear hb2); (try clear hk); (try clear hi); (try clear ho0); obtain ⟨Ao11, co11, eo11⟩ := Kd.R_slice HO446.out; subst eo11))
    go_loopg [5, 31] kj2 (fun kq v5 v31 w' => ∃ (x5_2 : Int) (x31_2 : Int) (x442001_2 : List (S25)) (u442001 : Value), v5 = .int .i64 x5_2 ∧ v31 = .int .i64 x31_2 ∧ Aside0 (seg_Parse.l0 kq a0 x5_2 t442 (t442.length : Int) x31_2 a0 x442001_2 = some (r1, r2, r3, r4)) ∧ Aside0 (kq ≤ kj2) ∧ Aside0 (Kd.R k25 25 w' w.heap.size (fun k_ => some k_ ≠ (u442001 : Value).ownBlock) (.slice Ao11 t442.length co11) t442) ∧ Aside0 (Kd.R k25 25 w' w.heap.size (fun k_ => some k_ ≠ ((.slice Ao11 t442.length co11) : Value).ownBlock) u442001 x442001_2) ∧ Aside0 (w'.heap[gb441]? = some (.cells #[.int .i64 a0, u442001] 53 (0, 0))) ∧ Aside0 (Below w.heap.size w w'))
    case atStart => exact ⟨(0), (0), (([] : List (S25))), (.slice none 0 0), ap, ap, H', ⟨Nat.le_refl _⟩, ⟨by (with_reducible repeat (first | apply Kd.R_alloc | apply Kd.R_drewN | apply Kd.R_drew)); exact Kd.R_mono HO446.out (fun _ hk => (by simp [Value.ownBlock]))⟩, ⟨by first | exact Kd.R_nil _ _ _ _ _ | exact Kd.N_nil _ _ _ _ _ | exact Kd.V_nil _ _ _ _ _ | exact Kd.Q_nil _ _ _ _ _ | exact Kd.S_nil _ _ _ _ _⟩, ⟨by (with_reducible repeat (first | refine blk_drewN ?_ _ | refine blk_drew ?_ | refine blk_alloc ?_ _)); exact BK441.out⟩, ⟨bo⟩⟩
    case round =>
     clear H'
     try clear c2
     try clear p2
     try clear c3
     try clear c5
     try clear c5b0
     try clear c6
     try clear hcz7_0
     try clear hcz7_1
     try clear hcz9_0
     try clear hcz9_1
     try clear hfz7_0
     try clear hfz7_1
     try clear hfz9_0
     try clear hfz9_1
     try clear p2
     obtain ⟨x5_2, x31_2, x442001_2, u442001, rfl, rfl, HA, HK2, HO_29, HO_442001, BK441, HB⟩ := hrel
     cases gk with
     | zero => exact absurd HA.out (by simp [seg_Parse.l0])
     | succ k2 =>
      have H := HA.out
      clear HA
      simp only [seg_Parse.l0] at H
      by_cases c12 : x31_2 < (t442.length : Int)
      ·rw [if_pos c12] at H
       have c12b0 : decide (x31_2 < (t442.length : Int)) = true := decide_eq_true c12
       clear c12
       by_cases c13 : 0 ≤ x31_2
       ·rw [if_pos c13] at H
        have c13b0 : decide (0 ≤ x31_2) = true := decide_eq_true c13
        clear c13
        by_cases c14 : x31_2 < (t442.length : Int)
        ·rw [if_pos c14] at H
         have c14b0 : decide (x31_2 < (t442.length : Int)) = true := decide_eq_true c14
         clear c14
         replace H := Option.bind_eq_some_iff.mp H
         obtain ⟨t449, A150, H⟩ := H
         replace H : (if t449 = true then ((rec_Size.f k2 ((rd_T25 t442 x31_2).f0) ((rd_T25 t442 x31_2).f1) ((rd_T25 t442 x31_2).f2) ((rd_T25 t442 x31_2).f3) ((rd_T25 t442 x31_2).f4) ((rd_T25 t442 x31_2).f5)).bind fun bt450 => (if x442001_2.length < 2199023255552 then (seg_Parse.l0 k2 a0 (wrap64 (x5_2 + bt450.1)) t442 (t442.length : Int) (wrap64 (x31_2 + 1)) a0 (x442001_2 ++ [(⟨(rd_T25 t442 x31_2).f0, (rd_T25 t442 x31_2).f1, (rd_T25 t442 x31_2).f2, (rd_T25 t442 x31_2).f3, (rd_T25 t442 x31_2).f4, (rd_T25 t442 x31_2).f5⟩ : S25)])) else (none))) else (some (a0, x442001_2, x5_2, 0))) = some (r1, r2, r3, r4) := H
         have A15 := Aside0.mk A150
         clear A150
         by_cases c16 : t449 = true
         ·subst c16
          have H1 : ((rec_Size.f k2 ((rd_T25 t442 x31_2).f0) ((rd_T25 t442 x31_2).f1) ((rd_T25 t442 x31_2).f2) ((rd_T25 t442 x31_2).f3) ((rd_T25 t442 x31_2).f4) ((rd_T25 t442 x31_2).f5)).bind fun bt450 => (if x442001_2.length < 2199023255552 then (seg_Parse.l0 k2 a0 (wrap64 (x5_2 + bt450.1)) t442 (t442.length : Int) (wrap64 (x31_2 + 1)) a0 (x442001_2 ++ [(⟨(rd_T25 t442 x31_2).f0, (rd_T25 t442 x31_2).f1, (rd_T25 t442 x31_2).f2, (rd_T25 t442 x31_2).f3, (rd_T25 t442 x31_2).f4, (rd_T25 t442 x31_2).f5⟩ : S25)])) else (none))) = some (r1, r2, r3, r4) := by rw [if_pos rfl] at H; exact H
          clear H
          have H := H1
          clear H1
          replace H := Option.bind_eq_some_iff.mp H
          obtain ⟨⟨t450, t451⟩, A170, H⟩ := H
          replace H : (if x442001_2.length < 2199023255552 then (seg_Parse.l0 k2 a0 (wrap64 (x5_2 + t450)) t442 (t442.length : Int) (wrap64 (x31_2 + 1)) a0 (x442001_2 ++ [(⟨(rd_T25 t442 x31_2).f0, (rd_T25 t442 x31_2).f1, (rd_T25 t442 x31_2).f2, (rd_T25 t442 x31_2).f3, (rd_T25 t442 x31_2).f4, (rd_T25 t442 x31_2).f5⟩ : S25)])) else (none)) = some (r1, r2, r3, r4) := H
          have A17 := Aside0.mk A170
          clear A170
          by_cases c18 : x442001_2.length < 2199023255552
          ·rw [if_pos c18] at H
           have LMc18 := Aside0.mk c18
           clear c18
           obtain ⟨y452, hy452⟩ : ∃ y_ : List (S25), y_ = (x442001_2 ++ [(⟨(rd_T25 t442 x31_2).f0, (rd_T25 t442 x31_2).f1, (rd_T25 t442 x31_2).f2, (rd_T25 t442 x31_2).f3, (rd_T25 t442 x31_2).f4, (rd_T25 t442 x31_2).f5⟩ : S25)]) := ⟨_, rfl⟩
           replace H : (seg_Parse.l0 k2 a0 (wrap64 (x5_2 + t450)) t442 (t442.length : Int) (wrap64 (x31_2 + 1)) a0 y452) = some (r1, r2, r3, r4) := by first | (rw [hy452]; with_reducible exact H) | (have H2_ := (Option.bind_some _ _).symm.trans H; rw [hy452]; with_reducible exact H2_) | (have H2_ := (Option.bind_some _ _).symm.trans H; with_reducible exact H2_) | with_reducible exact H | (rw [hy452]; exact H) | exact H
           have Ny452 := Aside0.mk hy452
           clear hy452
           have H' := Aside0.mk H
           clear H
           have p447 : 0 ≤ (x31_2 : Int) := od
           have q447 : x31_2 < (t442.length : Int) := od
           obtain ⟨ad447, e447, hx447_0, hx447_1, hx447_2, hx447_3, hx447_4, hx447_5⟩ := at_T25 (Kd.R_reads' HO_29.out).2.2 x31_2 p447 q447
           cases e447
           replace p447 := eq_true p447
           replace q447 := eq_true q447
           go_wp2_with (first | ((with_reducible refine gate_dst (N := 11) rfl ?_); refine box_event ?hg (N := 11) ?hd (cs := #[.int .i64 0, .int .i64 0, .string (⟨#[]⟩ : ByteArray), .string (⟨#[]⟩ : ByteArray), .int .i64 0, .bool false]) (t := 25) ?hr ?_; (case hd => rfl); (case hg => rfl); (case hr => first | (go_simp; done) | (go_simp; rfl)); intro gb448 hg w19 hbox hb; replace HO_29 := Aside0.mk (Kd.R_below (Kd.R_elderB (rk HO_29.out) gb448 (Nat.le_of_eq hg.symm)) hb); replace HO_442001 := Aside0.mk (Kd.R_below (Kd.R_elderB (rk HO_442001.out) gb448 (Nat.le_of_eq hg.symm)) hb); have BK448 := Aside0.mk (hbox); have GW448 := Aside0.mk ((by rw [hg]; exact (below_size bo) : w.heap.size ≤ gb448)); have GE448 := Aside0.mk ((by rw [hg]; exact (below_size bo) : w.heap.size ≤ gb448)); replace HB := Aside0.mk (below_step bo hb); have NB441_448 := Aside0.mk ((by rw [hg]; exact Nat.ne_of_lt (blk_lt (g := gb441) (o := .cells #[.int .i64 a0, u442001] 53 (0, 0)) (bk BK441.out)) : gb441 ≠ gb448)); have NB448_441 := Aside0.mk ((by rw [hg]; exact Nat.ne_of_gt (blk_lt (g := gb441) (o := .cells #[.int .i64 a0, u442001] 53 (0, 0)) (bk BK441.out)) : gb448 ≠ gb441)); replace BK441 := Aside0.mk (blk_below (g := gb441) (o := .cells #[.int .i64 a0, u442001] 53 (0, 0)) (bk BK441.out) hb); clear hb hbox hg; have hnb20 := NB448_441.out; have hnc20 := NB441_448.out; obtain ⟨hcz21_0, hcz21_1, hcz21_2, hcz21_3, hcz21_4, hcz21_5⟩ := cl6 BK448.out; obtain ⟨hfz21_0, hfz21_1, hfz21_2, hfz21_3, hfz21_4, hfz21_5⟩ := fz6 BK448.out; obtain ⟨hcz22_0, hcz22_1⟩ := cl2 BK441.out; obtain ⟨hfz22_0, hfz22_1⟩ := fz2 BK441.out; obtain ⟨Ao23, co23, eo23⟩ := Kd.R_slice HO_442001.out; subst eo23) | ((with_reducible refine gate_callee (f := 75) rfl ?_); refine goesL_ (some 39) rfl rfl Try.func75 (by kernel_rfl) rfl #[.int .i64 a0, .slice Ao23 x442001_2.length co23, .agg #[.int .i64 ((rd_T25 t442 x31_2).f0), .int .i64 ((rd_T25 t442 x31_2).f1), .string ((rd_T25 t442 x31_2).f2), .string ((rd_T25 t442 x31_2).f3), .int .i64 ((rd_T25 t442 x31_2).f4), .bool ((rd_T25 t442 x31_2).f5)]] rfl aa ?_; (with_reducible refine (seg_behind.calls k2 a0 _ _ x442001_2 ((rd_T25 t442 x31_2).f0) ((rd_T25 t442 x31_2).f1) ((rd_T25 t442 x31_2).f2) ((rd_T25 t442 x31_2).f3) ((rd_T25 t442 x31_2).f4) ((rd_T25 t442 x31_2).f5) true _ ?side1 ?side2 A15.out).mono ?_); (case side1 => refine (Kd.R_reads' (e := 25) (base := w.heap.size) (ok := fun k_ => (some k_ ≠ (.slice (some ad447) t442.length co11 : Value).ownBlock ∧ k_ ≠ gb448)) (n := x442001_2.length) (c := co23) ?_).2.2; exact (by (with_reducible repeat (first | apply Kd.R_alloc | apply Kd.R_drewN | apply Kd.R_drew)); exact (Kd.R_mono (Kd.R_far (p := ⟨gb448, 5, none⟩) (Kd.R_far (p := ⟨gb448, 4, none⟩) (Kd.R_far (p := ⟨gb448, 3, none⟩) (Kd.R_far (p := ⟨gb448, 2, none⟩) (Kd.R_far (p := ⟨gb448, 1, none⟩) (Kd.R_far (p := ⟨gb448, 0, none⟩) (Kd.R_mono HO_442001.out (fun k_ hk => (⟨hk, hk.2⟩ : _ ∧ k_ ≠ gb448))) (fun _ hk => hk.2) (.int .i64 ((rd_T25 t442 x31_2).f0))) (fun _ hk => hk.2) (.int .i64 ((rd_T25 t442 x31_2).f1))) (fun _ hk => hk.2) (.string ((rd_T25 t442 x31_2).f2))) (fun _ hk => hk.2) (.string ((rd_T25 t442 x31_2).f3))) (fun _ hk => hk.2) (.int .i64 ((rd_T25 t442 x31_2).f4))) (fun _ hk => hk.2) (.bool ((rd_T25 t442 x31_2).f5))) (fun _ h_ => h_.1)))); (case side2 => exact (Kd.R_reads' HO_442001.out).2.1); rintro e w24 ⟨rfl, hb⟩; refine ⟨_, rfl, ?_⟩; replace HO_29 := Aside0.mk (Kd.R_below (by (with_reducible repeat (first | apply Kd.R_alloc | apply Kd.R_drewN | apply Kd.R_drew)); exact (Kd.R_mono (Kd.R_far (p := ⟨gb448, 5, none⟩) (Kd.R_far (p := ⟨gb448, 4, none⟩) (Kd.R_far (p := ⟨gb448, 3, none⟩) (Kd.R_far (p := ⟨gb448, 2, none⟩) (Kd.R_far (p := ⟨gb448, 1, none⟩) (Kd.R_far (p := ⟨gb448, 0, none⟩) (Kd.R_mono HO_29.out (fun k_ hk => (⟨hk, hk.2⟩ : _ ∧ k_ ≠ gb448))) (fun _ hk => hk.2) (.int .i64 ((rd_T25 t442 x31_2).f0))) (fun _ hk => hk.2) (.int .i64 ((rd_T25 t442 x31_2).f1))) (fun _ hk => hk.2) (.string ((rd_T25 t442 x31_2).f2))) (fun _ hk => hk.2) (.string ((rd_T25 t442 x31_2).f3))) (fun _ hk => hk.2) (.int .i64 ((rd_T25 t442 x31_2).f4))) (fun _ hk => hk.2) (.bool ((rd_T25 t442 x31_2).f5))) (fun _ h_ => h_.1))) hb); replace HO_442001 := Aside0.mk (Kd.R_below (by (with_reducible repeat (first | apply Kd.R_alloc | apply Kd.R_drewN | apply Kd.R_drew)); exact (Kd.R_mono (Kd.R_far (p := ⟨gb448, 5, none⟩) (Kd.R_far (p := ⟨gb448, 4, none⟩) (Kd.R_far (p := ⟨gb448, 3, none⟩) (Kd.R_far (p := ⟨gb448, 2, none⟩) (Kd.R_far (p := ⟨gb448, 1, none⟩) (Kd.R_far (p := ⟨gb448, 0, none⟩) (Kd.R_mono HO_442001.out (fun k_ hk => (⟨hk, hk.2⟩ : _ ∧ k_ ≠ gb448))) (fun _ hk => hk.2) (.int .i64 ((rd_T25 t442 x31_2).f0))) (fun _ hk => hk.2) (.int .i64 ((rd_T25 t442 x31_2).f1))) (fun _ hk => hk.2) (.string ((rd_T25 t442 x31_2).f2))) (fun _ hk => hk.2) (.string ((rd_T25 t442 x31_2).f3))) (fun _ hk => hk.2) (.int .i64 ((rd_T25 t442 x31_2).f4))) (fun _ hk => hk.2) (.bool ((rd_T25 t442 x31_2).f5))) (fun _ h_ => h_.1))) hb); replace BK441 := Aside0.mk (blk_below (g := gb441) (o := .cells #[.int .i64 a0, .slice Ao23 x442001_2.length co23] 53 (0, 0)) (bf BK441.out) hb); replace BK448 := Aside0.mk (blk_below (g := gb448) (o := .cells #[.int .i64 ((rd_T25 t442 x31_2).f0), .int .i64 ((rd_T25 t442 x31_2).f1), .string ((rd_T25 t442 x31_2).f2), .string ((rd_T25 t442 x31_2).f3), .int .i64 ((rd_T25 t442 x31_2).f4), .bool ((rd_T25 t442 x31_2).f5)] 25 (0, 0)) (by (with_reducible repeat (first | refine blk_drewN ?_ _ | refine blk_drew ?_ | refine blk_alloc ?_ _)); refine blk_put (cs := #[.int .i64 ((rd_T25 t442 x31_2).f0), .int .i64 ((rd_T25 t442 x31_2).f1), .string ((rd_T25 t442 x31_2).f2), .string ((rd_T25 t442 x31_2).f3), .int .i64 ((rd_T25 t442 x31_2).f4), .bool false]) ?_ 5 _ rfl; (with_reducible repeat (first | refine blk_drewN ?_ _ | refine blk_drew ?_ | refine blk_alloc ?_ _)); refine blk_put (cs := #[.int .i64 ((rd_T25 t442 x31_2).f0), .int .i64 ((rd_T25 t442 x31_2).f1), .string ((rd_T25 t442 x31_2).f2), .string ((rd_T25 t442 x31_2).f3), .int .i64 0, .bool false]) ?_ 4 _ rfl; (with_reducible repeat (first | refine blk_drewN ?_ _ | refine blk_drew ?_ | refine blk_alloc ?_ _)); refine blk_put (cs := #[.int .i64 ((rd_T25 t442 x31_2).f0), .int .i64 ((rd_T25 t442 x31_2).f1), .string ((rd_T25 t442 x31_2).f2), .string (⟨#[]⟩ : ByteArray), .int .i64 0, .bool false]) ?_ 3 _ rfl; (with_reducible repeat (first | refine blk_drewN ?_ _ | refine blk_drew ?_ | refine blk_alloc ?_ _)); refine blk_put (cs := #[.int .i64 ((rd_T25 t442 x31_2).f0), .int .i64 ((rd_T25 t442 x31_2).f1), .string (⟨#[]⟩ : ByteArray), .string (⟨#[]⟩ : ByteArray), .int .i64 0, .bool false]) ?_ 2 _ rfl; (with_reducible repeat (first | refine blk_drewN ?_ _ | refine blk_drew ?_ | refine blk_alloc ?_ _)); refine blk_put (cs := #[.int .i64 ((rd_T25 t442 x31_2).f0), .int .i64 0, .string (⟨#[]⟩ : ByteArray), .string (⟨#[]⟩ : ByteArray), .int .i64 0, .bool false]) ?_ 1 _ rfl; (with_reducible repeat (first | refine blk_drewN ?_ _ | refine blk_drew ?_ | refine blk_alloc ?_ _)); refine blk_put (cs := #[.int .i64 0, .int .i64 0, .string (⟨#[]⟩ : ByteArray), .string (⟨#[]⟩ : ByteArray), .int .i64 0, .bool false]) ?_ 0 _ rfl; (with_reducible repeat (first | refine blk_drewN ?_ _ | refine blk_drew ?_ | refine blk_alloc ?_ _)); exact BK448.out) hb); replace HB := Aside0.mk (below_step bo hb); (try clear hb); (try clear hb2); (try clear hk); (try clear hi); obtain ⟨hcz25_0, hcz25_1, hcz25_2, hcz25_3, hcz25_4, hcz25_5⟩ := cl6 BK448.out; obtain ⟨hfz25_0, hfz25_1, hfz25_2, hfz25_3, hfz25_4, hfz25_5⟩ := fz6 BK448.out) | ((with_reducible refine gate_callee (f := 21) rfl ?_); refine goesL_ (some 43) rfl rfl Try.func21 (by kernel_rfl) rfl #[.agg #[.int .i64 ((rd_T25 t442 x31_2).f0), .int .i64 ((rd_T25 t442 x31_2).f1), .string ((rd_T25 t442 x31_2).f2), .string ((rd_T25 t442 x31_2).f3), .int .i64 ((rd_T25 t442 x31_2).f4), .bool ((rd_T25 t442 x31_2).f5)]] rfl aa ?_; (with_reducible refine (rec_Size.calls k2 ((rd_T25 t442 x31_2).f0) ((rd_T25 t442 x31_2).f1) ((rd_T25 t442 x31_2).f2) ((rd_T25 t442 x31_2).f3) ((rd_T25 t442 x31_2).f4) ((rd_T25 t442 x31_2).f5) t450 t451 _ A17.out).mono ?_); rintro e w26 ⟨rfl, hb⟩; refine ⟨_, rfl, ?_⟩; replace HO_29 := Aside0.mk (Kd.R_below (rk HO_29.out) hb); replace HO_442001 := Aside0.mk (Kd.R_below (rk HO_442001.out) hb); replace BK441 := Aside0.mk (blk_below (g := gb441) (o := .cells #[.int .i64 a0, .slice Ao23 x442001_2.length co23] 53 (0, 0)) (bk BK441.out) hb); replace BK448 := Aside0.mk (blk_below (g := gb448) (o := .cells #[.int .i64 ((rd_T25 t442 x31_2).f0), .int .i64 ((rd_T25 t442 x31_2).f1), .string ((rd_T25 t442 x31_2).f2), .string ((rd_T25 t442 x31_2).f3), .int .i64 ((rd_T25 t442 x31_2).f4), .bool ((rd_T25 t442 x31_2).f5)] 25 (0, 0)) (bk BK448.out) hb); replace HB := Aside0.mk (below_step bo hb); (try clear hb); (try clear hb2); (try clear hk); (try clear hi); obtain ⟨hcz27_0, hcz27_1⟩ := cl2 BK441.out; obtain ⟨hfz27_0, hfz27_1⟩ := fz2 BK441.out; obtain ⟨hcz28_0, hcz28_1, hcz28_2, hcz28_3, hcz28_4, hcz28_5⟩ := cl6 BK448.out; obtain ⟨hfz28_0, hfz28_1, hfz28_2, hfz28_3, hfz28_4, hfz28_5⟩ := fz6 BK448.out) | ((with_reducible refine gate_builtin (b := .append) (xs := #[.tmp 47, .tmp 49]) rfl ?_); at_builtin; refine Kd.R_append k25 (w0 := w) w.heap.size rfl (.tmp 47) (.tmp 49) 36 25 (.agg #[(.int .i64 0), (.int .i64 0), (.string ⟨#[]⟩), (.string ⟨#[]⟩), (.int .i64 0), (.bool false)]) 64 rfl Try.underlying36 info25 rfl (by decide) (by omega) (.slice Ao23 x442001_2.length co23) x442001_2 (⟨(rd_T25 t442 x31_2).f0, (rd_T25 t442 x31_2).f1, (rd_T25 t442 x31_2).f2, (rd_T25 t442 x31_2).f3, (rd_T25 t442 x31_2).f4, (rd_T25 t442 x31_2).f5⟩ : S25) [.int .i64 ((rd_T25 t442 x31_2).f0), .int .i64 ((rd_T25 t442 x31_2).f1), .string ((rd_T25 t442 x31_2).f2), .string ((rd_T25 t442 x31_2).f3), .int .i64 ((rd_T25 t442 x31_2).f4), .bool ((rd_T25 t442 x31_2).f5)] (fun k_ => some k_ ≠ (.slice (some ad447) t442.length co11 : Value).ownBlock ∧ k_ ≠ gb448) (fun _ => False) rfl rfl ?aP (fun _ hk => hk.elim) ?aF ?aO ?aB ?aS ?aL ?_; (case aP => exact k25_mkM _ _ _ (⟨(rd_T25 t442 x31_2).f0, (rd_T25 t442 x31_2).f1, (rd_T25 t442 x31_2).f2, (rd_T25 t442 x31_2).f3, (rd_T25 t442 x31_2).f4, (rd_T25 t442 x31_2).f5⟩ : S25)); (case aB => exact bo); (case aF => exact (fun k_ hk => ⟨Kd.fresh' (Kd.R_lt (rk HO_29.out)) k_ hk, Kd.freshB (g := gb448) (o := .cells #[.int .i64 ((rd_T25 t442 x31_2).f0), .int .i64 ((rd_T25 t442 x31_2).f1), .string ((rd_T25 t442 x31_2).f2), .string ((rd_T25 t442 x31_2).f3), .int .i64 ((rd_T25 t442 x31_2).f4), .bool ((rd_T25 t442 x31_2).f5)] 25 (0, 0)) (bk BK448.out) k_ hk⟩)); (case aO => exact (rk HO_442001.out)); (case aS => exact (below_size bo)); (case aL => have := LMc18.out; omega); intro v453 w29 ho hb hg hat; rw [← Ny452.out] at ho; have n0_ := Aside0.mk (Kd.R_after (ok := (fun k_ => k_ ≠ gb448)) (by (with_reducible repeat (first | apply Kd.R_alloc | apply Kd.R_drewN | apply Kd.R_drew)); exact Kd.R_mono HO_29.out (fun _ hk => ⟨hk.2, hk.1⟩)) hg hat); have n1_ := Aside0.mk (blk_grown (g := gb441) (o := .cells #[.int .i64 a0, .slice Ao23 x442001_2.length co23] 53 (0, 0)) (bk BK441.out) hg (Kd.R_ne HO_442001.out BK441.out (by decide))); have n2_ := Aside0.mk (blk_grown (g := gb448) (o := .cells #[.int .i64 ((rd_T25 t442 x31_2).f0), .int .i64 ((rd_T25 t442 x31_2).f1), .string ((rd_T25 t442 x31_2).f2), .string ((rd_T25 t442 x31_2).f3), .int .i64 ((rd_T25 t442 x31_2).f4), .bool ((rd_T25 t442 x31_2).f5)] 25 (0, 0)) (bk BK448.out) hg (Kd.R_away HO_442001.out (fun _ hk => hk.2))); have n3_ := Aside0.mk (hb); have n4_ := Aside0.mk (ho); clear HO_29; clear BK441; clear BK448; clear HB; clear HO_442001; have HO_29 := n0_; have BK441 := n1_; have BK448 := n2_; have HB := n3_; have HO454 := n4_; clear n0_ n1_ n2_ n3_ n4_; clear ho hb hg hat; obtain ⟨Ao30, co30, eo30⟩ := Kd.R_slice HO454.out; subst eo30; obtain ⟨hcz31_0, hcz31_1⟩ := cl2 BK441.out; obtain ⟨hfz31_0, hfz31_1⟩ := fz2 BK441.out))
           go_roundg k2
           case measure => have := HJ2.out; have := HK2.out; omega
           case rel => exact ⟨(wrap64 (x5_2 + t450)), (wrap64 (x31_2 + 1)), (y452), (.slice Ao30 y452.length co30), ap, ap, H', ⟨by have := HJ2.out; have := HK2.out; omega⟩, ⟨by (with_reducible repeat (first | apply Kd.R_alloc | apply Kd.R_drewN | apply Kd.R_drew)); exact Kd.R_mono (Kd.R_far (p := ⟨gb441, 1, none⟩) (Kd.R_types HO_29.out BK441.out (by decide)) (fun _ hk => hk.2) (.slice Ao30 y452.length co30)) (fun _ hk => hk.1.2)⟩, ⟨by (with_reducible repeat (first | apply Kd.R_alloc | apply Kd.R_drewN | apply Kd.R_drew)); exact Kd.R_mono (Kd.R_far (p := ⟨gb441, 1, none⟩) (Kd.R_types HO454.out BK441.out (by decide)) (fun _ hk => hk.2) (.slice Ao30 y452.length co30)) (fun _ hk => hk.1.1)⟩, ⟨by (with_reducible repeat (first | refine blk_drewN ?_ _ | refine blk_drew ?_ | refine blk_alloc ?_ _)); refine blk_put (cs := #[.int .i64 a0, .slice Ao23 x442001_2.length co23]) ?_ 1 _ rfl; (with_reducible repeat (first | refine blk_drewN ?_ _ | refine blk_drew ?_ | refine blk_alloc ?_ _)); exact BK441.out⟩, ⟨bo⟩⟩
          ·rw [if_neg c18] at H
           exact absurd H (by simp)
         ·replace c16 := Bool.eq_false_iff.mpr c16
          subst c16
          have H1 : (some (a0, x442001_2, x5_2, 0)) = some (r1, r2, r3, r4) := by rw [if_neg (show ¬ (false = true) by decide)] at H; exact H
          clear H
          have H := H1
          clear H1
          simp only [Option.some.injEq, Prod.mk.injEq] at H
          obtain ⟨rfl, rfl, rfl, rfl⟩ := H
          have p447 : 0 ≤ (x31_2 : Int) := od
          have q447 : x31_2 < (t442.length : Int) := od
          obtain ⟨ad447, e447, hx447_0, hx447_1, hx447_2, hx447_3, hx447_4, hx447_5⟩ := at_T25 (Kd.R_reads' HO_29.out).2.2 x31_2 p447 q447
          cases e447
          replace p447 := eq_true p447
          replace q447 := eq_true q447
          go_wp2_with (first | ((with_reducible refine gate_dst (N := 11) rfl ?_); refine box_event ?hg (N := 11) ?hd (cs := #[.int .i64 0, .int .i64 0, .string (⟨#[]⟩ : ByteArray), .string (⟨#[]⟩ : ByteArray), .int .i64 0, .bool false]) (t := 25) ?hr ?_; (case hd => rfl); (case hg => rfl); (case hr => first | (go_simp; done) | (go_simp; rfl)); intro gb448 hg w32 hbox hb; replace HO_29 := Aside0.mk (Kd.R_below (Kd.R_elderB (rk HO_29.out) gb448 (Nat.le_of_eq hg.symm)) hb); replace HO_442001 := Aside0.mk (Kd.R_below (Kd.R_elderB (rk HO_442001.out) gb448 (Nat.le_of_eq hg.symm)) hb); have BK448 := Aside0.mk (hbox); have GW448 := Aside0.mk ((by rw [hg]; exact (below_size bo) : w.heap.size ≤ gb448)); have GE448 := Aside0.mk ((by rw [hg]; exact (below_size bo) : w.heap.size ≤ gb448)); replace HB := Aside0.mk (below_step bo hb); have NB441_448 := Aside0.mk ((by rw [hg]; exact Nat.ne_of_lt (blk_lt (g := gb441) (o := .cells #[.int .i64 a0, u442001] 53 (0, 0)) (bk BK441.out)) : gb441 ≠ gb448)); have NB448_441 := Aside0.mk ((by rw [hg]; exact Nat.ne_of_gt (blk_lt (g := gb441) (o := .cells #[.int .i64 a0, u442001] 53 (0, 0)) (bk BK441.out)) : gb448 ≠ gb441)); replace BK441 := Aside0.mk (blk_below (g := gb441) (o := .cells #[.int .i64 a0, u442001] 53 (0, 0)) (bk BK441.out) hb); clear hb hbox hg; have hnb33 := NB448_441.out; have hnc33 := NB441_448.out; obtain ⟨hcz34_0, hcz34_1, hcz34_2, hcz34_3, hcz34_4, hcz34_5⟩ := cl6 BK448.out; obtain ⟨hfz34_0, hfz34_1, hfz34_2, hfz34_3, hfz34_4, hfz34_5⟩ := fz6 BK448.out; obtain ⟨hcz35_0, hcz35_1⟩ := cl2 BK441.out; obtain ⟨hfz35_0, hfz35_1⟩ := fz2 BK441.out; obtain ⟨Ao36, co36, eo36⟩ := Kd.R_slice HO_442001.out; subst eo36) | ((with_reducible refine gate_callee (f := 75) rfl ?_); refine goesL_ (some 39) rfl rfl Try.func75 (by kernel_rfl) rfl #[.int .i64 a0, .slice Ao36 x442001_2.length co36, .agg #[.int .i64 ((rd_T25 t442 x31_2).f0), .int .i64 ((rd_T25 t442 x31_2).f1), .string ((rd_T25 t442 x31_2).f2), .string ((rd_T25 t442 x31_2).f3), .int .i64 ((rd_T25 t442 x31_2).f4), .bool ((rd_T25 t442 x31_2).f5)]] rfl aa ?_; (with_reducible refine (seg_behind.calls k2 a0 _ _ x442001_2 ((rd_T25 t442 x31_2).f0) ((rd_T25 t442 x31_2).f1) ((rd_T25 t442 x31_2).f2) ((rd_T25 t442 x31_2).f3) ((rd_T25 t442 x31_2).f4) ((rd_T25 t442 x31_2).f5) false _ ?side1 ?side2 A15.out).mono ?_); (case side1 => refine (Kd.R_reads' (e := 25) (base := w.heap.size) (ok := fun k_ => (some k_ ≠ (.slice (some ad447) t442.length co11 : Value).ownBlock ∧ k_ ≠ gb448)) (n := x442001_2.length) (c := co36) ?_).2.2; exact (by (with_reducible repeat (first | apply Kd.R_alloc | apply Kd.R_drewN | apply Kd.R_drew)); exact (Kd.R_mono (Kd.R_far (p := ⟨gb448, 5, none⟩) (Kd.R_far (p := ⟨gb448, 4, none⟩) (Kd.R_far (p := ⟨gb448, 3, none⟩) (Kd.R_far (p := ⟨gb448, 2, none⟩) (Kd.R_far (p := ⟨gb448, 1, none⟩) (Kd.R_far (p := ⟨gb448, 0, none⟩) (Kd.R_mono HO_442001.out (fun k_ hk => (⟨hk, hk.2⟩ : _ ∧ k_ ≠ gb448))) (fun _ hk => hk.2) (.int .i64 ((rd_T25 t442 x31_2).f0))) (fun _ hk => hk.2) (.int .i64 ((rd_T25 t442 x31_2).f1))) (fun _ hk => hk.2) (.string ((rd_T25 t442 x31_2).f2))) (fun _ hk => hk.2) (.string ((rd_T25 t442 x31_2).f3))) (fun _ hk => hk.2) (.int .i64 ((rd_T25 t442 x31_2).f4))) (fun _ hk => hk.2) (.bool ((rd_T25 t442 x31_2).f5))) (fun _ h_ => h_.1)))); (case side2 => exact (Kd.R_reads' HO_442001.out).2.1); rintro e w37 ⟨rfl, hb⟩; refine ⟨_, rfl, ?_⟩; replace HO_29 := Aside0.mk (Kd.R_below (by (with_reducible repeat (first | apply Kd.R_alloc | apply Kd.R_drewN | apply Kd.R_drew)); exact (Kd.R_mono (Kd.R_far (p := ⟨gb448, 5, none⟩) (Kd.R_far (p := ⟨gb448, 4, none⟩) (Kd.R_far (p := ⟨gb448, 3, none⟩) (Kd.R_far (p := ⟨gb448, 2, none⟩) (Kd.R_far (p := ⟨gb448, 1, none⟩) (Kd.R_far (p := ⟨gb448, 0, none⟩) (Kd.R_mono HO_29.out (fun k_ hk => (⟨hk, hk.2⟩ : _ ∧ k_ ≠ gb448))) (fun _ hk => hk.2) (.int .i64 ((rd_T25 t442 x31_2).f0))) (fun _ hk => hk.2) (.int .i64 ((rd_T25 t442 x31_2).f1))) (fun _ hk => hk.2) (.string ((rd_T25 t442 x31_2).f2))) (fun _ hk => hk.2) (.string ((rd_T25 t442 x31_2).f3))) (fun _ hk => hk.2) (.int .i64 ((rd_T25 t442 x31_2).f4))) (fun _ hk => hk.2) (.bool ((rd_T25 t442 x31_2).f5))) (fun _ h_ => h_.1))) hb); replace HO_442001 := Aside0.mk (Kd.R_below (by (with_reducible repeat (first | apply Kd.R_alloc | apply Kd.R_drewN | apply Kd.R_drew)); exact (Kd.R_mono (Kd.R_far (p := ⟨gb448, 5, none⟩) (Kd.R_far (p := ⟨gb448, 4, none⟩) (Kd.R_far (p := ⟨gb448, 3, none⟩) (Kd.R_far (p := ⟨gb448, 2, none⟩) (Kd.R_far (p := ⟨gb448, 1, none⟩) (Kd.R_far (p := ⟨gb448, 0, none⟩) (Kd.R_mono HO_442001.out (fun k_ hk => (⟨hk, hk.2⟩ : _ ∧ k_ ≠ gb448))) (fun _ hk => hk.2) (.int .i64 ((rd_T25 t442 x31_2).f0))) (fun _ hk => hk.2) (.int .i64 ((rd_T25 t442 x31_2).f1))) (fun _ hk => hk.2) (.string ((rd_T25 t442 x31_2).f2))) (fun _ hk => hk.2) (.string ((rd_T25 t442 x31_2).f3))) (fun _ hk => hk.2) (.int .i64 ((rd_T25 t442 x31_2).f4))) (fun _ hk => hk.2) (.bool ((rd_T25 t442 x31_2).f5))) (fun _ h_ => h_.1))) hb); replace BK441 := Aside0.mk (blk_below (g := gb441) (o := .cells #[.int .i64 a0, .slice Ao36 x442001_2.length co36] 53 (0, 0)) (bf BK441.out) hb); replace BK448 := Aside0.mk (blk_below (g := gb448) (o := .cells #[.int .i64 ((rd_T25 t442 x31_2).f0), .int .i64 ((rd_T25 t442 x31_2).f1), .string ((rd_T25 t442 x31_2).f2), .string ((rd_T25 t442 x31_2).f3), .int .i64 ((rd_T25 t442 x31_2).f4), .bool ((rd_T25 t442 x31_2).f5)] 25 (0, 0)) (by (with_reducible repeat (first | refine blk_drewN ?_ _ | refine blk_drew ?_ | refine blk_alloc ?_ _)); refine blk_put (cs := #[.int .i64 ((rd_T25 t442 x31_2).f0), .int .i64 ((rd_T25 t442 x31_2).f1), .string ((rd_T25 t442 x31_2).f2), .string ((rd_T25 t442 x31_2).f3), .int .i64 ((rd_T25 t442 x31_2).f4), .bool false]) ?_ 5 _ rfl; (with_reducible repeat (first | refine blk_drewN ?_ _ | refine blk_drew ?_ | refine blk_alloc ?_ _)); refine blk_put (cs := #[.int .i64 ((rd_T25 t442 x31_2).f0), .int .i64 ((rd_T25 t442 x31_2).f1), .string ((rd_T25 t442 x31_2).f2), .string ((rd_T25 t442 x31_2).f3), .int .i64 0, .bool false]) ?_ 4 _ rfl; (with_reducible repeat (first | refine blk_drewN ?_ _ | refine blk_drew ?_ | refine blk_alloc ?_ _)); refine blk_put (cs := #[.int .i64 ((rd_T25 t442 x31_2).f0), .int .i64 ((rd_T25 t442 x31_2).f1), .string ((rd_T25 t442 x31_2).f2), .string (⟨#[]⟩ : ByteArray), .int .i64 0, .bool false]) ?_ 3 _ rfl; (with_reducible repeat (first | refine blk_drewN ?_ _ | refine blk_drew ?_ | refine blk_alloc ?_ _)); refine blk_put (cs := #[.int .i64 ((rd_T25 t442 x31_2).f0), .int .i64 ((rd_T25 t442 x31_2).f1), .string (⟨#[]⟩ : ByteArray), .string (⟨#[]⟩ : ByteArray), .int .i64 0, .bool false]) ?_ 2 _ rfl; (with_reducible repeat (first | refine blk_drewN ?_ _ | refine blk_drew ?_ | refine blk_alloc ?_ _)); refine blk_put (cs := #[.int .i64 ((rd_T25 t442 x31_2).f0), .int .i64 0, .string (⟨#[]⟩ : ByteArray), .string (⟨#[]⟩ : ByteArray), .int .i64 0, .bool false]) ?_ 1 _ rfl; (with_reducible repeat (first | refine blk_drewN ?_ _ | refine blk_drew ?_ | refine blk_alloc ?_ _)); refine blk_put (cs := #[.int .i64 0, .int .i64 0, .string (⟨#[]⟩ : ByteArray), .string (⟨#[]⟩ : ByteArray), .int .i64 0, .bool false]) ?_ 0 _ rfl; (with_reducible repeat (first | refine blk_drewN ?_ _ | refine blk_drew ?_ | refine blk_alloc ?_ _)); exact BK448.out) hb); replace HB := Aside0.mk (below_step bo hb); (try clear hb); (try clear hb2); (try clear hk); (try clear hi); obtain ⟨hcz38_0, hcz38_1⟩ := cl2 BK441.out; obtain ⟨hfz38_0, hfz38_1⟩ := fz2 BK441.out))
          refine bodyPost_ret (results_ctt rfl _ _ gb441 53 #[.int .i64 a0, .slice Ao36 x442001_2.length co36] (0, 0) _ rfl (by (with_reducible repeat (first | refine blk_drewN ?_ _ | refine blk_drew ?_ | refine blk_alloc ?_ _)); refine blk_put (cs := #[.int .i64 a0, .slice Ao36 x442001_2.length co36]) ?_ 1 _ rfl; (with_reducible repeat (first | refine blk_drewN ?_ _ | refine blk_drew ?_ | refine blk_alloc ?_ _)); refine blk_put (cs := #[.int .i64 a0, .slice Ao36 x442001_2.length co36]) ?_ 0 _ rfl; (with_reducible repeat (first | refine blk_drewN ?_ _ | refine blk_drew ?_ | refine blk_alloc ?_ _)); exact BK441.out) Try.underlying53 rfl (by kernel_rfl)) rfl ?_
          exact ⟨_, er, by (with_reducible repeat (first | apply Kd.R_alloc | apply Kd.R_drewN | apply Kd.R_drew)); exact Kd.R_mono (Kd.R_far (p := ⟨gb441, 1, none⟩) (Kd.R_far (p := ⟨gb441, 0, none⟩) (Kd.R_types HO_442001.out BK441.out (by decide)) (fun _ hk => hk.2) (.int .i64 a0)) (fun _ hk => hk.2) (.slice Ao36 x442001_2.length co36)) (fun _ hk => trivial), bo⟩
        ·rw [if_neg c14] at H
         exact absurd H (by simp)
       ·rw [if_neg c13] at H
        exact absurd H (by simp)
      ·rw [if_neg c12] at H
       have c12b0 : decide (x31_2 < (t442.length : Int)) = false := decide_eq_false c12
       clear c12
       simp only [Option.some.injEq, Prod.mk.injEq] at H
       obtain ⟨rfl, rfl, rfl, rfl⟩ := H
       have hcz39_0 : wr.cell? ⟨gb441, 0, none⟩ = some (.int .i64 a0) := (blk_cell BK441.out 0).trans rfl
       have hcz39_1 : wr.cell? ⟨gb441, 1, none⟩ = some (u442001) := (blk_cell BK441.out 1).trans rfl
       have hfz39_0 := blk_frozen BK441.out 0
       have hfz39_1 := blk_frozen BK441.out 1
       obtain ⟨Ao40, co40, eo40⟩ := Kd.R_slice HO_442001.out
       subst eo40
       go_wp2
       refine bodyPost_ret (results_ctt rfl _ _ gb441 53 #[.int .i64 a0, .slice Ao40 x442001_2.length co40] (0, 0) _ rfl (by (with_reducible repeat (first | refine blk_drewN ?_ _ | refine blk_drew ?_ | refine blk_alloc ?_ _)); refine blk_put (cs := #[.int .i64 a0, .slice Ao40 x442001_2.length co40]) ?_ 1 _ rfl; (with_reducible repeat (first | refine blk_drewN ?_ _ | refine blk_drew ?_ | refine blk_alloc ?_ _)); refine blk_put (cs := #[.int .i64 a0, .slice Ao40 x442001_2.length co40]) ?_ 0 _ rfl; (with_reducible repeat (first | refine blk_drewN ?_ _ | refine blk_drew ?_ | refine blk_alloc ?_ _)); exact BK441.out) Try.underlying53 rfl (by kernel_rfl)) rfl ?_
       exact ⟨_, er, by (with_reducible repeat (first | apply Kd.R_alloc | apply Kd.R_drewN | apply Kd.R_drew)); exact Kd.R_mono (Kd.R_far (p := ⟨gb441, 1, none⟩) (Kd.R_far (p := ⟨gb441, 0, none⟩) (Kd.R_types HO_442001.out BK441.out (by decide)) (fun _ hk => hk.2) (.int .i64 a0)) (fun _ hk => hk.2) (.slice Ao40 x442001_2.length co40)) (fun _ hk => trivial), bo⟩

end Go.Proofs.Ytmabdfdmccbfnaa.P

-- written by a program of the proving session, out of the translation; Lean checks it
namespace Go.Proofs.Ytmabdfdmccbfnaa.P
open Go.RowKit Go.Proofs.Ytmabdfdmccbfnaa.Sq Go.Proofs.YtmabdfdmccbfnaaW.PrintWords Go.Proofs.YtmabdfdmccbfnaaW.PrintLast Go.Proofs.YtmabdfdmccbfnaaW.PrintMore
attribute [local go_sem] max2_int min2_int max_two min_two max_three min_three max_four min_four   -- for this text's walks alone
set_option linter.unusedVariables false
set_option linter.unusedSimpArgs false

/-! ### fairwayref1_TakeFixed: function 71 -/
def fairwayref1_TakeFixed.l0 : Nat → ByteArray → Int → Int → Int → Option (Int × Bool)
 | 0, _, _, _, _ => none
 | k + 1, x0, x1, x6, x7 => if x7 < x1 then (if 0 ≤ x7 then (if x7 < (x0.size : Int) then (fairwayref1_TakeFixed.l0 k x0 x1 (Go.bits .or .i64 (wrap64 (x6 * 256)) (wrap64 (bt x0 x7))) (wrap64 (x7 + 1))) else (none)) else (none)) else (some (x6, true))
def fairwayref1_TakeFixed.f (k : Nat) (a0 : ByteArray) (a1 : Int) : Option (Int × Bool) := if (a0.size : Int) < a1 then (some (0, false)) else (fairwayref1_TakeFixed.l0 k a0 a1 0 0)
theorem fairwayref1_TakeFixed.mono_l : ∀ k, (∀ y0 y1 y2 y3, LeO (fairwayref1_TakeFixed.l0 k y0 y1 y2 y3) (fairwayref1_TakeFixed.l0 (k + 1) y0 y1 y2 y3))
 | 0 => fun _ _ _ _ r h => by simp [fairwayref1_TakeFixed.l0] at h
 | k + 1 => by
  have ih0 := fairwayref1_TakeFixed.mono_l k
  ·intro y0 y1 y2 y3
   unfold fairwayref1_TakeFixed.l0
   repeat' first
   | (with_reducible exact ih0 _ _ _ _)
   | (with_reducible exact LeO.refl _)
   | (with_reducible exact LeO.none _)
   | (with_reducible refine LeO.ite ?_ ?_)
   | (with_reducible refine LeO.bind ?_ (fun _ => ?_))
   | exact ih0 _ _ _ _
   | exact LeO.none _
   | refine LeO.ite ?_ ?_
   | refine LeO.bind ?_ (fun _ => ?_)
theorem fairwayref1_TakeFixed.mono : ∀ a0 a1 k, LeO (fairwayref1_TakeFixed.f k a0 a1) (fairwayref1_TakeFixed.f (k + 1) a0 a1) := by
 intro a0 a1 k
 have ih0 := fairwayref1_TakeFixed.mono_l k
 unfold fairwayref1_TakeFixed.f
 repeat' first
  | (with_reducible exact ih0 _ _ _ _)
  | (with_reducible exact LeO.refl _)
  | (with_reducible exact LeO.none _)
  | (with_reducible refine LeO.ite ?_ ?_)
  | (with_reducible refine LeO.bind ?_ (fun _ => ?_))
  | exact ih0 _ _ _ _
  | exact LeO.none _
  | refine LeO.ite ?_ ?_
  | refine LeO.bind ?_ (fun _ => ?_)
set_option maxHeartbeats 8000000 in
set_option maxRecDepth 100000 in
theorem fairwayref1_TakeFixed.calls (k : Nat) (a0 : ByteArray) (a1 : Int) (r1 : Int) (r2 : Bool) (w : World) (h : fairwayref1_TakeFixed.f k a0 a1 = some (r1, r2)) :
 Calls Try.prog 71 #[.string a0, .int .i64 a1] w fun e w' => e = .returned (.tuple #[.int .i64 r1, .bool r2]) ∧ Drawn0 w w' := by
 have H : (if (a0.size : Int) < a1 then (some (0, false)) else (fairwayref1_TakeFixed.l0 k a0 a1 0 0)) = some (r1, r2) := h
 clear h
 by_cases c3 : (a0.size : Int) < a1
 ·rw [if_pos c3] at H
  have c3b0 : decide ((a0.size : Int) < a1) = true := decide_eq_true c3
  clear c3
  simp only [Option.some.injEq, Prod.mk.injEq] at H
  obtain ⟨rfl, rfl⟩ := H
  go_enter Try.func71, Try.ntmps71
  go_wp2
  go_ret2
  exact ⟨ap, dr⟩
 ·rw [if_neg c3] at H
  have c3b0 : decide ((a0.size : Int) < a1) = false := decide_eq_false c3
  clear c3
  have H' := Aside0.mk H
  clear H
  go_enter Try.func71, Try.ntmps71
  go_wp2
  go_loopg [6, 7] k (fun kq v6 v7 w' => ∃ (x6_1 : Int) (x7_1 : Int), v6 = .int .i64 x6_1 ∧ v7 = .int .i64 x7_1 ∧ Aside0 (fairwayref1_TakeFixed.l0 kq a0 a1 x6_1 x7_1 = some (r1, r2)) ∧ Aside0 (kq ≤ k) ∧ Drawn0 w w')
  case atStart => exact ⟨(0), (0), ap, ap, H', ⟨Nat.le_refl _⟩, dr⟩
  case round =>
   clear H'
   try clear p2
   try clear c3
   try clear c3b0
   obtain ⟨x6_1, x7_1, rfl, rfl, HA, HK1, ⟨m1, rfl⟩⟩ := hrel
   cases gk with
   | zero => exact absurd HA.out (by simp [fairwayref1_TakeFixed.l0])
   | succ k1 =>
    have H := HA.out
    clear HA
    simp only [fairwayref1_TakeFixed.l0] at H
    by_cases c4 : x7_1 < a1
    ·rw [if_pos c4] at H
     have c4b0 : decide (x7_1 < a1) = true := decide_eq_true c4
     clear c4
     by_cases c5 : 0 ≤ x7_1
     ·rw [if_pos c5] at H
      have c5b0 : decide (0 ≤ x7_1) = true := decide_eq_true c5
      clear c5
      by_cases c6 : x7_1 < (a0.size : Int)
      ·rw [if_pos c6] at H
       have c6b0 : decide (x7_1 < (a0.size : Int)) = true := decide_eq_true c6
       clear c6
       have H' := Aside0.mk H
       clear H
       have p7 : 0 ≤ (x7_1 : Int) := od
       have q7 : x7_1 < (a0.size : Int) := od
       have hx7 := bt_at a0 x7_1
       replace p7 := eq_true p7
       replace q7 := eq_true q7
       go_wp2
       go_roundg k1
       case measure => have := HK1.out; omega
       case rel => exact ⟨(Go.bits .or .i64 (wrap64 (x6_1 * 256)) (wrap64 (bt a0 x7_1))), (wrap64 (x7_1 + 1)), ap, ap, H', ⟨by have := HK1.out; omega⟩, dr⟩
      ·rw [if_neg c6] at H
       exact absurd H (by simp)
     ·rw [if_neg c5] at H
      exact absurd H (by simp)
    ·rw [if_neg c4] at H
     have c4b0 : decide (x7_1 < a1) = false := decide_eq_false c4
     clear c4
     simp only [Option.some.injEq, Prod.mk.injEq] at H
     obtain ⟨rfl, rfl⟩ := H
     go_wp2
     go_ret2
     exact ⟨ap, dr⟩

end Go.Proofs.Ytmabdfdmccbfnaa.P

/- A string cut out of a string, under a word of its own: simp leaves its length alone. -/
namespace Go.Proofs.Ytmabdfdmccbfnaa.Sq
@[irreducible] def xt (s : ByteArray) (a b : Nat) : ByteArray := s.extract a b
theorem xt_fold (s : ByteArray) (a b : Nat) : s.extract a b = xt s a b := by unfold xt; rfl
end Go.Proofs.Ytmabdfdmccbfnaa.Sq

