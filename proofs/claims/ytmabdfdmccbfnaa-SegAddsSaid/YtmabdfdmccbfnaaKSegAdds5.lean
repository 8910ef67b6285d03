/- The law SegAdds: printed functions, their contracts, the plain laws and the row, part 5. -/
import Derived.Test.YtmabdfdmccbfnaaKSegAdds4
import Derived.Test.YtmabdfdmccbfnaaKSegAdds2
-- written by a program of the proving session, out of the translation; Lean checks it
namespace Go.Proofs.Ytmabdfdmccbfnaa.P
open Go.RowKit Go.Proofs.Ytmabdfdmccbfnaa.Sq Go.Proofs.YtmabdfdmccbfnaaW.PrintWords Go.Proofs.YtmabdfdmccbfnaaW.PrintLast Go.Proofs.YtmabdfdmccbfnaaW.PrintMore
attribute [local go_sem] max2_int min2_int max_two min_two max_three min_three max_four min_four   -- for this text's walks alone
set_option linter.unusedVariables false
set_option linter.unusedSimpArgs false

/-! ### api_Rec_79: function 79 -/
/-- slices.Clone at records: the same in new memory. -/
def api_Rec_79.f (l0 : List (S25)) : Option (List (S25)) := if l0.length < 2199023255552 then some l0 else none
theorem info_api_Rec_79 : (Try.prog.info? 25).map (fun i => (i.zero, i.size, i.bytes)) = some (some (.agg #[(.int .i64 0), (.int .i64 0), (.string ⟨#[]⟩), (.string ⟨#[]⟩), (.int .i64 0), (.bool false)]), 6, 64) := by kernel_rfl
set_option maxHeartbeats 1000000 in
set_option maxRecDepth 100000 in
theorem api_Rec_79.calls (A0 : Option Addr) (c0 : Nat) (l0 : List (S25)) (r : List (S25)) (w : World) (hr0 : Kd.C k25 w A0 l0.length l0) (hc0 : l0.length ≤ c0) (h : api_Rec_79.f l0 = some r) :
 Calls Try.prog 79 #[.slice A0 l0.length c0] w fun e w' => ∃ v0_ : Value, e = .returned (v0_) ∧ Kd.R k25 25 w' w.heap.size (fun _ => True) v0_ r ∧ Below w.heap.size w w' := by
 unfold api_Rec_79.f at h
 by_cases hl : l0.length < 2199023255552
 ·rw [if_pos hl] at h
  obtain rfl := Option.some.inj h
  have HL := Aside0.mk hl
  clear hl h
  have hq := fun (W : World) => Lib.run_eql_slice_nil (P := Try.prog) W 36 25 A0 l0.length c0 0 0 Try.underlying36
  cases A0 with
  | none =>
   have h0 : l0 = [] := by
    rcases l0 with _ | ⟨x, l⟩
    ·rfl
    ·obtain ⟨ad, e, _⟩ := hr0.2.2 (by simp)
     cases e
   subst h0
   clear hr0 hc0
   simp only [List.length_nil] at hq ⊢
   go_enter Try.func79, Try.ntmps79
   go_wp2
   go_ret
   exact ⟨_, rfl, Kd.R_nil _ _ _ _ _, Below.refl _ _⟩
  | some a =>
   have HR := Aside0.mk hr0
   have HC := Aside0.mk hc0
   have HB := Aside0.mk (Below.refl w.heap.size w)
   clear hr0 hc0
   go_enter Try.func79, Try.ntmps79
   have HO : Aside0 (Kd.R k25 25 (w.alloc (.cells #[] 25)) w.heap.size (fun _ => True) (.slice (some ⟨w.heap.size, 0, none⟩) 0 0) ([] : List S25)) := by
    refine ⟨fun k hk => trivial, [], ?_, Reps.none _ _⟩
    have h2 := World.ownsRow_lit (base := w.heap.size) (e := 25) (size := k25.sz) w #[] 0 (Nat.le_refl _) (by simp [maxLen]) rfl
    simpa using h2
   go_wp2_with (first | ((with_reducible refine gate_builtin (b := .append) (xs := #[.tmp 5, .tmp 6]) rfl ?_); at_builtin; refine Kd.R_append_rows k25 (w0 := w) w.heap.size rfl (.tmp 5) (.tmp 6) 36 25 (.agg #[(.int .i64 0), (.int .i64 0), (.string ⟨#[]⟩), (.string ⟨#[]⟩), (.int .i64 0), (.bool false)]) 64 rfl Try.underlying36 info_api_Rec_79 rfl (by decide) (by omega) (.slice (some ⟨w.heap.size, 0, none⟩) 0 0) [] l0 _ _ _ (fun _ => True) (fun _ => False) rfl rfl ?aO ?aR (fun _ _ h => h) (fun _ h => h.elim) ?aF ?aB ?aS ?aL ?_; (case aR => exact (Kd.C_alloc HR.out _)); (case aB => exact bo); (case aF => exact (fun _ _ => trivial)); (case aO => exact HO.out); (case aS => exact (below_size bo)); (case aL => have := HL.out; simp; omega); intro v174 w5 ho hb hg hat; have n0_ := Aside0.mk (hb); have n1_ := Aside0.mk (ho); clear HB; clear HO; have HB := n0_; have HO175 := n1_; clear n0_ n1_; clear ho hb hg hat))
   go_ret
   exact ⟨_, rfl, by (with_reducible repeat (first | apply Kd.R_alloc | apply Kd.R_drewN | apply Kd.R_drew)); simpa using HO175.out, bo⟩
 ·rw [if_neg hl] at h
  cases h

end Go.Proofs.Ytmabdfdmccbfnaa.P

-- written by a program of the proving session, out of the translation; Lean checks it
namespace Go.Proofs.Ytmabdfdmccbfnaa.P
open Go.RowKit Go.Proofs.Ytmabdfdmccbfnaa.Sq Go.Proofs.YtmabdfdmccbfnaaW.PrintWords Go.Proofs.YtmabdfdmccbfnaaW.PrintLast Go.Proofs.YtmabdfdmccbfnaaW.PrintMore
attribute [local go_sem] max2_int min2_int max_two min_two max_three min_three max_four min_four   -- for this text's walks alone
set_option linter.unusedVariables false
set_option linter.unusedSimpArgs false

/-! ### seg_Add: function 47 -/
def seg_Add.f (k : Nat) (a0_0 : Int) (l0_1 : List (S25)) (a1_0 : Int) (a1_1 : Int) (a1_2 : ByteArray) (a1_3 : ByteArray) (a1_4 : Int) (a1_5 : Bool) : Option (Int × (List (S25)) × Int) := (seg_Check.f k a0_0 l0_1).bind fun t376 => (if t376 = 0 then ((seg_behind.f k a0_0 l0_1 a1_0 a1_1 a1_2 a1_3 a1_4 a1_5).bind fun t377 => (if t377 = true then ((api_Rec_79.f l0_1).bind fun t378 => ((some (([(⟨a1_0, a1_1, a1_2, a1_3, a1_4, a1_5⟩ : S25)] : List (S25)) : List (S25))).bind fun y381 => (if t378.length + y381.length < 2199023255552 then (some (a0_0, (t378 ++ y381), 0)) else (none)))) else (some (0, ([] : List (S25)), 1)))) else (some (0, ([] : List (S25)), 1)))
theorem seg_Add.mono : ∀ a0 a1 a2 a3 a4 a5 a6 a7 k, LeO (seg_Add.f k a0 a1 a2 a3 a4 a5 a6 a7) (seg_Add.f (k + 1) a0 a1 a2 a3 a4 a5 a6 a7) := by
 intro a0 a1 a2 a3 a4 a5 a6 a7 k
 unfold seg_Add.f
 repeat' first
  | (with_reducible exact seg_Check.mono _ _ _)
  | (with_reducible exact seg_behind.mono _ _ _ _ _ _ _ _ _)
  | (with_reducible exact LeO.refl _)
  | (with_reducible exact LeO.none _)
  | (with_reducible refine LeO.ite ?_ ?_)
  | (with_reducible refine LeO.bind ?_ (fun _ => ?_))
  | exact seg_Check.mono _ _ _
  | exact seg_behind.mono _ _ _ _ _ _ _ _ _
  | exact LeO.none _
  | refine LeO.ite ?_ ?_
  | refine LeO.bind ?_ (fun _ => ?_)
def seg_Add.T3 : Bool × List (List Nat × List Nat) := (true, [([], []), ([0], [0]), ([], []), ([2], [2]), ([3], [3]), ([], []), ([5], [5]), ([4, 6, 4], [4, 6]), ([1, 7], [1, 7]), ([8, 7, 0, 1, 2, 3, 4, 5, 6, 7, 8], [8]), ([9, 0, 1, 2, 3, 4, 5, 6, 7, 8, 9], [])])
def seg_Add.B3 : List Nat := [0, 1, 0, 4, 12, 0, 32, 124, 255, 511, 1023]
theorem seg_Add.tab3 : rtab .any (opsOf Try.f47 3) = seg_Add.T3 := by kernel_rfl
theorem seg_Add.bits3 : waitsOk seg_Add.T3.2 seg_Add.B3 = true := by kernel_rfl
set_option maxHeartbeats 8000000 in
set_option maxRecDepth 100000 in
theorem seg_Add.calls (k : Nat) (a0_0 : Int) (A0_1 : Option Addr) (c0_1 : Nat) (l0_1 : List (S25)) (a1_0 : Int) (a1_1 : Int) (a1_2 : ByteArray) (a1_3 : ByteArray) (a1_4 : Int) (a1_5 : Bool) (r1 : Int) (r2 : List (S25)) (r3 : Int) (w : World) (hr0_1 : Kd.C k25 w A0_1 l0_1.length l0_1) (hc0_1 : l0_1.length ≤ c0_1) (h : seg_Add.f k a0_0 l0_1 a1_0 a1_1 a1_2 a1_3 a1_4 a1_5 = some (r1, r2, r3)) :
 Calls Try.prog 47 #[.agg #[.int .i64 a0_0, .slice A0_1 l0_1.length c0_1], .agg #[.int .i64 a1_0, .int .i64 a1_1, .string a1_2, .string a1_3, .int .i64 a1_4, .bool a1_5]] w fun e w' => ∃ v1_ : Value, e = .returned (.tuple #[.agg #[.int .i64 r1, v1_], .int .i64 r3]) ∧ Kd.R k25 25 w' w.heap.size (fun _ => True) v1_ r2 ∧ Below w.heap.size w w' := by
 have hu53 := Try.underlying53
 have hu25 := Try.underlying25
 have HR0_1 := Aside0.mk hr0_1
 have HC0_1 := Aside0.mk hc0_1
 clear hr0_1 hc0_1
 have HB := Aside0.mk (Below.refl w.heap.size w)
 have H : ((seg_Check.f k a0_0 l0_1).bind fun t376 => (if t376 = 0 then ((seg_behind.f k a0_0 l0_1 a1_0 a1_1 a1_2 a1_3 a1_4 a1_5).bind fun t377 => (if t377 = true then ((api_Rec_79.f l0_1).bind fun t378 => ((some (([(⟨a1_0, a1_1, a1_2, a1_3, a1_4, a1_5⟩ : S25)] : List (S25)) : List (S25))).bind fun y381 => (if t378.length + y381.length < 2199023255552 then (some (a0_0, (t378 ++ y381), 0)) else (none)))) else (some (0, ([] : List (S25)), 1)))) else (some (0, ([] : List (S25)), 1)))) = some (r1, r2, r3) := h
 clear h
 replace H := Option.bind_eq_some_iff.mp H
 obtain ⟨t376, A30, H⟩ := H
 replace H : (if t376 = 0 then ((seg_behind.f k a0_0 l0_1 a1_0 a1_1 a1_2 a1_3 a1_4 a1_5).bind fun t377 => (if t377 = true then ((api_Rec_79.f l0_1).bind fun t378 => ((some (([(⟨a1_0, a1_1, a1_2, a1_3, a1_4, a1_5⟩ : S25)] : List (S25)) : List (S25))).bind fun y381 => (if t378.length + y381.length < 2199023255552 then (some (a0_0, (t378 ++ y381), 0)) else (none)))) else (some (0, ([] : List (S25)), 1)))) else (some (0, ([] : List (S25)), 1))) = some (r1, r2, r3) := H
 have A3 := Aside0.mk A30
 clear A30
 by_cases c4 : t376 = 0
 ·rw [if_pos c4] at H
  have c4b0 : (t376 == 0) = true := beq_iff_eq.mpr c4
  have c4b1 : (t376 != 0) = false := bne_eq_false_iff_eq.mpr c4
  clear c4
  replace H := Option.bind_eq_some_iff.mp H
  obtain ⟨t377, A50, H⟩ := H
  replace H : (if t377 = true then ((api_Rec_79.f l0_1).bind fun t378 => ((some (([(⟨a1_0, a1_1, a1_2, a1_3, a1_4, a1_5⟩ : S25)] : List (S25)) : List (S25))).bind fun y381 => (if t378.length + y381.length < 2199023255552 then (some (a0_0, (t378 ++ y381), 0)) else (none)))) else (some (0, ([] : List (S25)), 1))) = some (r1, r2, r3) := H
  have A5 := Aside0.mk A50
  clear A50
  by_cases c6 : t377 = true
  ·subst c6
   have H1 : ((api_Rec_79.f l0_1).bind fun t378 => ((some (([(⟨a1_0, a1_1, a1_2, a1_3, a1_4, a1_5⟩ : S25)] : List (S25)) : List (S25))).bind fun y381 => (if t378.length + y381.length < 2199023255552 then (some (a0_0, (t378 ++ y381), 0)) else (none)))) = some (r1, r2, r3) := by rw [if_pos rfl] at H; exact H
   clear H
   have H := H1
   clear H1
   replace H := Option.bind_eq_some_iff.mp H
   obtain ⟨t378, A70, H⟩ := H
   replace H : ((some (([(⟨a1_0, a1_1, a1_2, a1_3, a1_4, a1_5⟩ : S25)] : List (S25)) : List (S25))).bind fun y381 => (if t378.length + y381.length < 2199023255552 then (some (a0_0, (t378 ++ y381), 0)) else (none))) = some (r1, r2, r3) := H
   have A7 := Aside0.mk A70
   clear A70
   obtain ⟨y381, hy381⟩ : ∃ y_ : List (S25), y_ = (([(⟨a1_0, a1_1, a1_2, a1_3, a1_4, a1_5⟩ : S25)] : List (S25))) := ⟨_, rfl⟩
   replace H : (if t378.length + y381.length < 2199023255552 then (some (a0_0, (t378 ++ y381), 0)) else (none)) = some (r1, r2, r3) := by first | (rw [hy381]; with_reducible exact H) | (have H2_ := (Option.bind_some _ _).symm.trans H; rw [hy381]; with_reducible exact H2_) | (have H2_ := (Option.bind_some _ _).symm.trans H; with_reducible exact H2_) | with_reducible exact H | (rw [hy381]; exact H) | exact H
   have Ny381 := Aside0.mk hy381
   clear hy381
   by_cases c8 : t378.length + y381.length < 2199023255552
   ·rw [if_pos c8] at H
    have LMc8 := Aside0.mk c8
    clear c8
    obtain ⟨y384, hy384⟩ : ∃ y_ : List (S25), y_ = (t378 ++ y381) := ⟨_, rfl⟩
    replace H : (some (a0_0, y384, 0)) = some (r1, r2, r3) := by first | (rw [hy384]; with_reducible exact H) | (have H2_ := (Option.bind_some _ _).symm.trans H; rw [hy384]; with_reducible exact H2_) | (have H2_ := (Option.bind_some _ _).symm.trans H; with_reducible exact H2_) | with_reducible exact H | (rw [hy384]; exact H) | exact H
    have Ny384 := Aside0.mk hy384
    clear hy384
    simp only [Option.some.injEq, Prod.mk.injEq] at H
    obtain ⟨rfl, rfl, rfl⟩ := H
    go_enter Try.func47, Try.ntmps47
    try go_wp2_with (first | ((with_reducible refine gate_dst (N := 2) rfl ?_); refine box_event ?hg (N := 2) ?hd (cs := #[.int .i64 a0_0, .slice A0_1 l0_1.length c0_1]) (t := 53) ?hr ?_; (case hd => rfl); (case hg => rfl); (case hr => first | (go_simp; done) | (go_simp; rfl)); intro gb373 hg w9 hbox hb; have BK373 := Aside0.mk (hbox); have GW373 := Aside0.mk ((by rw [hg]; exact (below_size bo) : w.heap.size ≤ gb373)); have GE373 := Aside0.mk ((by rw [hg]; exact (below_size bo) : w.heap.size ≤ gb373)); replace HB := Aside0.mk (below_step bo hb); clear hb hbox hg) | ((with_reducible refine gate_dst (N := 3) rfl ?_); refine box_event ?hg (N := 3) ?hd (cs := #[.int .i64 a1_0, .int .i64 a1_1, .string a1_2, .string a1_3, .int .i64 a1_4, .bool a1_5]) (t := 25) ?hr ?_; (case hd => rfl); (case hg => rfl); (case hr => first | (go_simp; done) | (go_simp; rfl)); intro gb374 hg w10 hbox hb; have BK374 := Aside0.mk (hbox); have GW374 := Aside0.mk ((by rw [hg]; exact (below_size bo) : w.heap.size ≤ gb374)); have GE374 := Aside0.mk ((by rw [hg]; exact (below_size bo) : w.heap.size ≤ gb374)); replace HB := Aside0.mk (below_step bo hb); have NB373_374 := Aside0.mk (nl BK373.out hg); have NB374_373 := Aside0.mk (ng BK373.out hg); replace BK373 := Aside0.mk (bb BK373.out hb); clear hb hbox hg) | ((with_reducible refine gate_dst (N := 4) rfl ?_); refine box_event ?hg (N := 4) ?hd (cs := #[.int .i64 0, .slice none 0 0]) (t := 53) ?hr ?_; (case hd => rfl); (case hg => rfl); (case hr => first | (go_simp; done) | (go_simp; rfl)); intro gb375 hg w11 hbox hb; have BK375 := Aside0.mk (hbox); have GW375 := Aside0.mk ((by rw [hg]; exact (below_size bo) : w.heap.size ≤ gb375)); have GE375 := Aside0.mk ((by rw [hg]; exact (below_size bo) : w.heap.size ≤ gb375)); replace HB := Aside0.mk (below_step bo hb); have NB373_375 := Aside0.mk (nl BK373.out hg); have NB375_373 := Aside0.mk (ng BK373.out hg); replace BK373 := Aside0.mk (bb BK373.out hb); have NB374_375 := Aside0.mk (nl BK374.out hg); have NB375_374 := Aside0.mk (ng BK374.out hg); replace BK374 := Aside0.mk (bb BK374.out hb); clear hb hbox hg; have hnb12 := NB373_374.out; have hnc12 := NB374_373.out; have hnb13 := NB373_375.out; have hnc13 := NB375_373.out; obtain ⟨hcz14_0, hcz14_1⟩ := cl2 BK373.out; obtain ⟨hfz14_0, hfz14_1⟩ := fz2 BK373.out) | ((with_reducible refine gate_callee (f := 46) rfl ?_); refine goesL_ (some 7) rfl rfl Try.func46 (by kernel_rfl) rfl #[.agg #[.int .i64 a0_0, .slice A0_1 l0_1.length c0_1]] rfl aa ?_; (with_reducible refine (seg_Check.calls k a0_0 _ _ l0_1 t376 _ ?side1 ?side2 A3.out).mono ?_); (case side1 => repeat (first | exact (Kd.C_below HR0_1.out HB.out) | (with_reducible refine Kd.C_alloc ?_ _) | (with_reducible refine Kd.C_drewN ?_ _) | (with_reducible refine Kd.C_drew ?_))); (case side2 => exact HC0_1.out); rintro e w15 ⟨rfl, hb⟩; refine ⟨_, rfl, ?_⟩; replace BK373 := Aside0.mk (bb BK373.out hb); replace BK374 := Aside0.mk (bb BK374.out hb); replace BK375 := Aside0.mk (bb BK375.out hb); replace HB := Aside0.mk (below_step bo hb); (try clear hb); (try clear hb2); (try clear hk); (try clear hi); obtain ⟨hcz16_0, hcz16_1⟩ := cl2 BK373.out; obtain ⟨hfz16_0, hfz16_1⟩ := fz2 BK373.out; have hnb17 := NB374_375.out; have hnc17 := NB375_374.out; obtain ⟨hcz18_0, hcz18_1, hcz18_2, hcz18_3, hcz18_4, hcz18_5⟩ := cl6 BK374.out; obtain ⟨hfz18_0, hfz18_1, hfz18_2, hfz18_3, hfz18_4, hfz18_5⟩ := fz6 BK374.out) | (go_at_call 75; (with_reducible refine (seg_behind.calls k a0_0 _ _ l0_1 a1_0 a1_1 a1_2 a1_3 a1_4 a1_5 true _ ?side1 ?side2 A5.out).mono ?_); (case side1 => repeat (first | exact (Kd.C_below HR0_1.out HB.out) | (with_reducible refine Kd.C_alloc ?_ _) | (with_reducible refine Kd.C_drewN ?_ _) | (with_reducible refine Kd.C_drew ?_))); (case side2 => exact HC0_1.out); rintro e w19 ⟨rfl, hb⟩; replace BK373 := Aside0.mk (bb BK373.out hb); replace BK374 := Aside0.mk (bb BK374.out hb); replace BK375 := Aside0.mk (bb BK375.out hb); replace HB := Aside0.mk (below_step bo hb); (try clear hb); (try clear hb2); (try clear hk); (try clear hi)))
    replace BK373 := Aside0.mk (blk_drew BK373.out)
    replace BK374 := Aside0.mk (blk_drew BK374.out)
    replace BK375 := Aside0.mk (blk_drew BK375.out)
    replace HB := Aside0.mk (below_drew1 HB.out)
    refine start_ (n := 11) (S := fun w' => w'.cell? ⟨gb373, 0, none⟩ = some (.int .i64 a0_0) ∧ w'.cell? ⟨gb373, 1, none⟩ = some (.slice A0_1 l0_1.length c0_1) ∧ w'.cell? ⟨gb374, 0, none⟩ = some (.int .i64 a1_0) ∧ w'.cell? ⟨gb374, 1, none⟩ = some (.int .i64 a1_1) ∧ w'.cell? ⟨gb374, 2, none⟩ = some (.string a1_2) ∧ w'.cell? ⟨gb374, 3, none⟩ = some (.string a1_3) ∧ w'.cell? ⟨gb374, 4, none⟩ = some (.int .i64 a1_4) ∧ w'.cell? ⟨gb374, 5, none⟩ = some (.bool a1_5)) (ds := []) #[O,O,O,O,O,O,O,O,O,O,O] (by kernel_rfl) rfl rfl ⟨(blk_cell BK373.out 0).trans rfl, (blk_cell BK373.out 1).trans rfl, (blk_cell BK374.out 0).trans rfl, (blk_cell BK374.out 1).trans rfl, (blk_cell BK374.out 2).trans rfl, (blk_cell BK374.out 3).trans rfl, (blk_cell BK374.out 4).trans rfl, (blk_cell BK374.out 5).trans rfl⟩ (fun hHeld => ?_); refine with_tabW seg_Add.tab3 seg_Add.bits3 (fun HT_ HW_ => ?_)
    generalize w19.drew = w20 at BK373 BK374 BK375 HB hHeld ⊢
    refine pz (i := 0) (N := some 19) #[I,O,O,O,O,O,O,O,O,O,O] ?_
    refine pz (i := 2) (N := some 21) #[I,O,I,O,O,O,O,O,O,O,O] ?_
    refine tz (i := 1) (N := some 20) #[I,I,I,O,O,O,O,O,O,O,O] ?_
    refine tz (i := 3) (N := some 22) #[I,I,I,I,O,O,O,O,O,O,O] ?_
    refine tz (i := 5) (N := some 24) #[I,I,I,I,O,I,O,O,O,O,O] ?_
    refine join_ (σ := Value × Value) 4 #[I,I,I,I,I,I,I,O,O,O,O] (fun s_ => [(23, s_.1), (25, s_.2)]) (fun s_ w' => (w'.cell? ⟨gb373, 0, none⟩ = some (.int .i64 a0_0) ∧ w'.cell? ⟨gb373, 1, none⟩ = some (.slice A0_1 l0_1.length c0_1) ∧ w'.cell? ⟨gb374, 0, none⟩ = some (.int .i64 a1_0) ∧ w'.cell? ⟨gb374, 1, none⟩ = some (.int .i64 a1_1) ∧ w'.cell? ⟨gb374, 2, none⟩ = some (.string a1_2) ∧ w'.cell? ⟨gb374, 3, none⟩ = some (.string a1_3) ∧ w'.cell? ⟨gb374, 4, none⟩ = some (.int .i64 a1_4) ∧ w'.cell? ⟨gb374, 5, none⟩ = some (.bool a1_5)) ∧ (Kd.R k25 25 w' w.heap.size (fun k_ => some k_ ≠ (s_.2 : Value).ownBlock ∧ k_ ≠ gb374) s_.1 t378) ∧ (Kd.R k25 25 w' w.heap.size (fun k_ => some k_ ≠ (s_.1 : Value).ownBlock ∧ k_ ≠ gb374) s_.2 y381) ∧ (w'.heap[gb373]? = some (.cells #[.int .i64 a0_0, .slice A0_1 l0_1.length c0_1] 53 (0, 0))) ∧ (w'.heap[gb374]? = some (.cells #[.int .i64 a1_0, .int .i64 a1_1, .string a1_2, .string a1_3, .int .i64 a1_4, .bool a1_5] 25 (0, 0))) ∧ (w'.heap[gb375]? = some (.cells #[.int .i64 0, .slice none 0 0] 53 (0, 0))) ∧ (Below w.heap.size w w')) ?_ ?_
    rotate_left
    ·intro hCont
     refine two_ (i := 4) (j := 6) (Ni := some 23) (Nj := some 25) #[I,I,I,I,I,I,O,O,O,O,O] #[I,I,I,I,O,I,I,O,O,O,O] rfl rfl rfl rfl (two_of HT_.out (by kernel_rfl)) (by decide) (by decide) (fun K hK => ?_) (fun K hK => ?_)
     ·skip
      refine goes_ Try.func79 (by kernel_rfl) rfl #[.slice A0_1 l0_1.length c0_1] (by rfl) rfl rfl aa ?_
      with_reducible refine (api_Rec_79.calls _ _ l0_1 t378 _ ?side1 ?side2 A7.out).mono ?_
      (case side1 => repeat (first | exact (Kd.C_below HR0_1.out HB.out) | (with_reducible refine Kd.C_alloc ?_ _) | (with_reducible refine Kd.C_drewN ?_ _) | (with_reducible refine Kd.C_drew ?_)))
      (case side2 => exact HC0_1.out)
      rintro e w21 ⟨v379, rfl, ho0, hb⟩
      refine ⟨_, rfl, ?_⟩
      have HO380 := Aside0.mk (Kd.R_lower (Kd.R_newB ho0 (g := gb374) (o := .cells #[.int .i64 a1_0, .int .i64 a1_1, .string a1_2, .string a1_3, .int .i64 a1_4, .bool a1_5] 25 (0, 0)) (bk BK374.out)) (below_size bo))
      replace BK373 := Aside0.mk (bb BK373.out hb)
      replace BK374 := Aside0.mk (bb BK374.out hb)
      replace BK375 := Aside0.mk (bb BK375.out hb)
      replace HB := Aside0.mk (below_step bo hb)
      (try clear hb)
      (try clear hb2)
      (try clear hk)
      (try clear hi)
      (try clear ho0)
      refine hK.out _ _ ⟨(blk_cell BK373.out 0).trans rfl, (blk_cell BK373.out 1).trans rfl, (blk_cell BK374.out 0).trans rfl, (blk_cell BK374.out 1).trans rfl, (blk_cell BK374.out 2).trans rfl, (blk_cell BK374.out 3).trans rfl, (blk_cell BK374.out 4).trans rfl, (blk_cell BK374.out 5).trans rfl⟩ (fun hHeld => ?_)
      clear hK K
      refine norm_ (a' := ?_) ?_ ?_
      rotate_left
      ·show Act.put _ (some 23) _ = _
       simp only [Act.put, List.setIfInBounds_toArray, List.set_cons_zero, List.set_cons_succ, i64_w, i32_w]
       rfl
      refine one_ (i := 6) (N := some 25) #[I,I,I,I,I,I,I,O,O,O,O] rfl rfl (one_of HT_.out (by kernel_rfl)) (by decide) (fun K hK => ?_)
      refine Kd.R_lit_step k25 _ 25 ?hg (N := 25) ?hd (xs := ([(⟨a1_0, a1_1, a1_2, a1_3, a1_4, a1_5⟩ : S25)] : List (S25))) (inner := [.int .i64 a1_0, .int .i64 a1_1, .string a1_2, .string a1_3, .int .i64 a1_4, .bool a1_5]) (ok := fun _ => True) (okp := fun _ => True) ?hr ?hp (fun _ hk => hk) trivial (Below.refl _ _) (Nat.le_refl _) (by simp) ?_; (case hd => rfl); (case hg => rfl); (case hr => first | (go_simp; done) | (go_simp; rfl)); (case hp => exact (Reps.c6 (show Kd.M k25 _ _ _ (⟨a1_0, a1_1, a1_2, a1_3, a1_4, a1_5⟩ : S25) [.int .i64 a1_0, .int .i64 a1_1, .string a1_2, .string a1_3, .int .i64 a1_4, .bool a1_5] from (k25_mkM _ _ _ (⟨a1_0, a1_1, a1_2, a1_3, a1_4, a1_5⟩ : S25) )) (Reps.none _ _)))
      intro v382 w22 ho23 hb hg_ hnew_
      clear hg_ hnew_
      (first | rw [← Ny381.out] at ho23 | (simp only [Int.reduceToNat] at ho23; rw [← Ny381.out] at ho23))
      have HO383 := Aside0.mk (Kd.R_lower (Kd.R_newB (Kd.R_new' ho23 (Kd.R_lt (rk HO380.out))) (g := gb374) (o := .cells #[.int .i64 a1_0, .int .i64 a1_1, .string a1_2, .string a1_3, .int .i64 a1_4, .bool a1_5] 25 (0, 0)) (bk BK374.out)) (below_size bo))
      replace HO380 := Aside0.mk (Kd.R_elder' (rk HO380.out) (Kd.R_base ho23) hb)
      replace BK373 := Aside0.mk (bb BK373.out hb)
      replace BK374 := Aside0.mk (bb BK374.out hb)
      replace BK375 := Aside0.mk (bb BK375.out hb)
      replace HB := Aside0.mk (below_step bo hb)
      clear hb ho23
      refine hK.out _ _ ⟨(blk_cell BK373.out 0).trans rfl, (blk_cell BK373.out 1).trans rfl, (blk_cell BK374.out 0).trans rfl, (blk_cell BK374.out 1).trans rfl, (blk_cell BK374.out 2).trans rfl, (blk_cell BK374.out 3).trans rfl, (blk_cell BK374.out 4).trans rfl, (blk_cell BK374.out 5).trans rfl⟩ (fun hHeld => ?_)
      clear hK K
      refine norm_ (a' := ?_) ?_ ?_
      rotate_left
      ·show Act.put _ (some 25) _ = _
       simp only [Act.put, List.setIfInBounds_toArray, List.set_cons_zero, List.set_cons_succ, i64_w, i32_w]
       rfl
      exact norm_ (by simp only [putAll, Act.put, List.setIfInBounds_toArray, List.set_cons_zero, List.set_cons_succ]) (hCont (v379, v382) _ ⟨hHeld, (by (with_reducible repeat (first | apply Kd.R_alloc | apply Kd.R_drewN | apply Kd.R_drew)); exact Kd.R_mono HO380.out (fun _ hk => ⟨hk.2, hk.1.2⟩)), (by (with_reducible repeat (first | apply Kd.R_alloc | apply Kd.R_drewN | apply Kd.R_drew)); exact Kd.R_mono HO383.out (fun _ hk => ⟨hk.1.2, hk.2⟩)), (bk BK373.out), (bk BK374.out), (bk BK375.out), bo⟩)
     ·skip
      refine Kd.R_lit_step k25 _ 25 ?hg (N := 25) ?hd (xs := ([(⟨a1_0, a1_1, a1_2, a1_3, a1_4, a1_5⟩ : S25)] : List (S25))) (inner := [.int .i64 a1_0, .int .i64 a1_1, .string a1_2, .string a1_3, .int .i64 a1_4, .bool a1_5]) (ok := fun _ => True) (okp := fun _ => True) ?hr ?hp (fun _ hk => hk) trivial (Below.refl _ _) (Nat.le_refl _) (by simp) ?_; (case hd => rfl); (case hg => rfl); (case hr => first | (go_simp; done) | (go_simp; rfl)); (case hp => exact (Reps.c6 (show Kd.M k25 _ _ _ (⟨a1_0, a1_1, a1_2, a1_3, a1_4, a1_5⟩ : S25) [.int .i64 a1_0, .int .i64 a1_1, .string a1_2, .string a1_3, .int .i64 a1_4, .bool a1_5] from (k25_mkM _ _ _ (⟨a1_0, a1_1, a1_2, a1_3, a1_4, a1_5⟩ : S25) )) (Reps.none _ _)))
      intro v382 w21 ho22 hb hg_ hnew_
      clear hg_ hnew_
      (first | rw [← Ny381.out] at ho22 | (simp only [Int.reduceToNat] at ho22; rw [← Ny381.out] at ho22))
      have HO383 := Aside0.mk (Kd.R_lower (Kd.R_newB ho22 (g := gb374) (o := .cells #[.int .i64 a1_0, .int .i64 a1_1, .string a1_2, .string a1_3, .int .i64 a1_4, .bool a1_5] 25 (0, 0)) (bk BK374.out)) (below_size bo))
      replace BK373 := Aside0.mk (bb BK373.out hb)
      replace BK374 := Aside0.mk (bb BK374.out hb)
      replace BK375 := Aside0.mk (bb BK375.out hb)
      replace HB := Aside0.mk (below_step bo hb)
      clear hb ho22
      refine hK.out _ _ ⟨(blk_cell BK373.out 0).trans rfl, (blk_cell BK373.out 1).trans rfl, (blk_cell BK374.out 0).trans rfl, (blk_cell BK374.out 1).trans rfl, (blk_cell BK374.out 2).trans rfl, (blk_cell BK374.out 3).trans rfl, (blk_cell BK374.out 4).trans rfl, (blk_cell BK374.out 5).trans rfl⟩ (fun hHeld => ?_)
      clear hK K
      refine norm_ (a' := ?_) ?_ ?_
      rotate_left
      ·show Act.put _ (some 25) _ = _
       simp only [Act.put, List.setIfInBounds_toArray, List.set_cons_zero, List.set_cons_succ, i64_w, i32_w]
       rfl
      refine one_ (i := 4) (N := some 23) #[I,I,I,I,I,I,I,O,O,O,O] rfl rfl (one_of HT_.out (by kernel_rfl)) (by decide) (fun K hK => ?_)
      refine goes_ Try.func79 (by kernel_rfl) rfl #[.slice A0_1 l0_1.length c0_1] (by rfl) rfl rfl aa ?_
      with_reducible refine (api_Rec_79.calls _ _ l0_1 t378 _ ?side1 ?side2 A7.out).mono ?_
      (case side1 => repeat (first | exact (Kd.C_below HR0_1.out HB.out) | (with_reducible refine Kd.C_alloc ?_ _) | (with_reducible refine Kd.C_drewN ?_ _) | (with_reducible refine Kd.C_drew ?_)))
      (case side2 => exact HC0_1.out)
      rintro e w23 ⟨v379, rfl, ho0, hb⟩
      refine ⟨_, rfl, ?_⟩
      have HO380 := Aside0.mk (Kd.R_lower (Kd.R_newB (Kd.R_new' ho0 (Kd.R_lt (rk HO383.out))) (g := gb374) (o := .cells #[.int .i64 a1_0, .int .i64 a1_1, .string a1_2, .string a1_3, .int .i64 a1_4, .bool a1_5] 25 (0, 0)) (bk BK374.out)) (below_size bo))
      replace HO383 := Aside0.mk (Kd.R_elder' (rk HO383.out) (Kd.R_base ho0) hb)
      replace BK373 := Aside0.mk (bb BK373.out hb)
      replace BK374 := Aside0.mk (bb BK374.out hb)
      replace BK375 := Aside0.mk (bb BK375.out hb)
      replace HB := Aside0.mk (below_step bo hb)
      (try clear hb)
      (try clear hb2)
      (try clear hk)
      (try clear hi)
      (try clear ho0)
      refine hK.out _ _ ⟨(blk_cell BK373.out 0).trans rfl, (blk_cell BK373.out 1).trans rfl, (blk_cell BK374.out 0).trans rfl, (blk_cell BK374.out 1).trans rfl, (blk_cell BK374.out 2).trans rfl, (blk_cell BK374.out 3).trans rfl, (blk_cell BK374.out 4).trans rfl, (blk_cell BK374.out 5).trans rfl⟩ (fun hHeld => ?_)
      clear hK K
      refine norm_ (a' := ?_) ?_ ?_
      rotate_left
      ·show Act.put _ (some 23) _ = _
       simp only [Act.put, List.setIfInBounds_toArray, List.set_cons_zero, List.set_cons_succ, i64_w, i32_w]
       rfl
      exact norm_ (by simp only [putAll, Act.put, List.setIfInBounds_toArray, List.set_cons_zero, List.set_cons_succ]) (hCont (v379, v382) _ ⟨hHeld, (by (with_reducible repeat (first | apply Kd.R_alloc | apply Kd.R_drewN | apply Kd.R_drew)); exact Kd.R_mono HO380.out (fun _ hk => ⟨hk.1.2, hk.2⟩)), (by (with_reducible repeat (first | apply Kd.R_alloc | apply Kd.R_drewN | apply Kd.R_drew)); exact Kd.R_mono HO383.out (fun _ hk => ⟨hk.2, hk.1.2⟩)), (bk BK373.out), (bk BK374.out), (bk BK375.out), bo⟩)
    rintro ⟨v379, v382⟩ w24 ⟨hS_, h0_, h1_, h2_, h3_, h4_, h5_⟩
    have n0_ : Aside0 (Kd.R k25 25 w24 w.heap.size (fun k_ => some k_ ≠ (v382 : Value).ownBlock ∧ k_ ≠ gb374) v379 t378) := ⟨h0_⟩
    have n1_ : Aside0 (Kd.R k25 25 w24 w.heap.size (fun k_ => some k_ ≠ (v379 : Value).ownBlock ∧ k_ ≠ gb374) v382 y381) := ⟨h1_⟩
    have n2_ : Aside0 (w24.heap[gb373]? = some (.cells #[.int .i64 a0_0, .slice A0_1 l0_1.length c0_1] 53 (0, 0))) := ⟨h2_⟩
    have n3_ : Aside0 (w24.heap[gb374]? = some (.cells #[.int .i64 a1_0, .int .i64 a1_1, .string a1_2, .string a1_3, .int .i64 a1_4, .bool a1_5] 25 (0, 0))) := ⟨h3_⟩
    have n4_ : Aside0 (w24.heap[gb375]? = some (.cells #[.int .i64 0, .slice none 0 0] 53 (0, 0))) := ⟨h4_⟩
    have n5_ : Aside0 (Below w.heap.size w w24) := ⟨h5_⟩
    clear BK373
    clear BK374
    clear BK375
    clear HB
    clear h0_ h1_ h2_ h3_ h4_ h5_
    have HO380 := n0_
    have HO383 := n1_
    have BK373 := n2_
    have BK374 := n3_
    have BK375 := n4_
    have HB := n5_
    clear n0_ n1_ n2_ n3_ n4_ n5_
    have hHeld : w24.cell? ⟨gb373, 0, none⟩ = some (.int .i64 a0_0) ∧ w24.cell? ⟨gb373, 1, none⟩ = some (.slice A0_1 l0_1.length c0_1) ∧ w24.cell? ⟨gb374, 0, none⟩ = some (.int .i64 a1_0) ∧ w24.cell? ⟨gb374, 1, none⟩ = some (.int .i64 a1_1) ∧ w24.cell? ⟨gb374, 2, none⟩ = some (.string a1_2) ∧ w24.cell? ⟨gb374, 3, none⟩ = some (.string a1_3) ∧ w24.cell? ⟨gb374, 4, none⟩ = some (.int .i64 a1_4) ∧ w24.cell? ⟨gb374, 5, none⟩ = some (.bool a1_5) := hS_
    obtain ⟨Ao26, co26, eo26⟩ := Kd.R_slice HO383.out
    (first | subst eo26 | (injection eo26 with f1_ f2_ f3_; have f4_ := f1_.symm; have f5_ := f3_.symm; clear f1_ f2_ f3_; subst f4_; subst f5_))
    refine norm_ (a' := ?_) ?_ ?_
    rotate_left
    ·simp only [putAll, Act.put, List.setIfInBounds_toArray, List.set_cons_zero, List.set_cons_succ]
     rfl
    refine one_ (i := 7) (N := some 26) #[I,I,I,I,I,I,I,I,O,O,O] rfl rfl (one_of HT_.out (by kernel_rfl)) (by decide) (fun K hK => ?_)
    refine Kd.R_append_rows_step k25 (w0 := w) w.heap.size (by rfl) (.tmp 23) (.tmp 25) 36 25 (.agg #[(.int .i64 0), (.int .i64 0), (.string ⟨#[]⟩), (.string ⟨#[]⟩), (.int .i64 0), (.bool false)]) 64 rfl Try.underlying36 info25 rfl (by decide) (by omega) v379 t378 y381 _ _ _ (fun k_ => some k_ ≠ (.slice Ao26 y381.length co26 : Value).ownBlock ∧ k_ ≠ gb374) (fun _ => False) rfl rfl ?aO ?aR (fun _ _ h => h) (fun _ h => h.elim) ?aF ?aB ?aS ?aL ?_
    (case aR => repeat (first | exact (Kd.R_reads' HO383.out).2.2 | (with_reducible refine Kd.C_alloc ?_ _) | (with_reducible refine Kd.C_drewN ?_ _) | (with_reducible refine Kd.C_drew ?_)))
    (case aB => exact bo)
    (case aF => exact (fun k_ hk => ⟨Kd.fresh' (Kd.R_lt (rk HO383.out)) k_ hk, Kd.freshB (g := gb374) (o := .cells #[.int .i64 a1_0, .int .i64 a1_1, .string a1_2, .string a1_3, .int .i64 a1_4, .bool a1_5] 25 (0, 0)) (bk BK374.out) k_ hk⟩))
    (case aO => exact (rk HO380.out))
    (case aS => exact (below_size bo))
    (case aL => have := LMc8.out; omega)
    intro v385 w25 ho hb hg hat
    rw [← Ny384.out] at ho
    have n0_ := Aside0.mk (blk_grown (g := gb373) (o := .cells #[.int .i64 a0_0, .slice A0_1 l0_1.length c0_1] 53 (0, 0)) (bk BK373.out) hg (Kd.R_ne HO380.out BK373.out (by decide)))
    have n1_ := Aside0.mk (blk_grown (g := gb374) (o := .cells #[.int .i64 a1_0, .int .i64 a1_1, .string a1_2, .string a1_3, .int .i64 a1_4, .bool a1_5] 25 (0, 0)) (bk BK374.out) hg (Kd.R_away HO380.out (fun _ hk => hk.2)))
    have n2_ := Aside0.mk (blk_grown (g := gb375) (o := .cells #[.int .i64 0, .slice none 0 0] 53 (0, 0)) (bk BK375.out) hg (Kd.R_ne HO380.out BK375.out (by decide)))
    have n3_ := Aside0.mk (Kd.R_after (ok := (fun k_ => k_ ≠ gb374)) (by (with_reducible repeat (first | apply Kd.R_alloc | apply Kd.R_drewN | apply Kd.R_drew)); exact Kd.R_mono HO383.out (fun _ hk => ⟨hk.2, hk.1⟩)) hg hat)
    have n4_ := Aside0.mk (hb)
    have n5_ := Aside0.mk (ho)
    clear BK373
    clear BK374
    clear BK375
    clear HO383
    clear HB
    clear HO380
    have BK373 := n0_
    have BK374 := n1_
    have BK375 := n2_
    have HO383 := n3_
    have HB := n4_
    have HO386 := n5_
    clear n0_ n1_ n2_ n3_ n4_ n5_
    clear ho hb hg hat
    obtain ⟨Ao27, co27, eo27⟩ := Kd.R_slice HO386.out
    (first | subst eo27 | (injection eo27 with f1_ f2_ f3_; have f4_ := f1_.symm; have f5_ := f3_.symm; clear f1_ f2_ f3_; subst f4_; subst f5_))
    refine hK.out _ _ ⟨(blk_cell BK373.out 0).trans rfl, (blk_cell BK373.out 1).trans rfl, (blk_cell BK374.out 0).trans rfl, (blk_cell BK374.out 1).trans rfl, (blk_cell BK374.out 2).trans rfl, (blk_cell BK374.out 3).trans rfl, (blk_cell BK374.out 4).trans rfl, (blk_cell BK374.out 5).trans rfl⟩ (fun hHeld => ?_)
    clear hK K
    refine norm_ (a' := ?_) ?_ ?_
    rotate_left
    ·show Act.put _ (some 26) _ = _
     simp only [Act.put, List.setIfInBounds_toArray, List.set_cons_zero, List.set_cons_succ, i64_w, i32_w]
     rfl
    refine pz (i := 8) (N := some 27) #[I,I,I,I,I,I,I,I,I,O,O] ?_
    refine one_ (i := 9) (N := none) #[I,I,I,I,I,I,I,I,I,I,O] rfl rfl (one_of HT_.out (by kernel_rfl)) (by decide) (fun K hK => ?_)
    have hs28 : w25.cell? ⟨gb375, 0, none⟩ = some (.int .i64 0) := (blk_cell BK375.out 0).trans rfl
    have hfs28 := blk_frozen BK375.out 0
    have hns28_0 := NB373_375.out
    have hns28_1 := NB374_375.out
    have hms28_0 := NB375_373.out
    have hms28_1 := NB375_374.out
    have hs29 : w25.cell? ⟨gb375, 1, none⟩ = some (.slice none 0 0) := (blk_cell BK375.out 1).trans rfl
    have hfs29 := blk_frozen BK375.out 1
    have hns29_0 := NB373_375.out
    have hns29_1 := NB374_375.out
    have hms29_0 := NB375_373.out
    have hms29_1 := NB375_374.out
    refine skip_ (w1 := ?_) (by rfl) rfl ?_ ?_
    rotate_left
    ·go_simp
     rfl
    refine hK.out _ _ ⟨((cell_far (p := ⟨gb375, _, none⟩) NB373_375.out _).trans (((cell_far (p := ⟨gb375, _, none⟩) NB373_375.out _).trans (hHeld.1)))), ((cell_far (p := ⟨gb375, _, none⟩) NB373_375.out _).trans (((cell_far (p := ⟨gb375, _, none⟩) NB373_375.out _).trans (hHeld.2.1)))), ((cell_far (p := ⟨gb375, _, none⟩) NB374_375.out _).trans (((cell_far (p := ⟨gb375, _, none⟩) NB374_375.out _).trans (hHeld.2.2.1)))), ((cell_far (p := ⟨gb375, _, none⟩) NB374_375.out _).trans (((cell_far (p := ⟨gb375, _, none⟩) NB374_375.out _).trans (hHeld.2.2.2.1)))), ((cell_far (p := ⟨gb375, _, none⟩) NB374_375.out _).trans (((cell_far (p := ⟨gb375, _, none⟩) NB374_375.out _).trans (hHeld.2.2.2.2.1)))), ((cell_far (p := ⟨gb375, _, none⟩) NB374_375.out _).trans (((cell_far (p := ⟨gb375, _, none⟩) NB374_375.out _).trans (hHeld.2.2.2.2.2.1)))), ((cell_far (p := ⟨gb375, _, none⟩) NB374_375.out _).trans (((cell_far (p := ⟨gb375, _, none⟩) NB374_375.out _).trans (hHeld.2.2.2.2.2.2.1)))), ((cell_far (p := ⟨gb375, _, none⟩) NB374_375.out _).trans (((cell_far (p := ⟨gb375, _, none⟩) NB374_375.out _).trans (hHeld.2.2.2.2.2.2.2))))⟩ (fun hHeld => ?_)
    clear hK K
    refine pz (i := 10) (N := some 5) #[I,I,I,I,I,I,I,I,I,I,I] ?_
    refine done_ (done_of HT_.out (by kernel_rfl)) ?_
    try go_wp2
    refine bodyPost_ret (results_ct rfl _ _ gb375 53 #[.int .i64 a0_0, .slice Ao27 y384.length co27] (0, 0) _ rfl (by (with_reducible repeat (first | refine blk_drewN ?_ _ | refine blk_drew ?_ | refine blk_alloc ?_ _)); refine blk_put (cs := #[.int .i64 a0_0, .slice none 0 0]) ?_ 1 _ rfl; (with_reducible repeat (first | refine blk_drewN ?_ _ | refine blk_drew ?_ | refine blk_alloc ?_ _)); refine blk_put (cs := #[.int .i64 0, .slice none 0 0]) ?_ 0 _ rfl; (with_reducible repeat (first | refine blk_drewN ?_ _ | refine blk_drew ?_ | refine blk_alloc ?_ _)); exact BK375.out) Try.underlying53 rfl (by kernel_rfl)) rfl ?_
    exact ⟨_, er, by (with_reducible repeat (first | apply Kd.R_alloc | apply Kd.R_drewN | apply Kd.R_drew)); exact Kd.R_mono (Kd.R_far (p := ⟨gb375, 1, none⟩) (Kd.R_far (p := ⟨gb375, 0, none⟩) (Kd.R_types HO386.out BK375.out (by decide)) (fun _ hk => hk.2) (.int .i64 a0_0)) (fun _ hk => hk.2) (.slice Ao27 y384.length co27)) (fun _ hk => trivial), bo⟩
   ·rw [if_neg c8] at H
    exact absurd H (by simp)
  ·replace c6 := Bool.eq_false_iff.mpr c6
   subst c6
   have H1 : (some (0, ([] : List (S25)), 1)) = some (r1, r2, r3) := by rw [if_neg (show ¬ (false = true) by decide)] at H; exact H
   clear H
   have H := H1
   clear H1
   simp only [Option.some.injEq, Prod.mk.injEq] at H
   obtain ⟨rfl, rfl, rfl⟩ := H
   go_enter Try.func47, Try.ntmps47
   go_wp2_with (first | ((with_reducible refine gate_dst (N := 2) rfl ?_); refine box_event ?hg (N := 2) ?hd (cs := #[.int .i64 a0_0, .slice A0_1 l0_1.length c0_1]) (t := 53) ?hr ?_; (case hd => rfl); (case hg => rfl); (case hr => first | (go_simp; done) | (go_simp; rfl)); intro gb373 hg w30 hbox hb; have BK373 := Aside0.mk (hbox); have GW373 := Aside0.mk ((by rw [hg]; exact (below_size bo) : w.heap.size ≤ gb373)); have GE373 := Aside0.mk ((by rw [hg]; exact (below_size bo) : w.heap.size ≤ gb373)); replace HB := Aside0.mk (below_step bo hb); clear hb hbox hg) | ((with_reducible refine gate_dst (N := 3) rfl ?_); refine box_event ?hg (N := 3) ?hd (cs := #[.int .i64 a1_0, .int .i64 a1_1, .string a1_2, .string a1_3, .int .i64 a1_4, .bool a1_5]) (t := 25) ?hr ?_; (case hd => rfl); (case hg => rfl); (case hr => first | (go_simp; done) | (go_simp; rfl)); intro gb374 hg w31 hbox hb; have BK374 := Aside0.mk (hbox); have GW374 := Aside0.mk ((by rw [hg]; exact (below_size bo) : w.heap.size ≤ gb374)); have GE374 := Aside0.mk ((by rw [hg]; exact (below_size bo) : w.heap.size ≤ gb374)); replace HB := Aside0.mk (below_step bo hb); have NB373_374 := Aside0.mk (nl BK373.out hg); have NB374_373 := Aside0.mk (ng BK373.out hg); replace BK373 := Aside0.mk (bb BK373.out hb); clear hb hbox hg) | ((with_reducible refine gate_dst (N := 4) rfl ?_); refine box_event ?hg (N := 4) ?hd (cs := #[.int .i64 0, .slice none 0 0]) (t := 53) ?hr ?_; (case hd => rfl); (case hg => rfl); (case hr => first | (go_simp; done) | (go_simp; rfl)); intro gb375 hg w32 hbox hb; have BK375 := Aside0.mk (hbox); have GW375 := Aside0.mk ((by rw [hg]; exact (below_size bo) : w.heap.size ≤ gb375)); have GE375 := Aside0.mk ((by rw [hg]; exact (below_size bo) : w.heap.size ≤ gb375)); replace HB := Aside0.mk (below_step bo hb); have NB373_375 := Aside0.mk (nl BK373.out hg); have NB375_373 := Aside0.mk (ng BK373.out hg); replace BK373 := Aside0.mk (bb BK373.out hb); have NB374_375 := Aside0.mk (nl BK374.out hg); have NB375_374 := Aside0.mk (ng BK374.out hg); replace BK374 := Aside0.mk (bb BK374.out hb); clear hb hbox hg; have hnb33 := NB373_374.out; have hnc33 := NB374_373.out; have hnb34 := NB373_375.out; have hnc34 := NB375_373.out; obtain ⟨hcz35_0, hcz35_1⟩ := cl2 BK373.out; obtain ⟨hfz35_0, hfz35_1⟩ := fz2 BK373.out) | ((with_reducible refine gate_callee (f := 46) rfl ?_); refine goesL_ (some 7) rfl rfl Try.func46 (by kernel_rfl) rfl #[.agg #[.int .i64 a0_0, .slice A0_1 l0_1.length c0_1]] rfl aa ?_; (with_reducible refine (seg_Check.calls k a0_0 _ _ l0_1 t376 _ ?side1 ?side2 A3.out).mono ?_); (case side1 => repeat (first | exact (Kd.C_below HR0_1.out HB.out) | (with_reducible refine Kd.C_alloc ?_ _) | (with_reducible refine Kd.C_drewN ?_ _) | (with_reducible refine Kd.C_drew ?_))); (case side2 => exact HC0_1.out); rintro e w36 ⟨rfl, hb⟩; refine ⟨_, rfl, ?_⟩; replace BK373 := Aside0.mk (bb BK373.out hb); replace BK374 := Aside0.mk (bb BK374.out hb); replace BK375 := Aside0.mk (bb BK375.out hb); replace HB := Aside0.mk (below_step bo hb); (try clear hb); (try clear hb2); (try clear hk); (try clear hi); obtain ⟨hcz37_0, hcz37_1⟩ := cl2 BK373.out; obtain ⟨hfz37_0, hfz37_1⟩ := fz2 BK373.out; have hnb38 := NB374_375.out; have hnc38 := NB375_374.out; obtain ⟨hcz39_0, hcz39_1, hcz39_2, hcz39_3, hcz39_4, hcz39_5⟩ := cl6 BK374.out; obtain ⟨hfz39_0, hfz39_1, hfz39_2, hfz39_3, hfz39_4, hfz39_5⟩ := fz6 BK374.out) | (go_at_call 75; (with_reducible refine (seg_behind.calls k a0_0 _ _ l0_1 a1_0 a1_1 a1_2 a1_3 a1_4 a1_5 false _ ?side1 ?side2 A5.out).mono ?_); (case side1 => repeat (first | exact (Kd.C_below HR0_1.out HB.out) | (with_reducible refine Kd.C_alloc ?_ _) | (with_reducible refine Kd.C_drewN ?_ _) | (with_reducible refine Kd.C_drew ?_))); (case side2 => exact HC0_1.out); rintro e w40 ⟨rfl, hb⟩; replace BK373 := Aside0.mk (bb BK373.out hb); replace BK374 := Aside0.mk (bb BK374.out hb); replace BK375 := Aside0.mk (bb BK375.out hb); replace HB := Aside0.mk (below_step bo hb); (try clear hb); (try clear hb2); (try clear hk); (try clear hi); obtain ⟨hcz41_0, hcz41_1⟩ := cl2 BK375.out; obtain ⟨hfz41_0, hfz41_1⟩ := fz2 BK375.out))
   refine bodyPost_ret (results_ct rfl _ _ gb375 53 #[.int .i64 0, .slice none 0 0] (0, 0) _ rfl (by (with_reducible repeat (first | refine blk_drewN ?_ _ | refine blk_drew ?_ | refine blk_alloc ?_ _)); refine blk_put (cs := #[.int .i64 0, .slice none 0 0]) ?_ 1 _ rfl; (with_reducible repeat (first | refine blk_drewN ?_ _ | refine blk_drew ?_ | refine blk_alloc ?_ _)); refine blk_put (cs := #[.int .i64 0, .slice none 0 0]) ?_ 0 _ rfl; (with_reducible repeat (first | refine blk_drewN ?_ _ | refine blk_drew ?_ | refine blk_alloc ?_ _)); exact BK375.out) Try.underlying53 rfl (by kernel_rfl)) rfl ?_
   exact ⟨_, er, by first | exact Kd.R_nil _ _ _ _ _ | exact Kd.N_nil _ _ _ _ _ | exact Kd.V_nil _ _ _ _ _ | exact Kd.Q_nil _ _ _ _ _ | exact Kd.S_nil _ _ _ _ _, bo⟩
 ·rw [if_neg c4] at H
  have c4b0 : (t376 == 0) = false := beq_eq_false_iff_ne.mpr c4
  have c4b1 : (t376 != 0) = true := bne_iff_ne.mpr c4
  simp only [Option.some.injEq, Prod.mk.injEq] at H
  obtain ⟨rfl, rfl, rfl⟩ := H
  go_enter Try.func47, Try.ntmps47
  go_wp2_with (first | ((with_reducible refine gate_dst (N := 2) rfl ?_); refine box_event ?hg (N := 2) ?hd (cs := #[.int .i64 a0_0, .slice A0_1 l0_1.length c0_1]) (t := 53) ?hr ?_; (case hd => rfl); (case hg => rfl); (case hr => first | (go_simp; done) | (go_simp; rfl)); intro gb373 hg w42 hbox hb; have BK373 := Aside0.mk (hbox); have GW373 := Aside0.mk ((by rw [hg]; exact (below_size bo) : w.heap.size ≤ gb373)); have GE373 := Aside0.mk ((by rw [hg]; exact (below_size bo) : w.heap.size ≤ gb373)); replace HB := Aside0.mk (below_step bo hb); clear hb hbox hg) | ((with_reducible refine gate_dst (N := 3) rfl ?_); refine box_event ?hg (N := 3) ?hd (cs := #[.int .i64 a1_0, .int .i64 a1_1, .string a1_2, .string a1_3, .int .i64 a1_4, .bool a1_5]) (t := 25) ?hr ?_; (case hd => rfl); (case hg => rfl); (case hr => first | (go_simp; done) | (go_simp; rfl)); intro gb374 hg w43 hbox hb; have BK374 := Aside0.mk (hbox); have GW374 := Aside0.mk ((by rw [hg]; exact (below_size bo) : w.heap.size ≤ gb374)); have GE374 := Aside0.mk ((by rw [hg]; exact (below_size bo) : w.heap.size ≤ gb374)); replace HB := Aside0.mk (below_step bo hb); have NB373_374 := Aside0.mk (nl BK373.out hg); have NB374_373 := Aside0.mk (ng BK373.out hg); replace BK373 := Aside0.mk (bb BK373.out hb); clear hb hbox hg) | ((with_reducible refine gate_dst (N := 4) rfl ?_); refine box_event ?hg (N := 4) ?hd (cs := #[.int .i64 0, .slice none 0 0]) (t := 53) ?hr ?_; (case hd => rfl); (case hg => rfl); (case hr => first | (go_simp; done) | (go_simp; rfl)); intro gb375 hg w44 hbox hb; have BK375 := Aside0.mk (hbox); have GW375 := Aside0.mk ((by rw [hg]; exact (below_size bo) : w.heap.size ≤ gb375)); have GE375 := Aside0.mk ((by rw [hg]; exact (below_size bo) : w.heap.size ≤ gb375)); replace HB := Aside0.mk (below_step bo hb); have NB373_375 := Aside0.mk (nl BK373.out hg); have NB375_373 := Aside0.mk (ng BK373.out hg); replace BK373 := Aside0.mk (bb BK373.out hb); have NB374_375 := Aside0.mk (nl BK374.out hg); have NB375_374 := Aside0.mk (ng BK374.out hg); replace BK374 := Aside0.mk (bb BK374.out hb); clear hb hbox hg; have hnb45 := NB373_374.out; have hnc45 := NB374_373.out; have hnb46 := NB373_375.out; have hnc46 := NB375_373.out; obtain ⟨hcz47_0, hcz47_1⟩ := cl2 BK373.out; obtain ⟨hfz47_0, hfz47_1⟩ := fz2 BK373.out) | ((with_reducible refine gate_callee (f := 46) rfl ?_); refine goesL_ (some 7) rfl rfl Try.func46 (by kernel_rfl) rfl #[.agg #[.int .i64 a0_0, .slice A0_1 l0_1.length c0_1]] rfl aa ?_; (with_reducible refine (seg_Check.calls k a0_0 _ _ l0_1 t376 _ ?side1 ?side2 A3.out).mono ?_); (case side1 => repeat (first | exact (Kd.C_below HR0_1.out HB.out) | (with_reducible refine Kd.C_alloc ?_ _) | (with_reducible refine Kd.C_drewN ?_ _) | (with_reducible refine Kd.C_drew ?_))); (case side2 => exact HC0_1.out); rintro e w48 ⟨rfl, hb⟩; refine ⟨_, rfl, ?_⟩; replace BK373 := Aside0.mk (bb BK373.out hb); replace BK374 := Aside0.mk (bb BK374.out hb); replace BK375 := Aside0.mk (bb BK375.out hb); replace HB := Aside0.mk (below_step bo hb); (try clear hb); (try clear hb2); (try clear hk); (try clear hi); have hnb49 := NB375_374.out; have hnc49 := NB374_375.out; obtain ⟨hcz50_0, hcz50_1⟩ := cl2 BK375.out; obtain ⟨hfz50_0, hfz50_1⟩ := fz2 BK375.out))
  refine bodyPost_ret (results_ct rfl _ _ gb375 53 #[.int .i64 0, .slice none 0 0] (0, 0) _ rfl (by (with_reducible repeat (first | refine blk_drewN ?_ _ | refine blk_drew ?_ | refine blk_alloc ?_ _)); refine blk_put (cs := #[.int .i64 0, .slice none 0 0]) ?_ 1 _ rfl; (with_reducible repeat (first | refine blk_drewN ?_ _ | refine blk_drew ?_ | refine blk_alloc ?_ _)); refine blk_put (cs := #[.int .i64 0, .slice none 0 0]) ?_ 0 _ rfl; (with_reducible repeat (first | refine blk_drewN ?_ _ | refine blk_drew ?_ | refine blk_alloc ?_ _)); exact BK375.out) Try.underlying53 rfl (by kernel_rfl)) rfl ?_
  exact ⟨_, er, by first | exact Kd.R_nil _ _ _ _ _ | exact Kd.N_nil _ _ _ _ _ | exact Kd.V_nil _ _ _ _ _ | exact Kd.Q_nil _ _ _ _ _ | exact Kd.S_nil _ _ _ _ _, bo⟩

end Go.Proofs.Ytmabdfdmccbfnaa.P

-- written by a program of the proving session, out of the translation; Lean checks it
namespace Go.Proofs.Ytmabdfdmccbfnaa.P
open Go.RowKit Go.Proofs.Ytmabdfdmccbfnaa.Sq Go.Proofs.YtmabdfdmccbfnaaW.PrintWords Go.Proofs.YtmabdfdmccbfnaaW.PrintLast Go.Proofs.YtmabdfdmccbfnaaW.PrintMore
attribute [local go_sem] max2_int min2_int max_two min_two max_three min_three max_four min_four   -- for this text's walks alone
set_option linter.unusedVariables false
set_option linter.unusedSimpArgs false

/-! ### fairwaylaw10_R: function 67 -/
def fairwaylaw10_R.f (a0 : Int) (a1 : Int) (a2 : ByteArray) (a3 : ByteArray) : Option (Int × Int × ByteArray × ByteArray × Int × Bool) := some (a0, a1, a2, a3, 1, false)
set_option maxHeartbeats 8000000 in
set_option maxRecDepth 100000 in
theorem fairwaylaw10_R.calls (a0 : Int) (a1 : Int) (a2 : ByteArray) (a3 : ByteArray) (r1 : Int) (r2 : Int) (r3 : ByteArray) (r4 : ByteArray) (r5 : Int) (r6 : Bool) (w : World) (h : fairwaylaw10_R.f a0 a1 a2 a3 = some (r1, r2, r3, r4, r5, r6)) :
 Calls Try.prog 67 #[.int .i64 a0, .int .i64 a1, .string a2, .string a3] w fun e w' => e = .returned (.agg #[.int .i64 r1, .int .i64 r2, .string r3, .string r4, .int .i64 r5, .bool r6]) ∧ Below w.heap.size w w' := by
 have hu25 := Try.underlying25
 have HB := Aside0.mk (Below.refl w.heap.size w)
 have H : (some (a0, a1, a2, a3, 1, false)) = some (r1, r2, r3, r4, r5, r6) := h
 clear h
 simp only [Option.some.injEq, Prod.mk.injEq] at H
 obtain ⟨rfl, rfl, rfl, rfl, rfl, rfl⟩ := H
 go_enter Try.func67, Try.ntmps67
 go_wp2_with (first | ((with_reducible refine gate_dst (N := 8) rfl ?_); refine box_event ?hg (N := 8) ?hd (cs := #[.int .i64 0, .int .i64 0, .string (⟨#[]⟩ : ByteArray), .string (⟨#[]⟩ : ByteArray), .int .i64 0, .bool false]) (t := 25) ?hr ?_; (case hd => rfl); (case hg => rfl); (case hr => first | (go_simp; done) | (go_simp; rfl)); intro gb161 hg w5 hbox hb; have BK161 := Aside0.mk (hbox); have GW161 := Aside0.mk ((by rw [hg]; exact (below_size bo) : w.heap.size ≤ gb161)); have GE161 := Aside0.mk ((by rw [hg]; exact (below_size bo) : w.heap.size ≤ gb161)); replace HB := Aside0.mk (below_step bo hb); clear hb hbox hg; obtain ⟨hcz6_0, hcz6_1, hcz6_2, hcz6_3, hcz6_4, hcz6_5⟩ := cl6 BK161.out; obtain ⟨hfz6_0, hfz6_1, hfz6_2, hfz6_3, hfz6_4, hfz6_5⟩ := fz6 BK161.out))
 refine bodyPost_ret (results_cell_row rfl _ _ gb161 25 #[.int .i64 a0, .int .i64 a1, .string a2, .string a3, .int .i64 1, .bool false] (0, 0) _ rfl (by (with_reducible repeat (first | refine blk_drewN ?_ _ | refine blk_drew ?_ | refine blk_alloc ?_ _)); refine blk_put (cs := #[.int .i64 a0, .int .i64 a1, .string a2, .string a3, .int .i64 1, .bool false]) ?_ 5 _ rfl; (with_reducible repeat (first | refine blk_drewN ?_ _ | refine blk_drew ?_ | refine blk_alloc ?_ _)); refine blk_put (cs := #[.int .i64 a0, .int .i64 a1, .string a2, .string a3, .int .i64 0, .bool false]) ?_ 4 _ rfl; (with_reducible repeat (first | refine blk_drewN ?_ _ | refine blk_drew ?_ | refine blk_alloc ?_ _)); refine blk_put (cs := #[.int .i64 a0, .int .i64 a1, .string a2, .string (⟨#[]⟩ : ByteArray), .int .i64 0, .bool false]) ?_ 3 _ rfl; (with_reducible repeat (first | refine blk_drewN ?_ _ | refine blk_drew ?_ | refine blk_alloc ?_ _)); refine blk_put (cs := #[.int .i64 a0, .int .i64 a1, .string (⟨#[]⟩ : ByteArray), .string (⟨#[]⟩ : ByteArray), .int .i64 0, .bool false]) ?_ 2 _ rfl; (with_reducible repeat (first | refine blk_drewN ?_ _ | refine blk_drew ?_ | refine blk_alloc ?_ _)); refine blk_put (cs := #[.int .i64 a0, .int .i64 0, .string (⟨#[]⟩ : ByteArray), .string (⟨#[]⟩ : ByteArray), .int .i64 0, .bool false]) ?_ 1 _ rfl; (with_reducible repeat (first | refine blk_drewN ?_ _ | refine blk_drew ?_ | refine blk_alloc ?_ _)); refine blk_put (cs := #[.int .i64 0, .int .i64 0, .string (⟨#[]⟩ : ByteArray), .string (⟨#[]⟩ : ByteArray), .int .i64 0, .bool false]) ?_ 0 _ rfl; (with_reducible repeat (first | refine blk_drewN ?_ _ | refine blk_drew ?_ | refine blk_alloc ?_ _)); exact BK161.out) Try.underlying25 rfl (by kernel_rfl)) rfl ?_
 exact ⟨er, bo⟩

end Go.Proofs.Ytmabdfdmccbfnaa.P

-- written by a program of the proving session, out of the translation; Lean checks it
namespace Go.Proofs.Ytmabdfdmccbfnaa.P
open Go.RowKit Go.Proofs.Ytmabdfdmccbfnaa.Sq Go.Proofs.YtmabdfdmccbfnaaW.PrintWords Go.Proofs.YtmabdfdmccbfnaaW.PrintLast Go.Proofs.YtmabdfdmccbfnaaW.PrintMore
attribute [local go_sem] max2_int min2_int max_two min_two max_three min_three max_four min_four   -- for this text's walks alone
set_option linter.unusedVariables false
set_option linter.unusedSimpArgs false

/-! ### seg_Find: function 32 -/
/-- The first record of which the closure holds. -/
def seg_Find.ix (q : Int) : List S25 → Nat → Int
 | [], _ => -1
 | x :: l, i => if x.f0 ≥ q then (i : Int) else seg_Find.ix q l (i + 1)
def seg_Find.f (k : Nat) (a0_0 : Int) (l0_1 : List (S25)) (a1 : Int) : Option (Int × Int × ByteArray × ByteArray × Int × Bool × Int) :=
 (seg_Check.f k a0_0 l0_1).bind fun t => (if t = 0 then (if seg_Find.ix a1 l0_1 0 < 0 then (some (0, 0, (⟨#[]⟩ : ByteArray), (⟨#[]⟩ : ByteArray), 0, false, 3)) else (some ((rd_T25 l0_1 (seg_Find.ix a1 l0_1 0)).f0, (rd_T25 l0_1 (seg_Find.ix a1 l0_1 0)).f1, (rd_T25 l0_1 (seg_Find.ix a1 l0_1 0)).f2, (rd_T25 l0_1 (seg_Find.ix a1 l0_1 0)).f3, (rd_T25 l0_1 (seg_Find.ix a1 l0_1 0)).f4, (rd_T25 l0_1 (seg_Find.ix a1 l0_1 0)).f5, 0))) else (some (0, 0, (⟨#[]⟩ : ByteArray), (⟨#[]⟩ : ByteArray), 0, false, t)))
theorem seg_Find.mono : ∀ a0 a1 a2 k, LeO (seg_Find.f k a0 a1 a2) (seg_Find.f (k + 1) a0 a1 a2) := by
 intro a0 a1 a2 k
 unfold seg_Find.f
 exact LeO.bind (seg_Check.mono _ _ _) (fun _ => LeO.refl _)
theorem seg_Find.ix_step (q : Int) (l : List S25) (i : Nat) (h : i < l.length) : seg_Find.ix q (l.drop i) i = if (rd_T25 l i).f0 ≥ q then (i : Int) else seg_Find.ix q (l.drop (i + 1)) (i + 1) := by
 have e : rd_T25 l i = l[i] := by unfold rd_T25; simp [List.getD_eq_getElem?_getD, List.getElem?_eq_getElem h]
 rw [List.drop_eq_getElem_cons h, seg_Find.ix, e]
theorem seg_Find.ix_in (q : Int) : ∀ (l : List S25) (i : Nat), seg_Find.ix q l i = -1 ∨ ((i : Int) ≤ seg_Find.ix q l i ∧ seg_Find.ix q l i < i + l.length)
 | [], i => .inl rfl
 | x :: l, i => by
  unfold seg_Find.ix
  split
  ·right; simp; omega
  ·rcases seg_Find.ix_in q l (i + 1) with h | h
   ·exact .inl h
   ·right; simp; omega
theorem seg_Find.below_cells {W w1 : World} (hb : Below W.heap.size W w1) : (∀ b o, b < W.heap.size → w1.cell? ⟨b, o, none⟩ = W.cell? ⟨b, o, none⟩) ∧ (∀ b o, b < W.heap.size → w1.frozen? ⟨b, o, none⟩ = W.frozen? ⟨b, o, none⟩) :=
 ⟨fun b o h => hb.cell (p := ⟨b, o, none⟩) h, fun b o h => hb.frozen (p := ⟨b, o, none⟩) h⟩
set_option maxHeartbeats 1000000 in
set_option maxRecDepth 100000 in
theorem seg_Find.cl (g : Nat) (q : Int) (x : S25) (W : World) (hg : g < W.heap.size) (hc : W.cell? ⟨g, 0, none⟩ = some (.int .i64 q)) (b : Bool) (hb : decide (x.f0 ≥ q) = b) :
 Calls Try.prog 73 #[.agg #[.int .i64 x.f0, .int .i64 x.f1, .string x.f2, .string x.f3, .int .i64 x.f4, .bool x.f5], .pointer (some ⟨g, 0, none⟩)] W fun e w' => e = .returned (.bool b) ∧ Below W.heap.size W w' := by
 have hu25 := Try.underlying25
 subst hb
 go_enter Try.func73, Try.ntmps73
 go_wp2
 go_ret
 exact ⟨by first | rfl | simp, by first | exact (Below.refl _ _).alloc (Nat.le_refl _) _ | skip⟩
set_option maxHeartbeats 4000000 in
set_option maxRecDepth 100000 in
theorem seg_Find.ixcalls (A0 : Option Addr) (c0 : Nat) (l0 : List S25) (q : Int) (g : Nat) (w : World) (hr0 : Kd.C k25 w A0 l0.length l0) (hc0 : l0.length ≤ c0) (hg : g < w.heap.size) (hc : w.cell? ⟨g, 0, none⟩ = some (.int .i64 q)) :
 Calls Try.prog 84 #[.slice A0 l0.length c0, .func (.func 73) #[] #[.pointer (some ⟨g, 0, none⟩)]] w fun e w' => e = .returned (.int .i64 (seg_Find.ix q l0 0)) ∧ Below w.heap.size w w' := by
 have hm := hr0.2.1
 have HR0 := Aside0.mk hr0
 have HC0 := Aside0.mk hc0
 have HG := Aside0.mk hg
 have HCl := Aside0.mk hc
 have HB := Aside0.mk (Below.refl w.heap.size w)
 clear hr0 hc0 hg hc
 go_enter Try.func84, Try.ntmps84
 go_wp2
 go_loopw [8] (fun v8 w' => ∃ i : Nat, i ≤ l0.length ∧ v8 = .int .i64 i ∧ Aside0 (seg_Find.ix q (l0.drop i) i = seg_Find.ix q l0 0) ∧ Aside0 (Below w.heap.size w w')) (fun v8 _ => l0.length - (intOf v8).toNat)
 case atStart => exact ⟨0, Nat.zero_le _, rfl, ⟨by simp⟩, HB⟩
 case round =>
  clear HB
  obtain ⟨i, hi, rfl, HX, HB⟩ := hrel
  by_cases hlt : i < l0.length
  ·have hs := seg_Find.ix_step q l0 i hlt
   have HS := Aside0.mk hs
   clear hs
   obtain ⟨ad, ead, hx0, hx1, hx2, hx3, hx4, hx5⟩ := at_T25 HR0.out (i : Int) (by omega) (by omega)
   cases ead
   simp only [Int.toNat_natCast] at hx0 hx1 hx2 hx3 hx4 hx5
   replace hx0 := cx HB.out hx0
   replace hx1 := cx HB.out hx1
   replace hx2 := cx HB.out hx2
   replace hx3 := cx HB.out hx3
   replace hx4 := cx HB.out hx4
   replace hx5 := cx HB.out hx5
   by_cases ht : (rd_T25 l0 (i : Int)).f0 ≥ q
   ·have hd : decide ((rd_T25 l0 (i : Int)).f0 ≥ q) = true := decide_eq_true ht
    have HD := Aside0.mk hd
    clear hd
    go_wp2_with (first | (go_at_call 73; (with_reducible refine (seg_Find.cl g q (rd_T25 l0 (i : Int)) _ (Nat.lt_of_lt_of_le HG.out HB.out.size) ((HB.out.cell (p := ⟨g, 0, none⟩) HG.out).trans HCl.out) true HD.out).mono ?_); rintro e w31 ⟨rfl, hb⟩; replace HB := Aside0.mk (below_step HB.out hb); clear hb))
    go_ret
    refine ⟨?_, HB.out⟩
    have e1 := HX.out
    rw [HS.out, if_pos ht] at e1
    rw [← e1]; rfl
   ·have hd : decide ((rd_T25 l0 (i : Int)).f0 ≥ q) = false := decide_eq_false ht
    have HD := Aside0.mk hd
    clear hd
    go_wp2_with (first | (go_at_call 73; (with_reducible refine (seg_Find.cl g q (rd_T25 l0 (i : Int)) _ (Nat.lt_of_lt_of_le HG.out HB.out.size) ((HB.out.cell (p := ⟨g, 0, none⟩) HG.out).trans HCl.out) false HD.out).mono ?_); rintro e w31 ⟨rfl, hb⟩; replace HB := Aside0.mk (below_step HB.out hb); clear hb))
    go_roundw
    case rel => exact ⟨i + 1, by omega, by go_num, ⟨by have e1 := HX.out; rw [HS.out, if_neg (by omega)] at e1; exact e1⟩, HB⟩
    case measure => simp [intOf]; omega
  ·have hi2 : i = l0.length := by omega
   have e1 := HX.out
   rw [List.drop_eq_nil_of_le (by omega)] at e1
   have E1 := Aside0.mk e1
   clear e1
   subst hi2
   go_wp2
   go_ret
   exact ⟨by rw [← E1.out]; rfl, HB.out⟩
set_option maxHeartbeats 4000000 in
set_option maxRecDepth 100000 in
theorem seg_Find.fst (k : Nat) (a0_0 : Int) (A0_1 : Option Addr) (c0_1 : Nat) (l0_1 : List S25) (q : Int) (g : Nat) (r1 : Int) (r2 : Int) (r3 : ByteArray) (r4 : ByteArray) (r5 : Int) (r6 : Bool) (r7 : Int) (w : World) (hr0_1 : Kd.C k25 w A0_1 l0_1.length l0_1) (hc0_1 : l0_1.length ≤ c0_1) (hg : g < w.heap.size) (hc : w.cell? ⟨g, 0, none⟩ = some (.int .i64 q))
 (h : seg_Find.f k a0_0 l0_1 q = some (r1, r2, r3, r4, r5, r6, r7)) :
 Calls Try.prog 72 #[.agg #[.int .i64 a0_0, .slice A0_1 l0_1.length c0_1], .func (.func 73) #[] #[.pointer (some ⟨g, 0, none⟩)]] w fun e w' => e = .returned (.tuple #[.agg #[.int .i64 r1, .int .i64 r2, .string r3, .string r4, .int .i64 r5, .bool r6], .int .i64 r7]) ∧ Below w.heap.size w w' := by
 have hu53 := Try.underlying53
 have hu25 := Try.underlying25
 unfold seg_Find.f at h
 obtain ⟨t, ht, h⟩ := Option.bind_eq_some_iff.1 h
 have HT := Aside0.mk ht
 have HR0 := Aside0.mk hr0_1
 have HC0 := Aside0.mk hc0_1
 have HG := Aside0.mk hg
 have HCl := Aside0.mk hc
 have HB := Aside0.mk (Below.refl w.heap.size w)
 clear hr0_1 hc0_1 hg hc ht
 by_cases h0 : t = 0
 ·subst h0
  rw [if_pos rfl] at h
  have hin := seg_Find.ix_in q l0_1 0
  by_cases hx : seg_Find.ix q l0_1 0 < 0
  ·rw [if_pos hx] at h
   simp only [Option.some.injEq, Prod.mk.injEq] at h
   obtain ⟨rfl, rfl, rfl, rfl, rfl, rfl, rfl⟩ := h
   have b0 : decide (seg_Find.ix q l0_1 0 < 0) = true := decide_eq_true hx
   clear hin hx
   go_enter Try.func72, Try.ntmps72
   go_wp2_with (first | (go_at_call 46; (with_reducible refine (seg_Check.calls k a0_0 _ _ l0_1 _ _ (Kd.C_alloc (Kd.C_alloc HR0.out _) _) HC0.out HT.out).mono ?_); rintro e w2 ⟨rfl, hb⟩; obtain ⟨hc2, hf2⟩ := seg_Find.below_cells hb; have hz2 : w.heap.size + 1 < w2.heap.size := (by have := hb.size; simp at this; omega); replace HB := Aside0.mk (below_step ((((Below.refl w.heap.size w).alloc (Nat.le_refl _) _).alloc (by simp) _)) hb); have HX := Aside0.mk hb; have hz2b : w.heap.size < w2.heap.size := (by omega); clear hb) | (go_at_call 84; (with_reducible refine (seg_Find.ixcalls _ _ l0_1 q g _ (Kd.C_below HR0.out HB.out) HC0.out (Nat.lt_of_lt_of_le HG.out HB.out.size) ((HB.out.cell (p := ⟨g, 0, none⟩) HG.out).trans HCl.out)).mono ?_); rintro e w3 ⟨rfl, hb⟩; obtain ⟨hc3, hf3⟩ := seg_Find.below_cells hb; have hz3 : w.heap.size + 1 < w3.heap.size := (Nat.lt_of_lt_of_le hz2 hb.size); replace HB := Aside0.mk (below_step HB.out hb); clear hb; skip))
   refine bodyPost_ret (v := .tuple #[.agg #[.int .i64 0, .int .i64 0, .string ⟨#[]⟩, .string ⟨#[]⟩, .int .i64 0, .bool false], .int .i64 3]) (by simp [results, Try.results72, go_sem, hc2, hz2, hc3, hz3]) rfl ⟨rfl, ?_⟩
   (repeat (refine Below.setCell ?_ (by first | omega | (simp; done) | (simp; omega)) _)); exact HB.out
  ·rw [if_neg hx] at h
   simp only [Option.some.injEq, Prod.mk.injEq] at h
   obtain ⟨rfl, rfl, rfl, rfl, rfl, rfl, rfl⟩ := h
   have b0 : decide (seg_Find.ix q l0_1 0 < 0) = false := decide_eq_false hx
   obtain ⟨i, hi⟩ : ∃ i : Nat, seg_Find.ix q l0_1 0 = (i : Int) := ⟨(seg_Find.ix q l0_1 0).toNat, by omega⟩
   have hil : i < l0_1.length := by omega
   simp only [hi] at b0 ⊢
   have HI := Aside0.mk hi
   obtain ⟨ad, ead, hx0, hx1, hx2, hx3, hx4, hx5⟩ := at_T25 HR0.out (i : Int) (by omega) (by omega)
   cases ead
   simp only [Int.toNat_natCast] at hx0 hx1 hx2 hx3 hx4 hx5
   have H0 := Aside0.mk hx0
   have H1 := Aside0.mk hx1
   have H2 := Aside0.mk hx2
   have H3 := Aside0.mk hx3
   have H4 := Aside0.mk hx4
   have H5 := Aside0.mk hx5
   clear hin hx hi hx0 hx1 hx2 hx3 hx4 hx5
   go_enter Try.func72, Try.ntmps72
   go_wp2_with (first | (go_at_call 46; (with_reducible refine (seg_Check.calls k a0_0 _ _ l0_1 _ _ (Kd.C_alloc (Kd.C_alloc HR0.out _) _) HC0.out HT.out).mono ?_); rintro e w2 ⟨rfl, hb⟩; obtain ⟨hc2, hf2⟩ := seg_Find.below_cells hb; have hz2 : w.heap.size + 1 < w2.heap.size := (by have := hb.size; simp at this; omega); replace HB := Aside0.mk (below_step ((((Below.refl w.heap.size w).alloc (Nat.le_refl _) _).alloc (by simp) _)) hb); have HX := Aside0.mk hb; have hz2b : w.heap.size < w2.heap.size := (by omega); clear hb) | (go_at_call 84; (with_reducible refine (seg_Find.ixcalls _ _ l0_1 q g _ (Kd.C_below HR0.out HB.out) HC0.out (Nat.lt_of_lt_of_le HG.out HB.out.size) ((HB.out.cell (p := ⟨g, 0, none⟩) HG.out).trans HCl.out)).mono ?_); rintro e w3 ⟨rfl, hb⟩; obtain ⟨hc3, hf3⟩ := seg_Find.below_cells hb; have hz3 : w.heap.size + 1 < w3.heap.size := (Nat.lt_of_lt_of_le hz2 hb.size); replace HB := Aside0.mk (below_step HB.out hb); clear hb; rw [HI.out]; have hy0 := cx HB.out H0.out; have hy1 := cx HB.out H1.out; have hy2 := cx HB.out H2.out; have hy3 := cx HB.out H3.out; have hy4 := cx HB.out H4.out; have hy5 := cx HB.out H5.out))
   refine bodyPost_ret (v := .tuple #[.agg #[.int .i64 (rd_T25 l0_1 (i : Int)).f0, .int .i64 (rd_T25 l0_1 (i : Int)).f1, .string (rd_T25 l0_1 (i : Int)).f2, .string (rd_T25 l0_1 (i : Int)).f3, .int .i64 (rd_T25 l0_1 (i : Int)).f4, .bool (rd_T25 l0_1 (i : Int)).f5], .int .i64 0]) (by simp [results, Try.results72, go_sem, hc2, hz2, hc3, hz3]) rfl ⟨rfl, ?_⟩
   (repeat (refine Below.setCell ?_ (by first | omega | (simp; done) | (simp; omega)) _)); exact HB.out
 ·rw [if_neg h0] at h
  simp only [Option.some.injEq, Prod.mk.injEq] at h
  obtain ⟨rfl, rfl, rfl, rfl, rfl, rfl, rfl⟩ := h
  have b0 : (t == 0) = false := beq_eq_false_iff_ne.mpr h0
  have b1 : (t != 0) = true := bne_iff_ne.mpr h0
  go_enter Try.func72, Try.ntmps72
  go_wp2_with (first | (go_at_call 46; (with_reducible refine (seg_Check.calls k a0_0 _ _ l0_1 _ _ (Kd.C_alloc (Kd.C_alloc HR0.out _) _) HC0.out HT.out).mono ?_); rintro e w2 ⟨rfl, hb⟩; obtain ⟨hc2, hf2⟩ := seg_Find.below_cells hb; have hz2 : w.heap.size + 1 < w2.heap.size := (by have := hb.size; simp at this; omega); replace HB := Aside0.mk (below_step ((((Below.refl w.heap.size w).alloc (Nat.le_refl _) _).alloc (by simp) _)) hb); have HX := Aside0.mk hb; have hz2b : w.heap.size < w2.heap.size := (by omega); clear hb))
  refine bodyPost_ret (v := .tuple #[.agg #[.int .i64 0, .int .i64 0, .string ⟨#[]⟩, .string ⟨#[]⟩, .int .i64 0, .bool false], .int .i64 t]) (by simp [results, Try.results72, go_sem, hc2, hz2]) rfl ⟨rfl, ?_⟩
  (repeat (refine Below.setCell ?_ (by first | omega | (simp; done) | (simp; omega)) _)); exact HB.out
set_option maxHeartbeats 4000000 in
set_option maxRecDepth 100000 in
theorem seg_Find.calls (k : Nat) (a0_0 : Int) (A0_1 : Option Addr) (c0_1 : Nat) (l0_1 : List S25) (a1 : Int) (r1 : Int) (r2 : Int) (r3 : ByteArray) (r4 : ByteArray) (r5 : Int) (r6 : Bool) (r7 : Int) (w : World) (hr0_1 : Kd.C k25 w A0_1 l0_1.length l0_1) (hc0_1 : l0_1.length ≤ c0_1)
 (h : seg_Find.f k a0_0 l0_1 a1 = some (r1, r2, r3, r4, r5, r6, r7)) :
 Calls Try.prog 32 #[.agg #[.int .i64 a0_0, .slice A0_1 l0_1.length c0_1], .int .i64 a1] w fun e w' => e = .returned (.tuple #[.agg #[.int .i64 r1, .int .i64 r2, .string r3, .string r4, .int .i64 r5, .bool r6], .int .i64 r7]) ∧ Below w.heap.size w w' := by
 have hu53 := Try.underlying53
 have hu25 := Try.underlying25
 have HT := Aside0.mk h
 have HR0 := Aside0.mk hr0_1
 have HC0 := Aside0.mk hc0_1
 have HB := Aside0.mk (Below.refl w.heap.size w)
 clear hr0_1 hc0_1 h
 go_enter Try.func32, Try.ntmps32
 go_wp2_with (first | (go_at_call 72; (with_reducible refine (seg_Find.fst k a0_0 _ _ l0_1 a1 _ r1 r2 r3 r4 r5 r6 r7 _ (Kd.C_alloc (Kd.C_alloc (Kd.C_alloc HR0.out _) _) _) HC0.out ?hg ?hc HT.out).mono ?_); (case hg => simp); (case hc => go_simp); rintro e w2 ⟨rfl, hb⟩; obtain ⟨hc2, hf2⟩ := seg_Find.below_cells hb; have hz2 : w.heap.size + 2 < w2.heap.size := (by have := hb.size; simp at this; omega); replace HB := Aside0.mk (below_step (((((Below.refl w.heap.size w).alloc (Nat.le_refl _) _).alloc (by simp) _).alloc (by simp; omega) _)) hb); clear hb))
 refine bodyPost_ret (v := .tuple #[.agg #[.int .i64 r1, .int .i64 r2, .string r3, .string r4, .int .i64 r5, .bool r6], .int .i64 r7]) (by simp [results, Try.results32, go_sem, hc2, hz2]) rfl ⟨rfl, ?_⟩
 (repeat (refine Below.setCell ?_ (by first | omega | (simp; done) | (simp; omega)) _)); exact HB.out

end Go.Proofs.Ytmabdfdmccbfnaa.P

-- written by a program of the proving session, out of the translation; Lean checks it
namespace Go.Proofs.Ytmabdfdmccbfnaa.P
open Go.RowKit Go.Proofs.Ytmabdfdmccbfnaa.Sq Go.Proofs.YtmabdfdmccbfnaaW.PrintWords Go.Proofs.YtmabdfdmccbfnaaW.PrintLast Go.Proofs.YtmabdfdmccbfnaaW.PrintMore
attribute [local go_sem] max2_int min2_int max_two min_two max_three min_three max_four min_four   -- for this text's walks alone
set_option linter.unusedVariables false
set_option linter.unusedSimpArgs false

/-! ### fairwaylaw11_wakes: function 37 -/
def fairwaylaw11_wakes.f (k : Nat)  : Option (Bool) := (fairwaylaw10_R.f 3 0 (⟨#[]⟩ : ByteArray) (⟨#[120]⟩ : ByteArray)).bind fun bt387 => ((seg_Add.f k 0 ([] : List (S25)) bt387.1 bt387.2.1 bt387.2.2.1 bt387.2.2.2.1 bt387.2.2.2.2.1 bt387.2.2.2.2.2).bind fun bt393 => ((seg_Find.f k bt393.1 bt393.2.1 2).bind fun bt399 => ((fairwaylaw11_num.f bt393.2.2).bind fun t407 => (if t407 = 0 then ((fairwaylaw11_num.f bt399.2.2.2.2.2.2).bind fun t408 => (if t408 = 0 then (some (bt399.1 == 3)) else (some false))) else (some false)))))
theorem fairwaylaw11_wakes.mono : ∀ k, LeO (fairwaylaw11_wakes.f k ) (fairwaylaw11_wakes.f (k + 1) ) := by
 intro  k
 unfold fairwaylaw11_wakes.f
 repeat' first
  | (with_reducible exact seg_Add.mono _ _ _ _ _ _ _ _ _)
  | (with_reducible exact seg_Find.mono _ _ _ _)
  | (with_reducible exact LeO.refl _)
  | (with_reducible exact LeO.none _)
  | (with_reducible refine LeO.ite ?_ ?_)
  | (with_reducible refine LeO.bind ?_ (fun _ => ?_))
  | exact seg_Add.mono _ _ _ _ _ _ _ _ _
  | exact seg_Find.mono _ _ _ _
  | exact LeO.none _
  | refine LeO.ite ?_ ?_
  | refine LeO.bind ?_ (fun _ => ?_)
set_option maxHeartbeats 8000000 in
set_option maxRecDepth 100000 in
theorem fairwaylaw11_wakes.calls (k : Nat)  (r : Bool) (w : World) (h : fairwaylaw11_wakes.f k  = some r) :
 Calls Try.prog 37 #[] w fun e w' => e = .returned (.bool r) ∧ Below w.heap.size w w' := by
 have hu53 := Try.underlying53
 have hu25 := Try.underlying25
 have HB := Aside0.mk (Below.refl w.heap.size w)
 have H : ((fairwaylaw10_R.f 3 0 (⟨#[]⟩ : ByteArray) (⟨#[120]⟩ : ByteArray)).bind fun bt387 => ((seg_Add.f k 0 ([] : List (S25)) bt387.1 bt387.2.1 bt387.2.2.1 bt387.2.2.2.1 bt387.2.2.2.2.1 bt387.2.2.2.2.2).bind fun bt393 => ((seg_Find.f k bt393.1 bt393.2.1 2).bind fun bt399 => ((fairwaylaw11_num.f bt393.2.2).bind fun t407 => (if t407 = 0 then ((fairwaylaw11_num.f bt399.2.2.2.2.2.2).bind fun t408 => (if t408 = 0 then (some (bt399.1 == 3)) else (some false))) else (some false)))))) = some r := h
 clear h
 replace H := Option.bind_eq_some_iff.mp H
 obtain ⟨⟨t387, t388, t389, t390, t391, t392⟩, A10, H⟩ := H
 replace H : ((seg_Add.f k 0 ([] : List (S25)) t387 t388 t389 t390 t391 t392).bind fun bt393 => ((seg_Find.f k bt393.1 bt393.2.1 2).bind fun bt399 => ((fairwaylaw11_num.f bt393.2.2).bind fun t407 => (if t407 = 0 then ((fairwaylaw11_num.f bt399.2.2.2.2.2.2).bind fun t408 => (if t408 = 0 then (some (bt399.1 == 3)) else (some false))) else (some false))))) = some r := H
 have A1 := Aside0.mk A10
 clear A10
 replace H := Option.bind_eq_some_iff.mp H
 obtain ⟨⟨t393, t394, t397⟩, A20, H⟩ := H
 replace H : ((seg_Find.f k t393 t394 2).bind fun bt399 => ((fairwaylaw11_num.f t397).bind fun t407 => (if t407 = 0 then ((fairwaylaw11_num.f bt399.2.2.2.2.2.2).bind fun t408 => (if t408 = 0 then (some (bt399.1 == 3)) else (some false))) else (some false)))) = some r := H
 have A2 := Aside0.mk A20
 clear A20
 replace H := Option.bind_eq_some_iff.mp H
 obtain ⟨⟨t399, t400, t401, t402, t403, t404, t405⟩, A30, H⟩ := H
 replace H : ((fairwaylaw11_num.f t397).bind fun t407 => (if t407 = 0 then ((fairwaylaw11_num.f t405).bind fun t408 => (if t408 = 0 then (some (t399 == 3)) else (some false))) else (some false))) = some r := H
 have A3 := Aside0.mk A30
 clear A30
 replace H := Option.bind_eq_some_iff.mp H
 obtain ⟨t407, A40, H⟩ := H
 replace H : (if t407 = 0 then ((fairwaylaw11_num.f t405).bind fun t408 => (if t408 = 0 then (some (t399 == 3)) else (some false))) else (some false)) = some r := H
 have A4 := Aside0.mk A40
 clear A40
 by_cases c5 : t407 = 0
 ·rw [if_pos c5] at H
  have c5b0 : (t407 == 0) = true := beq_iff_eq.mpr c5
  have c5b1 : (t407 != 0) = false := bne_eq_false_iff_eq.mpr c5
  clear c5
  replace H := Option.bind_eq_some_iff.mp H
  obtain ⟨t408, A60, H⟩ := H
  replace H : (if t408 = 0 then (some (t399 == 3)) else (some false)) = some r := H
  have A6 := Aside0.mk A60
  clear A60
  by_cases c7 : t408 = 0
  ·rw [if_pos c7] at H
   have c7b0 : (t408 == 0) = true := beq_iff_eq.mpr c7
   have c7b1 : (t408 != 0) = false := bne_eq_false_iff_eq.mpr c7
   clear c7
   obtain rfl := Option.some.inj H
   go_enter Try.func37, Try.ntmps37
   go_wp2_with (first | ((with_reducible refine gate_callee (f := 67) rfl ?_); refine goesL_ (some 7) rfl rfl Try.func67 (by kernel_rfl) rfl #[.int .i64 3, .int .i64 0, .string (⟨#[]⟩ : ByteArray), .string (⟨#[120]⟩ : ByteArray)] rfl aa ?_; (with_reducible refine (fairwaylaw10_R.calls 3 0 (⟨#[]⟩ : ByteArray) (⟨#[120]⟩ : ByteArray) t387 t388 t389 t390 t391 t392 _ A1.out).mono ?_); rintro e w8 ⟨rfl, hb⟩; refine ⟨_, rfl, ?_⟩; replace HB := Aside0.mk (below_step bo hb); (try clear hb); (try clear hb2); (try clear hk); (try clear hi)) | ((with_reducible refine gate_callee (f := 47) rfl ?_); refine goesL_ (some 8) rfl rfl Try.func47 (by kernel_rfl) rfl #[.agg #[.int .i64 0, .slice none 0 0], .agg #[.int .i64 t387, .int .i64 t388, .string t389, .string t390, .int .i64 t391, .bool t392]] rfl aa ?_; (refine (seg_Add.calls k 0 _ _ ([] : List (S25)) t387 t388 t389 t390 t391 t392 t393 t394 t397 _ ?side1 ?side2 A2.out).mono ?_); (case side1 => exact Kd.C_nil _ _); (case side2 => exact Nat.le_refl _); rintro e w9 ⟨v395, rfl, ho0, hb⟩; refine ⟨_, rfl, ?_⟩; have HO396 := Aside0.mk (Kd.R_lower ho0 (below_size bo)); replace HB := Aside0.mk (below_step bo hb); (try clear hb); (try clear hb2); (try clear hk); (try clear hi); (try clear ho0)) | ((with_reducible refine gate_dst (N := 1) rfl ?_); refine box_event ?hg (N := 1) ?hd (cs := #[.int .i64 0, .slice none 0 0]) (t := 53) ?hr ?_; (case hd => rfl); (case hg => rfl); (case hr => first | (go_simp; done) | (go_simp; rfl)); intro gb398 hg w10 hbox hb; replace HO396 := Aside0.mk (Kd.R_below (rk HO396.out) hb); have BK398 := Aside0.mk (hbox); have GW398 := Aside0.mk ((by rw [hg]; exact (below_size bo) : w.heap.size ≤ gb398)); have GE398 := Aside0.mk ((by rw [hg]; exact (below_size bo) : w.heap.size ≤ gb398)); replace HB := Aside0.mk (below_step bo hb); clear hb hbox hg; obtain ⟨hcz11_0, hcz11_1⟩ := cl2 BK398.out; obtain ⟨hfz11_0, hfz11_1⟩ := fz2 BK398.out; obtain ⟨Ao12, co12, eo12⟩ := Kd.R_slice HO396.out; subst eo12) | ((with_reducible refine gate_callee (f := 32) rfl ?_); refine goesL_ (some 13) rfl rfl Try.func32 (by kernel_rfl) rfl #[.agg #[.int .i64 t393, .slice Ao12 t394.length co12], .int .i64 2] rfl aa ?_; (with_reducible refine (seg_Find.calls k t393 _ _ t394 2 t399 t400 t401 t402 t403 t404 t405 _ ?side1 ?side2 A3.out).mono ?_); (case side1 => refine (Kd.R_reads' (e := 25) (base := w.heap.size) (ok := fun k_ => True) (n := t394.length) (c := co12) ?_).2.2; exact (by (with_reducible repeat (first | apply Kd.R_alloc | apply Kd.R_drewN | apply Kd.R_drew)); exact (Kd.R_mono (Kd.R_far (p := ⟨gb398, 1, none⟩) (Kd.R_far (p := ⟨gb398, 0, none⟩) (Kd.R_types HO396.out BK398.out (by decide)) (fun _ hk => hk.2) (.int .i64 t393)) (fun _ hk => hk.2) (.slice Ao12 t394.length co12)) (fun _ h_ => h_.1)))); (case side2 => exact (Kd.R_reads' HO396.out).2.1); rintro e w13 ⟨rfl, hb⟩; refine ⟨_, rfl, ?_⟩; replace HO396 := Aside0.mk (Kd.R_below (by (with_reducible repeat (first | apply Kd.R_alloc | apply Kd.R_drewN | apply Kd.R_drew)); exact (Kd.R_mono (Kd.R_far (p := ⟨gb398, 1, none⟩) (Kd.R_far (p := ⟨gb398, 0, none⟩) (Kd.R_types HO396.out BK398.out (by decide)) (fun _ hk => hk.2) (.int .i64 t393)) (fun _ hk => hk.2) (.slice Ao12 t394.length co12)) (fun _ h_ => h_.1))) hb); replace BK398 := Aside0.mk (blk_below (g := gb398) (o := .cells #[.int .i64 t393, .slice Ao12 t394.length co12] 53 (0, 0)) (by (with_reducible repeat (first | refine blk_drewN ?_ _ | refine blk_drew ?_ | refine blk_alloc ?_ _)); refine blk_put (cs := #[.int .i64 t393, .slice none 0 0]) ?_ 1 _ rfl; (with_reducible repeat (first | refine blk_drewN ?_ _ | refine blk_drew ?_ | refine blk_alloc ?_ _)); refine blk_put (cs := #[.int .i64 0, .slice none 0 0]) ?_ 0 _ rfl; (with_reducible repeat (first | refine blk_drewN ?_ _ | refine blk_drew ?_ | refine blk_alloc ?_ _)); exact BK398.out) hb); replace HB := Aside0.mk (below_step bo hb); (try clear hb); (try clear hb2); (try clear hk); (try clear hi)) | ((with_reducible refine gate_dst (N := 3) rfl ?_); refine box_event ?hg (N := 3) ?hd (cs := #[.int .i64 0, .int .i64 0, .string (⟨#[]⟩ : ByteArray), .string (⟨#[]⟩ : ByteArray), .int .i64 0, .bool false]) (t := 25) ?hr ?_; (case hd => rfl); (case hg => rfl); (case hr => first | (go_simp; done) | (go_simp; rfl)); intro gb406 hg w14 hbox hb; replace HO396 := Aside0.mk (Kd.R_below (Kd.R_elderB (rk HO396.out) gb406 (Nat.le_of_eq hg.symm)) hb); have BK406 := Aside0.mk (hbox); have GW406 := Aside0.mk ((by rw [hg]; exact (below_size bo) : w.heap.size ≤ gb406)); have GE406 := Aside0.mk ((by rw [hg]; exact (below_size bo) : w.heap.size ≤ gb406)); replace HB := Aside0.mk (below_step bo hb); have NB398_406 := Aside0.mk (nl BK398.out hg); have NB406_398 := Aside0.mk (ng BK398.out hg); replace BK398 := Aside0.mk (bb BK398.out hb); clear hb hbox hg; have hnb15 := NB406_398.out; have hnc15 := NB398_406.out; obtain ⟨hcz16_0, hcz16_1, hcz16_2, hcz16_3, hcz16_4, hcz16_5⟩ := cl6 BK406.out; obtain ⟨hfz16_0, hfz16_1, hfz16_2, hfz16_3, hfz16_4, hfz16_5⟩ := fz6 BK406.out) | ((with_reducible refine gate_callee (f := 36) rfl ?_); refine goesL_ (some 17) rfl rfl Try.func36 (by kernel_rfl) rfl #[.int .i64 t397] rfl aa ?_; (with_reducible refine (fairwaylaw11_num.calls t397 t407 _ A4.out).mono ?_); rintro e w' ⟨rfl, ⟨nd, rfl⟩⟩; refine ⟨_, rfl, ?_⟩) | (go_at_call 36; (with_reducible refine (fairwaylaw11_num.calls t405 t408 _ A6.out).mono ?_); rintro e w' ⟨rfl, ⟨nd, rfl⟩⟩))
   go_ret
   exact ⟨er, bo⟩
  ·rw [if_neg c7] at H
   have c7b0 : (t408 == 0) = false := beq_eq_false_iff_ne.mpr c7
   have c7b1 : (t408 != 0) = true := bne_iff_ne.mpr c7
   obtain rfl := Option.some.inj H
   go_enter Try.func37, Try.ntmps37
   go_wp2_with (first | ((with_reducible refine gate_callee (f := 67) rfl ?_); refine goesL_ (some 7) rfl rfl Try.func67 (by kernel_rfl) rfl #[.int .i64 3, .int .i64 0, .string (⟨#[]⟩ : ByteArray), .string (⟨#[120]⟩ : ByteArray)] rfl aa ?_; (with_reducible refine (fairwaylaw10_R.calls 3 0 (⟨#[]⟩ : ByteArray) (⟨#[120]⟩ : ByteArray) t387 t388 t389 t390 t391 t392 _ A1.out).mono ?_); rintro e w17 ⟨rfl, hb⟩; refine ⟨_, rfl, ?_⟩; replace HB := Aside0.mk (below_step bo hb); (try clear hb); (try clear hb2); (try clear hk); (try clear hi)) | ((with_reducible refine gate_callee (f := 47) rfl ?_); refine goesL_ (some 8) rfl rfl Try.func47 (by kernel_rfl) rfl #[.agg #[.int .i64 0, .slice none 0 0], .agg #[.int .i64 t387, .int .i64 t388, .string t389, .string t390, .int .i64 t391, .bool t392]] rfl aa ?_; (refine (seg_Add.calls k 0 _ _ ([] : List (S25)) t387 t388 t389 t390 t391 t392 t393 t394 t397 _ ?side1 ?side2 A2.out).mono ?_); (case side1 => exact Kd.C_nil _ _); (case side2 => exact Nat.le_refl _); rintro e w18 ⟨v395, rfl, ho0, hb⟩; refine ⟨_, rfl, ?_⟩; have HO396 := Aside0.mk (Kd.R_lower ho0 (below_size bo)); replace HB := Aside0.mk (below_step bo hb); (try clear hb); (try clear hb2); (try clear hk); (try clear hi); (try clear ho0)) | ((with_reducible refine gate_dst (N := 1) rfl ?_); refine box_event ?hg (N := 1) ?hd (cs := #[.int .i64 0, .slice none 0 0]) (t := 53) ?hr ?_; (case hd => rfl); (case hg => rfl); (case hr => first | (go_simp; done) | (go_simp; rfl)); intro gb398 hg w19 hbox hb; replace HO396 := Aside0.mk (Kd.R_below (rk HO396.out) hb); have BK398 := Aside0.mk (hbox); have GW398 := Aside0.mk ((by rw [hg]; exact (below_size bo) : w.heap.size ≤ gb398)); have GE398 := Aside0.mk ((by rw [hg]; exact (below_size bo) : w.heap.size ≤ gb398)); replace HB := Aside0.mk (below_step bo hb); clear hb hbox hg; obtain ⟨hcz20_0, hcz20_1⟩ := cl2 BK398.out; obtain ⟨hfz20_0, hfz20_1⟩ := fz2 BK398.out; obtain ⟨Ao21, co21, eo21⟩ := Kd.R_slice HO396.out; subst eo21) | ((with_reducible refine gate_callee (f := 32) rfl ?_); refine goesL_ (some 13) rfl rfl Try.func32 (by kernel_rfl) rfl #[.agg #[.int .i64 t393, .slice Ao21 t394.length co21], .int .i64 2] rfl aa ?_; (with_reducible refine (seg_Find.calls k t393 _ _ t394 2 t399 t400 t401 t402 t403 t404 t405 _ ?side1 ?side2 A3.out).mono ?_); (case side1 => refine (Kd.R_reads' (e := 25) (base := w.heap.size) (ok := fun k_ => True) (n := t394.length) (c := co21) ?_).2.2; exact (by (with_reducible repeat (first | apply Kd.R_alloc | apply Kd.R_drewN | apply Kd.R_drew)); exact (Kd.R_mono (Kd.R_far (p := ⟨gb398, 1, none⟩) (Kd.R_far (p := ⟨gb398, 0, none⟩) (Kd.R_types HO396.out BK398.out (by decide)) (fun _ hk => hk.2) (.int .i64 t393)) (fun _ hk => hk.2) (.slice Ao21 t394.length co21)) (fun _ h_ => h_.1)))); (case side2 => exact (Kd.R_reads' HO396.out).2.1); rintro e w22 ⟨rfl, hb⟩; refine ⟨_, rfl, ?_⟩; replace HO396 := Aside0.mk (Kd.R_below (by (with_reducible repeat (first | apply Kd.R_alloc | apply Kd.R_drewN | apply Kd.R_drew)); exact (Kd.R_mono (Kd.R_far (p := ⟨gb398, 1, none⟩) (Kd.R_far (p := ⟨gb398, 0, none⟩) (Kd.R_types HO396.out BK398.out (by decide)) (fun _ hk => hk.2) (.int .i64 t393)) (fun _ hk => hk.2) (.slice Ao21 t394.length co21)) (fun _ h_ => h_.1))) hb); replace BK398 := Aside0.mk (blk_below (g := gb398) (o := .cells #[.int .i64 t393, .slice Ao21 t394.length co21] 53 (0, 0)) (by (with_reducible repeat (first | refine blk_drewN ?_ _ | refine blk_drew ?_ | refine blk_alloc ?_ _)); refine blk_put (cs := #[.int .i64 t393, .slice none 0 0]) ?_ 1 _ rfl; (with_reducible repeat (first | refine blk_drewN ?_ _ | refine blk_drew ?_ | refine blk_alloc ?_ _)); refine blk_put (cs := #[.int .i64 0, .slice none 0 0]) ?_ 0 _ rfl; (with_reducible repeat (first | refine blk_drewN ?_ _ | refine blk_drew ?_ | refine blk_alloc ?_ _)); exact BK398.out) hb); replace HB := Aside0.mk (below_step bo hb); (try clear hb); (try clear hb2); (try clear hk); (try clear hi)) | ((with_reducible refine gate_dst (N := 3) rfl ?_); refine box_event ?hg (N := 3) ?hd (cs := #[.int .i64 0, .int .i64 0, .string (⟨#[]⟩ : ByteArray), .string (⟨#[]⟩ : ByteArray), .int .i64 0, .bool false]) (t := 25) ?hr ?_; (case hd => rfl); (case hg => rfl); (case hr => first | (go_simp; done) | (go_simp; rfl)); intro gb406 hg w23 hbox hb; replace HO396 := Aside0.mk (Kd.R_below (Kd.R_elderB (rk HO396.out) gb406 (Nat.le_of_eq hg.symm)) hb); have BK406 := Aside0.mk (hbox); have GW406 := Aside0.mk ((by rw [hg]; exact (below_size bo) : w.heap.size ≤ gb406)); have GE406 := Aside0.mk ((by rw [hg]; exact (below_size bo) : w.heap.size ≤ gb406)); replace HB := Aside0.mk (below_step bo hb); have NB398_406 := Aside0.mk (nl BK398.out hg); have NB406_398 := Aside0.mk (ng BK398.out hg); replace BK398 := Aside0.mk (bb BK398.out hb); clear hb hbox hg; have hnb24 := NB406_398.out; have hnc24 := NB398_406.out; obtain ⟨hcz25_0, hcz25_1, hcz25_2, hcz25_3, hcz25_4, hcz25_5⟩ := cl6 BK406.out; obtain ⟨hfz25_0, hfz25_1, hfz25_2, hfz25_3, hfz25_4, hfz25_5⟩ := fz6 BK406.out) | ((with_reducible refine gate_callee (f := 36) rfl ?_); refine goesL_ (some 17) rfl rfl Try.func36 (by kernel_rfl) rfl #[.int .i64 t397] rfl aa ?_; (with_reducible refine (fairwaylaw11_num.calls t397 t407 _ A4.out).mono ?_); rintro e w' ⟨rfl, ⟨nd, rfl⟩⟩; refine ⟨_, rfl, ?_⟩) | (go_at_call 36; (with_reducible refine (fairwaylaw11_num.calls t405 t408 _ A6.out).mono ?_); rintro e w' ⟨rfl, ⟨nd, rfl⟩⟩))
   go_ret
   exact ⟨er, bo⟩
 ·rw [if_neg c5] at H
  have c5b0 : (t407 == 0) = false := beq_eq_false_iff_ne.mpr c5
  have c5b1 : (t407 != 0) = true := bne_iff_ne.mpr c5
  obtain rfl := Option.some.inj H
  go_enter Try.func37, Try.ntmps37
  go_wp2_with (first | ((with_reducible refine gate_callee (f := 67) rfl ?_); refine goesL_ (some 7) rfl rfl Try.func67 (by kernel_rfl) rfl #[.int .i64 3, .int .i64 0, .string (⟨#[]⟩ : ByteArray), .string (⟨#[120]⟩ : ByteArray)] rfl aa ?_; (with_reducible refine (fairwaylaw10_R.calls 3 0 (⟨#[]⟩ : ByteArray) (⟨#[120]⟩ : ByteArray) t387 t388 t389 t390 t391 t392 _ A1.out).mono ?_); rintro e w26 ⟨rfl, hb⟩; refine ⟨_, rfl, ?_⟩; replace HB := Aside0.mk (below_step bo hb); (try clear hb); (try clear hb2); (try clear hk); (try clear hi)) | ((with_reducible refine gate_callee (f := 47) rfl ?_); refine goesL_ (some 8) rfl rfl Try.func47 (by kernel_rfl) rfl #[.agg #[.int .i64 0, .slice none 0 0], .agg #[.int .i64 t387, .int .i64 t388, .string t389, .string t390, .int .i64 t391, .bool t392]] rfl aa ?_; (refine (seg_Add.calls k 0 _ _ ([] : List (S25)) t387 t388 t389 t390 t391 t392 t393 t394 t397 _ ?side1 ?side2 A2.out).mono ?_); (case side1 => exact Kd.C_nil _ _); (case side2 => exact Nat.le_refl _); rintro e w27 ⟨v395, rfl, ho0, hb⟩; refine ⟨_, rfl, ?_⟩; have HO396 := Aside0.mk (Kd.R_lower ho0 (below_size bo)); replace HB := Aside0.mk (below_step bo hb); (try clear hb); (try clear hb2); (try clear hk); (try clear hi); (try clear ho0)) | ((with_reducible refine gate_dst (N := 1) rfl ?_); refine box_event ?hg (N := 1) ?hd (cs := #[.int .i64 0, .slice none 0 0]) (t := 53) ?hr ?_; (case hd => rfl); (case hg => rfl); (case hr => first | (go_simp; done) | (go_simp; rfl)); intro gb398 hg w28 hbox hb; replace HO396 := Aside0.mk (Kd.R_below (rk HO396.out) hb); have BK398 := Aside0.mk (hbox); have GW398 := Aside0.mk ((by rw [hg]; exact (below_size bo) : w.heap.size ≤ gb398)); have GE398 := Aside0.mk ((by rw [hg]; exact (below_size bo) : w.heap.size ≤ gb398)); replace HB := Aside0.mk (below_step bo hb); clear hb hbox hg; obtain ⟨hcz29_0, hcz29_1⟩ := cl2 BK398.out; obtain ⟨hfz29_0, hfz29_1⟩ := fz2 BK398.out; obtain ⟨Ao30, co30, eo30⟩ := Kd.R_slice HO396.out; subst eo30) | ((with_reducible refine gate_callee (f := 32) rfl ?_); refine goesL_ (some 13) rfl rfl Try.func32 (by kernel_rfl) rfl #[.agg #[.int .i64 t393, .slice Ao30 t394.length co30], .int .i64 2] rfl aa ?_; (with_reducible refine (seg_Find.calls k t393 _ _ t394 2 t399 t400 t401 t402 t403 t404 t405 _ ?side1 ?side2 A3.out).mono ?_); (case side1 => refine (Kd.R_reads' (e := 25) (base := w.heap.size) (ok := fun k_ => True) (n := t394.length) (c := co30) ?_).2.2; exact (by (with_reducible repeat (first | apply Kd.R_alloc | apply Kd.R_drewN | apply Kd.R_drew)); exact (Kd.R_mono (Kd.R_far (p := ⟨gb398, 1, none⟩) (Kd.R_far (p := ⟨gb398, 0, none⟩) (Kd.R_types HO396.out BK398.out (by decide)) (fun _ hk => hk.2) (.int .i64 t393)) (fun _ hk => hk.2) (.slice Ao30 t394.length co30)) (fun _ h_ => h_.1)))); (case side2 => exact (Kd.R_reads' HO396.out).2.1); rintro e w31 ⟨rfl, hb⟩; refine ⟨_, rfl, ?_⟩; replace HO396 := Aside0.mk (Kd.R_below (by (with_reducible repeat (first | apply Kd.R_alloc | apply Kd.R_drewN | apply Kd.R_drew)); exact (Kd.R_mono (Kd.R_far (p := ⟨gb398, 1, none⟩) (Kd.R_far (p := ⟨gb398, 0, none⟩) (Kd.R_types HO396.out BK398.out (by decide)) (fun _ hk => hk.2) (.int .i64 t393)) (fun _ hk => hk.2) (.slice Ao30 t394.length co30)) (fun _ h_ => h_.1))) hb); replace BK398 := Aside0.mk (blk_below (g := gb398) (o := .cells #[.int .i64 t393, .slice Ao30 t394.length co30] 53 (0, 0)) (by (with_reducible repeat (first | refine blk_drewN ?_ _ | refine blk_drew ?_ | refine blk_alloc ?_ _)); refine blk_put (cs := #[.int .i64 t393, .slice none 0 0]) ?_ 1 _ rfl; (with_reducible repeat (first | refine blk_drewN ?_ _ | refine blk_drew ?_ | refine blk_alloc ?_ _)); refine blk_put (cs := #[.int .i64 0, .slice none 0 0]) ?_ 0 _ rfl; (with_reducible repeat (first | refine blk_drewN ?_ _ | refine blk_drew ?_ | refine blk_alloc ?_ _)); exact BK398.out) hb); replace HB := Aside0.mk (below_step bo hb); (try clear hb); (try clear hb2); (try clear hk); (try clear hi)) | ((with_reducible refine gate_dst (N := 3) rfl ?_); refine box_event ?hg (N := 3) ?hd (cs := #[.int .i64 0, .int .i64 0, .string (⟨#[]⟩ : ByteArray), .string (⟨#[]⟩ : ByteArray), .int .i64 0, .bool false]) (t := 25) ?hr ?_; (case hd => rfl); (case hg => rfl); (case hr => first | (go_simp; done) | (go_simp; rfl)); intro gb406 hg w32 hbox hb; replace HO396 := Aside0.mk (Kd.R_below (Kd.R_elderB (rk HO396.out) gb406 (Nat.le_of_eq hg.symm)) hb); have BK406 := Aside0.mk (hbox); have GW406 := Aside0.mk ((by rw [hg]; exact (below_size bo) : w.heap.size ≤ gb406)); have GE406 := Aside0.mk ((by rw [hg]; exact (below_size bo) : w.heap.size ≤ gb406)); replace HB := Aside0.mk (below_step bo hb); have NB398_406 := Aside0.mk (nl BK398.out hg); have NB406_398 := Aside0.mk (ng BK398.out hg); replace BK398 := Aside0.mk (bb BK398.out hb); clear hb hbox hg; have hnb33 := NB406_398.out; have hnc33 := NB398_406.out; obtain ⟨hcz34_0, hcz34_1, hcz34_2, hcz34_3, hcz34_4, hcz34_5⟩ := cl6 BK406.out; obtain ⟨hfz34_0, hfz34_1, hfz34_2, hfz34_3, hfz34_4, hfz34_5⟩ := fz6 BK406.out) | ((with_reducible refine gate_callee (f := 36) rfl ?_); refine goesL_ (some 17) rfl rfl Try.func36 (by kernel_rfl) rfl #[.int .i64 t397] rfl aa ?_; (with_reducible refine (fairwaylaw11_num.calls t397 t407 _ A4.out).mono ?_); rintro e w' ⟨rfl, ⟨nd, rfl⟩⟩; refine ⟨_, rfl, ?_⟩))
  go_ret
  exact ⟨er, bo⟩

end Go.Proofs.Ytmabdfdmccbfnaa.P

-- written by a program of the proving session, out of the translation; Lean checks it
namespace Go.Proofs.Ytmabdfdmccbfnaa.P
open Go.RowKit Go.Proofs.Ytmabdfdmccbfnaa.Sq Go.Proofs.YtmabdfdmccbfnaaW.PrintWords Go.Proofs.YtmabdfdmccbfnaaW.PrintLast Go.Proofs.YtmabdfdmccbfnaaW.PrintMore
attribute [local go_sem] max2_int min2_int max_two min_two max_three min_three max_four min_four   -- for this text's walks alone
set_option linter.unusedVariables false
set_option linter.unusedSimpArgs false

/-! ### fairwayref0_CopyRecs: function 76 -/
def fairwayref0_CopyRecs.l0 : Nat → List (S25) → List (S25) → Int → Option ((List (S25)))
 | 0, _, _, _ => none
 | k + 1, x0, x3, x4 => if x4 < (x0.length : Int) then (if 0 ≤ x4 then (if x3.length < 2199023255552 then (fairwayref0_CopyRecs.l0 k x0 (x3 ++ [(⟨(rd_T25 x0 x4).f0, (rd_T25 x0 x4).f1, (rd_T25 x0 x4).f2, (rd_T25 x0 x4).f3, (rd_T25 x0 x4).f4, (rd_T25 x0 x4).f5⟩ : S25)]) (wrap64 (x4 + 1))) else (none)) else (none)) else (some x3)
def fairwayref0_CopyRecs.f (k : Nat) (l0 : List (S25)) : Option ((List (S25))) := fairwayref0_CopyRecs.l0 k l0 ([] : List (S25)) 0
theorem fairwayref0_CopyRecs.mono_l : ∀ k, (∀ y0 y1 y2, LeO (fairwayref0_CopyRecs.l0 k y0 y1 y2) (fairwayref0_CopyRecs.l0 (k + 1) y0 y1 y2))
 | 0 => fun _ _ _ r h => by simp [fairwayref0_CopyRecs.l0] at h
 | k + 1 => by
  have ih0 := fairwayref0_CopyRecs.mono_l k
  ·intro y0 y1 y2
   unfold fairwayref0_CopyRecs.l0
   repeat' first
   | (with_reducible exact ih0 _ _ _)
   | (with_reducible exact LeO.refl _)
   | (with_reducible exact LeO.none _)
   | (with_reducible refine LeO.ite ?_ ?_)
   | (with_reducible refine LeO.bind ?_ (fun _ => ?_))
   | exact ih0 _ _ _
   | exact LeO.none _
   | refine LeO.ite ?_ ?_
   | refine LeO.bind ?_ (fun _ => ?_)
theorem fairwayref0_CopyRecs.mono : ∀ a0 k, LeO (fairwayref0_CopyRecs.f k a0) (fairwayref0_CopyRecs.f (k + 1) a0) := by
 intro a0 k
 have ih0 := fairwayref0_CopyRecs.mono_l k
 unfold fairwayref0_CopyRecs.f
 repeat' first
  | (with_reducible exact ih0 _ _ _)
  | (with_reducible exact LeO.refl _)
  | (with_reducible exact LeO.none _)
  | (with_reducible refine LeO.ite ?_ ?_)
  | (with_reducible refine LeO.bind ?_ (fun _ => ?_))
  | exact ih0 _ _ _
  | exact LeO.none _
  | refine LeO.ite ?_ ?_
  | refine LeO.bind ?_ (fun _ => ?_)
set_option maxHeartbeats 8000000 in
set_option maxRecDepth 100000 in
theorem fairwayref0_CopyRecs.calls (k : Nat) (A0 : Option Addr) (c0 : Nat) (l0 : List (S25)) (r : List (S25)) (w : World) (hr0 : Kd.C k25 w A0 l0.length l0) (hc0 : l0.length ≤ c0) (h : fairwayref0_CopyRecs.f k l0 = some r) :
 Calls Try.prog 76 #[.slice A0 l0.length c0] w fun e w' => ∃ v0_ : Value, e = .returned (v0_) ∧ Kd.R k25 25 w' w.heap.size (fun _ => True) v0_ r ∧ Below w.heap.size w w' := by
 have hu25 := Try.underlying25
 have HR0 := Aside0.mk hr0
 have HC0 := Aside0.mk hc0
 clear hr0 hc0
 have HB := Aside0.mk (Below.refl w.heap.size w)
 have H : (fairwayref0_CopyRecs.l0 k l0 ([] : List (S25)) 0) = some r := h
 clear h
 have H' := Aside0.mk H
 clear H
 go_enter Try.func76, Try.ntmps76
 go_wp2
 go_loopg [3, 4] k (fun kq v3 v4 w' => ∃ (x3_1 : List (S25)) (x4_1 : Int), v4 = .int .i64 x4_1 ∧ Aside0 (fairwayref0_CopyRecs.l0 kq l0 x3_1 x4_1 = some r) ∧ Aside0 (kq ≤ k) ∧ Aside0 (Kd.R k25 25 w' w.heap.size (fun _ => True) v3 x3_1) ∧ Aside0 (Below w.heap.size w w'))
 case atStart => exact ⟨(([] : List (S25))), (0), ap, H', ⟨Nat.le_refl _⟩, ⟨by first | exact Kd.R_nil _ _ _ _ _ | exact Kd.N_nil _ _ _ _ _ | exact Kd.V_nil _ _ _ _ _ | exact Kd.Q_nil _ _ _ _ _ | exact Kd.S_nil _ _ _ _ _⟩, ⟨bo⟩⟩
 case round =>
  clear H'
  obtain ⟨x3_1, x4_1, rfl, HA, HK1, HO_3, HB⟩ := hrel
  cases gk with
  | zero => exact absurd HA.out (by simp [fairwayref0_CopyRecs.l0])
  | succ k1 =>
   have H := HA.out
   clear HA
   simp only [fairwayref0_CopyRecs.l0] at H
   by_cases c2 : x4_1 < (l0.length : Int)
   ·rw [if_pos c2] at H
    have c2b0 : decide (x4_1 < (l0.length : Int)) = true := decide_eq_true c2
    clear c2
    by_cases c3 : 0 ≤ x4_1
    ·rw [if_pos c3] at H
     have c3b0 : decide (0 ≤ x4_1) = true := decide_eq_true c3
     clear c3
     by_cases c4 : x3_1.length < 2199023255552
     ·rw [if_pos c4] at H
      have LMc4 := Aside0.mk c4
      clear c4
      obtain ⟨y456, hy456⟩ : ∃ y_ : List (S25), y_ = (x3_1 ++ [(⟨(rd_T25 l0 x4_1).f0, (rd_T25 l0 x4_1).f1, (rd_T25 l0 x4_1).f2, (rd_T25 l0 x4_1).f3, (rd_T25 l0 x4_1).f4, (rd_T25 l0 x4_1).f5⟩ : S25)]) := ⟨_, rfl⟩
      replace H : (fairwayref0_CopyRecs.l0 k1 l0 y456 (wrap64 (x4_1 + 1))) = some r := by first | (rw [hy456]; with_reducible exact H) | (have H2_ := (Option.bind_some _ _).symm.trans H; rw [hy456]; with_reducible exact H2_) | (have H2_ := (Option.bind_some _ _).symm.trans H; with_reducible exact H2_) | with_reducible exact H | (rw [hy456]; exact H) | exact H
      have Ny456 := Aside0.mk hy456
      clear hy456
      have H' := Aside0.mk H
      clear H
      have p455 : 0 ≤ (x4_1 : Int) := od
      have q455 : x4_1 < (l0.length : Int) := od
      obtain ⟨ad455, e455, hx455_0, hx455_1, hx455_2, hx455_3, hx455_4, hx455_5⟩ := at_T25 HR0.out x4_1 p455 q455
      cases e455
      replace hx455_0 := cx HB.out hx455_0
      replace hx455_1 := cx HB.out hx455_1
      replace hx455_2 := cx HB.out hx455_2
      replace hx455_3 := cx HB.out hx455_3
      replace hx455_4 := cx HB.out hx455_4
      replace hx455_5 := cx HB.out hx455_5
      replace p455 := eq_true p455
      replace q455 := eq_true q455
      go_wp2_with (first | ((with_reducible refine gate_builtin (b := .append) (xs := #[.tmp 11, .tmp 16]) rfl ?_); at_builtin; refine Kd.R_append k25 (w0 := w) w.heap.size rfl (.tmp 11) (.tmp 16) 36 25 (.agg #[(.int .i64 0), (.int .i64 0), (.string ⟨#[]⟩), (.string ⟨#[]⟩), (.int .i64 0), (.bool false)]) 64 rfl Try.underlying36 info25 rfl (by decide) (by omega) u3 x3_1 (⟨(rd_T25 l0 x4_1).f0, (rd_T25 l0 x4_1).f1, (rd_T25 l0 x4_1).f2, (rd_T25 l0 x4_1).f3, (rd_T25 l0 x4_1).f4, (rd_T25 l0 x4_1).f5⟩ : S25) [.int .i64 ((rd_T25 l0 x4_1).f0), .int .i64 ((rd_T25 l0 x4_1).f1), .string ((rd_T25 l0 x4_1).f2), .string ((rd_T25 l0 x4_1).f3), .int .i64 ((rd_T25 l0 x4_1).f4), .bool ((rd_T25 l0 x4_1).f5)] (fun _ => True) (fun _ => False) rfl rfl ?aP (fun _ hk => hk.elim) ?aF ?aO ?aB ?aS ?aL ?_; (case aP => exact k25_mkM _ _ _ (⟨(rd_T25 l0 x4_1).f0, (rd_T25 l0 x4_1).f1, (rd_T25 l0 x4_1).f2, (rd_T25 l0 x4_1).f3, (rd_T25 l0 x4_1).f4, (rd_T25 l0 x4_1).f5⟩ : S25)); (case aB => exact bo); (case aF => exact (fun _ _ => trivial)); (case aO => exact (rk HO_3.out)); (case aS => exact (below_size bo)); (case aL => have := LMc4.out; omega); intro v457 w5 ho hb hg hat; rw [← Ny456.out] at ho; have n0_ := Aside0.mk (hb); have n1_ := Aside0.mk (ho); clear HB; clear HO_3; have HB := n0_; have HO458 := n1_; clear n0_ n1_; clear ho hb hg hat))
      go_roundg k1
      case measure => have := HK1.out; omega
      case rel => exact ⟨(y456), (wrap64 (x4_1 + 1)), ap, H', ⟨by have := HK1.out; omega⟩, ⟨by (with_reducible repeat (first | apply Kd.R_alloc | apply Kd.R_drewN | apply Kd.R_drew)); exact HO458.out⟩, ⟨bo⟩⟩
     ·rw [if_neg c4] at H
      exact absurd H (by simp)
    ·rw [if_neg c3] at H
     exact absurd H (by simp)
   ·rw [if_neg c2] at H
    have c2b0 : decide (x4_1 < (l0.length : Int)) = false := decide_eq_false c2
    clear c2
    obtain rfl := Option.some.inj H
    go_wp2
    go_ret
    exact ⟨_, er, by (with_reducible repeat (first | apply Kd.R_alloc | apply Kd.R_drewN | apply Kd.R_drew)); exact HO_3.out, bo⟩

end Go.Proofs.Ytmabdfdmccbfnaa.P

-- written by a program of the proving session, out of the translation; Lean checks it
namespace Go.Proofs.Ytmabdfdmccbfnaa.P
open Go.RowKit Go.Proofs.Ytmabdfdmccbfnaa.Sq Go.Proofs.YtmabdfdmccbfnaaW.PrintWords Go.Proofs.YtmabdfdmccbfnaaW.PrintLast Go.Proofs.YtmabdfdmccbfnaaW.PrintMore
attribute [local go_sem] max2_int min2_int max_two min_two max_three min_three max_four min_four   -- for this text's walks alone
set_option linter.unusedVariables false
set_option linter.unusedSimpArgs false

/-! ### fairwayref0_CopySeg: function 42 -/
def fairwayref0_CopySeg.f (k : Nat) (a0_0 : Int) (l0_1 : List (S25)) : Option (Int × (List (S25))) := (fairwayref0_CopyRecs.f k l0_1).bind fun t462 => (some (a0_0, t462))
theorem fairwayref0_CopySeg.mono : ∀ a0 a1 k, LeO (fairwayref0_CopySeg.f k a0 a1) (fairwayref0_CopySeg.f (k + 1) a0 a1) := by
 intro a0 a1 k
 unfold fairwayref0_CopySeg.f
 repeat' first
  | (with_reducible exact fairwayref0_CopyRecs.mono _ _)
  | (with_reducible exact LeO.refl _)
  | (with_reducible exact LeO.none _)
  | (with_reducible refine LeO.ite ?_ ?_)
  | (with_reducible refine LeO.bind ?_ (fun _ => ?_))
  | exact fairwayref0_CopyRecs.mono _ _
  | exact LeO.none _
  | refine LeO.ite ?_ ?_
  | refine LeO.bind ?_ (fun _ => ?_)
set_option maxHeartbeats 8000000 in
set_option maxRecDepth 100000 in
theorem fairwayref0_CopySeg.calls (k : Nat) (a0_0 : Int) (A0_1 : Option Addr) (c0_1 : Nat) (l0_1 : List (S25)) (r1 : Int) (r2 : List (S25)) (w : World) (hr0_1 : Kd.C k25 w A0_1 l0_1.length l0_1) (hc0_1 : l0_1.length ≤ c0_1) (h : fairwayref0_CopySeg.f k a0_0 l0_1 = some (r1, r2)) :
 Calls Try.prog 42 #[.agg #[.int .i64 a0_0, .slice A0_1 l0_1.length c0_1]] w fun e w' => ∃ v1_ : Value, e = .returned (.agg #[.int .i64 r1, v1_]) ∧ Kd.R k25 25 w' w.heap.size (fun _ => True) v1_ r2 ∧ Below w.heap.size w w' := by
 have hu53 := Try.underlying53
 have HR0_1 := Aside0.mk hr0_1
 have HC0_1 := Aside0.mk hc0_1
 clear hr0_1 hc0_1
 have HB := Aside0.mk (Below.refl w.heap.size w)
 have H : ((fairwayref0_CopyRecs.f k l0_1).bind fun t462 => (some (a0_0, t462))) = some (r1, r2) := h
 clear h
 replace H := Option.bind_eq_some_iff.mp H
 obtain ⟨t462, A20, H⟩ := H
 replace H : (some (a0_0, t462)) = some (r1, r2) := H
 have A2 := Aside0.mk A20
 clear A20
 simp only [Option.some.injEq, Prod.mk.injEq] at H
 obtain ⟨rfl, rfl⟩ := H
 go_enter Try.func42, Try.ntmps42
 go_wp2_with (first | ((with_reducible refine gate_dst (N := 1) rfl ?_); refine box_event ?hg (N := 1) ?hd (cs := #[.int .i64 a0_0, .slice A0_1 l0_1.length c0_1]) (t := 53) ?hr ?_; (case hd => rfl); (case hg => rfl); (case hr => first | (go_simp; done) | (go_simp; rfl)); intro gb459 hg w3 hbox hb; have BK459 := Aside0.mk (hbox); have GW459 := Aside0.mk ((by rw [hg]; exact (below_size bo) : w.heap.size ≤ gb459)); have GE459 := Aside0.mk ((by rw [hg]; exact (below_size bo) : w.heap.size ≤ gb459)); replace HB := Aside0.mk (below_step bo hb); clear hb hbox hg) | ((with_reducible refine gate_dst (N := 2) rfl ?_); refine box_event ?hg (N := 2) ?hd (cs := #[.int .i64 0, .slice none 0 0]) (t := 53) ?hr ?_; (case hd => rfl); (case hg => rfl); (case hr => first | (go_simp; done) | (go_simp; rfl)); intro gb460 hg w4 hbox hb; have BK460 := Aside0.mk (hbox); have GW460 := Aside0.mk ((by rw [hg]; exact (below_size bo) : w.heap.size ≤ gb460)); have GE460 := Aside0.mk ((by rw [hg]; exact (below_size bo) : w.heap.size ≤ gb460)); replace HB := Aside0.mk (below_step bo hb); have NB459_460 := Aside0.mk (nl BK459.out hg); have NB460_459 := Aside0.mk (ng BK459.out hg); replace BK459 := Aside0.mk (bb BK459.out hb); clear hb hbox hg; have hnb5 := NB459_460.out; have hnc5 := NB460_459.out; obtain ⟨hcz6_0, hcz6_1⟩ := cl2 BK459.out; obtain ⟨hfz6_0, hfz6_1⟩ := fz2 BK459.out) | ((with_reducible refine gate_dst (N := 3) rfl ?_); refine box_event ?hg (N := 3) ?hd (cs := #[.int .i64 0, .slice none 0 0]) (t := 53) ?hr ?_; (case hd => rfl); (case hg => rfl); (case hr => first | (go_simp; done) | (go_simp; rfl)); intro gb461 hg w7 hbox hb; have BK461 := Aside0.mk (hbox); have GW461 := Aside0.mk ((by rw [hg]; exact (below_size bo) : w.heap.size ≤ gb461)); have GE461 := Aside0.mk ((by rw [hg]; exact (below_size bo) : w.heap.size ≤ gb461)); replace HB := Aside0.mk (below_step bo hb); have NB459_461 := Aside0.mk (nl BK459.out hg); have NB461_459 := Aside0.mk (ng BK459.out hg); replace BK459 := Aside0.mk (bb BK459.out hb); have NB460_461 := Aside0.mk (nl BK460.out hg); have NB461_460 := Aside0.mk (ng BK460.out hg); replace BK460 := Aside0.mk (bb BK460.out hb); clear hb hbox hg; have hnb8 := NB461_459.out; have hnc8 := NB459_461.out; have hnb9 := NB461_460.out; have hnc9 := NB460_461.out; obtain ⟨hcz10_0, hcz10_1⟩ := cl2 BK461.out; obtain ⟨hfz10_0, hfz10_1⟩ := fz2 BK461.out; obtain ⟨hcz11_0, hcz11_1⟩ := cl2 BK459.out; obtain ⟨hfz11_0, hfz11_1⟩ := fz2 BK459.out) | ((with_reducible refine gate_callee (f := 76) rfl ?_); refine goesL_ (some 7) rfl rfl Try.func76 (by kernel_rfl) rfl #[.slice A0_1 l0_1.length c0_1] rfl aa ?_; (with_reducible refine (fairwayref0_CopyRecs.calls k _ _ l0_1 t462 _ ?side1 ?side2 A2.out).mono ?_); (case side1 => exact Kd.C_below HR0_1.out bo); (case side2 => exact HC0_1.out); rintro e w12 ⟨v463, rfl, ho0, hb⟩; refine ⟨_, rfl, ?_⟩; have HO464 := Aside0.mk (Kd.R_lower ho0 (below_size bo)); replace BK459 := Aside0.mk (bB BK459.out hb); replace BK460 := Aside0.mk (bB BK460.out hb); replace BK461 := Aside0.mk (blk_below (g := gb461) (o := .cells #[.int .i64 a0_0, .slice A0_1 l0_1.length c0_1] 53 (0, 0)) (by (with_reducible repeat (first | refine blk_drewN ?_ _ | refine blk_drew ?_ | refine blk_alloc ?_ _)); refine blk_put (cs := #[.int .i64 a0_0, .slice none 0 0]) ?_ 1 _ rfl; (with_reducible repeat (first | refine blk_drewN ?_ _ | refine blk_drew ?_ | refine blk_alloc ?_ _)); refine blk_put (cs := #[.int .i64 0, .slice none 0 0]) ?_ 0 _ rfl; (with_reducible repeat (first | refine blk_drewN ?_ _ | refine blk_drew ?_ | refine blk_alloc ?_ _)); exact BK461.out) hb); replace HB := Aside0.mk (below_step bo hb); (try clear hb); (try clear hb2); (try clear hk); (try clear hi); (try clear ho0); obtain ⟨Ao13, co13, eo13⟩ := Kd.R_slice HO464.out; subst eo13; obtain ⟨hcz14_0, hcz14_1⟩ := cl2 BK461.out; obtain ⟨hfz14_0, hfz14_1⟩ := fz2 BK461.out; obtain ⟨hcz15_0, hcz15_1⟩ := cl2 BK460.out; obtain ⟨hfz15_0, hfz15_1⟩ := fz2 BK460.out))
 refine bodyPost_ret (results_cell_row rfl _ _ gb460 53 #[.int .i64 a0_0, .slice Ao13 t462.length co13] (0, 0) _ rfl (by (with_reducible repeat (first | refine blk_drewN ?_ _ | refine blk_drew ?_ | refine blk_alloc ?_ _)); refine blk_put (cs := #[.int .i64 a0_0, .slice none 0 0]) ?_ 1 _ rfl; (with_reducible repeat (first | refine blk_drewN ?_ _ | refine blk_drew ?_ | refine blk_alloc ?_ _)); refine blk_put (cs := #[.int .i64 0, .slice none 0 0]) ?_ 0 _ rfl; (with_reducible repeat (first | refine blk_drewN ?_ _ | refine blk_drew ?_ | refine blk_alloc ?_ _)); refine blk_far ?_ NB460_461.out _; (with_reducible repeat (first | refine blk_drewN ?_ _ | refine blk_drew ?_ | refine blk_alloc ?_ _)); exact BK460.out) Try.underlying53 rfl (by kernel_rfl)) rfl ?_
 exact ⟨_, er, by (with_reducible repeat (first | apply Kd.R_alloc | apply Kd.R_drewN | apply Kd.R_drew)); exact Kd.R_mono (Kd.R_far (p := ⟨gb460, 1, none⟩) (Kd.R_far (p := ⟨gb460, 0, none⟩) (Kd.R_far (p := ⟨gb461, 1, none⟩) (Kd.R_types (Kd.R_types HO464.out BK461.out (by decide)) BK460.out (by decide)) (fun _ hk => hk.1.2) (.slice Ao13 t462.length co13)) (fun _ hk => hk.2) (.int .i64 a0_0)) (fun _ hk => hk.2) (.slice Ao13 t462.length co13)) (fun _ hk => trivial), bo⟩

end Go.Proofs.Ytmabdfdmccbfnaa.P

-- written by a program of the proving session, out of the translation; Lean checks it
namespace Go.Proofs.Ytmabdfdmccbfnaa.P
open Go.RowKit Go.Proofs.Ytmabdfdmccbfnaa.Sq Go.Proofs.YtmabdfdmccbfnaaW.PrintWords Go.Proofs.YtmabdfdmccbfnaaW.PrintLast Go.Proofs.YtmabdfdmccbfnaaW.PrintMore
attribute [local go_sem] max2_int min2_int max_two min_two max_three min_three max_four min_four   -- for this text's walks alone
set_option linter.unusedVariables false
set_option linter.unusedSimpArgs false

/-! ### fairwayref10_With: function 48 -/
def fairwayref10_With.f (k : Nat) (a0_0 : Int) (l0_1 : List (S25)) (a1_0 : Int) (a1_1 : Int) (a1_2 : ByteArray) (a1_3 : ByteArray) (a1_4 : Int) (a1_5 : Bool) : Option (Int × (List (S25))) := (fairwayref0_CopySeg.f k a0_0 l0_1).bind fun bt468 => (if bt468.2.length < 2199023255552 then (some (bt468.1, (bt468.2 ++ [(⟨a1_0, a1_1, a1_2, a1_3, a1_4, a1_5⟩ : S25)]))) else (none))
theorem fairwayref10_With.mono : ∀ a0 a1 a2 a3 a4 a5 a6 a7 k, LeO (fairwayref10_With.f k a0 a1 a2 a3 a4 a5 a6 a7) (fairwayref10_With.f (k + 1) a0 a1 a2 a3 a4 a5 a6 a7) := by
 intro a0 a1 a2 a3 a4 a5 a6 a7 k
 unfold fairwayref10_With.f
 repeat' first
  | (with_reducible exact fairwayref0_CopySeg.mono _ _ _)
  | (with_reducible exact LeO.refl _)
  | (with_reducible exact LeO.none _)
  | (with_reducible refine LeO.ite ?_ ?_)
  | (with_reducible refine LeO.bind ?_ (fun _ => ?_))
  | exact fairwayref0_CopySeg.mono _ _ _
  | exact LeO.none _
  | refine LeO.ite ?_ ?_
  | refine LeO.bind ?_ (fun _ => ?_)
set_option maxHeartbeats 8000000 in
set_option maxRecDepth 100000 in
theorem fairwayref10_With.calls (k : Nat) (a0_0 : Int) (A0_1 : Option Addr) (c0_1 : Nat) (l0_1 : List (S25)) (a1_0 : Int) (a1_1 : Int) (a1_2 : ByteArray) (a1_3 : ByteArray) (a1_4 : Int) (a1_5 : Bool) (r1 : Int) (r2 : List (S25)) (w : World) (hr0_1 : Kd.C k25 w A0_1 l0_1.length l0_1) (hc0_1 : l0_1.length ≤ c0_1) (h : fairwayref10_With.f k a0_0 l0_1 a1_0 a1_1 a1_2 a1_3 a1_4 a1_5 = some (r1, r2)) :
 Calls Try.prog 48 #[.agg #[.int .i64 a0_0, .slice A0_1 l0_1.length c0_1], .agg #[.int .i64 a1_0, .int .i64 a1_1, .string a1_2, .string a1_3, .int .i64 a1_4, .bool a1_5]] w fun e w' => ∃ v1_ : Value, e = .returned (.agg #[.int .i64 r1, v1_]) ∧ Kd.R k25 25 w' w.heap.size (fun _ => True) v1_ r2 ∧ Below w.heap.size w w' := by
 have hu53 := Try.underlying53
 have hu25 := Try.underlying25
 have HR0_1 := Aside0.mk hr0_1
 have HC0_1 := Aside0.mk hc0_1
 clear hr0_1 hc0_1
 have HB := Aside0.mk (Below.refl w.heap.size w)
 have H : ((fairwayref0_CopySeg.f k a0_0 l0_1).bind fun bt468 => (if bt468.2.length < 2199023255552 then (some (bt468.1, (bt468.2 ++ [(⟨a1_0, a1_1, a1_2, a1_3, a1_4, a1_5⟩ : S25)]))) else (none))) = some (r1, r2) := h
 clear h
 replace H := Option.bind_eq_some_iff.mp H
 obtain ⟨⟨t468, t469⟩, A30, H⟩ := H
 replace H : (if t469.length < 2199023255552 then (some (t468, (t469 ++ [(⟨a1_0, a1_1, a1_2, a1_3, a1_4, a1_5⟩ : S25)]))) else (none)) = some (r1, r2) := H
 have A3 := Aside0.mk A30
 clear A30
 by_cases c4 : t469.length < 2199023255552
 ·rw [if_pos c4] at H
  have LMc4 := Aside0.mk c4
  clear c4
  obtain ⟨y473, hy473⟩ : ∃ y_ : List (S25), y_ = (t469 ++ [(⟨a1_0, a1_1, a1_2, a1_3, a1_4, a1_5⟩ : S25)]) := ⟨_, rfl⟩
  replace H : (some (t468, y473)) = some (r1, r2) := by first | (rw [hy473]; with_reducible exact H) | (have H2_ := (Option.bind_some _ _).symm.trans H; rw [hy473]; with_reducible exact H2_) | (have H2_ := (Option.bind_some _ _).symm.trans H; with_reducible exact H2_) | with_reducible exact H | (rw [hy473]; exact H) | exact H
  have Ny473 := Aside0.mk hy473
  clear hy473
  simp only [Option.some.injEq, Prod.mk.injEq] at H
  obtain ⟨rfl, rfl⟩ := H
  go_enter Try.func48, Try.ntmps48
  go_wp2_with (first | ((with_reducible refine gate_dst (N := 2) rfl ?_); refine box_event ?hg (N := 2) ?hd (cs := #[.int .i64 a0_0, .slice A0_1 l0_1.length c0_1]) (t := 53) ?hr ?_; (case hd => rfl); (case hg => rfl); (case hr => first | (go_simp; done) | (go_simp; rfl)); intro gb465 hg w5 hbox hb; have BK465 := Aside0.mk (hbox); have GW465 := Aside0.mk ((by rw [hg]; exact (below_size bo) : w.heap.size ≤ gb465)); have GE465 := Aside0.mk ((by rw [hg]; exact (below_size bo) : w.heap.size ≤ gb465)); replace HB := Aside0.mk (below_step bo hb); clear hb hbox hg) | ((with_reducible refine gate_dst (N := 3) rfl ?_); refine box_event ?hg (N := 3) ?hd (cs := #[.int .i64 a1_0, .int .i64 a1_1, .string a1_2, .string a1_3, .int .i64 a1_4, .bool a1_5]) (t := 25) ?hr ?_; (case hd => rfl); (case hg => rfl); (case hr => first | (go_simp; done) | (go_simp; rfl)); intro gb466 hg w6 hbox hb; have BK466 := Aside0.mk (hbox); have GW466 := Aside0.mk ((by rw [hg]; exact (below_size bo) : w.heap.size ≤ gb466)); have GE466 := Aside0.mk ((by rw [hg]; exact (below_size bo) : w.heap.size ≤ gb466)); replace HB := Aside0.mk (below_step bo hb); have NB465_466 := Aside0.mk (nl BK465.out hg); have NB466_465 := Aside0.mk (ng BK465.out hg); replace BK465 := Aside0.mk (bb BK465.out hb); clear hb hbox hg) | ((with_reducible refine gate_dst (N := 4) rfl ?_); refine box_event ?hg (N := 4) ?hd (cs := #[.int .i64 0, .slice none 0 0]) (t := 53) ?hr ?_; (case hd => rfl); (case hg => rfl); (case hr => first | (go_simp; done) | (go_simp; rfl)); intro gb467 hg w7 hbox hb; have BK467 := Aside0.mk (hbox); have GW467 := Aside0.mk ((by rw [hg]; exact (below_size bo) : w.heap.size ≤ gb467)); have GE467 := Aside0.mk ((by rw [hg]; exact (below_size bo) : w.heap.size ≤ gb467)); replace HB := Aside0.mk (below_step bo hb); have NB465_467 := Aside0.mk (nl BK465.out hg); have NB467_465 := Aside0.mk (ng BK465.out hg); replace BK465 := Aside0.mk (bb BK465.out hb); have NB466_467 := Aside0.mk (nl BK466.out hg); have NB467_466 := Aside0.mk (ng BK466.out hg); replace BK466 := Aside0.mk (bb BK466.out hb); clear hb hbox hg; have hnb8 := NB465_466.out; have hnc8 := NB466_465.out; have hnb9 := NB465_467.out; have hnc9 := NB467_465.out; obtain ⟨hcz10_0, hcz10_1⟩ := cl2 BK465.out; obtain ⟨hfz10_0, hfz10_1⟩ := fz2 BK465.out) | ((with_reducible refine gate_callee (f := 42) rfl ?_); refine goesL_ (some 7) rfl rfl Try.func42 (by kernel_rfl) rfl #[.agg #[.int .i64 a0_0, .slice A0_1 l0_1.length c0_1]] rfl aa ?_; (with_reducible refine (fairwayref0_CopySeg.calls k a0_0 _ _ l0_1 t468 t469 _ ?side1 ?side2 A3.out).mono ?_); (case side1 => repeat (first | exact (Kd.C_below HR0_1.out HB.out) | (with_reducible refine Kd.C_alloc ?_ _) | (with_reducible refine Kd.C_drewN ?_ _) | (with_reducible refine Kd.C_drew ?_))); (case side2 => exact HC0_1.out); rintro e w11 ⟨v470, rfl, ho0, hb⟩; refine ⟨_, rfl, ?_⟩; have HO471 := Aside0.mk (Kd.R_lower (Kd.R_newB ho0 (g := gb466) (o := .cells #[.int .i64 a1_0, .int .i64 a1_1, .string a1_2, .string a1_3, .int .i64 a1_4, .bool a1_5] 25 (0, 0)) (bk BK466.out)) (below_size bo)); replace BK465 := Aside0.mk (bb BK465.out hb); replace BK466 := Aside0.mk (bb BK466.out hb); replace BK467 := Aside0.mk (bb BK467.out hb); replace HB := Aside0.mk (below_step bo hb); (try clear hb); (try clear hb2); (try clear hk); (try clear hi); (try clear ho0)) | ((with_reducible refine gate_dst (N := 5) rfl ?_); refine box_event ?hg (N := 5) ?hd (cs := #[.int .i64 0, .slice none 0 0]) (t := 53) ?hr ?_; (case hd => rfl); (case hg => rfl); (case hr => first | (go_simp; done) | (go_simp; rfl)); intro gb472 hg w12 hbox hb; replace HO471 := Aside0.mk (Kd.R_below (rk HO471.out) hb); have BK472 := Aside0.mk (hbox); have GW472 := Aside0.mk ((by rw [hg]; exact (below_size bo) : w.heap.size ≤ gb472)); have GE472 := Aside0.mk ((by rw [hg]; exact (below_size bo) : w.heap.size ≤ gb472)); replace HB := Aside0.mk (below_step bo hb); have NB465_472 := Aside0.mk (nl BK465.out hg); have NB472_465 := Aside0.mk (ng BK465.out hg); replace BK465 := Aside0.mk (bb BK465.out hb); have NB466_472 := Aside0.mk (nl BK466.out hg); have NB472_466 := Aside0.mk (ng BK466.out hg); replace BK466 := Aside0.mk (bb BK466.out hb); have NB467_472 := Aside0.mk (nl BK467.out hg); have NB472_467 := Aside0.mk (ng BK467.out hg); replace BK467 := Aside0.mk (bb BK467.out hb); clear hb hbox hg; have hnb13 := NB472_465.out; have hnc13 := NB465_472.out; have hnb14 := NB472_466.out; have hnc14 := NB466_472.out; have hnb15 := NB472_467.out; have hnc15 := NB467_472.out; obtain ⟨hcz16_0, hcz16_1⟩ := cl2 BK472.out; obtain ⟨hfz16_0, hfz16_1⟩ := fz2 BK472.out; obtain ⟨Ao17, co17, eo17⟩ := Kd.R_slice HO471.out; subst eo17; have hnb18 := NB466_467.out; have hnc18 := NB467_466.out; obtain ⟨hcz19_0, hcz19_1, hcz19_2, hcz19_3, hcz19_4, hcz19_5⟩ := cl6 BK466.out; obtain ⟨hfz19_0, hfz19_1, hfz19_2, hfz19_3, hfz19_4, hfz19_5⟩ := fz6 BK466.out) | ((with_reducible refine gate_builtin (b := .append) (xs := #[.tmp 9, .tmp 11]) rfl ?_); at_builtin; refine Kd.R_append k25 (w0 := w) w.heap.size rfl (.tmp 9) (.tmp 11) 36 25 (.agg #[(.int .i64 0), (.int .i64 0), (.string ⟨#[]⟩), (.string ⟨#[]⟩), (.int .i64 0), (.bool false)]) 64 rfl Try.underlying36 info25 rfl (by decide) (by omega) (.slice Ao17 t469.length co17) t469 (⟨a1_0, a1_1, a1_2, a1_3, a1_4, a1_5⟩ : S25) [.int .i64 a1_0, .int .i64 a1_1, .string a1_2, .string a1_3, .int .i64 a1_4, .bool a1_5] (fun k_ => k_ ≠ gb466) (fun _ => False) rfl (by first | (go_simp; done) | (go_simp; rfl)) ?aP (fun _ hk => hk.elim) ?aF ?aO ?aB ?aS ?aL ?_; (case aP => exact k25_mkM _ _ _ (⟨a1_0, a1_1, a1_2, a1_3, a1_4, a1_5⟩ : S25)); (case aB => exact bo); (case aF => exact (fun k_ hk => Kd.freshB (g := gb466) (o := .cells #[.int .i64 a1_0, .int .i64 a1_1, .string a1_2, .string a1_3, .int .i64 a1_4, .bool a1_5] 25 (0, 0)) (bf BK466.out) k_ hk)); (case aO => exact (by (with_reducible repeat (first | apply Kd.R_alloc | apply Kd.R_drewN | apply Kd.R_drew)); exact Kd.R_mono (Kd.R_far (p := ⟨gb472, 1, none⟩) (Kd.R_far (p := ⟨gb472, 0, none⟩) (Kd.R_types HO471.out BK472.out (by decide)) (fun _ hk => hk.2) (.int .i64 t468)) (fun _ hk => hk.2) (.slice Ao17 t469.length co17)) (fun _ hk => hk.1.2))); (case aS => exact (below_size bo)); (case aL => have := LMc4.out; omega); intro v474 w20 ho hb hg hat; rw [← Ny473.out] at ho; have n0_ := Aside0.mk (blk_grown (g := gb465) (o := .cells #[.int .i64 a0_0, .slice A0_1 l0_1.length c0_1] 53 (0, 0)) (bf BK465.out) hg (Kd.R_ne HO471.out BK465.out (by decide))); have n1_ := Aside0.mk (blk_grown (g := gb466) (o := .cells #[.int .i64 a1_0, .int .i64 a1_1, .string a1_2, .string a1_3, .int .i64 a1_4, .bool a1_5] 25 (0, 0)) (bf BK466.out) hg (Kd.R_away HO471.out (fun _ hk => hk.2))); have n2_ := Aside0.mk (blk_grown (g := gb467) (o := .cells #[.int .i64 0, .slice none 0 0] 53 (0, 0)) (bf BK467.out) hg (Kd.R_ne HO471.out BK467.out (by decide))); have n3_ := Aside0.mk (blk_grown (g := gb472) (o := .cells #[.int .i64 t468, .slice Ao17 t469.length co17] 53 (0, 0)) (by (with_reducible repeat (first | refine blk_drewN ?_ _ | refine blk_drew ?_ | refine blk_alloc ?_ _)); refine blk_put (cs := #[.int .i64 t468, .slice none 0 0]) ?_ 1 _ rfl; (with_reducible repeat (first | refine blk_drewN ?_ _ | refine blk_drew ?_ | refine blk_alloc ?_ _)); refine blk_put (cs := #[.int .i64 0, .slice none 0 0]) ?_ 0 _ rfl; (with_reducible repeat (first | refine blk_drewN ?_ _ | refine blk_drew ?_ | refine blk_alloc ?_ _)); exact BK472.out) hg (Kd.R_ne HO471.out BK472.out (by decide))); have n4_ := Aside0.mk (hb); have n5_ := Aside0.mk (ho); clear BK465; clear BK466; clear BK467; clear BK472; clear HB; clear HO471; have BK465 := n0_; have BK466 := n1_; have BK467 := n2_; have BK472 := n3_; have HB := n4_; have HO475 := n5_; clear n0_ n1_ n2_ n3_ n4_ n5_; clear ho hb hg hat; obtain ⟨Ao21, co21, eo21⟩ := Kd.R_slice HO475.out; subst eo21; obtain ⟨hcz22_0, hcz22_1⟩ := cl2 BK472.out; obtain ⟨hfz22_0, hfz22_1⟩ := fz2 BK472.out; obtain ⟨hcz23_0, hcz23_1⟩ := cl2 BK467.out; obtain ⟨hfz23_0, hfz23_1⟩ := fz2 BK467.out))
  refine bodyPost_ret (results_cell_row rfl _ _ gb467 53 #[.int .i64 t468, .slice Ao21 y473.length co21] (0, 0) _ rfl (by (with_reducible repeat (first | refine blk_drewN ?_ _ | refine blk_drew ?_ | refine blk_alloc ?_ _)); refine blk_put (cs := #[.int .i64 t468, .slice none 0 0]) ?_ 1 _ rfl; (with_reducible repeat (first | refine blk_drewN ?_ _ | refine blk_drew ?_ | refine blk_alloc ?_ _)); refine blk_put (cs := #[.int .i64 0, .slice none 0 0]) ?_ 0 _ rfl; (with_reducible repeat (first | refine blk_drewN ?_ _ | refine blk_drew ?_ | refine blk_alloc ?_ _)); refine blk_far ?_ NB467_472.out _; (with_reducible repeat (first | refine blk_drewN ?_ _ | refine blk_drew ?_ | refine blk_alloc ?_ _)); exact BK467.out) Try.underlying53 rfl (by kernel_rfl)) rfl ?_
  exact ⟨_, er, by (with_reducible repeat (first | apply Kd.R_alloc | apply Kd.R_drewN | apply Kd.R_drew)); exact Kd.R_mono (Kd.R_far (p := ⟨gb467, 1, none⟩) (Kd.R_far (p := ⟨gb467, 0, none⟩) (Kd.R_far (p := ⟨gb472, 1, none⟩) (Kd.R_types (Kd.R_types HO475.out BK472.out (by decide)) BK467.out (by decide)) (fun _ hk => hk.1.2) (.slice Ao21 y473.length co21)) (fun _ hk => hk.2) (.int .i64 t468)) (fun _ hk => hk.2) (.slice Ao21 y473.length co21)) (fun _ hk => trivial), bo⟩
 ·rw [if_neg c4] at H
  exact absurd H (by simp)

end Go.Proofs.Ytmabdfdmccbfnaa.P

-- written by a program of the proving session, out of the translation; Lean checks it
namespace Go.Proofs.Ytmabdfdmccbfnaa.P
open Go.RowKit Go.Proofs.Ytmabdfdmccbfnaa.Sq Go.Proofs.YtmabdfdmccbfnaaW.PrintWords Go.Proofs.YtmabdfdmccbfnaaW.PrintLast Go.Proofs.YtmabdfdmccbfnaaW.PrintMore
attribute [local go_sem] max2_int min2_int max_two min_two max_three min_three max_four min_four   -- for this text's walks alone
set_option linter.unusedVariables false
set_option linter.unusedSimpArgs false

theorem eqA25 (d : Nat) (w : World) (x0 y0 : Int) (x1 y1 : Int) (x2 y2 : ByteArray) (x3 y3 : ByteArray) (x4 y4 : Int) (x5 y5 : Bool) :
 (Op.equalIn (d + 2) 25 (.agg #[.int .i64 x0, .int .i64 x1, .string x2, .string x3, .int .i64 x4, .bool x5]) (.agg #[.int .i64 y0, .int .i64 y1, .string y2, .string y3, .int .i64 y4, .bool y5])).run Try.prog w = .ok (x0 == y0 && (x1 == y1 && (x2.toList == y2.toList && (x3.toList == y3.toList && (x4 == y4 && (x5 == y5)))))) w := by
 refine eqA_of Try.underlying25 (by kernel_rfl) ?_
 refine eqf_cons (by rfl) (by go_simp; rfl) (by go_simp; rfl) (by go_simp) ?_
 refine eqf_cons (by rfl) (by go_simp; rfl) (by go_simp; rfl) (by go_simp) ?_
 refine eqf_cons (by rfl) (by go_simp; rfl) (by go_simp; rfl) (by go_simp) ?_
 refine eqf_cons (by rfl) (by go_simp; rfl) (by go_simp; rfl) (by go_simp) ?_
 refine eqf_cons (by rfl) (by go_simp; rfl) (by go_simp; rfl) (by go_simp) ?_
 exact eqf_last (by rfl) (by go_simp; rfl) (by go_simp; rfl) (by go_simp)
end Go.Proofs.Ytmabdfdmccbfnaa.P

-- written by a program of the proving session, out of the translation; Lean checks it
namespace Go.Proofs.Ytmabdfdmccbfnaa.P
open Go.RowKit Go.Proofs.Ytmabdfdmccbfnaa.Sq Go.Proofs.YtmabdfdmccbfnaaW.PrintWords Go.Proofs.YtmabdfdmccbfnaaW.PrintLast Go.Proofs.YtmabdfdmccbfnaaW.PrintMore
attribute [local go_sem] max2_int min2_int max_two min_two max_three min_three max_four min_four   -- for this text's walks alone
set_option linter.unusedVariables false
set_option linter.unusedSimpArgs false

attribute [local go_sem high] eqA25
/-! ### fairwayref0_EqRecs: function 27 -/
def fairwayref0_EqRecs.l0 : Nat → List (S25) → List (S25) → Int → Option (Bool)
 | 0, _, _, _ => none
 | k + 1, x0, x1, x5 => if x5 < (x0.length : Int) then (if 0 ≤ x5 then (if x5 < (x1.length : Int) then (if (!(((rd_T25 x0 x5).f0) == ((rd_T25 x1 x5).f0)) || (!(((rd_T25 x0 x5).f1) == ((rd_T25 x1 x5).f1)) || (!((((rd_T25 x0 x5).f2).toList) == (((rd_T25 x1 x5).f2).toList)) || (!((((rd_T25 x0 x5).f3).toList) == (((rd_T25 x1 x5).f3).toList)) || (!(((rd_T25 x0 x5).f4) == ((rd_T25 x1 x5).f4)) || (!(((rd_T25 x0 x5).f5) == ((rd_T25 x1 x5).f5)))))))) = true then (some false) else (fairwayref0_EqRecs.l0 k x0 x1 (wrap64 (x5 + 1)))) else (none)) else (none)) else (some true)
def fairwayref0_EqRecs.f (k : Nat) (l0 : List (S25)) (l1 : List (S25)) : Option (Bool) := if (l0.length : Int) = (l1.length : Int) then (fairwayref0_EqRecs.l0 k l0 l1 0) else (some false)
theorem fairwayref0_EqRecs.mono_l : ∀ k, (∀ y0 y1 y2, LeO (fairwayref0_EqRecs.l0 k y0 y1 y2) (fairwayref0_EqRecs.l0 (k + 1) y0 y1 y2))
 | 0 => fun _ _ _ r h => by simp [fairwayref0_EqRecs.l0] at h
 | k + 1 => by
  have ih0 := fairwayref0_EqRecs.mono_l k
  ·intro y0 y1 y2
   unfold fairwayref0_EqRecs.l0
   repeat' first
   | (with_reducible exact ih0 _ _ _)
   | (with_reducible exact LeO.refl _)
   | (with_reducible exact LeO.none _)
   | (with_reducible refine LeO.ite ?_ ?_)
   | (with_reducible refine LeO.bind ?_ (fun _ => ?_))
   | exact ih0 _ _ _
   | exact LeO.none _
   | refine LeO.ite ?_ ?_
   | refine LeO.bind ?_ (fun _ => ?_)
theorem fairwayref0_EqRecs.mono : ∀ a0 a1 k, LeO (fairwayref0_EqRecs.f k a0 a1) (fairwayref0_EqRecs.f (k + 1) a0 a1) := by
 intro a0 a1 k
 have ih0 := fairwayref0_EqRecs.mono_l k
 unfold fairwayref0_EqRecs.f
 repeat' first
  | (with_reducible exact ih0 _ _ _)
  | (with_reducible exact LeO.refl _)
  | (with_reducible exact LeO.none _)
  | (with_reducible refine LeO.ite ?_ ?_)
  | (with_reducible refine LeO.bind ?_ (fun _ => ?_))
  | exact ih0 _ _ _
  | exact LeO.none _
  | refine LeO.ite ?_ ?_
  | refine LeO.bind ?_ (fun _ => ?_)
set_option maxHeartbeats 8000000 in
set_option maxRecDepth 100000 in
theorem fairwayref0_EqRecs.calls (k : Nat) (A0 : Option Addr) (c0 : Nat) (l0 : List (S25)) (A1 : Option Addr) (c1 : Nat) (l1 : List (S25)) (r : Bool) (w : World) (hr0 : Kd.C k25 w A0 l0.length l0) (hc0 : l0.length ≤ c0) (hr1 : Kd.C k25 w A1 l1.length l1) (hc1 : l1.length ≤ c1) (h : fairwayref0_EqRecs.f k l0 l1 = some r) :
 Calls Try.prog 27 #[.slice A0 l0.length c0, .slice A1 l1.length c1] w fun e w' => e = .returned (.bool r) ∧ Drawn0 w w' := by
 have hu25 := Try.underlying25
 have HR0 := Aside0.mk hr0
 have HC0 := Aside0.mk hc0
 clear hr0 hc0
 have HR1 := Aside0.mk hr1
 have HC1 := Aside0.mk hc1
 clear hr1 hc1
 have H : (if (l0.length : Int) = (l1.length : Int) then (fairwayref0_EqRecs.l0 k l0 l1 0) else (some false)) = some r := h
 clear h
 by_cases c3 : (l0.length : Int) = (l1.length : Int)
 ·rw [if_pos c3] at H
  have c3b0 : ((l0.length : Int) == (l1.length : Int)) = true := beq_iff_eq.mpr c3
  have c3b1 : ((l0.length : Int) != (l1.length : Int)) = false := bne_eq_false_iff_eq.mpr c3
  have c3b2 : (l0.length == l1.length) = true := by first | simpa using c3 | (simp at c3 ⊢; omega)
  clear c3
  have H' := Aside0.mk H
  clear H
  go_enter Try.func27, Try.ntmps27
  go_wp2
  repeat (go_quiet (fail); try go_wp2)
  go_loopg [5] k (fun kq v5 w' => ∃ (x5_1 : Int), v5 = .int .i64 x5_1 ∧ Aside0 (fairwayref0_EqRecs.l0 kq l0 l1 x5_1 = some r) ∧ Aside0 (kq ≤ k) ∧ Drawn0 w w')
  case atStart => exact ⟨(0), ap, H', ⟨Nat.le_refl _⟩, dr⟩
  case round =>
   clear H'
   try clear c1
   try clear c2
   try clear p2
   try clear c3
   try clear c3b0
   try clear c3b1
   try clear c3b2
   obtain ⟨x5_1, rfl, HA, HK1, ⟨m1, rfl⟩⟩ := hrel
   cases gk with
   | zero => exact absurd HA.out (by simp [fairwayref0_EqRecs.l0])
   | succ k1 =>
    have H := HA.out
    clear HA
    simp only [fairwayref0_EqRecs.l0] at H
    by_cases c4 : x5_1 < (l0.length : Int)
    ·rw [if_pos c4] at H
     have c4b0 : decide (x5_1 < (l0.length : Int)) = true := decide_eq_true c4
     clear c4
     by_cases c5 : 0 ≤ x5_1
     ·rw [if_pos c5] at H
      have c5b0 : decide (0 ≤ x5_1) = true := decide_eq_true c5
      clear c5
      by_cases c6 : x5_1 < (l1.length : Int)
      ·rw [if_pos c6] at H
       have c6b0 : decide (x5_1 < (l1.length : Int)) = true := decide_eq_true c6
       clear c6
       by_cases c7 : (!(((rd_T25 l0 x5_1).f0) == ((rd_T25 l1 x5_1).f0)) || (!(((rd_T25 l0 x5_1).f1) == ((rd_T25 l1 x5_1).f1)) || (!((((rd_T25 l0 x5_1).f2).toList) == (((rd_T25 l1 x5_1).f2).toList)) || (!((((rd_T25 l0 x5_1).f3).toList) == (((rd_T25 l1 x5_1).f3).toList)) || (!(((rd_T25 l0 x5_1).f4) == ((rd_T25 l1 x5_1).f4)) || (!(((rd_T25 l0 x5_1).f5) == ((rd_T25 l1 x5_1).f5)))))))) = true
       ·rw [if_pos c7] at H
        have c7b0 : (!(((rd_T25 l0 x5_1).f0) == ((rd_T25 l1 x5_1).f0)) || (!(((rd_T25 l0 x5_1).f1) == ((rd_T25 l1 x5_1).f1)) || (!((((rd_T25 l0 x5_1).f2).toList) == (((rd_T25 l1 x5_1).f2).toList)) || (!((((rd_T25 l0 x5_1).f3).toList) == (((rd_T25 l1 x5_1).f3).toList)) || (!(((rd_T25 l0 x5_1).f4) == ((rd_T25 l1 x5_1).f4)) || (!(((rd_T25 l0 x5_1).f5) == ((rd_T25 l1 x5_1).f5)))))))) = true := c7
        clear c7
        obtain rfl := Option.some.inj H
        have p289 : 0 ≤ (x5_1 : Int) := od
        have q289 : x5_1 < (l0.length : Int) := od
        obtain ⟨ad289, e289, hx289_0, hx289_1, hx289_2, hx289_3, hx289_4, hx289_5⟩ := at_T25 HR0.out x5_1 p289 q289
        cases e289
        replace p289 := eq_true p289
        replace q289 := eq_true q289
        have p290 : 0 ≤ (x5_1 : Int) := od
        have q290 : x5_1 < (l1.length : Int) := od
        obtain ⟨ad290, e290, hx290_0, hx290_1, hx290_2, hx290_3, hx290_4, hx290_5⟩ := at_T25 HR1.out x5_1 p290 q290
        cases e290
        replace p290 := eq_true p290
        replace q290 := eq_true q290
        go_wp2
        repeat (go_quiet (fail); try go_wp2)
        go_ret
        exact ⟨ap, dr⟩
       ·rw [if_neg c7] at H
        have c7b0 : (!(((rd_T25 l0 x5_1).f0) == ((rd_T25 l1 x5_1).f0)) || (!(((rd_T25 l0 x5_1).f1) == ((rd_T25 l1 x5_1).f1)) || (!((((rd_T25 l0 x5_1).f2).toList) == (((rd_T25 l1 x5_1).f2).toList)) || (!((((rd_T25 l0 x5_1).f3).toList) == (((rd_T25 l1 x5_1).f3).toList)) || (!(((rd_T25 l0 x5_1).f4) == ((rd_T25 l1 x5_1).f4)) || (!(((rd_T25 l0 x5_1).f5) == ((rd_T25 l1 x5_1).f5)))))))) = false := by simpa using c7
        clear c7
        have H' := Aside0.mk H
        clear H
        have p289 : 0 ≤ (x5_1 : Int) := od
        have q289 : x5_1 < (l0.length : Int) := od
        obtain ⟨ad289, e289, hx289_0, hx289_1, hx289_2, hx289_3, hx289_4, hx289_5⟩ := at_T25 HR0.out x5_1 p289 q289
        cases e289
        replace p289 := eq_true p289
        replace q289 := eq_true q289
        have p290 : 0 ≤ (x5_1 : Int) := od
        have q290 : x5_1 < (l1.length : Int) := od
        obtain ⟨ad290, e290, hx290_0, hx290_1, hx290_2, hx290_3, hx290_4, hx290_5⟩ := at_T25 HR1.out x5_1 p290 q290
        cases e290
        replace p290 := eq_true p290
        replace q290 := eq_true q290
        go_wp2
        repeat (go_quiet (fail); try go_wp2)
        go_roundg k1
        case measure => have := HK1.out; omega
        case rel => exact ⟨(wrap64 (x5_1 + 1)), ap, H', ⟨by have := HK1.out; omega⟩, dr⟩
      ·rw [if_neg c6] at H
       exact absurd H (by simp)
     ·rw [if_neg c5] at H
      exact absurd H (by simp)
    ·rw [if_neg c4] at H
     have c4b0 : decide (x5_1 < (l0.length : Int)) = false := decide_eq_false c4
     clear c4
     obtain rfl := Option.some.inj H
     go_wp2
     repeat (go_quiet (fail); try go_wp2)
     go_ret
     exact ⟨ap, dr⟩
 ·rw [if_neg c3] at H
  have c3b0 : ((l0.length : Int) == (l1.length : Int)) = false := beq_eq_false_iff_ne.mpr c3
  have c3b1 : ((l0.length : Int) != (l1.length : Int)) = true := bne_iff_ne.mpr c3
  have c3b2 : (l0.length == l1.length) = false := by first | simpa using c3 | (simp at c3 ⊢; omega)
  obtain rfl := Option.some.inj H
  go_enter Try.func27, Try.ntmps27
  go_wp2
  repeat (go_quiet (fail); try go_wp2)
  go_ret
  exact ⟨ap, dr⟩

end Go.Proofs.Ytmabdfdmccbfnaa.P

-- written by a program of the proving session, out of the translation; Lean checks it
namespace Go.Proofs.Ytmabdfdmccbfnaa.P
open Go.RowKit Go.Proofs.Ytmabdfdmccbfnaa.Sq Go.Proofs.YtmabdfdmccbfnaaW.PrintWords Go.Proofs.YtmabdfdmccbfnaaW.PrintLast Go.Proofs.YtmabdfdmccbfnaaW.PrintMore
attribute [local go_sem] max2_int min2_int max_two min_two max_three min_three max_four min_four   -- for this text's walks alone
set_option linter.unusedVariables false
set_option linter.unusedSimpArgs false

/-! ### fairwayref0_EqSeg: function 41 -/
def fairwayref0_EqSeg.f (k : Nat) (a0_0 : Int) (l0_1 : List (S25)) (a1_0 : Int) (l1_1 : List (S25)) : Option (Bool) := if a0_0 = a1_0 then ((fairwayref0_EqRecs.f k l0_1 l1_1).bind fun t494 => (some t494)) else (some false)
theorem fairwayref0_EqSeg.mono : ∀ a0 a1 a2 a3 k, LeO (fairwayref0_EqSeg.f k a0 a1 a2 a3) (fairwayref0_EqSeg.f (k + 1) a0 a1 a2 a3) := by
 intro a0 a1 a2 a3 k
 unfold fairwayref0_EqSeg.f
 repeat' first
  | (with_reducible exact fairwayref0_EqRecs.mono _ _ _)
  | (with_reducible exact LeO.refl _)
  | (with_reducible exact LeO.none _)
  | (with_reducible refine LeO.ite ?_ ?_)
  | (with_reducible refine LeO.bind ?_ (fun _ => ?_))
  | exact fairwayref0_EqRecs.mono _ _ _
  | exact LeO.none _
  | refine LeO.ite ?_ ?_
  | refine LeO.bind ?_ (fun _ => ?_)
set_option maxHeartbeats 8000000 in
set_option maxRecDepth 100000 in
theorem fairwayref0_EqSeg.calls (k : Nat) (a0_0 : Int) (A0_1 : Option Addr) (c0_1 : Nat) (l0_1 : List (S25)) (a1_0 : Int) (A1_1 : Option Addr) (c1_1 : Nat) (l1_1 : List (S25)) (r : Bool) (w : World) (hr0_1 : Kd.C k25 w A0_1 l0_1.length l0_1) (hc0_1 : l0_1.length ≤ c0_1) (hr1_1 : Kd.C k25 w A1_1 l1_1.length l1_1) (hc1_1 : l1_1.length ≤ c1_1) (h : fairwayref0_EqSeg.f k a0_0 l0_1 a1_0 l1_1 = some r) :
 Calls Try.prog 41 #[.agg #[.int .i64 a0_0, .slice A0_1 l0_1.length c0_1], .agg #[.int .i64 a1_0, .slice A1_1 l1_1.length c1_1]] w fun e w' => e = .returned (.bool r) ∧ Below w.heap.size w w' := by
 have hu53 := Try.underlying53
 have HR0_1 := Aside0.mk hr0_1
 have HC0_1 := Aside0.mk hc0_1
 clear hr0_1 hc0_1
 have HR1_1 := Aside0.mk hr1_1
 have HC1_1 := Aside0.mk hc1_1
 clear hr1_1 hc1_1
 have HB := Aside0.mk (Below.refl w.heap.size w)
 have H : (if a0_0 = a1_0 then ((fairwayref0_EqRecs.f k l0_1 l1_1).bind fun t494 => (some t494)) else (some false)) = some r := h
 clear h
 by_cases c3 : a0_0 = a1_0
 ·rw [if_pos c3] at H
  have c3b0 : (a0_0 == a1_0) = true := beq_iff_eq.mpr c3
  have c3b1 : (a0_0 != a1_0) = false := bne_eq_false_iff_eq.mpr c3
  clear c3
  replace H := Option.bind_eq_some_iff.mp H
  obtain ⟨t494, A40, H⟩ := H
  replace H : (some t494) = some r := H
  have A4 := Aside0.mk A40
  clear A40
  obtain rfl := Option.some.inj H
  go_enter Try.func41, Try.ntmps41
  go_wp2_with (first | ((with_reducible refine gate_dst (N := 2) rfl ?_); refine box_event ?hg (N := 2) ?hd (cs := #[.int .i64 a0_0, .slice A0_1 l0_1.length c0_1]) (t := 53) ?hr ?_; (case hd => rfl); (case hg => rfl); (case hr => first | (go_simp; done) | (go_simp; rfl)); intro gb492 hg w5 hbox hb; have BK492 := Aside0.mk (hbox); have GW492 := Aside0.mk ((by rw [hg]; exact (below_size bo) : w.heap.size ≤ gb492)); have GE492 := Aside0.mk ((by rw [hg]; exact (below_size bo) : w.heap.size ≤ gb492)); replace HB := Aside0.mk (below_step bo hb); clear hb hbox hg) | ((with_reducible refine gate_dst (N := 3) rfl ?_); refine box_event ?hg (N := 3) ?hd (cs := #[.int .i64 a1_0, .slice A1_1 l1_1.length c1_1]) (t := 53) ?hr ?_; (case hd => rfl); (case hg => rfl); (case hr => first | (go_simp; done) | (go_simp; rfl)); intro gb493 hg w6 hbox hb; have BK493 := Aside0.mk (hbox); have GW493 := Aside0.mk ((by rw [hg]; exact (below_size bo) : w.heap.size ≤ gb493)); have GE493 := Aside0.mk ((by rw [hg]; exact (below_size bo) : w.heap.size ≤ gb493)); replace HB := Aside0.mk (below_step bo hb); have NB492_493 := Aside0.mk (nl BK492.out hg); have NB493_492 := Aside0.mk (ng BK492.out hg); replace BK492 := Aside0.mk (bb BK492.out hb); clear hb hbox hg; have hnb7 := NB492_493.out; have hnc7 := NB493_492.out; obtain ⟨hcz8_0, hcz8_1⟩ := cl2 BK492.out; obtain ⟨hfz8_0, hfz8_1⟩ := fz2 BK492.out; obtain ⟨hcz9_0, hcz9_1⟩ := cl2 BK493.out; obtain ⟨hfz9_0, hfz9_1⟩ := fz2 BK493.out) | (go_at_call 27; (with_reducible refine (fairwayref0_EqRecs.calls k _ _ l0_1 _ _ l1_1 t494 _ ?side1 ?side2 ?side3 ?side4 A4.out).mono ?_); (case side1 => repeat (first | exact (Kd.C_below HR0_1.out HB.out) | (with_reducible refine Kd.C_alloc ?_ _) | (with_reducible refine Kd.C_drewN ?_ _) | (with_reducible refine Kd.C_drew ?_))); (case side2 => exact HC0_1.out); (case side3 => repeat (first | exact (Kd.C_below HR1_1.out HB.out) | (with_reducible refine Kd.C_alloc ?_ _) | (with_reducible refine Kd.C_drewN ?_ _) | (with_reducible refine Kd.C_drew ?_))); (case side4 => exact HC1_1.out); rintro e w' ⟨rfl, ⟨nd, rfl⟩⟩))
  go_ret
  exact ⟨er, bo⟩
 ·rw [if_neg c3] at H
  have c3b0 : (a0_0 == a1_0) = false := beq_eq_false_iff_ne.mpr c3
  have c3b1 : (a0_0 != a1_0) = true := bne_iff_ne.mpr c3
  obtain rfl := Option.some.inj H
  go_enter Try.func41, Try.ntmps41
  go_wp2_with (first | ((with_reducible refine gate_dst (N := 2) rfl ?_); refine box_event ?hg (N := 2) ?hd (cs := #[.int .i64 a0_0, .slice A0_1 l0_1.length c0_1]) (t := 53) ?hr ?_; (case hd => rfl); (case hg => rfl); (case hr => first | (go_simp; done) | (go_simp; rfl)); intro gb492 hg w10 hbox hb; have BK492 := Aside0.mk (hbox); have GW492 := Aside0.mk ((by rw [hg]; exact (below_size bo) : w.heap.size ≤ gb492)); have GE492 := Aside0.mk ((by rw [hg]; exact (below_size bo) : w.heap.size ≤ gb492)); replace HB := Aside0.mk (below_step bo hb); clear hb hbox hg) | ((with_reducible refine gate_dst (N := 3) rfl ?_); refine box_event ?hg (N := 3) ?hd (cs := #[.int .i64 a1_0, .slice A1_1 l1_1.length c1_1]) (t := 53) ?hr ?_; (case hd => rfl); (case hg => rfl); (case hr => first | (go_simp; done) | (go_simp; rfl)); intro gb493 hg w11 hbox hb; have BK493 := Aside0.mk (hbox); have GW493 := Aside0.mk ((by rw [hg]; exact (below_size bo) : w.heap.size ≤ gb493)); have GE493 := Aside0.mk ((by rw [hg]; exact (below_size bo) : w.heap.size ≤ gb493)); replace HB := Aside0.mk (below_step bo hb); have NB492_493 := Aside0.mk (nl BK492.out hg); have NB493_492 := Aside0.mk (ng BK492.out hg); replace BK492 := Aside0.mk (bb BK492.out hb); clear hb hbox hg; have hnb12 := NB492_493.out; have hnc12 := NB493_492.out; obtain ⟨hcz13_0, hcz13_1⟩ := cl2 BK492.out; obtain ⟨hfz13_0, hfz13_1⟩ := fz2 BK492.out; obtain ⟨hcz14_0, hcz14_1⟩ := cl2 BK493.out; obtain ⟨hfz14_0, hfz14_1⟩ := fz2 BK493.out))
  go_ret
  exact ⟨er, bo⟩

end Go.Proofs.Ytmabdfdmccbfnaa.P

-- written by a program of the proving session, out of the translation; Lean checks it
namespace Go.Proofs.Ytmabdfdmccbfnaa.P
open Go.RowKit Go.Proofs.Ytmabdfdmccbfnaa.Sq Go.Proofs.YtmabdfdmccbfnaaW.PrintWords Go.Proofs.YtmabdfdmccbfnaaW.PrintLast Go.Proofs.YtmabdfdmccbfnaaW.PrintMore
attribute [local go_sem] max2_int min2_int max_two min_two max_three min_three max_four min_four   -- for this text's walks alone
set_option linter.unusedVariables false
set_option linter.unusedSimpArgs false

/-! ### fairwayref1_Fixed: function 69 -/
def fairwayref1_Fixed.l0 : Nat → Int → List Int → Int → Option (ByteArray)
 | 0, _, _, _ => none
 | k + 1, x0, x5, x6 => if x6 ≥ 0 then (if 0 ≤ (wrap64 (8 * x6)) then (if x5.length < 140737488355328 then (fairwayref1_Fixed.l0 k x0 (x5 ++ [(shr .i64 x0 (wrap64 (8 * x6))) % 256]) (wrap64 (x6 - 1))) else (none)) else (none)) else (some (strOfNums x5))
def fairwayref1_Fixed.f (k : Nat) (a0 : Int) (a1 : Int) : Option (ByteArray) := fairwayref1_Fixed.l0 k a0 ([] : List Int) (wrap64 (a1 - 1))
theorem fairwayref1_Fixed.mono_l : ∀ k, (∀ y0 y1 y2, LeO (fairwayref1_Fixed.l0 k y0 y1 y2) (fairwayref1_Fixed.l0 (k + 1) y0 y1 y2))
 | 0 => fun _ _ _ r h => by simp [fairwayref1_Fixed.l0] at h
 | k + 1 => by
  have ih0 := fairwayref1_Fixed.mono_l k
  ·intro y0 y1 y2
   unfold fairwayref1_Fixed.l0
   repeat' first
   | (with_reducible exact ih0 _ _ _)
   | (with_reducible exact LeO.refl _)
   | (with_reducible exact LeO.none _)
   | (with_reducible refine LeO.ite ?_ ?_)
   | (with_reducible refine LeO.bind ?_ (fun _ => ?_))
   | exact ih0 _ _ _
   | exact LeO.none _
   | refine LeO.ite ?_ ?_
   | refine LeO.bind ?_ (fun _ => ?_)
theorem fairwayref1_Fixed.mono : ∀ a0 a1 k, LeO (fairwayref1_Fixed.f k a0 a1) (fairwayref1_Fixed.f (k + 1) a0 a1) := by
 intro a0 a1 k
 have ih0 := fairwayref1_Fixed.mono_l k
 unfold fairwayref1_Fixed.f
 repeat' first
  | (with_reducible exact ih0 _ _ _)
  | (with_reducible exact LeO.refl _)
  | (with_reducible exact LeO.none _)
  | (with_reducible refine LeO.ite ?_ ?_)
  | (with_reducible refine LeO.bind ?_ (fun _ => ?_))
  | exact ih0 _ _ _
  | exact LeO.none _
  | refine LeO.ite ?_ ?_
  | refine LeO.bind ?_ (fun _ => ?_)
set_option maxHeartbeats 8000000 in
set_option maxRecDepth 100000 in
theorem fairwayref1_Fixed.calls (k : Nat) (a0 : Int) (a1 : Int) (r : ByteArray) (w : World) (h : fairwayref1_Fixed.f k a0 a1 = some r) :
 Calls Try.prog 69 #[.int .i64 a0, .int .i64 a1] w fun e w' => e = .returned (.string r) ∧ Below w.heap.size w w' := by
 have HB := Aside0.mk (Below.refl w.heap.size w)
 have H : (fairwayref1_Fixed.l0 k a0 ([] : List Int) (wrap64 (a1 - 1))) = some r := h
 clear h
 have H' := Aside0.mk H
 clear H
 go_enter Try.func69, Try.ntmps69
 go_wp2
 go_loopg [5, 6] k (fun kq v5 v6 w' => ∃ (x5_1 : List Int) (x6_1 : Int), v6 = .int .i64 x6_1 ∧ Aside0 (fairwayref1_Fixed.l0 kq a0 x5_1 x6_1 = some r) ∧ Aside0 (kq ≤ k) ∧ Aside0 (Kd.R (Kd.int .u8) 5 w' w.heap.size (fun _ => True) v5 x5_1) ∧ Aside0 (Below w.heap.size w w'))
 case atStart => exact ⟨(([] : List Int)), (wrap64 (a1 - 1)), ap, H', ⟨Nat.le_refl _⟩, ⟨by first | exact Kd.R_nil _ _ _ _ _ | exact Kd.N_nil _ _ _ _ _ | exact Kd.V_nil _ _ _ _ _ | exact Kd.Q_nil _ _ _ _ _ | exact Kd.S_nil _ _ _ _ _⟩, ⟨bo⟩⟩
 case round =>
  clear H'
  try clear p2
  obtain ⟨x5_1, x6_1, rfl, HA, HK1, HO_5, HB⟩ := hrel
  cases gk with
  | zero => exact absurd HA.out (by simp [fairwayref1_Fixed.l0])
  | succ k1 =>
   have H := HA.out
   clear HA
   simp only [fairwayref1_Fixed.l0] at H
   by_cases c3 : x6_1 ≥ 0
   ·rw [if_pos c3] at H
    have c3b0 : decide (0 ≤ x6_1) = true := decide_eq_true c3
    clear c3
    obtain ⟨ji4, hji4⟩ : ∃ j_ : Int, (wrap64 (8 * x6_1)) = j_ := ⟨_, rfl⟩
    replace H : (if 0 ≤ (ji4) then (if x5_1.length < 140737488355328 then (fairwayref1_Fixed.l0 k1 a0 (x5_1 ++ [(shr .i64 a0 (ji4)) % 256]) (wrap64 (x6_1 - 1))) else (none)) else (none)) = some r := by first | (rw [hji4] at H; exact H) | (simp only [hji4] at H ⊢; exact H)
    have hji4w : (IntKind.i64.wrap (8 * x6_1)) = ji4 := (i64_w _).trans hji4
    by_cases c5 : 0 ≤ (ji4)
    ·rw [if_pos c5] at H
     have c5b0 := eq_true c5
     have c5b1 : decide (0 ≤ (ji4)) = true := decide_eq_true c5
     clear c5
     obtain ⟨ji6, hji6⟩ : ∃ j_ : Int, (shr .i64 a0 (ji4)) = j_ := ⟨_, rfl⟩
     replace H : (if x5_1.length < 140737488355328 then (fairwayref1_Fixed.l0 k1 a0 (x5_1 ++ [(ji6) % 256]) (wrap64 (x6_1 - 1))) else (none)) = some r := by first | (rw [hji6] at H; exact H) | (simp only [hji6] at H ⊢; exact H)
     have hji6_ : (a0 / 2 ^ min (ji4).toNat 64) = ji6 := hji6
     have hji6z : (ji4) ≤ 64 → (a0 / 2 ^ (ji4).toNat) = ji6 := shr_small hji6
     by_cases c7 : x5_1.length < 140737488355328
     ·rw [if_pos c7] at H
      have LMc7 := Aside0.mk c7
      clear c7
      obtain ⟨y214, hy214⟩ : ∃ y_ : List Int, y_ = (x5_1 ++ [(ji6) % 256]) := ⟨_, rfl⟩
      replace H : (fairwayref1_Fixed.l0 k1 a0 y214 (wrap64 (x6_1 - 1))) = some r := by first | (rw [hy214]; with_reducible exact H) | (have H2_ := (Option.bind_some _ _).symm.trans H; rw [hy214]; with_reducible exact H2_) | (have H2_ := (Option.bind_some _ _).symm.trans H; with_reducible exact H2_) | with_reducible exact H | (rw [hy214]; exact H) | exact H
      have Ny214 := Aside0.mk hy214
      clear hy214
      have H' := Aside0.mk H
      clear H
      go_wp2_with (first | ((with_reducible refine gate_builtin (b := .append) (xs := #[.tmp 13, .tmp 19]) rfl ?_); at_builtin; refine Kd.R_append (Kd.int .u8) (w0 := w) w.heap.size rfl (.tmp 13) (.tmp 19) 23 5 (.int .u8 0) 1 rfl Try.underlying23 info5 rfl (by decide) (by omega) u5 x5_1 ((ji6) % 256) [.int .u8 ((ji6) % 256)] (fun _ => True) (fun _ => False) rfl rfl ?aP (fun _ hk => hk.elim) ?aF ?aO ?aB ?aS ?aL ?_; (case aP => exact rfl); (case aB => exact bo); (case aF => exact (fun _ _ => trivial)); (case aO => exact (rk HO_5.out)); (case aS => exact (below_size bo)); (case aL => have := LMc7.out; omega); intro v215 w8 ho hb hg hat; rw [← Ny214.out] at ho; have n0_ := Aside0.mk (hb); have n1_ := Aside0.mk (ho); clear HB; clear HO_5; have HB := n0_; have HO216 := n1_; clear n0_ n1_; clear ho hb hg hat))
      go_roundg k1
      case measure => have := HK1.out; omega
      case rel => exact ⟨(y214), (wrap64 (x6_1 - 1)), ap, H', ⟨by have := HK1.out; omega⟩, ⟨by (with_reducible repeat (first | apply Kd.R_alloc | apply Kd.R_drewN | apply Kd.R_drew)); exact HO216.out⟩, ⟨bo⟩⟩
     ·rw [if_neg c7] at H
      exact absurd H (by simp)
    ·rw [if_neg c5] at H
     exact absurd H (by simp)
   ·rw [if_neg c3] at H
    have c3b0 : decide (0 ≤ x6_1) = false := decide_eq_false c3
    clear c3
    obtain rfl := Option.some.inj H
    have hcv9 := own_string (P := Try.prog) Try.underlying23 Try.underlying5 Try.underlying9 (Kd.own_of_R HO_5.out)
    go_wp2
    go_ret
    exact ⟨er, bo⟩

end Go.Proofs.Ytmabdfdmccbfnaa.P

-- written by a program of the proving session, out of the translation; Lean checks it
namespace Go.Proofs.Ytmabdfdmccbfnaa.P
open Go.RowKit Go.Proofs.Ytmabdfdmccbfnaa.Sq Go.Proofs.YtmabdfdmccbfnaaW.PrintWords Go.Proofs.YtmabdfdmccbfnaaW.PrintLast Go.Proofs.YtmabdfdmccbfnaaW.PrintMore
attribute [local go_sem] max2_int min2_int max_two min_two max_three min_three max_four min_four   -- for this text's walks alone
set_option linter.unusedVariables false
set_option linter.unusedSimpArgs false

/-! ### fairwayref1_Sum: function 70 -/
mutual
def fairwayref1_Sum.l0 : Nat → Int → ByteArray → Int → Option (Int)
 | 0, _, _, _ => none
 | k + 1, x0, x1, x5 => if x5 < (x1.size : Int) then (if 0 ≤ x5 then (fairwayref1_Sum.l1 k (Go.bits .xor .u32 x0 ((bt x1 x5) % 4294967296)) x1 x5 0) else (none)) else (some (Go.bits .xor .u32 4294967295 x0))
def fairwayref1_Sum.l1 : Nat → Int → ByteArray → Int → Int → Option (Int)
 | 0, _, _, _, _ => none
 | k + 1, x0, x1, x5, x6 => if x6 < 8 then (if (Go.bits .and .u32 x0 1) = 1 then (fairwayref1_Sum.l1 k (Go.bits .xor .u32 (x0 / 2) 2197175160) x1 x5 (wrap64 (x6 + 1))) else (fairwayref1_Sum.l1 k (x0 / 2) x1 x5 (wrap64 (x6 + 1)))) else (fairwayref1_Sum.l0 k x0 x1 (wrap64 (x5 + 1)))
end
def fairwayref1_Sum.f (k : Nat) (a0 : Int) (a1 : ByteArray) : Option (Int) := fairwayref1_Sum.l0 k (Go.bits .xor .u32 4294967295 a0) a1 0
theorem fairwayref1_Sum.mono_l : ∀ k, (∀ y0 y1 y2, LeO (fairwayref1_Sum.l0 k y0 y1 y2) (fairwayref1_Sum.l0 (k + 1) y0 y1 y2)) ∧ (∀ y0 y1 y2 y3, LeO (fairwayref1_Sum.l1 k y0 y1 y2 y3) (fairwayref1_Sum.l1 (k + 1) y0 y1 y2 y3))
 | 0 => ⟨fun _ _ _ r h => by simp [fairwayref1_Sum.l0] at h, fun _ _ _ _ r h => by simp [fairwayref1_Sum.l1] at h⟩
 | k + 1 => by
  obtain ⟨ih0, ih1⟩ := fairwayref1_Sum.mono_l k
  refine ⟨?_, ?_⟩
  ·intro y0 y1 y2
   unfold fairwayref1_Sum.l0
   repeat' first
   | (with_reducible exact ih0 _ _ _)
   | (with_reducible exact ih1 _ _ _ _)
   | (with_reducible exact LeO.refl _)
   | (with_reducible exact LeO.none _)
   | (with_reducible refine LeO.ite ?_ ?_)
   | (with_reducible refine LeO.bind ?_ (fun _ => ?_))
   | exact ih0 _ _ _
   | exact ih1 _ _ _ _
   | exact LeO.none _
   | refine LeO.ite ?_ ?_
   | refine LeO.bind ?_ (fun _ => ?_)
  ·intro y0 y1 y2 y3
   unfold fairwayref1_Sum.l1
   repeat' first
   | (with_reducible exact ih0 _ _ _)
   | (with_reducible exact ih1 _ _ _ _)
   | (with_reducible exact LeO.refl _)
   | (with_reducible exact LeO.none _)
   | (with_reducible refine LeO.ite ?_ ?_)
   | (with_reducible refine LeO.bind ?_ (fun _ => ?_))
   | exact ih0 _ _ _
   | exact ih1 _ _ _ _
   | exact LeO.none _
   | refine LeO.ite ?_ ?_
   | refine LeO.bind ?_ (fun _ => ?_)
theorem fairwayref1_Sum.mono : ∀ a0 a1 k, LeO (fairwayref1_Sum.f k a0 a1) (fairwayref1_Sum.f (k + 1) a0 a1) := by
 intro a0 a1 k
 obtain ⟨ih0, ih1⟩ := fairwayref1_Sum.mono_l k
 unfold fairwayref1_Sum.f
 repeat' first
  | (with_reducible exact ih0 _ _ _)
  | (with_reducible exact ih1 _ _ _ _)
  | (with_reducible exact LeO.refl _)
  | (with_reducible exact LeO.none _)
  | (with_reducible refine LeO.ite ?_ ?_)
  | (with_reducible refine LeO.bind ?_ (fun _ => ?_))
  | exact ih0 _ _ _
  | exact ih1 _ _ _ _
  | exact LeO.none _
  | refine LeO.ite ?_ ?_
  | refine LeO.bind ?_ (fun _ => ?_)
set_option maxHeartbeats 8000000 in
set_option maxRecDepth 100000 in
theorem fairwayref1_Sum.calls (k : Nat) (a0 : Int) (a1 : ByteArray) (r : Int) (w : World) (h : fairwayref1_Sum.f k a0 a1 = some r) :
 Calls Try.prog 70 #[.int .u32 a0, .string a1] w fun e w' => e = .returned (.int .u32 r) ∧ Drawn0 w w' := by
 have H : (fairwayref1_Sum.l0 k (Go.bits .xor .u32 4294967295 a0) a1 0) = some r := h
 clear h
 have H' := Aside0.mk H
 clear H
 go_enter Try.func70, Try.ntmps70
 go_wp2
 go_loopg [0, 5] k (fun kq v0 v5 w' => ∃ (x0_1 : Int) (x5_1 : Int), v0 = .int .u32 x0_1 ∧ v5 = .int .i64 x5_1 ∧ Aside0 (fairwayref1_Sum.l0 kq x0_1 a1 x5_1 = some r) ∧ Aside0 (kq ≤ k) ∧ Drawn0 w w')
 case atStart => exact ⟨(Go.bits .xor .u32 4294967295 a0), (0), ap, ap, H', ⟨Nat.le_refl _⟩, dr⟩
 case round =>
  clear H'
  try clear p2
  obtain ⟨x0_1, x5_1, rfl, rfl, HA, HK1, ⟨m1, rfl⟩⟩ := hrel
  cases gk with
  | zero => exact absurd HA.out (by simp [fairwayref1_Sum.l0])
  | succ k1 =>
   have H := HA.out
   clear HA
   simp only [fairwayref1_Sum.l0] at H
   by_cases c3 : x5_1 < (a1.size : Int)
   ·rw [if_pos c3] at H
    have c3b0 : decide (x5_1 < (a1.size : Int)) = true := decide_eq_true c3
    clear c3
    by_cases c4 : 0 ≤ x5_1
    ·rw [if_pos c4] at H
     have c4b0 : decide (0 ≤ x5_1) = true := decide_eq_true c4
     clear c4
     have H' := Aside0.mk H
     clear H
     have p5 : 0 ≤ (x5_1 : Int) := od
     have q5 : x5_1 < (a1.size : Int) := od
     have hx5 := bt_at a1 x5_1
     replace p5 := eq_true p5
     replace q5 := eq_true q5
     go_wp2
     go_loopg [0, 6] k1 (fun kq v0 v6 w' => ∃ (x0_2 : Int) (x6_2 : Int), v0 = .int .u32 x0_2 ∧ v6 = .int .i64 x6_2 ∧ Aside0 (fairwayref1_Sum.l1 kq x0_2 a1 x5_1 x6_2 = some r) ∧ Aside0 (kq ≤ k1) ∧ Drawn0 w w')
     case atStart => exact ⟨(Go.bits .xor .u32 x0_1 ((bt a1 x5_1) % 4294967296)), (0), ap, ap, H', ⟨Nat.le_refl _⟩, dr⟩
     case round =>
      clear H'
      try clear p2
      try clear c3
      try clear c3b0
      try clear c4
      try clear c4b0
      try clear p5
      try clear q5
      try clear hx5
      try clear p2
      try clear p5
      try clear q5
      obtain ⟨x0_2, x6_2, rfl, rfl, HA, HK2, ⟨m2, rfl⟩⟩ := hrel
      cases gk with
      | zero => exact absurd HA.out (by simp [fairwayref1_Sum.l1])
      | succ k2 =>
       have H := HA.out
       clear HA
       simp only [fairwayref1_Sum.l1] at H
       by_cases c6 : x6_2 < 8
       ·rw [if_pos c6] at H
        have c6b0 : decide (x6_2 < 8) = true := decide_eq_true c6
        clear c6
        by_cases c7 : (Go.bits .and .u32 x0_2 1) = 1
        ·rw [if_pos c7] at H
         have c7b0 : ((Go.bits .and .u32 x0_2 1) == 1) = true := beq_iff_eq.mpr c7
         have c7b1 : ((Go.bits .and .u32 x0_2 1) != 1) = false := bne_eq_false_iff_eq.mpr c7
         clear c7
         have H' := Aside0.mk H
         clear H
         go_wp2
         go_roundg k2
         case measure => have := HK1.out; have := HK2.out; omega
         case rel => exact ⟨(Go.bits .xor .u32 (x0_2 / 2) 2197175160), (wrap64 (x6_2 + 1)), ap, ap, H', ⟨by have := HK1.out; have := HK2.out; omega⟩, dr⟩
        ·rw [if_neg c7] at H
         have c7b0 : ((Go.bits .and .u32 x0_2 1) == 1) = false := beq_eq_false_iff_ne.mpr c7
         have c7b1 : ((Go.bits .and .u32 x0_2 1) != 1) = true := bne_iff_ne.mpr c7
         have H' := Aside0.mk H
         clear H
         go_wp2
         go_roundg k2
         case measure => have := HK1.out; have := HK2.out; omega
         case rel => exact ⟨(x0_2 / 2), (wrap64 (x6_2 + 1)), ap, ap, H', ⟨by have := HK1.out; have := HK2.out; omega⟩, dr⟩
       ·rw [if_neg c6] at H
        have c6b0 : decide (x6_2 < 8) = false := decide_eq_false c6
        clear c6
        have H' := Aside0.mk H
        clear H
        go_wp2
        go_roundg k2
        case measure => have := HK1.out; have := HK2.out; omega
        case rel => exact ⟨(x0_2), (wrap64 (x5_1 + 1)), ap, ap, H', ⟨by have := HK1.out; have := HK2.out; omega⟩, dr⟩
    ·rw [if_neg c4] at H
     exact absurd H (by simp)
   ·rw [if_neg c3] at H
    have c3b0 : decide (x5_1 < (a1.size : Int)) = false := decide_eq_false c3
    clear c3
    obtain rfl := Option.some.inj H
    go_wp2
    go_ret
    exact ⟨ap, dr⟩

end Go.Proofs.Ytmabdfdmccbfnaa.P

-- written by a program of the proving session, out of the translation; Lean checks it
namespace Go.Proofs.Ytmabdfdmccbfnaa.P
open Go.RowKit Go.Proofs.Ytmabdfdmccbfnaa.Sq Go.Proofs.YtmabdfdmccbfnaaW.PrintWords Go.Proofs.YtmabdfdmccbfnaaW.PrintLast Go.Proofs.YtmabdfdmccbfnaaW.PrintMore
attribute [local go_sem] max2_int min2_int max_two min_two max_three min_three max_four min_four   -- for this text's walks alone
set_option linter.unusedVariables false
set_option linter.unusedSimpArgs false

/-! ### fairwayref10_Bytes: function 20 -/
def fairwayref10_Bytes.j0 : Nat → Int → Int → Int → ByteArray → ByteArray → Int → Bool → Option (ByteArray)
 | 0, _, _, _, _, _, _, _ => none
 | k + 1, x3, x218000, x218001, x218002, x218003, x218004, x218005 => (fairwayref1_Fixed.f k x218000 8).bind fun t218 => ((fairwayref1_Fixed.f k x218001 8).bind fun t219 => (if t218.size + t219.size ≤ 9223372036854775807 then ((some (([(x3) % 256] : List Int) : List Int)).bind fun y220 => (if (t218 ++ t219).size + (strOfNums y220).size ≤ 9223372036854775807 then ((fairwayref1_Fixed.f k (x218002.size : Int) 2).bind fun t223 => (if ((t218 ++ t219) ++ (strOfNums y220)).size + t223.size ≤ 9223372036854775807 then (if (((t218 ++ t219) ++ (strOfNums y220)) ++ t223).size + x218002.size ≤ 9223372036854775807 then (if ((((t218 ++ t219) ++ (strOfNums y220)) ++ t223) ++ x218002).size + x218003.size ≤ 9223372036854775807 then ((fairwayref1_Fixed.f k ((((((t218 ++ t219) ++ (strOfNums y220)) ++ t223) ++ x218002) ++ x218003).size : Int) 2).bind fun t224 => (if t224.size + (((((t218 ++ t219) ++ (strOfNums y220)) ++ t223) ++ x218002) ++ x218003).size ≤ 9223372036854775807 then ((fairwayref1_Sum.f k 0 (t224 ++ (((((t218 ++ t219) ++ (strOfNums y220)) ++ t223) ++ x218002) ++ x218003))).bind fun t225 => ((fairwayref1_Fixed.f k (wrap64 (t225)) 4).bind fun t226 => (if t224.size + t226.size ≤ 9223372036854775807 then (if (t224 ++ t226).size + (((((t218 ++ t219) ++ (strOfNums y220)) ++ t223) ++ x218002) ++ x218003).size ≤ 9223372036854775807 then (some ((t224 ++ t226) ++ (((((t218 ++ t219) ++ (strOfNums y220)) ++ t223) ++ x218002) ++ x218003))) else (none)) else (none)))) else (none))) else (none)) else (none)) else (none))) else (none))) else (none)))
def fairwayref10_Bytes.f (k : Nat) (a0_0 : Int) (a0_1 : Int) (a0_2 : ByteArray) (a0_3 : ByteArray) (a0_4 : Int) (a0_5 : Bool) : Option (ByteArray) := if a0_5 = true then (fairwayref10_Bytes.j0 k (wrap64 (a0_4 + 4)) a0_0 a0_1 a0_2 a0_3 a0_4 a0_5) else (fairwayref10_Bytes.j0 k a0_4 a0_0 a0_1 a0_2 a0_3 a0_4 a0_5)
theorem fairwayref10_Bytes.mono_l : ∀ k, (∀ y0 y1 y2 y3 y4 y5 y6, LeO (fairwayref10_Bytes.j0 k y0 y1 y2 y3 y4 y5 y6) (fairwayref10_Bytes.j0 (k + 1) y0 y1 y2 y3 y4 y5 y6))
 | 0 => fun _ _ _ _ _ _ _ r h => by simp [fairwayref10_Bytes.j0] at h
 | k + 1 => by
  have ih0 := fairwayref10_Bytes.mono_l k
  ·intro y0 y1 y2 y3 y4 y5 y6
   unfold fairwayref10_Bytes.j0
   repeat' first
   | (with_reducible exact ih0 _ _ _ _ _ _ _)
   | (with_reducible exact fairwayref1_Fixed.mono _ _ _)
   | (with_reducible exact fairwayref1_Sum.mono _ _ _)
   | (with_reducible exact LeO.refl _)
   | (with_reducible exact LeO.none _)
   | (with_reducible refine LeO.ite ?_ ?_)
   | (with_reducible refine LeO.bind ?_ (fun _ => ?_))
   | exact ih0 _ _ _ _ _ _ _
   | exact fairwayref1_Fixed.mono _ _ _
   | exact fairwayref1_Sum.mono _ _ _
   | exact LeO.none _
   | refine LeO.ite ?_ ?_
   | refine LeO.bind ?_ (fun _ => ?_)
theorem fairwayref10_Bytes.mono : ∀ a0 a1 a2 a3 a4 a5 k, LeO (fairwayref10_Bytes.f k a0 a1 a2 a3 a4 a5) (fairwayref10_Bytes.f (k + 1) a0 a1 a2 a3 a4 a5) := by
 intro a0 a1 a2 a3 a4 a5 k
 have ih0 := fairwayref10_Bytes.mono_l k
 unfold fairwayref10_Bytes.f
 repeat' first
  | (with_reducible exact ih0 _ _ _ _ _ _ _)
  | (with_reducible exact fairwayref1_Fixed.mono _ _ _)
  | (with_reducible exact fairwayref1_Sum.mono _ _ _)
  | (with_reducible exact LeO.refl _)
  | (with_reducible exact LeO.none _)
  | (with_reducible refine LeO.ite ?_ ?_)
  | (with_reducible refine LeO.bind ?_ (fun _ => ?_))
  | exact ih0 _ _ _ _ _ _ _
  | exact fairwayref1_Fixed.mono _ _ _
  | exact fairwayref1_Sum.mono _ _ _
  | exact LeO.none _
  | refine LeO.ite ?_ ?_
  | refine LeO.bind ?_ (fun _ => ?_)
def fairwayref10_Bytes.T4 : Bool × List (List Nat × List Nat) := (true, [([], []), ([0], [0]), ([1], [1]), ([], []), ([3], [3]), ([4, 2], [4]), ([2, 5], [2, 5]), ([], []), ([7], [7]), ([8], [8]), ([9], [9]), ([6, 10], [6, 10]), ([], []), ([12], [12]), ([13], [13]), ([14, 5], [14]), ([11, 15], [11, 15]), ([], []), ([17], [17]), ([16, 18], [16, 18]), ([], []), ([20], [20]), ([19, 21], [19, 21]), ([22, 15, 0, 1, 2, 3, 4, 5, 6, 7, 8, 9, 10, 11, 12, 13, 14, 15, 16, 17, 18, 19, 20, 21, 22], [22])])
def fairwayref10_Bytes.B4 : List Nat := [0, 1, 3, 0, 8, 31, 63, 0, 128, 384, 896, 2047, 0, 4096, 12288, 28735, 65535, 0, 131072, 524287, 0, 1048576, 4194303, 8388607]
theorem fairwayref10_Bytes.tab4 : rtab .any (opsOf Try.f20 4) = fairwayref10_Bytes.T4 := by kernel_rfl
theorem fairwayref10_Bytes.bits4 : waitsOk fairwayref10_Bytes.T4.2 fairwayref10_Bytes.B4 = true := by kernel_rfl
set_option maxHeartbeats 8000000 in
set_option maxRecDepth 100000 in
theorem fairwayref10_Bytes.calls (k : Nat) (a0_0 : Int) (a0_1 : Int) (a0_2 : ByteArray) (a0_3 : ByteArray) (a0_4 : Int) (a0_5 : Bool) (r : ByteArray) (w : World) (h : fairwayref10_Bytes.f k a0_0 a0_1 a0_2 a0_3 a0_4 a0_5 = some r) :
 Calls Try.prog 20 #[.agg #[.int .i64 a0_0, .int .i64 a0_1, .string a0_2, .string a0_3, .int .i64 a0_4, .bool a0_5]] w fun e w' => e = .returned (.string r) ∧ Below w.heap.size w w' := by
 have hu25 := Try.underlying25
 have HB := Aside0.mk (Below.refl w.heap.size w)
 have H : (if a0_5 = true then (fairwayref10_Bytes.j0 k (wrap64 (a0_4 + 4)) a0_0 a0_1 a0_2 a0_3 a0_4 a0_5) else (fairwayref10_Bytes.j0 k a0_4 a0_0 a0_1 a0_2 a0_3 a0_4 a0_5)) = some r := h
 clear h
 have HC2 := Aside0.mk H
 clear H
 go_enter Try.func20, Try.ntmps20
 go_upto_if 9 with (first | ((with_reducible refine gate_dst (N := 1) rfl ?_); refine box_event ?hg (N := 1) ?hd (cs := #[.int .i64 a0_0, .int .i64 a0_1, .string a0_2, .string a0_3, .int .i64 a0_4, .bool a0_5]) (t := 25) ?hr ?_; (case hd => rfl); (case hg => rfl); (case hr => first | (go_simp; done) | (go_simp; rfl)); intro gb217 hg w3 hbox hb; have BK217 := Aside0.mk (hbox); have GW217 := Aside0.mk ((by rw [hg]; exact (below_size bo) : w.heap.size ≤ gb217)); have GE217 := Aside0.mk ((by rw [hg]; exact (below_size bo) : w.heap.size ≤ gb217)); replace HB := Aside0.mk (below_step bo hb); clear hb hbox hg; obtain ⟨hcz4_0, hcz4_1, hcz4_2, hcz4_3, hcz4_4, hcz4_5⟩ := cl6 BK217.out; obtain ⟨hfz4_0, hfz4_1, hfz4_2, hfz4_3, hfz4_4, hfz4_5⟩ := fz6 BK217.out))
 (try simp only [Act.put, List.setIfInBounds_toArray, List.set_cons_zero, List.set_cons_succ])
 go_cut [3] (fun v3 wc => ∃ (kq : Nat) (x3_1 : Int), v3 = .int .i64 x3_1 ∧ Aside0 (fairwayref10_Bytes.j0 kq x3_1 a0_0 a0_1 a0_2 a0_3 a0_4 a0_5 = some r) ∧ Aside0 (kq ≤ k) ∧ Aside0 (wc.heap[gb217]? = some (.cells #[.int .i64 a0_0, .int .i64 a0_1, .string a0_2, .string a0_3, .int .i64 a0_4, .bool a0_5] 25 (0, 0))) ∧ Aside0 (Below w.heap.size w wc))
 case first =>
  have H := HC2.out
  clear HC2
  by_cases c5 : a0_5 = true
  ·subst c5
   have H1 : (fairwayref10_Bytes.j0 k (wrap64 (a0_4 + 4)) a0_0 a0_1 a0_2 a0_3 a0_4 true) = some r := by rw [if_pos rfl] at H; exact H
   clear H
   have H := H1
   clear H1
   have H' := Aside0.mk H
   clear H
   go_wp2
   go_meet
   case rel => exact ⟨_, (wrap64 (a0_4 + 4)), ap, H', ⟨by first | omega | exact Nat.le_refl _⟩, ⟨by (with_reducible repeat (first | refine blk_drewN ?_ _ | refine blk_drew ?_ | refine blk_alloc ?_ _)); exact BK217.out⟩, ⟨bo⟩⟩
  ·replace c5 := Bool.eq_false_iff.mpr c5
   subst c5
   have H1 : (fairwayref10_Bytes.j0 k a0_4 a0_0 a0_1 a0_2 a0_3 a0_4 false) = some r := by rw [if_neg (show ¬ (false = true) by decide)] at H; exact H
   clear H
   have H := H1
   clear H1
   have H' := Aside0.mk H
   clear H
   go_wp2
   go_meet
   case rel => exact ⟨_, (a0_4), ap, H', ⟨by first | omega | exact Nat.le_refl _⟩, ⟨by (with_reducible repeat (first | refine blk_drewN ?_ _ | refine blk_drew ?_ | refine blk_alloc ?_ _)); exact BK217.out⟩, ⟨bo⟩⟩
 case rest =>
  clear HC2
  try clear c2
  try clear p2
  try clear c5
  try clear hcz4_0
  try clear hcz4_1
  try clear hcz4_2
  try clear hcz4_3
  try clear hcz4_4
  try clear hcz4_5
  try clear hfz4_0
  try clear hfz4_1
  try clear hfz4_2
  try clear hfz4_3
  try clear hfz4_4
  try clear hfz4_5
  obtain ⟨kq, x3_1, rfl, HA, HJ1, BK217, HB⟩ := hcut
  cases kq with
  | zero => exact absurd HA.out (by simp [fairwayref10_Bytes.j0])
  | succ kj1 =>
   have H := HA.out
   clear HA
   simp only [fairwayref10_Bytes.j0] at H
   replace H := Option.bind_eq_some_iff.mp H
   obtain ⟨t218, A60, H⟩ := H
   replace H : ((fairwayref1_Fixed.f kj1 a0_1 8).bind fun t219 => (if t218.size + t219.size ≤ 9223372036854775807 then ((some (([(x3_1) % 256] : List Int) : List Int)).bind fun y220 => (if (t218 ++ t219).size + (strOfNums y220).size ≤ 9223372036854775807 then ((fairwayref1_Fixed.f kj1 (a0_2.size : Int) 2).bind fun t223 => (if ((t218 ++ t219) ++ (strOfNums y220)).size + t223.size ≤ 9223372036854775807 then (if (((t218 ++ t219) ++ (strOfNums y220)) ++ t223).size + a0_2.size ≤ 9223372036854775807 then (if ((((t218 ++ t219) ++ (strOfNums y220)) ++ t223) ++ a0_2).size + a0_3.size ≤ 9223372036854775807 then ((fairwayref1_Fixed.f kj1 ((((((t218 ++ t219) ++ (strOfNums y220)) ++ t223) ++ a0_2) ++ a0_3).size : Int) 2).bind fun t224 => (if t224.size + (((((t218 ++ t219) ++ (strOfNums y220)) ++ t223) ++ a0_2) ++ a0_3).size ≤ 9223372036854775807 then ((fairwayref1_Sum.f kj1 0 (t224 ++ (((((t218 ++ t219) ++ (strOfNums y220)) ++ t223) ++ a0_2) ++ a0_3))).bind fun t225 => ((fairwayref1_Fixed.f kj1 (wrap64 (t225)) 4).bind fun t226 => (if t224.size + t226.size ≤ 9223372036854775807 then (if (t224 ++ t226).size + (((((t218 ++ t219) ++ (strOfNums y220)) ++ t223) ++ a0_2) ++ a0_3).size ≤ 9223372036854775807 then (some ((t224 ++ t226) ++ (((((t218 ++ t219) ++ (strOfNums y220)) ++ t223) ++ a0_2) ++ a0_3))) else (none)) else (none)))) else (none))) else (none)) else (none)) else (none))) else (none))) else (none))) = some r := H
   have A6 := Aside0.mk A60
   clear A60
   replace H := Option.bind_eq_some_iff.mp H
   obtain ⟨t219, A70, H⟩ := H
   replace H : (if t218.size + t219.size ≤ 9223372036854775807 then ((some (([(x3_1) % 256] : List Int) : List Int)).bind fun y220 => (if (t218 ++ t219).size + (strOfNums y220).size ≤ 9223372036854775807 then ((fairwayref1_Fixed.f kj1 (a0_2.size : Int) 2).bind fun t223 => (if ((t218 ++ t219) ++ (strOfNums y220)).size + t223.size ≤ 9223372036854775807 then (if (((t218 ++ t219) ++ (strOfNums y220)) ++ t223).size + a0_2.size ≤ 9223372036854775807 then (if ((((t218 ++ t219) ++ (strOfNums y220)) ++ t223) ++ a0_2).size + a0_3.size ≤ 9223372036854775807 then ((fairwayref1_Fixed.f kj1 ((((((t218 ++ t219) ++ (strOfNums y220)) ++ t223) ++ a0_2) ++ a0_3).size : Int) 2).bind fun t224 => (if t224.size + (((((t218 ++ t219) ++ (strOfNums y220)) ++ t223) ++ a0_2) ++ a0_3).size ≤ 9223372036854775807 then ((fairwayref1_Sum.f kj1 0 (t224 ++ (((((t218 ++ t219) ++ (strOfNums y220)) ++ t223) ++ a0_2) ++ a0_3))).bind fun t225 => ((fairwayref1_Fixed.f kj1 (wrap64 (t225)) 4).bind fun t226 => (if t224.size + t226.size ≤ 9223372036854775807 then (if (t224 ++ t226).size + (((((t218 ++ t219) ++ (strOfNums y220)) ++ t223) ++ a0_2) ++ a0_3).size ≤ 9223372036854775807 then (some ((t224 ++ t226) ++ (((((t218 ++ t219) ++ (strOfNums y220)) ++ t223) ++ a0_2) ++ a0_3))) else (none)) else (none)))) else (none))) else (none)) else (none)) else (none))) else (none))) else (none)) = some r := H
   have A7 := Aside0.mk A70
   clear A70
   by_cases c8 : t218.size + t219.size ≤ 9223372036854775807
   ·rw [if_pos c8] at H
    have c8b0 := eq_true c8
    have c8b1 : decide (t218.size + t219.size ≤ 9223372036854775807) = true := decide_eq_true c8
    try have c8b2 : (9223372036854775807 < t218.size + t219.size) = False := eq_false (Nat.not_lt.2 c8)
    obtain ⟨y220, hy220⟩ : ∃ y_ : List Int, y_ = (([(x3_1) % 256] : List Int)) := ⟨_, rfl⟩
    replace H : (if (t218 ++ t219).size + (strOfNums y220).size ≤ 9223372036854775807 then ((fairwayref1_Fixed.f kj1 (a0_2.size : Int) 2).bind fun t223 => (if ((t218 ++ t219) ++ (strOfNums y220)).size + t223.size ≤ 9223372036854775807 then (if (((t218 ++ t219) ++ (strOfNums y220)) ++ t223).size + a0_2.size ≤ 9223372036854775807 then (if ((((t218 ++ t219) ++ (strOfNums y220)) ++ t223) ++ a0_2).size + a0_3.size ≤ 9223372036854775807 then ((fairwayref1_Fixed.f kj1 ((((((t218 ++ t219) ++ (strOfNums y220)) ++ t223) ++ a0_2) ++ a0_3).size : Int) 2).bind fun t224 => (if t224.size + (((((t218 ++ t219) ++ (strOfNums y220)) ++ t223) ++ a0_2) ++ a0_3).size ≤ 9223372036854775807 then ((fairwayref1_Sum.f kj1 0 (t224 ++ (((((t218 ++ t219) ++ (strOfNums y220)) ++ t223) ++ a0_2) ++ a0_3))).bind fun t225 => ((fairwayref1_Fixed.f kj1 (wrap64 (t225)) 4).bind fun t226 => (if t224.size + t226.size ≤ 9223372036854775807 then (if (t224 ++ t226).size + (((((t218 ++ t219) ++ (strOfNums y220)) ++ t223) ++ a0_2) ++ a0_3).size ≤ 9223372036854775807 then (some ((t224 ++ t226) ++ (((((t218 ++ t219) ++ (strOfNums y220)) ++ t223) ++ a0_2) ++ a0_3))) else (none)) else (none)))) else (none))) else (none)) else (none)) else (none))) else (none)) = some r := by first | (rw [hy220]; with_reducible exact H) | (have H2_ := (Option.bind_some _ _).symm.trans H; rw [hy220]; with_reducible exact H2_) | (have H2_ := (Option.bind_some _ _).symm.trans H; with_reducible exact H2_) | with_reducible exact H | (rw [hy220]; exact H) | exact H
    have Ny220 := Aside0.mk hy220
    clear hy220
    by_cases c9 : (t218 ++ t219).size + (strOfNums y220).size ≤ 9223372036854775807
    ·rw [if_pos c9] at H
     have c9b0 := eq_true c9
     have c9b1 : decide ((t218 ++ t219).size + (strOfNums y220).size ≤ 9223372036854775807) = true := decide_eq_true c9
     try have c9b2 : (9223372036854775807 < (t218 ++ t219).size + (strOfNums y220).size) = False := eq_false (Nat.not_lt.2 c9)
     (try (have c9n2 := c9b2; simp only [ByteArray.size_append] at c9n2))
     (try (have c9n1 := c9b1; simp only [ByteArray.size_append] at c9n1))
     replace H := Option.bind_eq_some_iff.mp H
     obtain ⟨t223, A100, H⟩ := H
     replace H : (if ((t218 ++ t219) ++ (strOfNums y220)).size + t223.size ≤ 9223372036854775807 then (if (((t218 ++ t219) ++ (strOfNums y220)) ++ t223).size + a0_2.size ≤ 9223372036854775807 then (if ((((t218 ++ t219) ++ (strOfNums y220)) ++ t223) ++ a0_2).size + a0_3.size ≤ 9223372036854775807 then ((fairwayref1_Fixed.f kj1 ((((((t218 ++ t219) ++ (strOfNums y220)) ++ t223) ++ a0_2) ++ a0_3).size : Int) 2).bind fun t224 => (if t224.size + (((((t218 ++ t219) ++ (strOfNums y220)) ++ t223) ++ a0_2) ++ a0_3).size ≤ 9223372036854775807 then ((fairwayref1_Sum.f kj1 0 (t224 ++ (((((t218 ++ t219) ++ (strOfNums y220)) ++ t223) ++ a0_2) ++ a0_3))).bind fun t225 => ((fairwayref1_Fixed.f kj1 (wrap64 (t225)) 4).bind fun t226 => (if t224.size + t226.size ≤ 9223372036854775807 then (if (t224 ++ t226).size + (((((t218 ++ t219) ++ (strOfNums y220)) ++ t223) ++ a0_2) ++ a0_3).size ≤ 9223372036854775807 then (some ((t224 ++ t226) ++ (((((t218 ++ t219) ++ (strOfNums y220)) ++ t223) ++ a0_2) ++ a0_3))) else (none)) else (none)))) else (none))) else (none)) else (none)) else (none)) = some r := H
     have A10 := Aside0.mk A100
     clear A100
     by_cases c11 : ((t218 ++ t219) ++ (strOfNums y220)).size + t223.size ≤ 9223372036854775807
     ·rw [if_pos c11] at H
      have c11b0 := eq_true c11
      have c11b1 : decide (((t218 ++ t219) ++ (strOfNums y220)).size + t223.size ≤ 9223372036854775807) = true := decide_eq_true c11
      try have c11b2 : (9223372036854775807 < ((t218 ++ t219) ++ (strOfNums y220)).size + t223.size) = False := eq_false (Nat.not_lt.2 c11)
      (try (have c11n2 := c11b2; simp only [ByteArray.size_append] at c11n2))
      (try (have c11n1 := c11b1; simp only [ByteArray.size_append] at c11n1))
      by_cases c12 : (((t218 ++ t219) ++ (strOfNums y220)) ++ t223).size + a0_2.size ≤ 9223372036854775807
      ·rw [if_pos c12] at H
       have c12b0 := eq_true c12
       have c12b1 : decide ((((t218 ++ t219) ++ (strOfNums y220)) ++ t223).size + a0_2.size ≤ 9223372036854775807) = true := decide_eq_true c12
       try have c12b2 : (9223372036854775807 < (((t218 ++ t219) ++ (strOfNums y220)) ++ t223).size + a0_2.size) = False := eq_false (Nat.not_lt.2 c12)
       (try (have c12n2 := c12b2; simp only [ByteArray.size_append] at c12n2))
       (try (have c12n1 := c12b1; simp only [ByteArray.size_append] at c12n1))
       by_cases c13 : ((((t218 ++ t219) ++ (strOfNums y220)) ++ t223) ++ a0_2).size + a0_3.size ≤ 9223372036854775807
       ·rw [if_pos c13] at H
        have c13b0 := eq_true c13
        have c13b1 : decide (((((t218 ++ t219) ++ (strOfNums y220)) ++ t223) ++ a0_2).size + a0_3.size ≤ 9223372036854775807) = true := decide_eq_true c13
        try have c13b2 : (9223372036854775807 < ((((t218 ++ t219) ++ (strOfNums y220)) ++ t223) ++ a0_2).size + a0_3.size) = False := eq_false (Nat.not_lt.2 c13)
        (try (have c13n2 := c13b2; simp only [ByteArray.size_append] at c13n2))
        (try (have c13n1 := c13b1; simp only [ByteArray.size_append] at c13n1))
        replace H := Option.bind_eq_some_iff.mp H
        obtain ⟨t224, A140, H⟩ := H
        replace H : (if t224.size + (((((t218 ++ t219) ++ (strOfNums y220)) ++ t223) ++ a0_2) ++ a0_3).size ≤ 9223372036854775807 then ((fairwayref1_Sum.f kj1 0 (t224 ++ (((((t218 ++ t219) ++ (strOfNums y220)) ++ t223) ++ a0_2) ++ a0_3))).bind fun t225 => ((fairwayref1_Fixed.f kj1 (wrap64 (t225)) 4).bind fun t226 => (if t224.size + t226.size ≤ 9223372036854775807 then (if (t224 ++ t226).size + (((((t218 ++ t219) ++ (strOfNums y220)) ++ t223) ++ a0_2) ++ a0_3).size ≤ 9223372036854775807 then (some ((t224 ++ t226) ++ (((((t218 ++ t219) ++ (strOfNums y220)) ++ t223) ++ a0_2) ++ a0_3))) else (none)) else (none)))) else (none)) = some r := H
        have A14 := Aside0.mk A140
        clear A140
        by_cases c15 : t224.size + (((((t218 ++ t219) ++ (strOfNums y220)) ++ t223) ++ a0_2) ++ a0_3).size ≤ 9223372036854775807
        ·rw [if_pos c15] at H
         have c15b0 := eq_true c15
         have c15b1 : decide (t224.size + (((((t218 ++ t219) ++ (strOfNums y220)) ++ t223) ++ a0_2) ++ a0_3).size ≤ 9223372036854775807) = true := decide_eq_true c15
         try have c15b2 : (9223372036854775807 < t224.size + (((((t218 ++ t219) ++ (strOfNums y220)) ++ t223) ++ a0_2) ++ a0_3).size) = False := eq_false (Nat.not_lt.2 c15)
         (try (have c15n2 := c15b2; simp only [ByteArray.size_append] at c15n2))
         (try (have c15n1 := c15b1; simp only [ByteArray.size_append] at c15n1))
         replace H := Option.bind_eq_some_iff.mp H
         obtain ⟨t225, A160, H⟩ := H
         replace H : ((fairwayref1_Fixed.f kj1 (wrap64 (t225)) 4).bind fun t226 => (if t224.size + t226.size ≤ 9223372036854775807 then (if (t224 ++ t226).size + (((((t218 ++ t219) ++ (strOfNums y220)) ++ t223) ++ a0_2) ++ a0_3).size ≤ 9223372036854775807 then (some ((t224 ++ t226) ++ (((((t218 ++ t219) ++ (strOfNums y220)) ++ t223) ++ a0_2) ++ a0_3))) else (none)) else (none))) = some r := H
         have A16 := Aside0.mk A160
         clear A160
         replace H := Option.bind_eq_some_iff.mp H
         obtain ⟨t226, A170, H⟩ := H
         replace H : (if t224.size + t226.size ≤ 9223372036854775807 then (if (t224 ++ t226).size + (((((t218 ++ t219) ++ (strOfNums y220)) ++ t223) ++ a0_2) ++ a0_3).size ≤ 9223372036854775807 then (some ((t224 ++ t226) ++ (((((t218 ++ t219) ++ (strOfNums y220)) ++ t223) ++ a0_2) ++ a0_3))) else (none)) else (none)) = some r := H
         have A17 := Aside0.mk A170
         clear A170
         by_cases c18 : t224.size + t226.size ≤ 9223372036854775807
         ·rw [if_pos c18] at H
          have c18b0 := eq_true c18
          have c18b1 : decide (t224.size + t226.size ≤ 9223372036854775807) = true := decide_eq_true c18
          try have c18b2 : (9223372036854775807 < t224.size + t226.size) = False := eq_false (Nat.not_lt.2 c18)
          by_cases c19 : (t224 ++ t226).size + (((((t218 ++ t219) ++ (strOfNums y220)) ++ t223) ++ a0_2) ++ a0_3).size ≤ 9223372036854775807
          ·rw [if_pos c19] at H
           have c19b0 := eq_true c19
           have c19b1 : decide ((t224 ++ t226).size + (((((t218 ++ t219) ++ (strOfNums y220)) ++ t223) ++ a0_2) ++ a0_3).size ≤ 9223372036854775807) = true := decide_eq_true c19
           try have c19b2 : (9223372036854775807 < (t224 ++ t226).size + (((((t218 ++ t219) ++ (strOfNums y220)) ++ t223) ++ a0_2) ++ a0_3).size) = False := eq_false (Nat.not_lt.2 c19)
           (try (have c19n2 := c19b2; simp only [ByteArray.size_append] at c19n2))
           (try (have c19n1 := c19b1; simp only [ByteArray.size_append] at c19n1))
           obtain rfl := Option.some.inj H
           try go_wp2
           replace BK217 := Aside0.mk (blk_drew BK217.out)
           replace HB := Aside0.mk (below_drew1 HB.out)
           refine start_ (n := 24) (S := fun w' => w'.cell? ⟨gb217, 0, none⟩ = some (.int .i64 a0_0) ∧ w'.cell? ⟨gb217, 1, none⟩ = some (.int .i64 a0_1) ∧ w'.cell? ⟨gb217, 2, none⟩ = some (.string a0_2) ∧ w'.cell? ⟨gb217, 3, none⟩ = some (.string a0_3) ∧ w'.cell? ⟨gb217, 4, none⟩ = some (.int .i64 a0_4) ∧ w'.cell? ⟨gb217, 5, none⟩ = some (.bool a0_5)) (ds := []) #[O,O,O,O,O,O,O,O,O,O,O,O,O,O,O,O,O,O,O,O,O,O,O,O] (by kernel_rfl) rfl rfl ⟨(blk_cell BK217.out 0).trans rfl, (blk_cell BK217.out 1).trans rfl, (blk_cell BK217.out 2).trans rfl, (blk_cell BK217.out 3).trans rfl, (blk_cell BK217.out 4).trans rfl, (blk_cell BK217.out 5).trans rfl⟩ (fun hHeld => ?_); refine with_tabW fairwayref10_Bytes.tab4 fairwayref10_Bytes.bits4 (fun HT_ HW_ => ?_)
           generalize wc.drew = w20 at BK217 HB hHeld ⊢
           refine pz (i := 0) (N := some 12) #[I,O,O,O,O,O,O,O,O,O,O,O,O,O,O,O,O,O,O,O,O,O,O,O] ?_
           refine pz (i := 3) (N := some 15) #[I,O,O,I,O,O,O,O,O,O,O,O,O,O,O,O,O,O,O,O,O,O,O,O] ?_
           refine pz (i := 7) (N := some 19) #[I,O,O,I,O,O,O,I,O,O,O,O,O,O,O,O,O,O,O,O,O,O,O,O] ?_
           refine pz (i := 8) (N := some 20) #[I,O,O,I,O,O,O,I,I,O,O,O,O,O,O,O,O,O,O,O,O,O,O,O] ?_
           refine pz (i := 12) (N := some 24) #[I,O,O,I,O,O,O,I,I,O,O,O,I,O,O,O,O,O,O,O,O,O,O,O] ?_
           refine pz (i := 17) (N := some 29) #[I,O,O,I,O,O,O,I,I,O,O,O,I,O,O,O,O,I,O,O,O,O,O,O] ?_
           refine pz (i := 20) (N := some 32) #[I,O,O,I,O,O,O,I,I,O,O,O,I,O,O,O,O,I,O,O,I,O,O,O] ?_
           refine tz (i := 1) (N := some 13) #[I,I,O,I,O,O,O,I,I,O,O,O,I,O,O,O,O,I,O,O,I,O,O,O] ?_
           refine tz (i := 4) (N := some 16) #[I,I,O,I,I,O,O,I,I,O,O,O,I,O,O,O,O,I,O,O,I,O,O,O] ?_
           refine tz (i := 13) (N := some 25) #[I,I,O,I,I,O,O,I,I,O,O,O,I,I,O,O,O,I,O,O,I,O,O,O] ?_
           refine pz (i := 14) (N := some 26) #[I,I,O,I,I,O,O,I,I,O,O,O,I,I,I,O,O,I,O,O,I,O,O,O] ?_
           refine tz (i := 18) (N := some 30) #[I,I,O,I,I,O,O,I,I,O,O,O,I,I,I,O,O,I,I,O,I,O,O,O] ?_
           refine tz (i := 21) (N := some 33) #[I,I,O,I,I,O,O,I,I,O,O,O,I,I,I,O,O,I,I,O,I,I,O,O] ?_
           refine join_ (σ := Value) 4 #[I,I,I,I,I,I,I,I,I,I,I,I,I,I,I,I,O,I,I,O,I,I,O,O] (fun s_ => [(14, .string t218), (17, .string t219), (21, s_), (22, .string (strOfNums y220)), (27, .string t223), (18, .string (t218 ++ t219)), (23, .string ((t218 ++ t219) ++ (strOfNums y220)))]) (fun s_ w' => (w'.cell? ⟨gb217, 0, none⟩ = some (.int .i64 a0_0) ∧ w'.cell? ⟨gb217, 1, none⟩ = some (.int .i64 a0_1) ∧ w'.cell? ⟨gb217, 2, none⟩ = some (.string a0_2) ∧ w'.cell? ⟨gb217, 3, none⟩ = some (.string a0_3) ∧ w'.cell? ⟨gb217, 4, none⟩ = some (.int .i64 a0_4) ∧ w'.cell? ⟨gb217, 5, none⟩ = some (.bool a0_5)) ∧ (Kd.R (Kd.int .u8) 5 w' w.heap.size (fun _ => True) s_ y220) ∧ (w'.heap[gb217]? = some (.cells #[.int .i64 a0_0, .int .i64 a0_1, .string a0_2, .string a0_3, .int .i64 a0_4, .bool a0_5] 25 (0, 0))) ∧ (Below w.heap.size w w')) ?_ ?_
           rotate_left
           ·intro hJ2_5_9_10_15
            refine join_ (σ := Value) 5 #[I,I,I,I,I,I,I,I,I,I,I,I,I,I,I,O,O,I,I,O,I,I,O,O] (fun s_ => [(14, .string t218), (17, .string t219), (21, s_), (22, .string (strOfNums y220)), (18, .string (t218 ++ t219)), (23, .string ((t218 ++ t219) ++ (strOfNums y220)))]) (fun s_ w' => (w'.cell? ⟨gb217, 0, none⟩ = some (.int .i64 a0_0) ∧ w'.cell? ⟨gb217, 1, none⟩ = some (.int .i64 a0_1) ∧ w'.cell? ⟨gb217, 2, none⟩ = some (.string a0_2) ∧ w'.cell? ⟨gb217, 3, none⟩ = some (.string a0_3) ∧ w'.cell? ⟨gb217, 4, none⟩ = some (.int .i64 a0_4) ∧ w'.cell? ⟨gb217, 5, none⟩ = some (.bool a0_5)) ∧ (Kd.R (Kd.int .u8) 5 w' w.heap.size (fun _ => True) s_ y220) ∧ (w'.heap[gb217]? = some (.cells #[.int .i64 a0_0, .int .i64 a0_1, .string a0_2, .string a0_3, .int .i64 a0_4, .bool a0_5] 25 (0, 0))) ∧ (Below w.heap.size w w')) ?_ ?_
            rotate_left
            ·intro hJ2_5_9_10
             refine join_ (σ := Value) 6 #[I,I,I,I,I,I,I,I,I,I,O,O,I,I,I,I,O,I,I,O,I,I,O,O] (fun s_ => [(14, .string t218), (17, .string t219), (21, s_), (27, .string t223), (18, .string (t218 ++ t219))]) (fun s_ w' => (w'.cell? ⟨gb217, 0, none⟩ = some (.int .i64 a0_0) ∧ w'.cell? ⟨gb217, 1, none⟩ = some (.int .i64 a0_1) ∧ w'.cell? ⟨gb217, 2, none⟩ = some (.string a0_2) ∧ w'.cell? ⟨gb217, 3, none⟩ = some (.string a0_3) ∧ w'.cell? ⟨gb217, 4, none⟩ = some (.int .i64 a0_4) ∧ w'.cell? ⟨gb217, 5, none⟩ = some (.bool a0_5)) ∧ (Kd.R (Kd.int .u8) 5 w' w.heap.size (fun _ => True) s_ y220) ∧ (w'.heap[gb217]? = some (.cells #[.int .i64 a0_0, .int .i64 a0_1, .string a0_2, .string a0_3, .int .i64 a0_4, .bool a0_5] 25 (0, 0))) ∧ (Below w.heap.size w w')) ?_ ?_
             rotate_left
             ·intro hJ2_5_9_15
              refine join_ (σ := Value) 7 #[I,I,I,I,I,I,I,I,I,I,O,O,I,I,I,O,O,I,I,O,I,I,O,O] (fun s_ => [(14, .string t218), (17, .string t219), (21, s_), (18, .string (t218 ++ t219))]) (fun s_ w' => (w'.cell? ⟨gb217, 0, none⟩ = some (.int .i64 a0_0) ∧ w'.cell? ⟨gb217, 1, none⟩ = some (.int .i64 a0_1) ∧ w'.cell? ⟨gb217, 2, none⟩ = some (.string a0_2) ∧ w'.cell? ⟨gb217, 3, none⟩ = some (.string a0_3) ∧ w'.cell? ⟨gb217, 4, none⟩ = some (.int .i64 a0_4) ∧ w'.cell? ⟨gb217, 5, none⟩ = some (.bool a0_5)) ∧ (Kd.R (Kd.int .u8) 5 w' w.heap.size (fun _ => True) s_ y220) ∧ (w'.heap[gb217]? = some (.cells #[.int .i64 a0_0, .int .i64 a0_1, .string a0_2, .string a0_3, .int .i64 a0_4, .bool a0_5] 25 (0, 0))) ∧ (Below w.heap.size w w')) ?_ ?_
              rotate_left
              ·intro hJ2_5_9
               refine join_ (σ := Unit) 7 #[I,I,I,I,I,I,I,I,I,O,O,O,I,I,I,I,O,I,I,O,I,I,O,O] (fun s_ => [(14, .string t218), (17, .string t219), (27, .string t223), (18, .string (t218 ++ t219))]) (fun s_ w' => (w'.cell? ⟨gb217, 0, none⟩ = some (.int .i64 a0_0) ∧ w'.cell? ⟨gb217, 1, none⟩ = some (.int .i64 a0_1) ∧ w'.cell? ⟨gb217, 2, none⟩ = some (.string a0_2) ∧ w'.cell? ⟨gb217, 3, none⟩ = some (.string a0_3) ∧ w'.cell? ⟨gb217, 4, none⟩ = some (.int .i64 a0_4) ∧ w'.cell? ⟨gb217, 5, none⟩ = some (.bool a0_5)) ∧ (w'.heap[gb217]? = some (.cells #[.int .i64 a0_0, .int .i64 a0_1, .string a0_2, .string a0_3, .int .i64 a0_4, .bool a0_5] 25 (0, 0))) ∧ (Below w.heap.size w w')) ?_ ?_
               rotate_left
               ·intro hJ2_5_15
                refine join_ (σ := Value) 8 #[I,I,I,I,I,O,O,I,I,I,I,O,I,I,I,O,O,I,I,O,I,I,O,O] (fun s_ => [(14, .string t218), (21, s_), (22, .string (strOfNums y220))]) (fun s_ w' => (w'.cell? ⟨gb217, 0, none⟩ = some (.int .i64 a0_0) ∧ w'.cell? ⟨gb217, 1, none⟩ = some (.int .i64 a0_1) ∧ w'.cell? ⟨gb217, 2, none⟩ = some (.string a0_2) ∧ w'.cell? ⟨gb217, 3, none⟩ = some (.string a0_3) ∧ w'.cell? ⟨gb217, 4, none⟩ = some (.int .i64 a0_4) ∧ w'.cell? ⟨gb217, 5, none⟩ = some (.bool a0_5)) ∧ (Kd.R (Kd.int .u8) 5 w' w.heap.size (fun _ => True) s_ y220) ∧ (w'.heap[gb217]? = some (.cells #[.int .i64 a0_0, .int .i64 a0_1, .string a0_2, .string a0_3, .int .i64 a0_4, .bool a0_5] 25 (0, 0))) ∧ (Below w.heap.size w w')) ?_ ?_
                rotate_left
                ·intro hJ2_9_10
                 refine join_ (σ := Unit) 8 #[I,I,I,I,I,I,I,I,I,O,O,O,I,I,I,O,O,I,I,O,I,I,O,O] (fun s_ => [(14, .string t218), (17, .string t219), (18, .string (t218 ++ t219))]) (fun s_ w' => (w'.cell? ⟨gb217, 0, none⟩ = some (.int .i64 a0_0) ∧ w'.cell? ⟨gb217, 1, none⟩ = some (.int .i64 a0_1) ∧ w'.cell? ⟨gb217, 2, none⟩ = some (.string a0_2) ∧ w'.cell? ⟨gb217, 3, none⟩ = some (.string a0_3) ∧ w'.cell? ⟨gb217, 4, none⟩ = some (.int .i64 a0_4) ∧ w'.cell? ⟨gb217, 5, none⟩ = some (.bool a0_5)) ∧ (w'.heap[gb217]? = some (.cells #[.int .i64 a0_0, .int .i64 a0_1, .string a0_2, .string a0_3, .int .i64 a0_4, .bool a0_5] 25 (0, 0))) ∧ (Below w.heap.size w w')) ?_ ?_
                 rotate_left
                 ·intro hJ2_5
                  refine join_ (σ := Value) 9 #[I,I,I,I,I,O,O,I,I,I,O,O,I,I,I,O,O,I,I,O,I,I,O,O] (fun s_ => [(14, .string t218), (21, s_)]) (fun s_ w' => (w'.cell? ⟨gb217, 0, none⟩ = some (.int .i64 a0_0) ∧ w'.cell? ⟨gb217, 1, none⟩ = some (.int .i64 a0_1) ∧ w'.cell? ⟨gb217, 2, none⟩ = some (.string a0_2) ∧ w'.cell? ⟨gb217, 3, none⟩ = some (.string a0_3) ∧ w'.cell? ⟨gb217, 4, none⟩ = some (.int .i64 a0_4) ∧ w'.cell? ⟨gb217, 5, none⟩ = some (.bool a0_5)) ∧ (Kd.R (Kd.int .u8) 5 w' w.heap.size (fun _ => True) s_ y220) ∧ (w'.heap[gb217]? = some (.cells #[.int .i64 a0_0, .int .i64 a0_1, .string a0_2, .string a0_3, .int .i64 a0_4, .bool a0_5] 25 (0, 0))) ∧ (Below w.heap.size w w')) ?_ ?_
                  rotate_left
                  ·intro hJ2_9
                   refine join_ (σ := Value) 9 #[I,I,O,I,I,O,O,I,I,I,I,O,I,I,I,O,O,I,I,O,I,I,O,O] (fun s_ => [(21, s_), (22, .string (strOfNums y220))]) (fun s_ w' => (w'.cell? ⟨gb217, 0, none⟩ = some (.int .i64 a0_0) ∧ w'.cell? ⟨gb217, 1, none⟩ = some (.int .i64 a0_1) ∧ w'.cell? ⟨gb217, 2, none⟩ = some (.string a0_2) ∧ w'.cell? ⟨gb217, 3, none⟩ = some (.string a0_3) ∧ w'.cell? ⟨gb217, 4, none⟩ = some (.int .i64 a0_4) ∧ w'.cell? ⟨gb217, 5, none⟩ = some (.bool a0_5)) ∧ (Kd.R (Kd.int .u8) 5 w' w.heap.size (fun _ => True) s_ y220) ∧ (w'.heap[gb217]? = some (.cells #[.int .i64 a0_0, .int .i64 a0_1, .string a0_2, .string a0_3, .int .i64 a0_4, .bool a0_5] 25 (0, 0))) ∧ (Below w.heap.size w w')) ?_ ?_
                   rotate_left
                   ·intro hJ9_10
                    refine join_ (σ := Unit) 10 #[I,I,I,I,I,O,O,I,I,O,O,O,I,I,I,O,O,I,I,O,I,I,O,O] (fun s_ => [(14, .string t218)]) (fun s_ w' => (w'.cell? ⟨gb217, 0, none⟩ = some (.int .i64 a0_0) ∧ w'.cell? ⟨gb217, 1, none⟩ = some (.int .i64 a0_1) ∧ w'.cell? ⟨gb217, 2, none⟩ = some (.string a0_2) ∧ w'.cell? ⟨gb217, 3, none⟩ = some (.string a0_3) ∧ w'.cell? ⟨gb217, 4, none⟩ = some (.int .i64 a0_4) ∧ w'.cell? ⟨gb217, 5, none⟩ = some (.bool a0_5)) ∧ (w'.heap[gb217]? = some (.cells #[.int .i64 a0_0, .int .i64 a0_1, .string a0_2, .string a0_3, .int .i64 a0_4, .bool a0_5] 25 (0, 0))) ∧ (Below w.heap.size w w')) ?_ ?_
                    rotate_left
                    ·intro hJ2
                     refine join_ (σ := Value) 10 #[I,I,O,I,I,O,O,I,I,I,O,O,I,I,I,O,O,I,I,O,I,I,O,O] (fun s_ => [(21, s_)]) (fun s_ w' => (w'.cell? ⟨gb217, 0, none⟩ = some (.int .i64 a0_0) ∧ w'.cell? ⟨gb217, 1, none⟩ = some (.int .i64 a0_1) ∧ w'.cell? ⟨gb217, 2, none⟩ = some (.string a0_2) ∧ w'.cell? ⟨gb217, 3, none⟩ = some (.string a0_3) ∧ w'.cell? ⟨gb217, 4, none⟩ = some (.int .i64 a0_4) ∧ w'.cell? ⟨gb217, 5, none⟩ = some (.bool a0_5)) ∧ (Kd.R (Kd.int .u8) 5 w' w.heap.size (fun _ => True) s_ y220) ∧ (w'.heap[gb217]? = some (.cells #[.int .i64 a0_0, .int .i64 a0_1, .string a0_2, .string a0_3, .int .i64 a0_4, .bool a0_5] 25 (0, 0))) ∧ (Below w.heap.size w w')) ?_ ?_
                     rotate_left
                     ·intro hJ9
                      refine two_ (i := 2) (j := 9) (Ni := some 14) (Nj := some 21) #[I,I,I,I,I,O,O,I,I,O,O,O,I,I,I,O,O,I,I,O,I,I,O,O] #[I,I,O,I,I,O,O,I,I,I,O,O,I,I,I,O,O,I,I,O,I,I,O,O] rfl rfl rfl rfl (two_of HT_.out (by kernel_rfl)) (by decide) (by decide) (fun K hK => ?_) (fun K hK => ?_)
                      ·skip
                       refine goes_ Try.func69 (by kernel_rfl) rfl #[.int .i64 a0_0, .int .i64 8] (by rfl) rfl rfl aa ?_
                       with_reducible refine (fairwayref1_Fixed.calls kj1 a0_0 8 t218 _ A6.out).mono ?_
                       rintro e w21 ⟨rfl, hb⟩
                       refine ⟨_, rfl, ?_⟩
                       replace BK217 := Aside0.mk (bb BK217.out hb)
                       replace HB := Aside0.mk (below_step bo hb)
                       (try clear hb)
                       (try clear hb2)
                       (try clear hk)
                       (try clear hi)
                       refine hK.out _ _ ⟨(blk_cell BK217.out 0).trans rfl, (blk_cell BK217.out 1).trans rfl, (blk_cell BK217.out 2).trans rfl, (blk_cell BK217.out 3).trans rfl, (blk_cell BK217.out 4).trans rfl, (blk_cell BK217.out 5).trans rfl⟩ (fun hHeld => ?_)
                       clear hK K
                       refine norm_ (a' := ?_) ?_ ?_
                       rotate_left
                       ·show Act.put _ (some 14) _ = _
                        simp only [Act.put, List.setIfInBounds_toArray, List.set_cons_zero, List.set_cons_succ, i64_w, i32_w]
                        rfl
                       exact norm_ (by first | (simp only [putAll, Act.put, List.setIfInBounds_toArray, List.set_cons_zero, List.set_cons_succ]; done) | (simp only [putAll, Act.put, List.setIfInBounds_toArray, List.set_cons_zero, List.set_cons_succ]; rfl)) (hJ2 () _ ⟨hHeld, (bk BK217.out), bo⟩)
                      ·skip
                       refine Kd.R_lit_step (Kd.int .u8) _ 5 ?hg (N := 21) ?hd (xs := ([(x3_1) % 256] : List Int)) (inner := [.int .u8 ((x3_1) % 256)]) (ok := fun _ => True) (okp := fun _ => True) ?hr ?hp (fun _ hk => hk) trivial (Below.refl _ _) (Nat.le_refl _) (by simp) ?_; (case hd => rfl); (case hg => rfl); (case hr => first | (go_simp; done) | (go_simp; rfl)); (case hp => exact (Reps.one (show Kd.M (Kd.int .u8) _ _ _ ((x3_1) % 256) [.int .u8 ((x3_1) % 256)] from rfl) (Reps.none _ _)))
                       intro v221 w21 ho22 hb hg_ hnew_
                       clear hg_ hnew_
                       (first | rw [← Ny220.out] at ho22 | (simp only [Int.reduceToNat] at ho22; rw [← Ny220.out] at ho22))
                       have HO222 := Aside0.mk (Kd.R_lower ho22 (below_size bo))
                       replace BK217 := Aside0.mk (bb BK217.out hb)
                       replace HB := Aside0.mk (below_step bo hb)
                       clear hb ho22
                       refine hK.out _ _ ⟨(blk_cell BK217.out 0).trans rfl, (blk_cell BK217.out 1).trans rfl, (blk_cell BK217.out 2).trans rfl, (blk_cell BK217.out 3).trans rfl, (blk_cell BK217.out 4).trans rfl, (blk_cell BK217.out 5).trans rfl⟩ (fun hHeld => ?_)
                       clear hK K
                       refine norm_ (a' := ?_) ?_ ?_
                       rotate_left
                       ·show Act.put _ (some 21) _ = _
                        simp only [Act.put, List.setIfInBounds_toArray, List.set_cons_zero, List.set_cons_succ, i64_w, i32_w]
                        rfl
                       exact norm_ (by first | (simp only [putAll, Act.put, List.setIfInBounds_toArray, List.set_cons_zero, List.set_cons_succ]; done) | (simp only [putAll, Act.put, List.setIfInBounds_toArray, List.set_cons_zero, List.set_cons_succ]; rfl)) (hJ9 (v221) _ ⟨hHeld, (rk HO222.out), (bk BK217.out), bo⟩)
                     ·skip
                      rintro v221 w23 ⟨hS_, h0_, h1_, h2_⟩
                      have n0_ : Aside0 (Kd.R (Kd.int .u8) 5 w23 w.heap.size (fun _ => True) v221 y220) := ⟨h0_⟩
                      have n1_ : Aside0 (w23.heap[gb217]? = some (.cells #[.int .i64 a0_0, .int .i64 a0_1, .string a0_2, .string a0_3, .int .i64 a0_4, .bool a0_5] 25 (0, 0))) := ⟨h1_⟩
                      have n2_ : Aside0 (Below w.heap.size w w23) := ⟨h2_⟩
                      clear BK217
                      clear HB
                      clear h0_ h1_ h2_
                      have HO222 := n0_
                      have BK217 := n1_
                      have HB := n2_
                      clear n0_ n1_ n2_
                      have hHeld : w23.cell? ⟨gb217, 0, none⟩ = some (.int .i64 a0_0) ∧ w23.cell? ⟨gb217, 1, none⟩ = some (.int .i64 a0_1) ∧ w23.cell? ⟨gb217, 2, none⟩ = some (.string a0_2) ∧ w23.cell? ⟨gb217, 3, none⟩ = some (.string a0_3) ∧ w23.cell? ⟨gb217, 4, none⟩ = some (.int .i64 a0_4) ∧ w23.cell? ⟨gb217, 5, none⟩ = some (.bool a0_5) := hS_
                      refine norm_ (a' := ?_) ?_ ?_
                      rotate_left
                      ·simp only [putAll, Act.put, List.setIfInBounds_toArray, List.set_cons_zero, List.set_cons_succ]
                       rfl
                      refine two_ (i := 2) (j := 10) (Ni := some 14) (Nj := some 22) #[I,I,I,I,I,O,O,I,I,I,O,O,I,I,I,O,O,I,I,O,I,I,O,O] #[I,I,O,I,I,O,O,I,I,I,I,O,I,I,I,O,O,I,I,O,I,I,O,O] rfl rfl rfl rfl (two_of HT_.out (by kernel_rfl)) (by decide) (by decide) (fun K hK => ?_) (fun K hK => ?_)
                      ·skip
                       refine goes_ Try.func69 (by kernel_rfl) rfl #[.int .i64 a0_0, .int .i64 8] (by rfl) rfl rfl aa ?_
                       with_reducible refine (fairwayref1_Fixed.calls kj1 a0_0 8 t218 _ A6.out).mono ?_
                       rintro e w24 ⟨rfl, hb⟩
                       refine ⟨_, rfl, ?_⟩
                       replace HO222 := Aside0.mk (Kd.R_below (rk HO222.out) hb)
                       replace BK217 := Aside0.mk (bb BK217.out hb)
                       replace HB := Aside0.mk (below_step bo hb)
                       (try clear hb)
                       (try clear hb2)
                       (try clear hk)
                       (try clear hi)
                       refine hK.out _ _ ⟨(blk_cell BK217.out 0).trans rfl, (blk_cell BK217.out 1).trans rfl, (blk_cell BK217.out 2).trans rfl, (blk_cell BK217.out 3).trans rfl, (blk_cell BK217.out 4).trans rfl, (blk_cell BK217.out 5).trans rfl⟩ (fun hHeld => ?_)
                       clear hK K
                       refine norm_ (a' := ?_) ?_ ?_
                       rotate_left
                       ·show Act.put _ (some 14) _ = _
                        simp only [Act.put, List.setIfInBounds_toArray, List.set_cons_zero, List.set_cons_succ, i64_w, i32_w]
                        rfl
                       exact norm_ (by first | (simp only [putAll, Act.put, List.setIfInBounds_toArray, List.set_cons_zero, List.set_cons_succ]; done) | (simp only [putAll, Act.put, List.setIfInBounds_toArray, List.set_cons_zero, List.set_cons_succ]; rfl)) (hJ2_9 (v221) _ ⟨hHeld, (rk HO222.out), (bk BK217.out), bo⟩)
                      ·skip
                       have hcv24 := own_string (P := Try.prog) Try.underlying23 Try.underlying5 Try.underlying9 (Kd.own_of_R HO222.out)
                       refine value_ (w1 := ?_) (v := ?_) (by rfl) rfl ?_ ?_
                       rotate_left 2
                       ·go_simp
                        constructor
                        ·rfl
                        ·rfl
                       clear hcv24
                       refine hK.out _ _ ⟨(blk_cell BK217.out 0).trans rfl, (blk_cell BK217.out 1).trans rfl, (blk_cell BK217.out 2).trans rfl, (blk_cell BK217.out 3).trans rfl, (blk_cell BK217.out 4).trans rfl, (blk_cell BK217.out 5).trans rfl⟩ (fun hHeld => ?_)
                       clear hK K
                       refine norm_ (a' := ?_) ?_ ?_
                       rotate_left
                       ·show Act.put _ (some 22) _ = _
                        simp only [Act.put, List.setIfInBounds_toArray, List.set_cons_zero, List.set_cons_succ, i64_w, i32_w]
                        rfl
                       exact norm_ (by first | (simp only [putAll, Act.put, List.setIfInBounds_toArray, List.set_cons_zero, List.set_cons_succ]; done) | (simp only [putAll, Act.put, List.setIfInBounds_toArray, List.set_cons_zero, List.set_cons_succ]; rfl)) (hJ9_10 (v221) _ ⟨hHeld, (rk HO222.out), (bk BK217.out), bo⟩)
                    ·skip
                     rintro _ w22 ⟨hS_, h0_, h1_⟩
                     have n0_ : Aside0 (w22.heap[gb217]? = some (.cells #[.int .i64 a0_0, .int .i64 a0_1, .string a0_2, .string a0_3, .int .i64 a0_4, .bool a0_5] 25 (0, 0))) := ⟨h0_⟩
                     have n1_ : Aside0 (Below w.heap.size w w22) := ⟨h1_⟩
                     clear BK217
                     clear HB
                     clear h0_ h1_
                     have BK217 := n0_
                     have HB := n1_
                     clear n0_ n1_
                     have hHeld : w22.cell? ⟨gb217, 0, none⟩ = some (.int .i64 a0_0) ∧ w22.cell? ⟨gb217, 1, none⟩ = some (.int .i64 a0_1) ∧ w22.cell? ⟨gb217, 2, none⟩ = some (.string a0_2) ∧ w22.cell? ⟨gb217, 3, none⟩ = some (.string a0_3) ∧ w22.cell? ⟨gb217, 4, none⟩ = some (.int .i64 a0_4) ∧ w22.cell? ⟨gb217, 5, none⟩ = some (.bool a0_5) := hS_
                     refine norm_ (a' := ?_) ?_ ?_
                     rotate_left
                     ·simp only [putAll, Act.put, List.setIfInBounds_toArray, List.set_cons_zero, List.set_cons_succ]
                      rfl
                     refine two_ (i := 5) (j := 9) (Ni := some 17) (Nj := some 21) #[I,I,I,I,I,I,O,I,I,O,O,O,I,I,I,O,O,I,I,O,I,I,O,O] #[I,I,I,I,I,O,O,I,I,I,O,O,I,I,I,O,O,I,I,O,I,I,O,O] rfl rfl rfl rfl (two_of HT_.out (by kernel_rfl)) (by decide) (by decide) (fun K hK => ?_) (fun K hK => ?_)
                     ·skip
                      refine goes_ Try.func69 (by kernel_rfl) rfl #[.int .i64 a0_1, .int .i64 8] (by rfl) rfl rfl aa ?_
                      with_reducible refine (fairwayref1_Fixed.calls kj1 a0_1 8 t219 _ A7.out).mono ?_
                      rintro e w23 ⟨rfl, hb⟩
                      refine ⟨_, rfl, ?_⟩
                      replace BK217 := Aside0.mk (bb BK217.out hb)
                      replace HB := Aside0.mk (below_step bo hb)
                      (try clear hb)
                      (try clear hb2)
                      (try clear hk)
                      (try clear hi)
                      refine hK.out _ _ ⟨(blk_cell BK217.out 0).trans rfl, (blk_cell BK217.out 1).trans rfl, (blk_cell BK217.out 2).trans rfl, (blk_cell BK217.out 3).trans rfl, (blk_cell BK217.out 4).trans rfl, (blk_cell BK217.out 5).trans rfl⟩ (fun hHeld => ?_)
                      clear hK K
                      refine norm_ (a' := ?_) ?_ ?_
                      rotate_left
                      ·show Act.put _ (some 17) _ = _
                       simp only [Act.put, List.setIfInBounds_toArray, List.set_cons_zero, List.set_cons_succ, i64_w, i32_w]
                       rfl
                      refine pz (i := 6) (N := some 18) #[I,I,I,I,I,I,I,I,I,O,O,O,I,I,I,O,O,I,I,O,I,I,O,O] ?_
                      exact norm_ (by first | (simp only [putAll, Act.put, List.setIfInBounds_toArray, List.set_cons_zero, List.set_cons_succ]; done) | (simp only [putAll, Act.put, List.setIfInBounds_toArray, List.set_cons_zero, List.set_cons_succ]; rfl)) (hJ2_5 () _ ⟨hHeld, (bk BK217.out), bo⟩)
                     ·skip
                      refine Kd.R_lit_step (Kd.int .u8) _ 5 ?hg (N := 21) ?hd (xs := ([(x3_1) % 256] : List Int)) (inner := [.int .u8 ((x3_1) % 256)]) (ok := fun _ => True) (okp := fun _ => True) ?hr ?hp (fun _ hk => hk) trivial (Below.refl _ _) (Nat.le_refl _) (by simp) ?_; (case hd => rfl); (case hg => rfl); (case hr => first | (go_simp; done) | (go_simp; rfl)); (case hp => exact (Reps.one (show Kd.M (Kd.int .u8) _ _ _ ((x3_1) % 256) [.int .u8 ((x3_1) % 256)] from rfl) (Reps.none _ _)))
                      intro v221 w23 ho24 hb hg_ hnew_
                      clear hg_ hnew_
                      (first | rw [← Ny220.out] at ho24 | (simp only [Int.reduceToNat] at ho24; rw [← Ny220.out] at ho24))
                      have HO222 := Aside0.mk (Kd.R_lower ho24 (below_size bo))
                      replace BK217 := Aside0.mk (bb BK217.out hb)
                      replace HB := Aside0.mk (below_step bo hb)
                      clear hb ho24
                      refine hK.out _ _ ⟨(blk_cell BK217.out 0).trans rfl, (blk_cell BK217.out 1).trans rfl, (blk_cell BK217.out 2).trans rfl, (blk_cell BK217.out 3).trans rfl, (blk_cell BK217.out 4).trans rfl, (blk_cell BK217.out 5).trans rfl⟩ (fun hHeld => ?_)
                      clear hK K
                      refine norm_ (a' := ?_) ?_ ?_
                      rotate_left
                      ·show Act.put _ (some 21) _ = _
                       simp only [Act.put, List.setIfInBounds_toArray, List.set_cons_zero, List.set_cons_succ, i64_w, i32_w]
                       rfl
                      exact norm_ (by first | (simp only [putAll, Act.put, List.setIfInBounds_toArray, List.set_cons_zero, List.set_cons_succ]; done) | (simp only [putAll, Act.put, List.setIfInBounds_toArray, List.set_cons_zero, List.set_cons_succ]; rfl)) (hJ2_9 (v221) _ ⟨hHeld, (rk HO222.out), (bk BK217.out), bo⟩)
                   ·skip
                    rintro v221 w24 ⟨hS_, h0_, h1_, h2_⟩
                    have n0_ : Aside0 (Kd.R (Kd.int .u8) 5 w24 w.heap.size (fun _ => True) v221 y220) := ⟨h0_⟩
                    have n1_ : Aside0 (w24.heap[gb217]? = some (.cells #[.int .i64 a0_0, .int .i64 a0_1, .string a0_2, .string a0_3, .int .i64 a0_4, .bool a0_5] 25 (0, 0))) := ⟨h1_⟩
                    have n2_ : Aside0 (Below w.heap.size w w24) := ⟨h2_⟩
                    clear BK217
                    clear HB
                    clear h0_ h1_ h2_
                    have HO222 := n0_
                    have BK217 := n1_
                    have HB := n2_
                    clear n0_ n1_ n2_
                    have hHeld : w24.cell? ⟨gb217, 0, none⟩ = some (.int .i64 a0_0) ∧ w24.cell? ⟨gb217, 1, none⟩ = some (.int .i64 a0_1) ∧ w24.cell? ⟨gb217, 2, none⟩ = some (.string a0_2) ∧ w24.cell? ⟨gb217, 3, none⟩ = some (.string a0_3) ∧ w24.cell? ⟨gb217, 4, none⟩ = some (.int .i64 a0_4) ∧ w24.cell? ⟨gb217, 5, none⟩ = some (.bool a0_5) := hS_
                    refine norm_ (a' := ?_) ?_ ?_
                    rotate_left
                    ·simp only [putAll, Act.put, List.setIfInBounds_toArray, List.set_cons_zero, List.set_cons_succ]
                     rfl
                    refine one_ (i := 2) (N := some 14) #[I,I,I,I,I,O,O,I,I,I,I,O,I,I,I,O,O,I,I,O,I,I,O,O] rfl rfl (one_of HT_.out (by kernel_rfl)) (by decide) (fun K hK => ?_)
                    refine goes_ Try.func69 (by kernel_rfl) rfl #[.int .i64 a0_0, .int .i64 8] (by rfl) rfl rfl aa ?_
                    with_reducible refine (fairwayref1_Fixed.calls kj1 a0_0 8 t218 _ A6.out).mono ?_
                    rintro e w25 ⟨rfl, hb⟩
                    refine ⟨_, rfl, ?_⟩
                    replace HO222 := Aside0.mk (Kd.R_below (rk HO222.out) hb)
                    replace BK217 := Aside0.mk (bb BK217.out hb)
                    replace HB := Aside0.mk (below_step bo hb)
                    (try clear hb)
                    (try clear hb2)
                    (try clear hk)
                    (try clear hi)
                    refine hK.out _ _ ⟨(blk_cell BK217.out 0).trans rfl, (blk_cell BK217.out 1).trans rfl, (blk_cell BK217.out 2).trans rfl, (blk_cell BK217.out 3).trans rfl, (blk_cell BK217.out 4).trans rfl, (blk_cell BK217.out 5).trans rfl⟩ (fun hHeld => ?_)
                    clear hK K
                    refine norm_ (a' := ?_) ?_ ?_
                    rotate_left
                    ·show Act.put _ (some 14) _ = _
                     simp only [Act.put, List.setIfInBounds_toArray, List.set_cons_zero, List.set_cons_succ, i64_w, i32_w]
                     rfl
                    exact norm_ (by first | (simp only [putAll, Act.put, List.setIfInBounds_toArray, List.set_cons_zero, List.set_cons_succ]; done) | (simp only [putAll, Act.put, List.setIfInBounds_toArray, List.set_cons_zero, List.set_cons_succ]; rfl)) (hJ2_9_10 (v221) _ ⟨hHeld, (rk HO222.out), (bk BK217.out), bo⟩)
                  ·skip
                   rintro v221 w24 ⟨hS_, h0_, h1_, h2_⟩
                   have n0_ : Aside0 (Kd.R (Kd.int .u8) 5 w24 w.heap.size (fun _ => True) v221 y220) := ⟨h0_⟩
                   have n1_ : Aside0 (w24.heap[gb217]? = some (.cells #[.int .i64 a0_0, .int .i64 a0_1, .string a0_2, .string a0_3, .int .i64 a0_4, .bool a0_5] 25 (0, 0))) := ⟨h1_⟩
                   have n2_ : Aside0 (Below w.heap.size w w24) := ⟨h2_⟩
                   clear BK217
                   clear HB
                   clear h0_ h1_ h2_
                   have HO222 := n0_
                   have BK217 := n1_
                   have HB := n2_
                   clear n0_ n1_ n2_
                   have hHeld : w24.cell? ⟨gb217, 0, none⟩ = some (.int .i64 a0_0) ∧ w24.cell? ⟨gb217, 1, none⟩ = some (.int .i64 a0_1) ∧ w24.cell? ⟨gb217, 2, none⟩ = some (.string a0_2) ∧ w24.cell? ⟨gb217, 3, none⟩ = some (.string a0_3) ∧ w24.cell? ⟨gb217, 4, none⟩ = some (.int .i64 a0_4) ∧ w24.cell? ⟨gb217, 5, none⟩ = some (.bool a0_5) := hS_
                   refine norm_ (a' := ?_) ?_ ?_
                   rotate_left
                   ·simp only [putAll, Act.put, List.setIfInBounds_toArray, List.set_cons_zero, List.set_cons_succ]
                    rfl
                   refine two_ (i := 5) (j := 10) (Ni := some 17) (Nj := some 22) #[I,I,I,I,I,I,O,I,I,I,O,O,I,I,I,O,O,I,I,O,I,I,O,O] #[I,I,I,I,I,O,O,I,I,I,I,O,I,I,I,O,O,I,I,O,I,I,O,O] rfl rfl rfl rfl (two_of HT_.out (by kernel_rfl)) (by decide) (by decide) (fun K hK => ?_) (fun K hK => ?_)
                   ·skip
                    refine goes_ Try.func69 (by kernel_rfl) rfl #[.int .i64 a0_1, .int .i64 8] (by rfl) rfl rfl aa ?_
                    with_reducible refine (fairwayref1_Fixed.calls kj1 a0_1 8 t219 _ A7.out).mono ?_
                    rintro e w25 ⟨rfl, hb⟩
                    refine ⟨_, rfl, ?_⟩
                    replace HO222 := Aside0.mk (Kd.R_below (rk HO222.out) hb)
                    replace BK217 := Aside0.mk (bb BK217.out hb)
                    replace HB := Aside0.mk (below_step bo hb)
                    (try clear hb)
                    (try clear hb2)
                    (try clear hk)
                    (try clear hi)
                    refine hK.out _ _ ⟨(blk_cell BK217.out 0).trans rfl, (blk_cell BK217.out 1).trans rfl, (blk_cell BK217.out 2).trans rfl, (blk_cell BK217.out 3).trans rfl, (blk_cell BK217.out 4).trans rfl, (blk_cell BK217.out 5).trans rfl⟩ (fun hHeld => ?_)
                    clear hK K
                    refine norm_ (a' := ?_) ?_ ?_
                    rotate_left
                    ·show Act.put _ (some 17) _ = _
                     simp only [Act.put, List.setIfInBounds_toArray, List.set_cons_zero, List.set_cons_succ, i64_w, i32_w]
                     rfl
                    refine pz (i := 6) (N := some 18) #[I,I,I,I,I,I,I,I,I,I,O,O,I,I,I,O,O,I,I,O,I,I,O,O] ?_
                    exact norm_ (by first | (simp only [putAll, Act.put, List.setIfInBounds_toArray, List.set_cons_zero, List.set_cons_succ]; done) | (simp only [putAll, Act.put, List.setIfInBounds_toArray, List.set_cons_zero, List.set_cons_succ]; rfl)) (hJ2_5_9 (v221) _ ⟨hHeld, (rk HO222.out), (bk BK217.out), bo⟩)
                   ·skip
                    have hcv25 := own_string (P := Try.prog) Try.underlying23 Try.underlying5 Try.underlying9 (Kd.own_of_R HO222.out)
                    refine value_ (w1 := ?_) (v := ?_) (by rfl) rfl ?_ ?_
                    rotate_left 2
                    ·go_simp
                     constructor
                     ·rfl
                     ·rfl
                    clear hcv25
                    refine hK.out _ _ ⟨(blk_cell BK217.out 0).trans rfl, (blk_cell BK217.out 1).trans rfl, (blk_cell BK217.out 2).trans rfl, (blk_cell BK217.out 3).trans rfl, (blk_cell BK217.out 4).trans rfl, (blk_cell BK217.out 5).trans rfl⟩ (fun hHeld => ?_)
                    clear hK K
                    refine norm_ (a' := ?_) ?_ ?_
                    rotate_left
                    ·show Act.put _ (some 22) _ = _
                     simp only [Act.put, List.setIfInBounds_toArray, List.set_cons_zero, List.set_cons_succ, i64_w, i32_w]
                     rfl
                    exact norm_ (by first | (simp only [putAll, Act.put, List.setIfInBounds_toArray, List.set_cons_zero, List.set_cons_succ]; done) | (simp only [putAll, Act.put, List.setIfInBounds_toArray, List.set_cons_zero, List.set_cons_succ]; rfl)) (hJ2_9_10 (v221) _ ⟨hHeld, (rk HO222.out), (bk BK217.out), bo⟩)
                 ·skip
                  rintro _ w23 ⟨hS_, h0_, h1_⟩
                  have n0_ : Aside0 (w23.heap[gb217]? = some (.cells #[.int .i64 a0_0, .int .i64 a0_1, .string a0_2, .string a0_3, .int .i64 a0_4, .bool a0_5] 25 (0, 0))) := ⟨h0_⟩
                  have n1_ : Aside0 (Below w.heap.size w w23) := ⟨h1_⟩
                  clear BK217
                  clear HB
                  clear h0_ h1_
                  have BK217 := n0_
                  have HB := n1_
                  clear n0_ n1_
                  have hHeld : w23.cell? ⟨gb217, 0, none⟩ = some (.int .i64 a0_0) ∧ w23.cell? ⟨gb217, 1, none⟩ = some (.int .i64 a0_1) ∧ w23.cell? ⟨gb217, 2, none⟩ = some (.string a0_2) ∧ w23.cell? ⟨gb217, 3, none⟩ = some (.string a0_3) ∧ w23.cell? ⟨gb217, 4, none⟩ = some (.int .i64 a0_4) ∧ w23.cell? ⟨gb217, 5, none⟩ = some (.bool a0_5) := hS_
                  refine norm_ (a' := ?_) ?_ ?_
                  rotate_left
                  ·simp only [putAll, Act.put, List.setIfInBounds_toArray, List.set_cons_zero, List.set_cons_succ]
                   rfl
                  refine two_ (i := 9) (j := 15) (Ni := some 21) (Nj := some 27) #[I,I,I,I,I,I,I,I,I,I,O,O,I,I,I,O,O,I,I,O,I,I,O,O] #[I,I,I,I,I,I,I,I,I,O,O,O,I,I,I,I,O,I,I,O,I,I,O,O] rfl rfl rfl rfl (two_of HT_.out (by kernel_rfl)) (by decide) (by decide) (fun K hK => ?_) (fun K hK => ?_)
                  ·skip
                   refine Kd.R_lit_step (Kd.int .u8) _ 5 ?hg (N := 21) ?hd (xs := ([(x3_1) % 256] : List Int)) (inner := [.int .u8 ((x3_1) % 256)]) (ok := fun _ => True) (okp := fun _ => True) ?hr ?hp (fun _ hk => hk) trivial (Below.refl _ _) (Nat.le_refl _) (by simp) ?_; (case hd => rfl); (case hg => rfl); (case hr => first | (go_simp; done) | (go_simp; rfl)); (case hp => exact (Reps.one (show Kd.M (Kd.int .u8) _ _ _ ((x3_1) % 256) [.int .u8 ((x3_1) % 256)] from rfl) (Reps.none _ _)))
                   intro v221 w24 ho25 hb hg_ hnew_
                   clear hg_ hnew_
                   (first | rw [← Ny220.out] at ho25 | (simp only [Int.reduceToNat] at ho25; rw [← Ny220.out] at ho25))
                   have HO222 := Aside0.mk (Kd.R_lower ho25 (below_size bo))
                   replace BK217 := Aside0.mk (bb BK217.out hb)
                   replace HB := Aside0.mk (below_step bo hb)
                   clear hb ho25
                   refine hK.out _ _ ⟨(blk_cell BK217.out 0).trans rfl, (blk_cell BK217.out 1).trans rfl, (blk_cell BK217.out 2).trans rfl, (blk_cell BK217.out 3).trans rfl, (blk_cell BK217.out 4).trans rfl, (blk_cell BK217.out 5).trans rfl⟩ (fun hHeld => ?_)
                   clear hK K
                   refine norm_ (a' := ?_) ?_ ?_
                   rotate_left
                   ·show Act.put _ (some 21) _ = _
                    simp only [Act.put, List.setIfInBounds_toArray, List.set_cons_zero, List.set_cons_succ, i64_w, i32_w]
                    rfl
                   exact norm_ (by first | (simp only [putAll, Act.put, List.setIfInBounds_toArray, List.set_cons_zero, List.set_cons_succ]; done) | (simp only [putAll, Act.put, List.setIfInBounds_toArray, List.set_cons_zero, List.set_cons_succ]; rfl)) (hJ2_5_9 (v221) _ ⟨hHeld, (rk HO222.out), (bk BK217.out), bo⟩)
                  ·skip
                   refine goes_ Try.func69 (by kernel_rfl) rfl #[.int .i64 (a0_2.size : Int), .int .i64 2] (by rfl) rfl rfl aa ?_
                   with_reducible refine (fairwayref1_Fixed.calls kj1 (a0_2.size : Int) 2 t223 _ A10.out).mono ?_
                   rintro e w24 ⟨rfl, hb⟩
                   refine ⟨_, rfl, ?_⟩
                   replace BK217 := Aside0.mk (bb BK217.out hb)
                   replace HB := Aside0.mk (below_step bo hb)
                   (try clear hb)
                   (try clear hb2)
                   (try clear hk)
                   (try clear hi)
                   refine hK.out _ _ ⟨(blk_cell BK217.out 0).trans rfl, (blk_cell BK217.out 1).trans rfl, (blk_cell BK217.out 2).trans rfl, (blk_cell BK217.out 3).trans rfl, (blk_cell BK217.out 4).trans rfl, (blk_cell BK217.out 5).trans rfl⟩ (fun hHeld => ?_)
                   clear hK K
                   refine norm_ (a' := ?_) ?_ ?_
                   rotate_left
                   ·show Act.put _ (some 27) _ = _
                    simp only [Act.put, List.setIfInBounds_toArray, List.set_cons_zero, List.set_cons_succ, i64_w, i32_w]
                    rfl
                   exact norm_ (by first | (simp only [putAll, Act.put, List.setIfInBounds_toArray, List.set_cons_zero, List.set_cons_succ]; done) | (simp only [putAll, Act.put, List.setIfInBounds_toArray, List.set_cons_zero, List.set_cons_succ]; rfl)) (hJ2_5_15 () _ ⟨hHeld, (bk BK217.out), bo⟩)
                ·skip
                 rintro v221 w25 ⟨hS_, h0_, h1_, h2_⟩
                 have n0_ : Aside0 (Kd.R (Kd.int .u8) 5 w25 w.heap.size (fun _ => True) v221 y220) := ⟨h0_⟩
                 have n1_ : Aside0 (w25.heap[gb217]? = some (.cells #[.int .i64 a0_0, .int .i64 a0_1, .string a0_2, .string a0_3, .int .i64 a0_4, .bool a0_5] 25 (0, 0))) := ⟨h1_⟩
                 have n2_ : Aside0 (Below w.heap.size w w25) := ⟨h2_⟩
                 clear BK217
                 clear HB
                 clear h0_ h1_ h2_
                 have HO222 := n0_
                 have BK217 := n1_
                 have HB := n2_
                 clear n0_ n1_ n2_
                 have hHeld : w25.cell? ⟨gb217, 0, none⟩ = some (.int .i64 a0_0) ∧ w25.cell? ⟨gb217, 1, none⟩ = some (.int .i64 a0_1) ∧ w25.cell? ⟨gb217, 2, none⟩ = some (.string a0_2) ∧ w25.cell? ⟨gb217, 3, none⟩ = some (.string a0_3) ∧ w25.cell? ⟨gb217, 4, none⟩ = some (.int .i64 a0_4) ∧ w25.cell? ⟨gb217, 5, none⟩ = some (.bool a0_5) := hS_
                 refine norm_ (a' := ?_) ?_ ?_
                 rotate_left
                 ·simp only [putAll, Act.put, List.setIfInBounds_toArray, List.set_cons_zero, List.set_cons_succ]
                  rfl
                 refine one_ (i := 5) (N := some 17) #[I,I,I,I,I,I,O,I,I,I,I,O,I,I,I,O,O,I,I,O,I,I,O,O] rfl rfl (one_of HT_.out (by kernel_rfl)) (by decide) (fun K hK => ?_)
                 refine goes_ Try.func69 (by kernel_rfl) rfl #[.int .i64 a0_1, .int .i64 8] (by rfl) rfl rfl aa ?_
                 with_reducible refine (fairwayref1_Fixed.calls kj1 a0_1 8 t219 _ A7.out).mono ?_
                 rintro e w26 ⟨rfl, hb⟩
                 refine ⟨_, rfl, ?_⟩
                 replace HO222 := Aside0.mk (Kd.R_below (rk HO222.out) hb)
                 replace BK217 := Aside0.mk (bb BK217.out hb)
                 replace HB := Aside0.mk (below_step bo hb)
                 (try clear hb)
                 (try clear hb2)
                 (try clear hk)
                 (try clear hi)
                 refine hK.out _ _ ⟨(blk_cell BK217.out 0).trans rfl, (blk_cell BK217.out 1).trans rfl, (blk_cell BK217.out 2).trans rfl, (blk_cell BK217.out 3).trans rfl, (blk_cell BK217.out 4).trans rfl, (blk_cell BK217.out 5).trans rfl⟩ (fun hHeld => ?_)
                 clear hK K
                 refine norm_ (a' := ?_) ?_ ?_
                 rotate_left
                 ·show Act.put _ (some 17) _ = _
                  simp only [Act.put, List.setIfInBounds_toArray, List.set_cons_zero, List.set_cons_succ, i64_w, i32_w]
                  rfl
                 refine pz (i := 6) (N := some 18) #[I,I,I,I,I,I,I,I,I,I,I,O,I,I,I,O,O,I,I,O,I,I,O,O] ?_
                 refine pz (i := 11) (N := some 23) #[I,I,I,I,I,I,I,I,I,I,I,I,I,I,I,O,O,I,I,O,I,I,O,O] ?_
                 exact norm_ (by first | (simp only [putAll, Act.put, List.setIfInBounds_toArray, List.set_cons_zero, List.set_cons_succ]; done) | (simp only [putAll, Act.put, List.setIfInBounds_toArray, List.set_cons_zero, List.set_cons_succ]; rfl)) (hJ2_5_9_10 (v221) _ ⟨hHeld, (rk HO222.out), (bk BK217.out), bo⟩)
               ·skip
                rintro _ w24 ⟨hS_, h0_, h1_⟩
                have n0_ : Aside0 (w24.heap[gb217]? = some (.cells #[.int .i64 a0_0, .int .i64 a0_1, .string a0_2, .string a0_3, .int .i64 a0_4, .bool a0_5] 25 (0, 0))) := ⟨h0_⟩
                have n1_ : Aside0 (Below w.heap.size w w24) := ⟨h1_⟩
                clear BK217
                clear HB
                clear h0_ h1_
                have BK217 := n0_
                have HB := n1_
                clear n0_ n1_
                have hHeld : w24.cell? ⟨gb217, 0, none⟩ = some (.int .i64 a0_0) ∧ w24.cell? ⟨gb217, 1, none⟩ = some (.int .i64 a0_1) ∧ w24.cell? ⟨gb217, 2, none⟩ = some (.string a0_2) ∧ w24.cell? ⟨gb217, 3, none⟩ = some (.string a0_3) ∧ w24.cell? ⟨gb217, 4, none⟩ = some (.int .i64 a0_4) ∧ w24.cell? ⟨gb217, 5, none⟩ = some (.bool a0_5) := hS_
                refine norm_ (a' := ?_) ?_ ?_
                rotate_left
                ·simp only [putAll, Act.put, List.setIfInBounds_toArray, List.set_cons_zero, List.set_cons_succ]
                 rfl
                refine one_ (i := 9) (N := some 21) #[I,I,I,I,I,I,I,I,I,I,O,O,I,I,I,I,O,I,I,O,I,I,O,O] rfl rfl (one_of HT_.out (by kernel_rfl)) (by decide) (fun K hK => ?_)
                refine Kd.R_lit_step (Kd.int .u8) _ 5 ?hg (N := 21) ?hd (xs := ([(x3_1) % 256] : List Int)) (inner := [.int .u8 ((x3_1) % 256)]) (ok := fun _ => True) (okp := fun _ => True) ?hr ?hp (fun _ hk => hk) trivial (Below.refl _ _) (Nat.le_refl _) (by simp) ?_; (case hd => rfl); (case hg => rfl); (case hr => first | (go_simp; done) | (go_simp; rfl)); (case hp => exact (Reps.one (show Kd.M (Kd.int .u8) _ _ _ ((x3_1) % 256) [.int .u8 ((x3_1) % 256)] from rfl) (Reps.none _ _)))
                intro v221 w25 ho26 hb hg_ hnew_
                clear hg_ hnew_
                (first | rw [← Ny220.out] at ho26 | (simp only [Int.reduceToNat] at ho26; rw [← Ny220.out] at ho26))
                have HO222 := Aside0.mk (Kd.R_lower ho26 (below_size bo))
                replace BK217 := Aside0.mk (bb BK217.out hb)
                replace HB := Aside0.mk (below_step bo hb)
                clear hb ho26
                refine hK.out _ _ ⟨(blk_cell BK217.out 0).trans rfl, (blk_cell BK217.out 1).trans rfl, (blk_cell BK217.out 2).trans rfl, (blk_cell BK217.out 3).trans rfl, (blk_cell BK217.out 4).trans rfl, (blk_cell BK217.out 5).trans rfl⟩ (fun hHeld => ?_)
                clear hK K
                refine norm_ (a' := ?_) ?_ ?_
                rotate_left
                ·show Act.put _ (some 21) _ = _
                 simp only [Act.put, List.setIfInBounds_toArray, List.set_cons_zero, List.set_cons_succ, i64_w, i32_w]
                 rfl
                exact norm_ (by first | (simp only [putAll, Act.put, List.setIfInBounds_toArray, List.set_cons_zero, List.set_cons_succ]; done) | (simp only [putAll, Act.put, List.setIfInBounds_toArray, List.set_cons_zero, List.set_cons_succ]; rfl)) (hJ2_5_9_15 (v221) _ ⟨hHeld, (rk HO222.out), (bk BK217.out), bo⟩)
              ·skip
               rintro v221 w25 ⟨hS_, h0_, h1_, h2_⟩
               have n0_ : Aside0 (Kd.R (Kd.int .u8) 5 w25 w.heap.size (fun _ => True) v221 y220) := ⟨h0_⟩
               have n1_ : Aside0 (w25.heap[gb217]? = some (.cells #[.int .i64 a0_0, .int .i64 a0_1, .string a0_2, .string a0_3, .int .i64 a0_4, .bool a0_5] 25 (0, 0))) := ⟨h1_⟩
               have n2_ : Aside0 (Below w.heap.size w w25) := ⟨h2_⟩
               clear BK217
               clear HB
               clear h0_ h1_ h2_
               have HO222 := n0_
               have BK217 := n1_
               have HB := n2_
               clear n0_ n1_ n2_
               have hHeld : w25.cell? ⟨gb217, 0, none⟩ = some (.int .i64 a0_0) ∧ w25.cell? ⟨gb217, 1, none⟩ = some (.int .i64 a0_1) ∧ w25.cell? ⟨gb217, 2, none⟩ = some (.string a0_2) ∧ w25.cell? ⟨gb217, 3, none⟩ = some (.string a0_3) ∧ w25.cell? ⟨gb217, 4, none⟩ = some (.int .i64 a0_4) ∧ w25.cell? ⟨gb217, 5, none⟩ = some (.bool a0_5) := hS_
               refine norm_ (a' := ?_) ?_ ?_
               rotate_left
               ·simp only [putAll, Act.put, List.setIfInBounds_toArray, List.set_cons_zero, List.set_cons_succ]
                rfl
               refine two_ (i := 10) (j := 15) (Ni := some 22) (Nj := some 27) #[I,I,I,I,I,I,I,I,I,I,I,O,I,I,I,O,O,I,I,O,I,I,O,O] #[I,I,I,I,I,I,I,I,I,I,O,O,I,I,I,I,O,I,I,O,I,I,O,O] rfl rfl rfl rfl (two_of HT_.out (by kernel_rfl)) (by decide) (by decide) (fun K hK => ?_) (fun K hK => ?_)
               ·skip
                have hcv26 := own_string (P := Try.prog) Try.underlying23 Try.underlying5 Try.underlying9 (Kd.own_of_R HO222.out)
                refine value_ (w1 := ?_) (v := ?_) (by rfl) rfl ?_ ?_
                rotate_left 2
                ·go_simp
                 constructor
                 ·rfl
                 ·rfl
                clear hcv26
                refine hK.out _ _ ⟨(blk_cell BK217.out 0).trans rfl, (blk_cell BK217.out 1).trans rfl, (blk_cell BK217.out 2).trans rfl, (blk_cell BK217.out 3).trans rfl, (blk_cell BK217.out 4).trans rfl, (blk_cell BK217.out 5).trans rfl⟩ (fun hHeld => ?_)
                clear hK K
                refine norm_ (a' := ?_) ?_ ?_
                rotate_left
                ·show Act.put _ (some 22) _ = _
                 simp only [Act.put, List.setIfInBounds_toArray, List.set_cons_zero, List.set_cons_succ, i64_w, i32_w]
                 rfl
                refine pz (i := 11) (N := some 23) #[I,I,I,I,I,I,I,I,I,I,I,I,I,I,I,O,O,I,I,O,I,I,O,O] ?_
                exact norm_ (by first | (simp only [putAll, Act.put, List.setIfInBounds_toArray, List.set_cons_zero, List.set_cons_succ]; done) | (simp only [putAll, Act.put, List.setIfInBounds_toArray, List.set_cons_zero, List.set_cons_succ]; rfl)) (hJ2_5_9_10 (v221) _ ⟨hHeld, (rk HO222.out), (bk BK217.out), bo⟩)
               ·skip
                refine goes_ Try.func69 (by kernel_rfl) rfl #[.int .i64 (a0_2.size : Int), .int .i64 2] (by rfl) rfl rfl aa ?_
                with_reducible refine (fairwayref1_Fixed.calls kj1 (a0_2.size : Int) 2 t223 _ A10.out).mono ?_
                rintro e w26 ⟨rfl, hb⟩
                refine ⟨_, rfl, ?_⟩
                replace HO222 := Aside0.mk (Kd.R_below (rk HO222.out) hb)
                replace BK217 := Aside0.mk (bb BK217.out hb)
                replace HB := Aside0.mk (below_step bo hb)
                (try clear hb)
                (try clear hb2)
                (try clear hk)
                (try clear hi)
                refine hK.out _ _ ⟨(blk_cell BK217.out 0).trans rfl, (blk_cell BK217.out 1).trans rfl, (blk_cell BK217.out 2).trans rfl, (blk_cell BK217.out 3).trans rfl, (blk_cell BK217.out 4).trans rfl, (blk_cell BK217.out 5).trans rfl⟩ (fun hHeld => ?_)
                clear hK K
                refine norm_ (a' := ?_) ?_ ?_
                rotate_left
                ·show Act.put _ (some 27) _ = _
                 simp only [Act.put, List.setIfInBounds_toArray, List.set_cons_zero, List.set_cons_succ, i64_w, i32_w]
                 rfl
                exact norm_ (by first | (simp only [putAll, Act.put, List.setIfInBounds_toArray, List.set_cons_zero, List.set_cons_succ]; done) | (simp only [putAll, Act.put, List.setIfInBounds_toArray, List.set_cons_zero, List.set_cons_succ]; rfl)) (hJ2_5_9_15 (v221) _ ⟨hHeld, (rk HO222.out), (bk BK217.out), bo⟩)
             ·skip
              rintro v221 w26 ⟨hS_, h0_, h1_, h2_⟩
              have n0_ : Aside0 (Kd.R (Kd.int .u8) 5 w26 w.heap.size (fun _ => True) v221 y220) := ⟨h0_⟩
              have n1_ : Aside0 (w26.heap[gb217]? = some (.cells #[.int .i64 a0_0, .int .i64 a0_1, .string a0_2, .string a0_3, .int .i64 a0_4, .bool a0_5] 25 (0, 0))) := ⟨h1_⟩
              have n2_ : Aside0 (Below w.heap.size w w26) := ⟨h2_⟩
              clear BK217
              clear HB
              clear h0_ h1_ h2_
              have HO222 := n0_
              have BK217 := n1_
              have HB := n2_
              clear n0_ n1_ n2_
              have hHeld : w26.cell? ⟨gb217, 0, none⟩ = some (.int .i64 a0_0) ∧ w26.cell? ⟨gb217, 1, none⟩ = some (.int .i64 a0_1) ∧ w26.cell? ⟨gb217, 2, none⟩ = some (.string a0_2) ∧ w26.cell? ⟨gb217, 3, none⟩ = some (.string a0_3) ∧ w26.cell? ⟨gb217, 4, none⟩ = some (.int .i64 a0_4) ∧ w26.cell? ⟨gb217, 5, none⟩ = some (.bool a0_5) := hS_
              refine norm_ (a' := ?_) ?_ ?_
              rotate_left
              ·simp only [putAll, Act.put, List.setIfInBounds_toArray, List.set_cons_zero, List.set_cons_succ]
               rfl
              refine one_ (i := 10) (N := some 22) #[I,I,I,I,I,I,I,I,I,I,I,O,I,I,I,I,O,I,I,O,I,I,O,O] rfl rfl (one_of HT_.out (by kernel_rfl)) (by decide) (fun K hK => ?_)
              have hcv27 := own_string (P := Try.prog) Try.underlying23 Try.underlying5 Try.underlying9 (Kd.own_of_R HO222.out)
              refine value_ (w1 := ?_) (v := ?_) (by rfl) rfl ?_ ?_
              rotate_left 2
              ·go_simp
               constructor
               ·rfl
               ·rfl
              clear hcv27
              refine hK.out _ _ ⟨(blk_cell BK217.out 0).trans rfl, (blk_cell BK217.out 1).trans rfl, (blk_cell BK217.out 2).trans rfl, (blk_cell BK217.out 3).trans rfl, (blk_cell BK217.out 4).trans rfl, (blk_cell BK217.out 5).trans rfl⟩ (fun hHeld => ?_)
              clear hK K
              refine norm_ (a' := ?_) ?_ ?_
              rotate_left
              ·show Act.put _ (some 22) _ = _
               simp only [Act.put, List.setIfInBounds_toArray, List.set_cons_zero, List.set_cons_succ, i64_w, i32_w]
               rfl
              refine pz (i := 11) (N := some 23) #[I,I,I,I,I,I,I,I,I,I,I,I,I,I,I,I,O,I,I,O,I,I,O,O] ?_
              exact norm_ (by first | (simp only [putAll, Act.put, List.setIfInBounds_toArray, List.set_cons_zero, List.set_cons_succ]; done) | (simp only [putAll, Act.put, List.setIfInBounds_toArray, List.set_cons_zero, List.set_cons_succ]; rfl)) (hJ2_5_9_10_15 (v221) _ ⟨hHeld, (rk HO222.out), (bk BK217.out), bo⟩)
            ·skip
             rintro v221 w26 ⟨hS_, h0_, h1_, h2_⟩
             have n0_ : Aside0 (Kd.R (Kd.int .u8) 5 w26 w.heap.size (fun _ => True) v221 y220) := ⟨h0_⟩
             have n1_ : Aside0 (w26.heap[gb217]? = some (.cells #[.int .i64 a0_0, .int .i64 a0_1, .string a0_2, .string a0_3, .int .i64 a0_4, .bool a0_5] 25 (0, 0))) := ⟨h1_⟩
             have n2_ : Aside0 (Below w.heap.size w w26) := ⟨h2_⟩
             clear BK217
             clear HB
             clear h0_ h1_ h2_
             have HO222 := n0_
             have BK217 := n1_
             have HB := n2_
             clear n0_ n1_ n2_
             have hHeld : w26.cell? ⟨gb217, 0, none⟩ = some (.int .i64 a0_0) ∧ w26.cell? ⟨gb217, 1, none⟩ = some (.int .i64 a0_1) ∧ w26.cell? ⟨gb217, 2, none⟩ = some (.string a0_2) ∧ w26.cell? ⟨gb217, 3, none⟩ = some (.string a0_3) ∧ w26.cell? ⟨gb217, 4, none⟩ = some (.int .i64 a0_4) ∧ w26.cell? ⟨gb217, 5, none⟩ = some (.bool a0_5) := hS_
             refine norm_ (a' := ?_) ?_ ?_
             rotate_left
             ·simp only [putAll, Act.put, List.setIfInBounds_toArray, List.set_cons_zero, List.set_cons_succ]
              rfl
             refine one_ (i := 15) (N := some 27) #[I,I,I,I,I,I,I,I,I,I,I,I,I,I,I,I,O,I,I,O,I,I,O,O] rfl rfl (one_of HT_.out (by kernel_rfl)) (by decide) (fun K hK => ?_)
             refine goes_ Try.func69 (by kernel_rfl) rfl #[.int .i64 (a0_2.size : Int), .int .i64 2] (by rfl) rfl rfl aa ?_
             with_reducible refine (fairwayref1_Fixed.calls kj1 (a0_2.size : Int) 2 t223 _ A10.out).mono ?_
             rintro e w27 ⟨rfl, hb⟩
             refine ⟨_, rfl, ?_⟩
             replace HO222 := Aside0.mk (Kd.R_below (rk HO222.out) hb)
             replace BK217 := Aside0.mk (bb BK217.out hb)
             replace HB := Aside0.mk (below_step bo hb)
             (try clear hb)
             (try clear hb2)
             (try clear hk)
             (try clear hi)
             refine hK.out _ _ ⟨(blk_cell BK217.out 0).trans rfl, (blk_cell BK217.out 1).trans rfl, (blk_cell BK217.out 2).trans rfl, (blk_cell BK217.out 3).trans rfl, (blk_cell BK217.out 4).trans rfl, (blk_cell BK217.out 5).trans rfl⟩ (fun hHeld => ?_)
             clear hK K
             refine norm_ (a' := ?_) ?_ ?_
             rotate_left
             ·show Act.put _ (some 27) _ = _
              simp only [Act.put, List.setIfInBounds_toArray, List.set_cons_zero, List.set_cons_succ, i64_w, i32_w]
              rfl
             exact norm_ (by first | (simp only [putAll, Act.put, List.setIfInBounds_toArray, List.set_cons_zero, List.set_cons_succ]; done) | (simp only [putAll, Act.put, List.setIfInBounds_toArray, List.set_cons_zero, List.set_cons_succ]; rfl)) (hJ2_5_9_10_15 (v221) _ ⟨hHeld, (rk HO222.out), (bk BK217.out), bo⟩)
           rintro v221 w27 ⟨hS_, h0_, h1_, h2_⟩
           have n0_ : Aside0 (Kd.R (Kd.int .u8) 5 w27 w.heap.size (fun _ => True) v221 y220) := ⟨h0_⟩
           have n1_ : Aside0 (w27.heap[gb217]? = some (.cells #[.int .i64 a0_0, .int .i64 a0_1, .string a0_2, .string a0_3, .int .i64 a0_4, .bool a0_5] 25 (0, 0))) := ⟨h1_⟩
           have n2_ : Aside0 (Below w.heap.size w w27) := ⟨h2_⟩
           clear BK217
           clear HB
           clear h0_ h1_ h2_
           have HO222 := n0_
           have BK217 := n1_
           have HB := n2_
           clear n0_ n1_ n2_
           have hHeld : w27.cell? ⟨gb217, 0, none⟩ = some (.int .i64 a0_0) ∧ w27.cell? ⟨gb217, 1, none⟩ = some (.int .i64 a0_1) ∧ w27.cell? ⟨gb217, 2, none⟩ = some (.string a0_2) ∧ w27.cell? ⟨gb217, 3, none⟩ = some (.string a0_3) ∧ w27.cell? ⟨gb217, 4, none⟩ = some (.int .i64 a0_4) ∧ w27.cell? ⟨gb217, 5, none⟩ = some (.bool a0_5) := hS_
           refine norm_ (a' := ?_) ?_ ?_
           rotate_left
           ·simp only [putAll, Act.put, List.setIfInBounds_toArray, List.set_cons_zero, List.set_cons_succ]
            rfl
           refine pz (i := 16) (N := some 28) #[I,I,I,I,I,I,I,I,I,I,I,I,I,I,I,I,I,I,I,O,I,I,O,O] ?_
           refine pz (i := 19) (N := some 31) #[I,I,I,I,I,I,I,I,I,I,I,I,I,I,I,I,I,I,I,I,I,I,O,O] ?_
           refine pz (i := 22) (N := some 34) #[I,I,I,I,I,I,I,I,I,I,I,I,I,I,I,I,I,I,I,I,I,I,I,O] ?_
           refine pz (i := 23) (N := some 4) #[I,I,I,I,I,I,I,I,I,I,I,I,I,I,I,I,I,I,I,I,I,I,I,I] ?_
           refine done_ (done_of HT_.out (by kernel_rfl)) ?_
           try go_wp2_with (first | ((with_reducible refine gate_callee (f := 69) rfl ?_); refine goesL_ (some 37) rfl rfl Try.func69 (by kernel_rfl) rfl #[.int .i64 ((((((t218 ++ t219) ++ (strOfNums y220)) ++ t223) ++ a0_2) ++ a0_3).size : Int), .int .i64 2] rfl aa ?_; (with_reducible refine (fairwayref1_Fixed.calls kj1 ((((((t218 ++ t219) ++ (strOfNums y220)) ++ t223) ++ a0_2) ++ a0_3).size : Int) 2 t224 _ A14.out).mono ?_); rintro e w28 ⟨rfl, hb⟩; refine ⟨_, rfl, ?_⟩; replace HO222 := Aside0.mk (Kd.R_below (rk HO222.out) hb); replace BK217 := Aside0.mk (bb BK217.out hb); replace HB := Aside0.mk (below_step bo hb); (try clear hb); (try clear hb2); (try clear hk); (try clear hi)) | ((with_reducible refine gate_callee (f := 70) rfl ?_); refine goesL_ (some 42) rfl rfl Try.func70 (by kernel_rfl) rfl #[.int .u32 0, .string (t224 ++ (((((t218 ++ t219) ++ (strOfNums y220)) ++ t223) ++ a0_2) ++ a0_3))] rfl aa ?_; (with_reducible refine (fairwayref1_Sum.calls kj1 0 (t224 ++ (((((t218 ++ t219) ++ (strOfNums y220)) ++ t223) ++ a0_2) ++ a0_3)) t225 _ A16.out).mono ?_); rintro e w' ⟨rfl, ⟨nd, rfl⟩⟩; refine ⟨_, rfl, ?_⟩) | ((with_reducible refine gate_callee (f := 69) rfl ?_); refine goesL_ (some 44) rfl rfl Try.func69 (by kernel_rfl) rfl #[.int .i64 (wrap64 (t225)), .int .i64 4] rfl aa ?_; (with_reducible refine (fairwayref1_Fixed.calls kj1 (wrap64 (t225)) 4 t226 _ A17.out).mono ?_); rintro e w29 ⟨rfl, hb⟩; refine ⟨_, rfl, ?_⟩; replace HO222 := Aside0.mk (Kd.R_below (rk HO222.out) hb); replace BK217 := Aside0.mk (bb BK217.out hb); replace HB := Aside0.mk (below_step bo hb); (try clear hb); (try clear hb2); (try clear hk); (try clear hi)))
           go_ret
           exact ⟨er, bo⟩
          ·rw [if_neg c19] at H
           exact absurd H (by simp)
         ·rw [if_neg c18] at H
          exact absurd H (by simp)
        ·rw [if_neg c15] at H
         exact absurd H (by simp)
       ·rw [if_neg c13] at H
        exact absurd H (by simp)
      ·rw [if_neg c12] at H
       exact absurd H (by simp)
     ·rw [if_neg c11] at H
      exact absurd H (by simp)
    ·rw [if_neg c9] at H
     exact absurd H (by simp)
   ·rw [if_neg c8] at H
    exact absurd H (by simp)

end Go.Proofs.Ytmabdfdmccbfnaa.P

-- written by a program of the proving session, out of the translation; Lean checks it
namespace Go.Proofs.Ytmabdfdmccbfnaa.P
open Go.RowKit Go.Proofs.Ytmabdfdmccbfnaa.Sq Go.Proofs.YtmabdfdmccbfnaaW.PrintWords Go.Proofs.YtmabdfdmccbfnaaW.PrintLast Go.Proofs.YtmabdfdmccbfnaaW.PrintMore
attribute [local go_sem] max2_int min2_int max_two min_two max_three min_three max_four min_four   -- for this text's walks alone
set_option linter.unusedVariables false
set_option linter.unusedSimpArgs false

/-! ### fairwayref10_Text: function 43 -/
def fairwayref10_Text.l0 : Nat → ByteArray → Int → Int → List (S25) → Option (ByteArray)
 | 0, _, _, _, _ => none
 | k + 1, x3, x4, x529000, x529001 => if x4 < (x529001.length : Int) then (if 0 ≤ x4 then ((fairwayref10_Bytes.f k ((rd_T25 x529001 x4).f0) ((rd_T25 x529001 x4).f1) ((rd_T25 x529001 x4).f2) ((rd_T25 x529001 x4).f3) ((rd_T25 x529001 x4).f4) ((rd_T25 x529001 x4).f5)).bind fun t530 => (if x3.size + t530.size ≤ 9223372036854775807 then (fairwayref10_Text.l0 k (x3 ++ t530) (wrap64 (x4 + 1)) x529000 x529001) else (none))) else (none)) else (some x3)
def fairwayref10_Text.f (k : Nat) (a0_0 : Int) (l0_1 : List (S25)) : Option (ByteArray) := fairwayref10_Text.l0 k (⟨#[]⟩ : ByteArray) 0 a0_0 l0_1
theorem fairwayref10_Text.mono_l : ∀ k, (∀ y0 y1 y2 y3, LeO (fairwayref10_Text.l0 k y0 y1 y2 y3) (fairwayref10_Text.l0 (k + 1) y0 y1 y2 y3))
 | 0 => fun _ _ _ _ r h => by simp [fairwayref10_Text.l0] at h
 | k + 1 => by
  have ih0 := fairwayref10_Text.mono_l k
  ·intro y0 y1 y2 y3
   unfold fairwayref10_Text.l0
   repeat' first
   | (with_reducible exact ih0 _ _ _ _)
   | (with_reducible exact fairwayref10_Bytes.mono _ _ _ _ _ _ _)
   | (with_reducible exact LeO.refl _)
   | (with_reducible exact LeO.none _)
   | (with_reducible refine LeO.ite ?_ ?_)
   | (with_reducible refine LeO.bind ?_ (fun _ => ?_))
   | exact ih0 _ _ _ _
   | exact fairwayref10_Bytes.mono _ _ _ _ _ _ _
   | exact LeO.none _
   | refine LeO.ite ?_ ?_
   | refine LeO.bind ?_ (fun _ => ?_)
theorem fairwayref10_Text.mono : ∀ a0 a1 k, LeO (fairwayref10_Text.f k a0 a1) (fairwayref10_Text.f (k + 1) a0 a1) := by
 intro a0 a1 k
 have ih0 := fairwayref10_Text.mono_l k
 unfold fairwayref10_Text.f
 repeat' first
  | (with_reducible exact ih0 _ _ _ _)
  | (with_reducible exact fairwayref10_Bytes.mono _ _ _ _ _ _ _)
  | (with_reducible exact LeO.refl _)
  | (with_reducible exact LeO.none _)
  | (with_reducible refine LeO.ite ?_ ?_)
  | (with_reducible refine LeO.bind ?_ (fun _ => ?_))
  | exact ih0 _ _ _ _
  | exact fairwayref10_Bytes.mono _ _ _ _ _ _ _
  | exact LeO.none _
  | refine LeO.ite ?_ ?_
  | refine LeO.bind ?_ (fun _ => ?_)
set_option maxHeartbeats 8000000 in
set_option maxRecDepth 100000 in
theorem fairwayref10_Text.calls (k : Nat) (a0_0 : Int) (A0_1 : Option Addr) (c0_1 : Nat) (l0_1 : List (S25)) (r : ByteArray) (w : World) (hr0_1 : Kd.C k25 w A0_1 l0_1.length l0_1) (hc0_1 : l0_1.length ≤ c0_1) (h : fairwayref10_Text.f k a0_0 l0_1 = some r) :
 Calls Try.prog 43 #[.agg #[.int .i64 a0_0, .slice A0_1 l0_1.length c0_1]] w fun e w' => e = .returned (.string r) ∧ Below w.heap.size w w' := by
 have hu53 := Try.underlying53
 have hu25 := Try.underlying25
 have HR0_1 := Aside0.mk hr0_1
 have HC0_1 := Aside0.mk hc0_1
 clear hr0_1 hc0_1
 have HB := Aside0.mk (Below.refl w.heap.size w)
 have H : (fairwayref10_Text.l0 k (⟨#[]⟩ : ByteArray) 0 a0_0 l0_1) = some r := h
 clear h
 have H' := Aside0.mk H
 clear H
 go_enter Try.func43, Try.ntmps43
 go_wp2_with (first | ((with_reducible refine gate_dst (N := 1) rfl ?_); refine box_event ?hg (N := 1) ?hd (cs := #[.int .i64 a0_0, .slice A0_1 l0_1.length c0_1]) (t := 53) ?hr ?_; (case hd => rfl); (case hg => rfl); (case hr => first | (go_simp; done) | (go_simp; rfl)); intro gb528 hg w2 hbox hb; have BK528 := Aside0.mk (hbox); have GW528 := Aside0.mk ((by rw [hg]; exact (below_size bo) : w.heap.size ≤ gb528)); have GE528 := Aside0.mk ((by rw [hg]; exact (below_size bo) : w.heap.size ≤ gb528)); replace HB := Aside0.mk (below_step bo hb); clear hb hbox hg))
 go_loopg [3, 4] k (fun kq v3 v4 w' => ∃ (x3_1 : ByteArray) (x4_1 : Int), v3 = .string x3_1 ∧ v4 = .int .i64 x4_1 ∧ Aside0 (fairwayref10_Text.l0 kq x3_1 x4_1 a0_0 l0_1 = some r) ∧ Aside0 (kq ≤ k) ∧ Aside0 (w'.heap[gb528]? = some (.cells #[.int .i64 a0_0, (.slice A0_1 l0_1.length c0_1)] 53 (0, 0))) ∧ Aside0 (Below w.heap.size w w'))
 case atStart => exact ⟨((⟨#[]⟩ : ByteArray)), (0), ap, ap, H', ⟨Nat.le_refl _⟩, ⟨by (with_reducible repeat (first | refine blk_drewN ?_ _ | refine blk_drew ?_ | refine blk_alloc ?_ _)); exact BK528.out⟩, ⟨bo⟩⟩
 case round =>
  clear H'
  try clear p2
  obtain ⟨x3_1, x4_1, rfl, rfl, HA, HK1, BK528, HB⟩ := hrel
  cases gk with
  | zero => exact absurd HA.out (by simp [fairwayref10_Text.l0])
  | succ k1 =>
   have H := HA.out
   clear HA
   simp only [fairwayref10_Text.l0] at H
   by_cases c3 : x4_1 < (l0_1.length : Int)
   ·rw [if_pos c3] at H
    have c3b0 : decide (x4_1 < (l0_1.length : Int)) = true := decide_eq_true c3
    clear c3
    by_cases c4 : 0 ≤ x4_1
    ·rw [if_pos c4] at H
     have c4b0 : decide (0 ≤ x4_1) = true := decide_eq_true c4
     clear c4
     replace H := Option.bind_eq_some_iff.mp H
     obtain ⟨t530, A50, H⟩ := H
     replace H : (if x3_1.size + t530.size ≤ 9223372036854775807 then (fairwayref10_Text.l0 k1 (x3_1 ++ t530) (wrap64 (x4_1 + 1)) a0_0 l0_1) else (none)) = some r := H
     have A5 := Aside0.mk A50
     clear A50
     by_cases c6 : x3_1.size + t530.size ≤ 9223372036854775807
     ·rw [if_pos c6] at H
      have c6b0 := eq_true c6
      have c6b1 : decide (x3_1.size + t530.size ≤ 9223372036854775807) = true := decide_eq_true c6
      try have c6b2 : (9223372036854775807 < x3_1.size + t530.size) = False := eq_false (Nat.not_lt.2 c6)
      have H' := Aside0.mk H
      clear H
      have hcz7_0 : wr.cell? ⟨gb528, 0, none⟩ = some (.int .i64 a0_0) := (blk_cell BK528.out 0).trans rfl
      have hcz7_1 : wr.cell? ⟨gb528, 1, none⟩ = some (.slice A0_1 l0_1.length c0_1) := (blk_cell BK528.out 1).trans rfl
      have hfz7_0 := blk_frozen BK528.out 0
      have hfz7_1 := blk_frozen BK528.out 1
      have p529 : 0 ≤ (x4_1 : Int) := od
      have q529 : x4_1 < (l0_1.length : Int) := od
      obtain ⟨ad529, e529, hx529_0, hx529_1, hx529_2, hx529_3, hx529_4, hx529_5⟩ := at_T25 HR0_1.out x4_1 p529 q529
      cases e529
      replace hx529_0 := cx HB.out hx529_0
      replace hx529_1 := cx HB.out hx529_1
      replace hx529_2 := cx HB.out hx529_2
      replace hx529_3 := cx HB.out hx529_3
      replace hx529_4 := cx HB.out hx529_4
      replace hx529_5 := cx HB.out hx529_5
      replace p529 := eq_true p529
      replace q529 := eq_true q529
      go_wp2_with (first | ((with_reducible refine gate_callee (f := 20) rfl ?_); refine goesL_ (some 18) rfl rfl Try.func20 (by kernel_rfl) rfl #[.agg #[.int .i64 ((rd_T25 l0_1 x4_1).f0), .int .i64 ((rd_T25 l0_1 x4_1).f1), .string ((rd_T25 l0_1 x4_1).f2), .string ((rd_T25 l0_1 x4_1).f3), .int .i64 ((rd_T25 l0_1 x4_1).f4), .bool ((rd_T25 l0_1 x4_1).f5)]] rfl aa ?_; (with_reducible refine (fairwayref10_Bytes.calls k1 ((rd_T25 l0_1 x4_1).f0) ((rd_T25 l0_1 x4_1).f1) ((rd_T25 l0_1 x4_1).f2) ((rd_T25 l0_1 x4_1).f3) ((rd_T25 l0_1 x4_1).f4) ((rd_T25 l0_1 x4_1).f5) t530 _ A5.out).mono ?_); rintro e w8 ⟨rfl, hb⟩; refine ⟨_, rfl, ?_⟩; replace BK528 := Aside0.mk (bb BK528.out hb); replace HB := Aside0.mk (below_step bo hb); (try clear hb); (try clear hb2); (try clear hk); (try clear hi)))
      go_roundg k1
      case measure => have := HK1.out; omega
      case rel => exact ⟨(x3_1 ++ t530), (wrap64 (x4_1 + 1)), ap, ap, H', ⟨by have := HK1.out; omega⟩, ⟨by (with_reducible repeat (first | refine blk_drewN ?_ _ | refine blk_drew ?_ | refine blk_alloc ?_ _)); exact BK528.out⟩, ⟨bo⟩⟩
     ·rw [if_neg c6] at H
      exact absurd H (by simp)
    ·rw [if_neg c4] at H
     exact absurd H (by simp)
   ·rw [if_neg c3] at H
    have c3b0 : decide (x4_1 < (l0_1.length : Int)) = false := decide_eq_false c3
    clear c3
    obtain rfl := Option.some.inj H
    have hcz9_0 : wr.cell? ⟨gb528, 0, none⟩ = some (.int .i64 a0_0) := (blk_cell BK528.out 0).trans rfl
    have hcz9_1 : wr.cell? ⟨gb528, 1, none⟩ = some (.slice A0_1 l0_1.length c0_1) := (blk_cell BK528.out 1).trans rfl
    have hfz9_0 := blk_frozen BK528.out 0
    have hfz9_1 := blk_frozen BK528.out 1
    go_wp2
    go_ret
    exact ⟨er, bo⟩

end Go.Proofs.Ytmabdfdmccbfnaa.P

-- written by a program of the proving session, out of the translation; Lean checks it
namespace Go.Proofs.Ytmabdfdmccbfnaa.P
open Go.RowKit Go.Proofs.Ytmabdfdmccbfnaa.Sq Go.Proofs.YtmabdfdmccbfnaaW.PrintWords Go.Proofs.YtmabdfdmccbfnaaW.PrintLast Go.Proofs.YtmabdfdmccbfnaaW.PrintMore
attribute [local go_sem] max2_int min2_int max_two min_two max_three min_three max_four min_four   -- for this text's walks alone
set_option linter.unusedVariables false
set_option linter.unusedSimpArgs false

/-! ### rec_Size: function 21 -/
def rec_Size.f (k : Nat) (a0_0 : Int) (a0_1 : Int) (a0_2 : ByteArray) (a0_3 : ByteArray) (a0_4 : Int) (a0_5 : Bool) : Option (Int × Int) := (rec_Check.f k a0_0 a0_1 a0_2 a0_3 a0_4 a0_5).bind fun t228 => (if t228 = 0 then (some (wrap64 ((wrap64 (25 + (a0_2.size : Int))) + (a0_3.size : Int)), 0)) else (some (0, t228)))
theorem rec_Size.mono : ∀ a0 a1 a2 a3 a4 a5 k, LeO (rec_Size.f k a0 a1 a2 a3 a4 a5) (rec_Size.f (k + 1) a0 a1 a2 a3 a4 a5) := by
 intro a0 a1 a2 a3 a4 a5 k
 unfold rec_Size.f
 repeat' first
  | (with_reducible exact rec_Check.mono _ _ _ _ _ _ _)
  | (with_reducible exact LeO.refl _)
  | (with_reducible exact LeO.none _)
  | (with_reducible refine LeO.ite ?_ ?_)
  | (with_reducible refine LeO.bind ?_ (fun _ => ?_))
  | exact rec_Check.mono _ _ _ _ _ _ _
  | exact LeO.none _
  | refine LeO.ite ?_ ?_
  | refine LeO.bind ?_ (fun _ => ?_)
set_option maxHeartbeats 8000000 in
set_option maxRecDepth 100000 in
theorem rec_Size.calls (k : Nat) (a0_0 : Int) (a0_1 : Int) (a0_2 : ByteArray) (a0_3 : ByteArray) (a0_4 : Int) (a0_5 : Bool) (r1 : Int) (r2 : Int) (w : World) (h : rec_Size.f k a0_0 a0_1 a0_2 a0_3 a0_4 a0_5 = some (r1, r2)) :
 Calls Try.prog 21 #[.agg #[.int .i64 a0_0, .int .i64 a0_1, .string a0_2, .string a0_3, .int .i64 a0_4, .bool a0_5]] w fun e w' => e = .returned (.tuple #[.int .i64 r1, .int .i64 r2]) ∧ Below w.heap.size w w' := by
 have hu25 := Try.underlying25
 have HB := Aside0.mk (Below.refl w.heap.size w)
 have H : ((rec_Check.f k a0_0 a0_1 a0_2 a0_3 a0_4 a0_5).bind fun t228 => (if t228 = 0 then (some (wrap64 ((wrap64 (25 + (a0_2.size : Int))) + (a0_3.size : Int)), 0)) else (some (0, t228)))) = some (r1, r2) := h
 clear h
 replace H := Option.bind_eq_some_iff.mp H
 obtain ⟨t228, A20, H⟩ := H
 replace H : (if t228 = 0 then (some (wrap64 ((wrap64 (25 + (a0_2.size : Int))) + (a0_3.size : Int)), 0)) else (some (0, t228))) = some (r1, r2) := H
 have A2 := Aside0.mk A20
 clear A20
 by_cases c3 : t228 = 0
 ·rw [if_pos c3] at H
  have c3b0 : (t228 == 0) = true := beq_iff_eq.mpr c3
  have c3b1 : (t228 != 0) = false := bne_eq_false_iff_eq.mpr c3
  clear c3
  simp only [Option.some.injEq, Prod.mk.injEq] at H
  obtain ⟨rfl, rfl⟩ := H
  go_enter Try.func21, Try.ntmps21
  go_wp2_with (first | ((with_reducible refine gate_dst (N := 1) rfl ?_); refine box_event ?hg (N := 1) ?hd (cs := #[.int .i64 a0_0, .int .i64 a0_1, .string a0_2, .string a0_3, .int .i64 a0_4, .bool a0_5]) (t := 25) ?hr ?_; (case hd => rfl); (case hg => rfl); (case hr => first | (go_simp; done) | (go_simp; rfl)); intro gb227 hg w4 hbox hb; have BK227 := Aside0.mk (hbox); have GW227 := Aside0.mk ((by rw [hg]; exact (below_size bo) : w.heap.size ≤ gb227)); have GE227 := Aside0.mk ((by rw [hg]; exact (below_size bo) : w.heap.size ≤ gb227)); replace HB := Aside0.mk (below_step bo hb); clear hb hbox hg; obtain ⟨hcz5_0, hcz5_1, hcz5_2, hcz5_3, hcz5_4, hcz5_5⟩ := cl6 BK227.out; obtain ⟨hfz5_0, hfz5_1, hfz5_2, hfz5_3, hfz5_4, hfz5_5⟩ := fz6 BK227.out) | ((with_reducible refine gate_callee (f := 22) rfl ?_); refine goesL_ (some 6) rfl rfl Try.func22 (by kernel_rfl) rfl #[.agg #[.int .i64 a0_0, .int .i64 a0_1, .string a0_2, .string a0_3, .int .i64 a0_4, .bool a0_5]] rfl aa ?_; (with_reducible refine (rec_Check.calls k a0_0 a0_1 a0_2 a0_3 a0_4 a0_5 t228 _ A2.out).mono ?_); rintro e w6 ⟨rfl, hb⟩; refine ⟨_, rfl, ?_⟩; replace BK227 := Aside0.mk (bb BK227.out hb); replace HB := Aside0.mk (below_step bo hb); (try clear hb); (try clear hb2); (try clear hk); (try clear hi); obtain ⟨hcz7_0, hcz7_1, hcz7_2, hcz7_3, hcz7_4, hcz7_5⟩ := cl6 BK227.out; obtain ⟨hfz7_0, hfz7_1, hfz7_2, hfz7_3, hfz7_4, hfz7_5⟩ := fz6 BK227.out))
  go_ret2
  exact ⟨er, bo⟩
 ·rw [if_neg c3] at H
  have c3b0 : (t228 == 0) = false := beq_eq_false_iff_ne.mpr c3
  have c3b1 : (t228 != 0) = true := bne_iff_ne.mpr c3
  simp only [Option.some.injEq, Prod.mk.injEq] at H
  obtain ⟨rfl, rfl⟩ := H
  go_enter Try.func21, Try.ntmps21
  go_wp2_with (first | ((with_reducible refine gate_dst (N := 1) rfl ?_); refine box_event ?hg (N := 1) ?hd (cs := #[.int .i64 a0_0, .int .i64 a0_1, .string a0_2, .string a0_3, .int .i64 a0_4, .bool a0_5]) (t := 25) ?hr ?_; (case hd => rfl); (case hg => rfl); (case hr => first | (go_simp; done) | (go_simp; rfl)); intro gb227 hg w8 hbox hb; have BK227 := Aside0.mk (hbox); have GW227 := Aside0.mk ((by rw [hg]; exact (below_size bo) : w.heap.size ≤ gb227)); have GE227 := Aside0.mk ((by rw [hg]; exact (below_size bo) : w.heap.size ≤ gb227)); replace HB := Aside0.mk (below_step bo hb); clear hb hbox hg; obtain ⟨hcz9_0, hcz9_1, hcz9_2, hcz9_3, hcz9_4, hcz9_5⟩ := cl6 BK227.out; obtain ⟨hfz9_0, hfz9_1, hfz9_2, hfz9_3, hfz9_4, hfz9_5⟩ := fz6 BK227.out) | ((with_reducible refine gate_callee (f := 22) rfl ?_); refine goesL_ (some 6) rfl rfl Try.func22 (by kernel_rfl) rfl #[.agg #[.int .i64 a0_0, .int .i64 a0_1, .string a0_2, .string a0_3, .int .i64 a0_4, .bool a0_5]] rfl aa ?_; (with_reducible refine (rec_Check.calls k a0_0 a0_1 a0_2 a0_3 a0_4 a0_5 t228 _ A2.out).mono ?_); rintro e w10 ⟨rfl, hb⟩; refine ⟨_, rfl, ?_⟩; replace BK227 := Aside0.mk (bb BK227.out hb); replace HB := Aside0.mk (below_step bo hb); (try clear hb); (try clear hb2); (try clear hk); (try clear hi)))
  go_ret2
  exact ⟨er, bo⟩

end Go.Proofs.Ytmabdfdmccbfnaa.P

-- written by a program of the proving session, out of the translation; Lean checks it
namespace Go.Proofs.Ytmabdfdmccbfnaa.P
open Go.RowKit Go.Proofs.Ytmabdfdmccbfnaa.Sq Go.Proofs.YtmabdfdmccbfnaaW.PrintWords Go.Proofs.YtmabdfdmccbfnaaW.PrintLast Go.Proofs.YtmabdfdmccbfnaaW.PrintMore
attribute [local go_sem] max2_int min2_int max_two min_two max_three min_three max_four min_four   -- for this text's walks alone
set_option linter.unusedVariables false
set_option linter.unusedSimpArgs false

/-! ### seg_Size: function 44 -/
def seg_Size.l0 : Nat → Int → List (S25) → Int → Int → Option (Int × Int)
 | 0, _, _, _, _ => none
 | k + 1, x5, x16, x17, x18 => if x18 < x17 then (if 0 ≤ x18 then (if x18 < (x16.length : Int) then ((rec_Size.f k ((rd_T25 x16 x18).f0) ((rd_T25 x16 x18).f1) ((rd_T25 x16 x18).f2) ((rd_T25 x16 x18).f3) ((rd_T25 x16 x18).f4) ((rd_T25 x16 x18).f5)).bind fun bt535 => (seg_Size.l0 k (wrap64 (x5 + bt535.1)) x16 x17 (wrap64 (x18 + 1)))) else (none)) else (none)) else (some (x5, 0))
def seg_Size.f (k : Nat) (a0_0 : Int) (l0_1 : List (S25)) : Option (Int × Int) := (seg_Check.f k a0_0 l0_1).bind fun t532 => (if t532 = 0 then (seg_Size.l0 k 0 l0_1 (l0_1.length : Int) 0) else (some (0, t532)))
theorem seg_Size.mono_l : ∀ k, (∀ y0 y1 y2 y3, LeO (seg_Size.l0 k y0 y1 y2 y3) (seg_Size.l0 (k + 1) y0 y1 y2 y3))
 | 0 => fun _ _ _ _ r h => by simp [seg_Size.l0] at h
 | k + 1 => by
  have ih0 := seg_Size.mono_l k
  ·intro y0 y1 y2 y3
   unfold seg_Size.l0
   repeat' first
   | (with_reducible exact ih0 _ _ _ _)
   | (with_reducible exact rec_Size.mono _ _ _ _ _ _ _)
   | (with_reducible exact seg_Check.mono _ _ _)
   | (with_reducible exact LeO.refl _)
   | (with_reducible exact LeO.none _)
   | (with_reducible refine LeO.ite ?_ ?_)
   | (with_reducible refine LeO.bind ?_ (fun _ => ?_))
   | exact ih0 _ _ _ _
   | exact rec_Size.mono _ _ _ _ _ _ _
   | exact seg_Check.mono _ _ _
   | exact LeO.none _
   | refine LeO.ite ?_ ?_
   | refine LeO.bind ?_ (fun _ => ?_)
theorem seg_Size.mono : ∀ a0 a1 k, LeO (seg_Size.f k a0 a1) (seg_Size.f (k + 1) a0 a1) := by
 intro a0 a1 k
 have ih0 := seg_Size.mono_l k
 unfold seg_Size.f
 repeat' first
  | (with_reducible exact ih0 _ _ _ _)
  | (with_reducible exact rec_Size.mono _ _ _ _ _ _ _)
  | (with_reducible exact seg_Check.mono _ _ _)
  | (with_reducible exact LeO.refl _)
  | (with_reducible exact LeO.none _)
  | (with_reducible refine LeO.ite ?_ ?_)
  | (with_reducible refine LeO.bind ?_ (fun _ => ?_))
  | exact ih0 _ _ _ _
  | exact rec_Size.mono _ _ _ _ _ _ _
  | exact seg_Check.mono _ _ _
  | exact LeO.none _
  | refine LeO.ite ?_ ?_
  | refine LeO.bind ?_ (fun _ => ?_)
set_option maxHeartbeats 8000000 in
set_option maxRecDepth 100000 in
theorem seg_Size.calls (k : Nat) (a0_0 : Int) (A0_1 : Option Addr) (c0_1 : Nat) (l0_1 : List (S25)) (r1 : Int) (r2 : Int) (w : World) (hr0_1 : Kd.C k25 w A0_1 l0_1.length l0_1) (hc0_1 : l0_1.length ≤ c0_1) (h : seg_Size.f k a0_0 l0_1 = some (r1, r2)) :
 Calls Try.prog 44 #[.agg #[.int .i64 a0_0, .slice A0_1 l0_1.length c0_1]] w fun e w' => e = .returned (.tuple #[.int .i64 r1, .int .i64 r2]) ∧ Below w.heap.size w w' := by
 have hu53 := Try.underlying53
 have hu25 := Try.underlying25
 have HR0_1 := Aside0.mk hr0_1
 have HC0_1 := Aside0.mk hc0_1
 clear hr0_1 hc0_1
 have HB := Aside0.mk (Below.refl w.heap.size w)
 have H : ((seg_Check.f k a0_0 l0_1).bind fun t532 => (if t532 = 0 then (seg_Size.l0 k 0 l0_1 (l0_1.length : Int) 0) else (some (0, t532)))) = some (r1, r2) := h
 clear h
 replace H := Option.bind_eq_some_iff.mp H
 obtain ⟨t532, A20, H⟩ := H
 replace H : (if t532 = 0 then (seg_Size.l0 k 0 l0_1 (l0_1.length : Int) 0) else (some (0, t532))) = some (r1, r2) := H
 have A2 := Aside0.mk A20
 clear A20
 by_cases c3 : t532 = 0
 ·rw [if_pos c3] at H
  have c3b0 : (t532 == 0) = true := beq_iff_eq.mpr c3
  have c3b1 : (t532 != 0) = false := bne_eq_false_iff_eq.mpr c3
  clear c3
  have H' := Aside0.mk H
  clear H
  go_enter Try.func44, Try.ntmps44
  go_wp2_with (first | ((with_reducible refine gate_dst (N := 1) rfl ?_); refine box_event ?hg (N := 1) ?hd (cs := #[.int .i64 a0_0, .slice A0_1 l0_1.length c0_1]) (t := 53) ?hr ?_; (case hd => rfl); (case hg => rfl); (case hr => first | (go_simp; done) | (go_simp; rfl)); intro gb531 hg w4 hbox hb; have BK531 := Aside0.mk (hbox); have GW531 := Aside0.mk ((by rw [hg]; exact (below_size bo) : w.heap.size ≤ gb531)); have GE531 := Aside0.mk ((by rw [hg]; exact (below_size bo) : w.heap.size ≤ gb531)); replace HB := Aside0.mk (below_step bo hb); clear hb hbox hg; obtain ⟨hcz5_0, hcz5_1⟩ := cl2 BK531.out; obtain ⟨hfz5_0, hfz5_1⟩ := fz2 BK531.out) | ((with_reducible refine gate_callee (f := 46) rfl ?_); refine goesL_ (some 11) rfl rfl Try.func46 (by kernel_rfl) rfl #[.agg #[.int .i64 a0_0, .slice A0_1 l0_1.length c0_1]] rfl aa ?_; (with_reducible refine (seg_Check.calls k a0_0 _ _ l0_1 t532 _ ?side1 ?side2 A2.out).mono ?_); (case side1 => repeat (first | exact (Kd.C_below HR0_1.out HB.out) | (with_reducible refine Kd.C_alloc ?_ _) | (with_reducible refine Kd.C_drewN ?_ _) | (with_reducible refine Kd.C_drew ?_))); (case side2 => exact HC0_1.out); rintro e w6 ⟨rfl, hb⟩; refine ⟨_, rfl, ?_⟩; replace BK531 := Aside0.mk (bb BK531.out hb); replace HB := Aside0.mk (below_step bo hb); (try clear hb); (try clear hb2); (try clear hk); (try clear hi); obtain ⟨hcz7_0, hcz7_1⟩ := cl2 BK531.out; obtain ⟨hfz7_0, hfz7_1⟩ := fz2 BK531.out))
  go_loopg [5, 18] k (fun kq v5 v18 w' => ∃ (x5_1 : Int) (x18_1 : Int), v5 = .int .i64 x5_1 ∧ v18 = .int .i64 x18_1 ∧ Aside0 (seg_Size.l0 kq x5_1 l0_1 (l0_1.length : Int) x18_1 = some (r1, r2)) ∧ Aside0 (kq ≤ k) ∧ Aside0 (w'.heap[gb531]? = some (.cells #[.int .i64 a0_0, (.slice A0_1 l0_1.length c0_1)] 53 (0, 0))) ∧ Aside0 (Below w.heap.size w w'))
  case atStart => exact ⟨(0), (0), ap, ap, H', ⟨Nat.le_refl _⟩, ⟨by (with_reducible repeat (first | refine blk_drewN ?_ _ | refine blk_drew ?_ | refine blk_alloc ?_ _)); exact BK531.out⟩, ⟨bo⟩⟩
  case round =>
   clear H'
   try clear p2
   try clear c3
   try clear c3b0
   try clear c3b1
   try clear c4
   try clear hcz5_0
   try clear hcz5_1
   try clear hcz7_0
   try clear hcz7_1
   try clear hfz5_0
   try clear hfz5_1
   try clear hfz7_0
   try clear hfz7_1
   obtain ⟨x5_1, x18_1, rfl, rfl, HA, HK1, BK531, HB⟩ := hrel
   cases gk with
   | zero => exact absurd HA.out (by simp [seg_Size.l0])
   | succ k1 =>
    have H := HA.out
    clear HA
    simp only [seg_Size.l0] at H
    by_cases c8 : x18_1 < (l0_1.length : Int)
    ·rw [if_pos c8] at H
     have c8b0 : decide (x18_1 < (l0_1.length : Int)) = true := decide_eq_true c8
     clear c8
     by_cases c9 : 0 ≤ x18_1
     ·rw [if_pos c9] at H
      have c9b0 : decide (0 ≤ x18_1) = true := decide_eq_true c9
      clear c9
      by_cases c10 : x18_1 < (l0_1.length : Int)
      ·rw [if_pos c10] at H
       have c10b0 : decide (x18_1 < (l0_1.length : Int)) = true := decide_eq_true c10
       clear c10
       replace H := Option.bind_eq_some_iff.mp H
       obtain ⟨⟨t535, t536⟩, A110, H⟩ := H
       replace H : (seg_Size.l0 k1 (wrap64 (x5_1 + t535)) l0_1 (l0_1.length : Int) (wrap64 (x18_1 + 1))) = some (r1, r2) := H
       have A11 := Aside0.mk A110
       clear A110
       have H' := Aside0.mk H
       clear H
       have p533 : 0 ≤ (x18_1 : Int) := od
       have q533 : x18_1 < (l0_1.length : Int) := od
       obtain ⟨ad533, e533, hx533_0, hx533_1, hx533_2, hx533_3, hx533_4, hx533_5⟩ := at_T25 HR0_1.out x18_1 p533 q533
       cases e533
       replace hx533_0 := cx HB.out hx533_0
       replace hx533_1 := cx HB.out hx533_1
       replace hx533_2 := cx HB.out hx533_2
       replace hx533_3 := cx HB.out hx533_3
       replace hx533_4 := cx HB.out hx533_4
       replace hx533_5 := cx HB.out hx533_5
       replace p533 := eq_true p533
       replace q533 := eq_true q533
       go_wp2_with (first | ((with_reducible refine gate_dst (N := 7) rfl ?_); refine box_event ?hg (N := 7) ?hd (cs := #[.int .i64 0, .int .i64 0, .string (⟨#[]⟩ : ByteArray), .string (⟨#[]⟩ : ByteArray), .int .i64 0, .bool false]) (t := 25) ?hr ?_; (case hd => rfl); (case hg => rfl); (case hr => first | (go_simp; done) | (go_simp; rfl)); intro gb534 hg w12 hbox hb; have BK534 := Aside0.mk (hbox); have GW534 := Aside0.mk ((by rw [hg]; exact (below_size bo) : w.heap.size ≤ gb534)); have GE534 := Aside0.mk ((by rw [hg]; exact (below_size bo) : w.heap.size ≤ gb534)); replace HB := Aside0.mk (below_step bo hb); have NB531_534 := Aside0.mk (nl BK531.out hg); have NB534_531 := Aside0.mk (ng BK531.out hg); replace BK531 := Aside0.mk (bb BK531.out hb); clear hb hbox hg; have hnb13 := NB534_531.out; have hnc13 := NB531_534.out; obtain ⟨hcz14_0, hcz14_1, hcz14_2, hcz14_3, hcz14_4, hcz14_5⟩ := cl6 BK534.out; obtain ⟨hfz14_0, hfz14_1, hfz14_2, hfz14_3, hfz14_4, hfz14_5⟩ := fz6 BK534.out) | ((with_reducible refine gate_callee (f := 21) rfl ?_); refine goesL_ (some 24) rfl rfl Try.func21 (by kernel_rfl) rfl #[.agg #[.int .i64 ((rd_T25 l0_1 x18_1).f0), .int .i64 ((rd_T25 l0_1 x18_1).f1), .string ((rd_T25 l0_1 x18_1).f2), .string ((rd_T25 l0_1 x18_1).f3), .int .i64 ((rd_T25 l0_1 x18_1).f4), .bool ((rd_T25 l0_1 x18_1).f5)]] rfl aa ?_; (with_reducible refine (rec_Size.calls k1 ((rd_T25 l0_1 x18_1).f0) ((rd_T25 l0_1 x18_1).f1) ((rd_T25 l0_1 x18_1).f2) ((rd_T25 l0_1 x18_1).f3) ((rd_T25 l0_1 x18_1).f4) ((rd_T25 l0_1 x18_1).f5) t535 t536 _ A11.out).mono ?_); rintro e w15 ⟨rfl, hb⟩; refine ⟨_, rfl, ?_⟩; replace BK531 := Aside0.mk (bB BK531.out hb); replace BK534 := Aside0.mk (blk_below (g := gb534) (o := .cells #[.int .i64 ((rd_T25 l0_1 x18_1).f0), .int .i64 ((rd_T25 l0_1 x18_1).f1), .string ((rd_T25 l0_1 x18_1).f2), .string ((rd_T25 l0_1 x18_1).f3), .int .i64 ((rd_T25 l0_1 x18_1).f4), .bool ((rd_T25 l0_1 x18_1).f5)] 25 (0, 0)) (by (with_reducible repeat (first | refine blk_drewN ?_ _ | refine blk_drew ?_ | refine blk_alloc ?_ _)); refine blk_put (cs := #[.int .i64 ((rd_T25 l0_1 x18_1).f0), .int .i64 ((rd_T25 l0_1 x18_1).f1), .string ((rd_T25 l0_1 x18_1).f2), .string ((rd_T25 l0_1 x18_1).f3), .int .i64 ((rd_T25 l0_1 x18_1).f4), .bool false]) ?_ 5 _ rfl; (with_reducible repeat (first | refine blk_drewN ?_ _ | refine blk_drew ?_ | refine blk_alloc ?_ _)); refine blk_put (cs := #[.int .i64 ((rd_T25 l0_1 x18_1).f0), .int .i64 ((rd_T25 l0_1 x18_1).f1), .string ((rd_T25 l0_1 x18_1).f2), .string ((rd_T25 l0_1 x18_1).f3), .int .i64 0, .bool false]) ?_ 4 _ rfl; (with_reducible repeat (first | refine blk_drewN ?_ _ | refine blk_drew ?_ | refine blk_alloc ?_ _)); refine blk_put (cs := #[.int .i64 ((rd_T25 l0_1 x18_1).f0), .int .i64 ((rd_T25 l0_1 x18_1).f1), .string ((rd_T25 l0_1 x18_1).f2), .string (⟨#[]⟩ : ByteArray), .int .i64 0, .bool false]) ?_ 3 _ rfl; (with_reducible repeat (first | refine blk_drewN ?_ _ | refine blk_drew ?_ | refine blk_alloc ?_ _)); refine blk_put (cs := #[.int .i64 ((rd_T25 l0_1 x18_1).f0), .int .i64 ((rd_T25 l0_1 x18_1).f1), .string (⟨#[]⟩ : ByteArray), .string (⟨#[]⟩ : ByteArray), .int .i64 0, .bool false]) ?_ 2 _ rfl; (with_reducible repeat (first | refine blk_drewN ?_ _ | refine blk_drew ?_ | refine blk_alloc ?_ _)); refine blk_put (cs := #[.int .i64 ((rd_T25 l0_1 x18_1).f0), .int .i64 0, .string (⟨#[]⟩ : ByteArray), .string (⟨#[]⟩ : ByteArray), .int .i64 0, .bool false]) ?_ 1 _ rfl; (with_reducible repeat (first | refine blk_drewN ?_ _ | refine blk_drew ?_ | refine blk_alloc ?_ _)); refine blk_put (cs := #[.int .i64 0, .int .i64 0, .string (⟨#[]⟩ : ByteArray), .string (⟨#[]⟩ : ByteArray), .int .i64 0, .bool false]) ?_ 0 _ rfl; (with_reducible repeat (first | refine blk_drewN ?_ _ | refine blk_drew ?_ | refine blk_alloc ?_ _)); exact BK534.out) hb); replace HB := Aside0.mk (below_step bo hb); (try clear hb); (try clear hb2); (try clear hk); (try clear hi)))
       go_roundg k1
       case measure => have := HK1.out; omega
       case rel => exact ⟨(wrap64 (x5_1 + t535)), (wrap64 (x18_1 + 1)), ap, ap, H', ⟨by have := HK1.out; omega⟩, ⟨by (with_reducible repeat (first | refine blk_drewN ?_ _ | refine blk_drew ?_ | refine blk_alloc ?_ _)); exact BK531.out⟩, ⟨bo⟩⟩
      ·rw [if_neg c10] at H
       exact absurd H (by simp)
     ·rw [if_neg c9] at H
      exact absurd H (by simp)
    ·rw [if_neg c8] at H
     have c8b0 : decide (x18_1 < (l0_1.length : Int)) = false := decide_eq_false c8
     clear c8
     simp only [Option.some.injEq, Prod.mk.injEq] at H
     obtain ⟨rfl, rfl⟩ := H
     go_wp2
     go_ret2
     exact ⟨er, bo⟩
 ·rw [if_neg c3] at H
  have c3b0 : (t532 == 0) = false := beq_eq_false_iff_ne.mpr c3
  have c3b1 : (t532 != 0) = true := bne_iff_ne.mpr c3
  simp only [Option.some.injEq, Prod.mk.injEq] at H
  obtain ⟨rfl, rfl⟩ := H
  go_enter Try.func44, Try.ntmps44
  go_wp2_with (first | ((with_reducible refine gate_dst (N := 1) rfl ?_); refine box_event ?hg (N := 1) ?hd (cs := #[.int .i64 a0_0, .slice A0_1 l0_1.length c0_1]) (t := 53) ?hr ?_; (case hd => rfl); (case hg => rfl); (case hr => first | (go_simp; done) | (go_simp; rfl)); intro gb531 hg w16 hbox hb; have BK531 := Aside0.mk (hbox); have GW531 := Aside0.mk ((by rw [hg]; exact (below_size bo) : w.heap.size ≤ gb531)); have GE531 := Aside0.mk ((by rw [hg]; exact (below_size bo) : w.heap.size ≤ gb531)); replace HB := Aside0.mk (below_step bo hb); clear hb hbox hg; obtain ⟨hcz17_0, hcz17_1⟩ := cl2 BK531.out; obtain ⟨hfz17_0, hfz17_1⟩ := fz2 BK531.out) | ((with_reducible refine gate_callee (f := 46) rfl ?_); refine goesL_ (some 11) rfl rfl Try.func46 (by kernel_rfl) rfl #[.agg #[.int .i64 a0_0, .slice A0_1 l0_1.length c0_1]] rfl aa ?_; (with_reducible refine (seg_Check.calls k a0_0 _ _ l0_1 t532 _ ?side1 ?side2 A2.out).mono ?_); (case side1 => repeat (first | exact (Kd.C_below HR0_1.out HB.out) | (with_reducible refine Kd.C_alloc ?_ _) | (with_reducible refine Kd.C_drewN ?_ _) | (with_reducible refine Kd.C_drew ?_))); (case side2 => exact HC0_1.out); rintro e w18 ⟨rfl, hb⟩; refine ⟨_, rfl, ?_⟩; replace BK531 := Aside0.mk (bb BK531.out hb); replace HB := Aside0.mk (below_step bo hb); (try clear hb); (try clear hb2); (try clear hk); (try clear hi)))
  go_ret2
  exact ⟨er, bo⟩

end Go.Proofs.Ytmabdfdmccbfnaa.P

-- written by a program of the proving session, out of the translation; Lean checks it
namespace Go.Proofs.Ytmabdfdmccbfnaa.P
open Go.RowKit Go.Proofs.Ytmabdfdmccbfnaa.Sq Go.Proofs.YtmabdfdmccbfnaaW.PrintWords Go.Proofs.YtmabdfdmccbfnaaW.PrintLast Go.Proofs.YtmabdfdmccbfnaaW.PrintMore
attribute [local go_sem] max2_int min2_int max_two min_two max_three min_three max_four min_four   -- for this text's walks alone
set_option linter.unusedVariables false
set_option linter.unusedSimpArgs false

/-! ### vbi_high: function 81 -/
mutual
def vbi_high.j0 : Nat → Int → Int → Bool → Option (ByteArray × Int)
 | 0, _, _, _ => none
 | k + 1, x0, x1, x16 => if x16 = true then (some ((⟨#[]⟩ : ByteArray), 2)) else (if 0 ≤ x1 then (if (x1 : Int).toNat ≤ 281474976710656 then ((some (List.replicate (x1 : Int).toNat 0 : List Int)).bind fun y102 => (vbi_high.l0 k x0 x1 y102 (y102.length : Int) 0)) else (none)) else (none))
def vbi_high.l0 : Nat → Int → Int → List Int → Int → Int → Option (ByteArray × Int)
 | 0, _, _, _, _, _ => none
 | k + 1, x0, x1, x6, x20, x21 => if x21 < x20 then (if 0 ≤ (wrap64 (8 * x21)) then (if 0 ≤ (wrap64 ((wrap64 (x1 - 1)) - x21)) then (if (wrap64 ((wrap64 (x1 - 1)) - x21)) < (x6.length : Int) then (vbi_high.l0 k x0 x1 (x6.set ((wrap64 ((wrap64 (x1 - 1)) - x21)) : Int).toNat ((shr .i64 x0 (wrap64 (8 * x21))) % 256)) x20 (wrap64 (x21 + 1))) else (none)) else (none)) else (none)) else (some (strOfNums x6, 0))
end
def vbi_high.f (k : Nat) (a0 : Int) (a1 : Int) : Option (ByteArray × Int) := if a0 < 0 then (vbi_high.j0 k a0 a1 true) else (if 0 ≤ (wrap64 (8 * a1)) then (vbi_high.j0 k a0 a1 ((shr .i64 a0 (wrap64 (8 * a1))) != 0)) else (none))
theorem vbi_high.mono_l : ∀ k, (∀ y0 y1 y2, LeO (vbi_high.j0 k y0 y1 y2) (vbi_high.j0 (k + 1) y0 y1 y2)) ∧ (∀ y0 y1 y2 y3 y4, LeO (vbi_high.l0 k y0 y1 y2 y3 y4) (vbi_high.l0 (k + 1) y0 y1 y2 y3 y4))
 | 0 => ⟨fun _ _ _ r h => by simp [vbi_high.j0] at h, fun _ _ _ _ _ r h => by simp [vbi_high.l0] at h⟩
 | k + 1 => by
  obtain ⟨ih0, ih1⟩ := vbi_high.mono_l k
  refine ⟨?_, ?_⟩
  ·intro y0 y1 y2
   unfold vbi_high.j0
   repeat' first
   | (with_reducible exact ih0 _ _ _)
   | (with_reducible exact ih1 _ _ _ _ _)
   | (with_reducible exact LeO.refl _)
   | (with_reducible exact LeO.none _)
   | (with_reducible refine LeO.ite ?_ ?_)
   | (with_reducible refine LeO.bind ?_ (fun _ => ?_))
   | exact ih0 _ _ _
   | exact ih1 _ _ _ _ _
   | exact LeO.none _
   | refine LeO.ite ?_ ?_
   | refine LeO.bind ?_ (fun _ => ?_)
  ·intro y0 y1 y2 y3 y4
   unfold vbi_high.l0
   repeat' first
   | (with_reducible exact ih0 _ _ _)
   | (with_reducible exact ih1 _ _ _ _ _)
   | (with_reducible exact LeO.refl _)
   | (with_reducible exact LeO.none _)
   | (with_reducible refine LeO.ite ?_ ?_)
   | (with_reducible refine LeO.bind ?_ (fun _ => ?_))
   | exact ih0 _ _ _
   | exact ih1 _ _ _ _ _
   | exact LeO.none _
   | refine LeO.ite ?_ ?_
   | refine LeO.bind ?_ (fun _ => ?_)
theorem vbi_high.mono : ∀ a0 a1 k, LeO (vbi_high.f k a0 a1) (vbi_high.f (k + 1) a0 a1) := by
 intro a0 a1 k
 obtain ⟨ih0, ih1⟩ := vbi_high.mono_l k
 unfold vbi_high.f
 repeat' first
  | (with_reducible exact ih0 _ _ _)
  | (with_reducible exact ih1 _ _ _ _ _)
  | (with_reducible exact LeO.refl _)
  | (with_reducible exact LeO.none _)
  | (with_reducible refine LeO.ite ?_ ?_)
  | (with_reducible refine LeO.bind ?_ (fun _ => ?_))
  | exact ih0 _ _ _
  | exact ih1 _ _ _ _ _
  | exact LeO.none _
  | refine LeO.ite ?_ ?_
  | refine LeO.bind ?_ (fun _ => ?_)
set_option maxHeartbeats 8000000 in
set_option maxRecDepth 100000 in
theorem vbi_high.calls (k : Nat) (a0 : Int) (a1 : Int) (r1 : ByteArray) (r2 : Int) (w : World) (h : vbi_high.f k a0 a1 = some (r1, r2)) :
 Calls Try.prog 81 #[.int .i64 a0, .int .i64 a1] w fun e w' => e = .returned (.tuple #[.string r1, .int .i64 r2]) ∧ Below w.heap.size w w' := by
 have HB := Aside0.mk (Below.refl w.heap.size w)
 have H : (if a0 < 0 then (vbi_high.j0 k a0 a1 true) else (if 0 ≤ (wrap64 (8 * a1)) then (vbi_high.j0 k a0 a1 ((shr .i64 a0 (wrap64 (8 * a1))) != 0)) else (none))) = some (r1, r2) := h
 clear h
 have HC3 := Aside0.mk H
 clear H
 go_enter Try.func81, Try.ntmps81
 go_upto_region 1 with (fail)
 go_cut [16] (fun v16 wc => ∃ (kq : Nat) (x16_2 : Bool), v16 = .bool x16_2 ∧ Aside0 (vbi_high.j0 kq a0 a1 x16_2 = some (r1, r2)) ∧ Aside0 (kq ≤ k) ∧ Aside0 (Below w.heap.size w wc))
 case first =>
  have H := HC3.out
  clear HC3
  by_cases c4 : a0 < 0
  ·rw [if_pos c4] at H
   have c4b0 : decide (a0 < 0) = true := decide_eq_true c4
   clear c4
   (first | rw [c4b0] | (simp only [i64_w, i32_w]; rw [c4b0]) | skip)
   have H' := Aside0.mk H
   clear H
   go_wp2
   go_meet
   case rel => exact ⟨_, (true), ap, H', ⟨by first | omega | exact Nat.le_refl _⟩, ⟨bo⟩⟩
  ·rw [if_neg c4] at H
   have c4b0 : decide (a0 < 0) = false := decide_eq_false c4
   clear c4
   (first | rw [c4b0] | (simp only [i64_w, i32_w]; rw [c4b0]) | skip)
   obtain ⟨ji5, hji5⟩ : ∃ j_ : Int, (wrap64 (8 * a1)) = j_ := ⟨_, rfl⟩
   replace H : (if 0 ≤ (ji5) then (vbi_high.j0 k a0 a1 ((shr .i64 a0 (ji5)) != 0)) else (none)) = some (r1, r2) := by first | (rw [hji5] at H; exact H) | (simp only [hji5] at H ⊢; exact H)
   have hji5w : (IntKind.i64.wrap (8 * a1)) = ji5 := (i64_w _).trans hji5
   by_cases c6 : 0 ≤ (ji5)
   ·rw [if_pos c6] at H
    have c6b0 := eq_true c6
    have c6b1 : decide (0 ≤ (ji5)) = true := decide_eq_true c6
    clear c6
    obtain ⟨ji7, hji7⟩ : ∃ j_ : Int, (shr .i64 a0 (ji5)) = j_ := ⟨_, rfl⟩
    replace H : (vbi_high.j0 k a0 a1 ((ji7) != 0)) = some (r1, r2) := by first | (rw [hji7] at H; exact H) | (simp only [hji7] at H ⊢; exact H)
    have hji7_ : (a0 / 2 ^ min (ji5).toNat 64) = ji7 := hji7
    have hji7z : (ji5) ≤ 64 → (a0 / 2 ^ (ji5).toNat) = ji7 := shr_small hji7
    have H' := Aside0.mk H
    clear H
    go_wp2
    go_meet
    case rel => exact ⟨_, (((ji7) != 0)), (by first | rfl | (simp; done) | (simp only [← hji7] <;> (first | rfl | simp)) | (simp [*]; done)), H', ⟨by first | omega | exact Nat.le_refl _⟩, ⟨bo⟩⟩
   ·rw [if_neg c6] at H
    exact absurd H (by simp)
 case rest =>
  clear HC3
  try clear p2
  try clear c4
  try clear c4b0
  try clear c6
  try clear c6b0
  try clear c6b1
  try clear p6
  obtain ⟨kq, x16_2, rfl, HA, HJ2, HB⟩ := hcut
  cases kq with
  | zero => exact absurd HA.out (by simp [vbi_high.j0])
  | succ kj2 =>
   have H := HA.out
   clear HA
   simp only [vbi_high.j0] at H
   by_cases c8 : x16_2 = true
   ·subst c8
    have H1 : (some ((⟨#[]⟩ : ByteArray), 2)) = some (r1, r2) := by rw [if_pos rfl] at H; exact H
    clear H
    have H := H1
    clear H1
    simp only [Option.some.injEq, Prod.mk.injEq] at H
    obtain ⟨rfl, rfl⟩ := H
    go_wp2
    go_ret2
    exact ⟨er, bo⟩
   ·replace c8 := Bool.eq_false_iff.mpr c8
    subst c8
    have H1 : (if 0 ≤ a1 then (if (a1 : Int).toNat ≤ 281474976710656 then ((some (List.replicate (a1 : Int).toNat 0 : List Int)).bind fun y102 => (vbi_high.l0 kj2 a0 a1 y102 (y102.length : Int) 0)) else (none)) else (none)) = some (r1, r2) := by rw [if_neg (show ¬ (false = true) by decide)] at H; exact H
    clear H
    have H := H1
    clear H1
    by_cases c9 : 0 ≤ a1
    ·rw [if_pos c9] at H
     have c9b0 := eq_true c9
     have c9b1 : decide (0 ≤ a1) = true := decide_eq_true c9
     clear c9
     by_cases c10 : (a1 : Int).toNat ≤ 281474976710656
     ·rw [if_pos c10] at H
      have c10b0 := eq_true c10
      have c10b1 : decide ((a1 : Int).toNat ≤ 281474976710656) = true := decide_eq_true c10
      clear c10
      obtain ⟨y102, hy102⟩ : ∃ y_ : List Int, y_ = (List.replicate (a1 : Int).toNat 0) := ⟨_, rfl⟩
      replace H : (vbi_high.l0 kj2 a0 a1 y102 (y102.length : Int) 0) = some (r1, r2) := by first | (rw [hy102]; with_reducible exact H) | (have H2_ := (Option.bind_some _ _).symm.trans H; rw [hy102]; with_reducible exact H2_) | (have H2_ := (Option.bind_some _ _).symm.trans H; with_reducible exact H2_) | with_reducible exact H | (rw [hy102]; exact H) | exact H
      have Ny102 := Aside0.mk hy102
      clear hy102
      have H' := Aside0.mk H
      clear H
      go_wp2_with (first | ((with_reducible refine gate_dst (N := 18) rfl ?_); refine Kd.R_make (Kd.int .u8) _ 5 rfl (N := 18) rfl 23 _ _ rfl a1 rfl rfl Try.underlying23 (.int .u8 0) 1 info5 rfl (by decide) (by omega) 0 (ok := fun _ => True) (okp := fun _ => True) rfl (fun _ hk => hk) trivial (od) (Nat.le_trans (Nat.mul_le_mul_right _ (od : a1.toNat ≤ 281474976710656)) (by omega)) (Below.refl _ _) (Nat.le_refl _) ?_; intro v103 w11 ho12 hb hg_ hnew_; clear hg_ hnew_; (first | rw [← Ny102.out] at ho12 | (simp only [Int.reduceToNat] at ho12; rw [← Ny102.out] at ho12)); have HO104 := Aside0.mk (Kd.R_lower ho12 (below_size bo)); replace HB := Aside0.mk (below_step bo hb); clear hb ho12; obtain ⟨Ao13, co13, eo13⟩ := Kd.R_slice HO104.out; subst eo13))
      go_loopg [21] kj2 (fun kq v21 w' => ∃ (x6_2 : List Int) (x21_2 : Int), v21 = .int .i64 x21_2 ∧ Aside0 (vbi_high.l0 kq a0 a1 x6_2 (y102.length : Int) x21_2 = some (r1, r2)) ∧ Aside0 (kq ≤ kj2) ∧ Aside0 (Kd.R (Kd.int .u8) 5 w' w.heap.size (fun _ => True) (.slice Ao13 y102.length co13) x6_2) ∧ Aside0 (Below w.heap.size w w'))
      case atStart => exact ⟨(y102), (0), ap, H', ⟨Nat.le_refl _⟩, ⟨by (with_reducible repeat (first | apply Kd.R_alloc | apply Kd.R_drewN | apply Kd.R_drew)); exact HO104.out⟩, ⟨bo⟩⟩
      case round =>
       clear H'
       try clear c1
       try clear p2
       try clear c4
       try clear c4b0
       try clear c6
       try clear c6b0
       try clear c6b1
       try clear p6
       try clear c8
       try clear c9
       try clear c9b0
       try clear c9b1
       try clear c10
       try clear c10b0
       try clear c10b1
       try clear p2
       try clear p6
       obtain ⟨x6_2, x21_2, rfl, HA, HK2, HO_6, HB⟩ := hrel
       have hl6_2 := (Kd.R_reads' HO_6.out).1
       rw [hl6_2] at HO_6
       (try simp only [hl6_2])
       cases gk with
       | zero => exact absurd HA.out (by simp [vbi_high.l0])
       | succ k2 =>
        have H := HA.out
        clear HA
        simp only [vbi_high.l0] at H
        by_cases c14 : x21_2 < (y102.length : Int)
        ·rw [if_pos c14] at H
         have c14b0 : decide (x21_2 < (y102.length : Int)) = true := decide_eq_true c14
         (try (have c14z0hl6_2 := c14b0; rw [hl6_2] at c14z0hl6_2))
         clear c14
         obtain ⟨ji15, hji15⟩ : ∃ j_ : Int, (wrap64 (8 * x21_2)) = j_ := ⟨_, rfl⟩
         replace H : (if 0 ≤ (ji15) then (if 0 ≤ (wrap64 ((wrap64 (a1 - 1)) - x21_2)) then (if (wrap64 ((wrap64 (a1 - 1)) - x21_2)) < (x6_2.length : Int) then (vbi_high.l0 k2 a0 a1 (x6_2.set ((wrap64 ((wrap64 (a1 - 1)) - x21_2)) : Int).toNat ((shr .i64 a0 (ji15)) % 256)) (y102.length : Int) (wrap64 (x21_2 + 1))) else (none)) else (none)) else (none)) = some (r1, r2) := by first | (rw [hji15] at H; exact H) | (simp only [hji15] at H ⊢; exact H)
         have hji15w : (IntKind.i64.wrap (8 * x21_2)) = ji15 := (i64_w _).trans hji15
         by_cases c16 : 0 ≤ (ji15)
         ·rw [if_pos c16] at H
          have c16b0 := eq_true c16
          have c16b1 : decide (0 ≤ (ji15)) = true := decide_eq_true c16
          clear c16
          obtain ⟨ji17, hji17⟩ : ∃ j_ : Int, (shr .i64 a0 (ji15)) = j_ := ⟨_, rfl⟩
          replace H : (if 0 ≤ (wrap64 ((wrap64 (a1 - 1)) - x21_2)) then (if (wrap64 ((wrap64 (a1 - 1)) - x21_2)) < (x6_2.length : Int) then (vbi_high.l0 k2 a0 a1 (x6_2.set ((wrap64 ((wrap64 (a1 - 1)) - x21_2)) : Int).toNat ((ji17) % 256)) (y102.length : Int) (wrap64 (x21_2 + 1))) else (none)) else (none)) = some (r1, r2) := by first | (rw [hji17] at H; exact H) | (simp only [hji17] at H ⊢; exact H)
          have hji17_ : (a0 / 2 ^ min (ji15).toNat 64) = ji17 := hji17
          have hji17z : (ji15) ≤ 64 → (a0 / 2 ^ (ji15).toNat) = ji17 := shr_small hji17
          obtain ⟨ji18, hji18⟩ : ∃ j_ : Int, (wrap64 ((wrap64 (a1 - 1)) - x21_2)) = j_ := ⟨_, rfl⟩
          replace H : (if 0 ≤ (ji18) then (if (ji18) < (x6_2.length : Int) then (vbi_high.l0 k2 a0 a1 (x6_2.set ((ji18) : Int).toNat ((ji17) % 256)) (y102.length : Int) (wrap64 (x21_2 + 1))) else (none)) else (none)) = some (r1, r2) := by first | (rw [hji18] at H; exact H) | (simp only [hji18] at H ⊢; exact H)
          have hji18w : (IntKind.i64.wrap ((wrap64 (a1 - 1)) - x21_2)) = ji18 := (i64_w _).trans hji18
          by_cases c19 : 0 ≤ (ji18)
          ·rw [if_pos c19] at H
           have c19b0 : decide (0 ≤ (ji18)) = true := decide_eq_true c19
           clear c19
           by_cases c20 : (ji18) < (x6_2.length : Int)
           ·rw [if_pos c20] at H
            have c20b0 : decide ((ji18) < (x6_2.length : Int)) = true := decide_eq_true c20
            (try (have c20z0hl6_2 := c20b0; rw [hl6_2] at c20z0hl6_2))
            clear c20
            obtain ⟨y105, hy105⟩ : ∃ y_ : List Int, y_ = (x6_2.set ((ji18) : Int).toNat ((ji17) % 256)) := ⟨_, rfl⟩
            replace H : (vbi_high.l0 k2 a0 a1 y105 (y102.length : Int) (wrap64 (x21_2 + 1))) = some (r1, r2) := by first | (rw [hy105]; with_reducible exact H) | (have H2_ := (Option.bind_some _ _).symm.trans H; rw [hy105]; with_reducible exact H2_) | (have H2_ := (Option.bind_some _ _).symm.trans H; with_reducible exact H2_) | with_reducible exact H | (rw [hy105]; exact H) | exact H
            have Ny105 := Aside0.mk hy105
            clear hy105
            have H' := Aside0.mk H
            clear H
            have p21 : 0 ≤ ((ji18) : Int) := od
            have q21 : ((ji18) : Int) < ((x6_2.length : Int) : Int) := od
            obtain ⟨go21, co21, eo21, gb21, gl21, cl21, HG21⟩ := Kd.R_form HO_6.out (by omega)
            (first | cases eo21 | (injection eo21 with ea_ en_ ec_; (first | subst ea_ | (injection ea_ with ea_; subst ea_)); subst ec_; clear en_))
            have GB21 := Aside0.mk gb21
            have GG21 := Aside0.mk HG21
            clear gb21 gl21 HG21
            obtain ⟨hx21_0, hf21_0⟩ := Kd.R_celln 0 HO_6.out ((ji18) : Int) p21 q21
            replace p21 := eq_true p21
            replace q21 := eq_true q21
            have HP22 := Kd.R_putg HO_6.out ((ji18) : Int) ((ji17) % 256)
            go_wp2_with (first | ((with_reducible refine gate_store (t := 5) (p := 34) rfl ?_); refine store_event (t := 5) (p := 34) (v := ?vo_w23) (w1 := (wr.setCell ⟨go21, ((ji18) : Int).toNat, none⟩ (.int .u8 ((ji17) % 256)))) ?hg ?ho ?hn ?hr ?_; (case ho => rfl); (case hg => rfl); (case hn => rfl); (case hr => first | (go_simp; done) | (go_simp; rfl)); intro w23 hw; have hg : wr.grownBy w23 (some go21) := (by rw [hw]; exact HP22.2); have hp_ : Kd.R (Kd.int .u8) 5 w23 w.heap.size (fun _ => True) (.slice (some ⟨go21, 0, none⟩) x6_2.length co13) y105 := (by rw [hw, Ny105.out]; exact HP22.1); clear HP22; replace HO_6 := Aside0.mk (hp_); replace HB := Aside0.mk ((by rw [hw]; exact below_set (HB.out) GB21.out : Below w.heap.size w w23)); clear hg hw hp_))
            (try simp only [← hl6_2])
            go_roundg k2
            case measure => have := HJ2.out; have := HK2.out; omega
            case rel => exact ⟨(y105), (wrap64 (x21_2 + 1)), ap, H', ⟨by have := HJ2.out; have := HK2.out; omega⟩, ⟨by (try simp only [hl6_2]); (with_reducible repeat (first | apply Kd.R_alloc | apply Kd.R_drewN | apply Kd.R_drew)); exact HO_6.out⟩, ⟨bo⟩⟩
           ·rw [if_neg c20] at H
            exact absurd H (by simp)
          ·rw [if_neg c19] at H
           exact absurd H (by simp)
         ·rw [if_neg c16] at H
          exact absurd H (by simp)
        ·rw [if_neg c14] at H
         have c14b0 : decide (x21_2 < (y102.length : Int)) = false := decide_eq_false c14
         (try (have c14z0hl6_2 := c14b0; rw [hl6_2] at c14z0hl6_2))
         clear c14
         simp only [Option.some.injEq, Prod.mk.injEq] at H
         obtain ⟨rfl, rfl⟩ := H
         have hcv24 := own_string (P := Try.prog) Try.underlying23 Try.underlying5 Try.underlying9 (Kd.own_of_R HO_6.out)
         go_wp2
         go_ret2
         exact ⟨er, bo⟩
     ·rw [if_neg c10] at H
      exact absurd H (by simp)
    ·rw [if_neg c9] at H
     exact absurd H (by simp)

end Go.Proofs.Ytmabdfdmccbfnaa.P

-- written by a program of the proving session, out of the translation; Lean checks it
namespace Go.Proofs.Ytmabdfdmccbfnaa.P
open Go.RowKit Go.Proofs.Ytmabdfdmccbfnaa.Sq Go.Proofs.YtmabdfdmccbfnaaW.PrintWords Go.Proofs.YtmabdfdmccbfnaaW.PrintLast Go.Proofs.YtmabdfdmccbfnaaW.PrintMore
attribute [local go_sem] max2_int min2_int max_two min_two max_three min_three max_four min_four   -- for this text's walks alone
set_option linter.unusedVariables false
set_option linter.unusedSimpArgs false

/-! ### vbi_Two: function 60 -/
def vbi_Two.f (k : Nat) (a0 : Int) : Option (ByteArray × Int) := (vbi_high.f k a0 2).bind fun bt106 => (some (bt106.1, bt106.2))
theorem vbi_Two.mono : ∀ a0 k, LeO (vbi_Two.f k a0) (vbi_Two.f (k + 1) a0) := by
 intro a0 k
 unfold vbi_Two.f
 repeat' first
  | (with_reducible exact vbi_high.mono _ _ _)
  | (with_reducible exact LeO.refl _)
  | (with_reducible exact LeO.none _)
  | (with_reducible refine LeO.ite ?_ ?_)
  | (with_reducible refine LeO.bind ?_ (fun _ => ?_))
  | exact vbi_high.mono _ _ _
  | exact LeO.none _
  | refine LeO.ite ?_ ?_
  | refine LeO.bind ?_ (fun _ => ?_)
set_option maxHeartbeats 8000000 in
set_option maxRecDepth 100000 in
theorem vbi_Two.calls (k : Nat) (a0 : Int) (r1 : ByteArray) (r2 : Int) (w : World) (h : vbi_Two.f k a0 = some (r1, r2)) :
 Calls Try.prog 60 #[.int .i64 a0] w fun e w' => e = .returned (.tuple #[.string r1, .int .i64 r2]) ∧ Below w.heap.size w w' := by
 have HB := Aside0.mk (Below.refl w.heap.size w)
 have H : ((vbi_high.f k a0 2).bind fun bt106 => (some (bt106.1, bt106.2))) = some (r1, r2) := h
 clear h
 replace H := Option.bind_eq_some_iff.mp H
 obtain ⟨⟨t106, t107⟩, A20, H⟩ := H
 replace H : (some (t106, t107)) = some (r1, r2) := H
 have A2 := Aside0.mk A20
 clear A20
 simp only [Option.some.injEq, Prod.mk.injEq] at H
 obtain ⟨rfl, rfl⟩ := H
 go_enter Try.func60, Try.ntmps60
 go_wp2_with (first | ((with_reducible refine gate_callee (f := 81) rfl ?_); refine goesL_ (some 5) rfl rfl Try.func81 (by kernel_rfl) rfl #[.int .i64 a0, .int .i64 2] rfl aa ?_; (with_reducible refine (vbi_high.calls k a0 2 t106 t107 _ A2.out).mono ?_); rintro e w3 ⟨rfl, hb⟩; refine ⟨_, rfl, ?_⟩; replace HB := Aside0.mk (below_step bo hb); (try clear hb); (try clear hb2); (try clear hk); (try clear hi)))
 go_ret2
 exact ⟨er, bo⟩

end Go.Proofs.Ytmabdfdmccbfnaa.P

-- written by a program of the proving session, out of the translation; Lean checks it
namespace Go.Proofs.Ytmabdfdmccbfnaa.P
open Go.RowKit Go.Proofs.Ytmabdfdmccbfnaa.Sq Go.Proofs.YtmabdfdmccbfnaaW.PrintWords Go.Proofs.YtmabdfdmccbfnaaW.PrintLast Go.Proofs.YtmabdfdmccbfnaaW.PrintMore
attribute [local go_sem] max2_int min2_int max_two min_two max_three min_three max_four min_four   -- for this text's walks alone
set_option linter.unusedVariables false
set_option linter.unusedSimpArgs false

/-! ### vbi_Four: function 62 -/
def vbi_Four.f (k : Nat) (a0 : Int) : Option (ByteArray × Int) := (vbi_high.f k a0 4).bind fun bt108 => (some (bt108.1, bt108.2))
theorem vbi_Four.mono : ∀ a0 k, LeO (vbi_Four.f k a0) (vbi_Four.f (k + 1) a0) := by
 intro a0 k
 unfold vbi_Four.f
 repeat' first
  | (with_reducible exact vbi_high.mono _ _ _)
  | (with_reducible exact LeO.refl _)
  | (with_reducible exact LeO.none _)
  | (with_reducible refine LeO.ite ?_ ?_)
  | (with_reducible refine LeO.bind ?_ (fun _ => ?_))
  | exact vbi_high.mono _ _ _
  | exact LeO.none _
  | refine LeO.ite ?_ ?_
  | refine LeO.bind ?_ (fun _ => ?_)
set_option maxHeartbeats 8000000 in
set_option maxRecDepth 100000 in
theorem vbi_Four.calls (k : Nat) (a0 : Int) (r1 : ByteArray) (r2 : Int) (w : World) (h : vbi_Four.f k a0 = some (r1, r2)) :
 Calls Try.prog 62 #[.int .i64 a0] w fun e w' => e = .returned (.tuple #[.string r1, .int .i64 r2]) ∧ Below w.heap.size w w' := by
 have HB := Aside0.mk (Below.refl w.heap.size w)
 have H : ((vbi_high.f k a0 4).bind fun bt108 => (some (bt108.1, bt108.2))) = some (r1, r2) := h
 clear h
 replace H := Option.bind_eq_some_iff.mp H
 obtain ⟨⟨t108, t109⟩, A20, H⟩ := H
 replace H : (some (t108, t109)) = some (r1, r2) := H
 have A2 := Aside0.mk A20
 clear A20
 simp only [Option.some.injEq, Prod.mk.injEq] at H
 obtain ⟨rfl, rfl⟩ := H
 go_enter Try.func62, Try.ntmps62
 go_wp2_with (first | ((with_reducible refine gate_callee (f := 81) rfl ?_); refine goesL_ (some 5) rfl rfl Try.func81 (by kernel_rfl) rfl #[.int .i64 a0, .int .i64 4] rfl aa ?_; (with_reducible refine (vbi_high.calls k a0 4 t108 t109 _ A2.out).mono ?_); rintro e w3 ⟨rfl, hb⟩; refine ⟨_, rfl, ?_⟩; replace HB := Aside0.mk (below_step bo hb); (try clear hb); (try clear hb2); (try clear hk); (try clear hi)))
 go_ret2
 exact ⟨er, bo⟩

end Go.Proofs.Ytmabdfdmccbfnaa.P

-- written by a program of the proving session, out of the translation; Lean checks it
namespace Go.Proofs.Ytmabdfdmccbfnaa.P
open Go.RowKit Go.Proofs.Ytmabdfdmccbfnaa.Sq Go.Proofs.YtmabdfdmccbfnaaW.PrintWords Go.Proofs.YtmabdfdmccbfnaaW.PrintLast Go.Proofs.YtmabdfdmccbfnaaW.PrintMore
attribute [local go_sem] max2_int min2_int max_two min_two max_three min_three max_four min_four   -- for this text's walks alone
set_option linter.unusedVariables false
set_option linter.unusedSimpArgs false

/-! ### rec_eight: function 61 -/
def rec_eight.f (k : Nat) (a0 : Int) : Option (ByteArray) := (vbi_Four.f k (a0 / 4294967296)).bind fun bt110 => ((vbi_Four.f k (Go.bits .and .i64 a0 4294967295)).bind fun bt112 => (if bt110.1.size + bt112.1.size ≤ 9223372036854775807 then (some (bt110.1 ++ bt112.1)) else (none)))
theorem rec_eight.mono : ∀ a0 k, LeO (rec_eight.f k a0) (rec_eight.f (k + 1) a0) := by
 intro a0 k
 unfold rec_eight.f
 repeat' first
  | (with_reducible exact vbi_Four.mono _ _)
  | (with_reducible exact LeO.refl _)
  | (with_reducible exact LeO.none _)
  | (with_reducible refine LeO.ite ?_ ?_)
  | (with_reducible refine LeO.bind ?_ (fun _ => ?_))
  | exact vbi_Four.mono _ _
  | exact LeO.none _
  | refine LeO.ite ?_ ?_
  | refine LeO.bind ?_ (fun _ => ?_)
set_option maxHeartbeats 8000000 in
set_option maxRecDepth 100000 in
theorem rec_eight.calls (k : Nat) (a0 : Int) (r : ByteArray) (w : World) (h : rec_eight.f k a0 = some r) :
 Calls Try.prog 61 #[.int .i64 a0] w fun e w' => e = .returned (.string r) ∧ Below w.heap.size w w' := by
 have HB := Aside0.mk (Below.refl w.heap.size w)
 have H : ((vbi_Four.f k (a0 / 4294967296)).bind fun bt110 => ((vbi_Four.f k (Go.bits .and .i64 a0 4294967295)).bind fun bt112 => (if bt110.1.size + bt112.1.size ≤ 9223372036854775807 then (some (bt110.1 ++ bt112.1)) else (none)))) = some r := h
 clear h
 replace H := Option.bind_eq_some_iff.mp H
 obtain ⟨⟨t110, t111⟩, A20, H⟩ := H
 replace H : ((vbi_Four.f k (Go.bits .and .i64 a0 4294967295)).bind fun bt112 => (if t110.size + bt112.1.size ≤ 9223372036854775807 then (some (t110 ++ bt112.1)) else (none))) = some r := H
 have A2 := Aside0.mk A20
 clear A20
 replace H := Option.bind_eq_some_iff.mp H
 obtain ⟨⟨t112, t113⟩, A30, H⟩ := H
 replace H : (if t110.size + t112.size ≤ 9223372036854775807 then (some (t110 ++ t112)) else (none)) = some r := H
 have A3 := Aside0.mk A30
 clear A30
 by_cases c4 : t110.size + t112.size ≤ 9223372036854775807
 ·rw [if_pos c4] at H
  have c4b0 := eq_true c4
  have c4b1 : decide (t110.size + t112.size ≤ 9223372036854775807) = true := decide_eq_true c4
  try have c4b2 : (9223372036854775807 < t110.size + t112.size) = False := eq_false (Nat.not_lt.2 c4)
  obtain rfl := Option.some.inj H
  go_enter Try.func61, Try.ntmps61
  go_wp2_with (first | ((with_reducible refine gate_callee (f := 62) rfl ?_); refine goesL_ (some 10) rfl rfl Try.func62 (by kernel_rfl) rfl #[.int .i64 (a0 / 4294967296)] rfl aa ?_; (with_reducible refine (vbi_Four.calls k (a0 / 4294967296) t110 t111 _ A2.out).mono ?_); rintro e w5 ⟨rfl, hb⟩; refine ⟨_, rfl, ?_⟩; replace HB := Aside0.mk (below_step bo hb); (try clear hb); (try clear hb2); (try clear hk); (try clear hi)) | ((with_reducible refine gate_callee (f := 62) rfl ?_); refine goesL_ (some 16) rfl rfl Try.func62 (by kernel_rfl) rfl #[.int .i64 (Go.bits .and .i64 a0 4294967295)] rfl aa ?_; (with_reducible refine (vbi_Four.calls k (Go.bits .and .i64 a0 4294967295) t112 t113 _ A3.out).mono ?_); rintro e w6 ⟨rfl, hb⟩; refine ⟨_, rfl, ?_⟩; replace HB := Aside0.mk (below_step bo hb); (try clear hb); (try clear hb2); (try clear hk); (try clear hi)))
  go_ret
  exact ⟨er, bo⟩
 ·rw [if_neg c4] at H
  exact absurd H (by simp)

end Go.Proofs.Ytmabdfdmccbfnaa.P

