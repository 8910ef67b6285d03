/- The law RecEdges: printed functions, their contracts, the plain laws and the row, part 1. -/
import Derived.Test.YtmabdfdmccbfnaaKRecEdges0
import Derived.Test.YtmabdfdmccbfnaaWWords
import Derived.Test.YtmabdfdmccbfnaaWLast
import Derived.Test.YtmabdfdmccbfnaaWMore
import Derived.ProofKit
import Derived.OpenShut
import Derived.SizedLaws
import Derived.Deep.Slices
-- written by a program of the proving session, out of the translation; Lean checks it
namespace Go.Proofs.Ytmabdfdmccbfnaa.P
open Go.RowKit Go.Proofs.Ytmabdfdmccbfnaa.Sq Go.Proofs.YtmabdfdmccbfnaaW.PrintWords Go.Proofs.YtmabdfdmccbfnaaW.PrintLast Go.Proofs.YtmabdfdmccbfnaaW.PrintMore
attribute [local go_sem] max2_int min2_int max_two min_two max_three min_three max_four min_four   -- for this text's walks alone
set_option linter.unusedVariables false
set_option linter.unusedSimpArgs false

attribute [local go_sem high] eqA25
/-! ### fairwaylaw10_wakes: function 18 -/
def fairwaylaw10_wakes.f (k : Nat)  : Option (Bool) := (fairwaylaw10_R.f 1 2 (⟨#[107]⟩ : ByteArray) (⟨#[98]⟩ : ByteArray)).bind fun bt162 => ((rec_Bytes.f k bt162.1 bt162.2.1 bt162.2.2.1 bt162.2.2.2.1 bt162.2.2.2.2.1 bt162.2.2.2.2.2).bind fun bt168 => ((rec_Take.f k bt168.1).bind fun bt170 => ((fairwaylaw10_num.f bt168.2).bind fun t179 => (if t179 = 0 then ((fairwaylaw10_num.f bt170.2.2.2.2.2.2.2).bind fun t180 => (if t180 = 0 then (if bt170.2.2.2.2.2.2.1 = (bt168.1.size : Int) then ((fairwaylaw10_R.f 1 2 (⟨#[107]⟩ : ByteArray) (⟨#[98]⟩ : ByteArray)).bind fun bt181 => (some (bt170.1 == bt181.1 && (bt170.2.1 == bt181.2.1 && (bt170.2.2.1.toList == bt181.2.2.1.toList && (bt170.2.2.2.1.toList == bt181.2.2.2.1.toList && (bt170.2.2.2.2.1 == bt181.2.2.2.2.1 && (bt170.2.2.2.2.2.1 == bt181.2.2.2.2.2)))))))) else (some false)) else (some false))) else (some false)))))
theorem fairwaylaw10_wakes.mono : ∀ k, LeO (fairwaylaw10_wakes.f k ) (fairwaylaw10_wakes.f (k + 1) ) := by
 intro  k
 unfold fairwaylaw10_wakes.f
 repeat' first
  | (with_reducible exact rec_Bytes.mono _ _ _ _ _ _ _)
  | (with_reducible exact rec_Take.mono _ _)
  | (with_reducible exact LeO.refl _)
  | (with_reducible exact LeO.none _)
  | (with_reducible refine LeO.ite ?_ ?_)
  | (with_reducible refine LeO.bind ?_ (fun _ => ?_))
  | exact rec_Bytes.mono _ _ _ _ _ _ _
  | exact rec_Take.mono _ _
  | exact LeO.none _
  | refine LeO.ite ?_ ?_
  | refine LeO.bind ?_ (fun _ => ?_)
def fairwaylaw10_wakes.T3 : Bool × List (List Nat × List Nat) := (true, [([], []), ([0], [0]), ([1], [1]), ([2, 1], [2]), ([3], [3]), ([4, 3, 3], [3, 4]), ([5, 3], [3, 5]), ([3, 6], [3, 6]), ([7, 5], [7]), ([8], [8]), ([8], [8]), ([10, 8], [8, 10]), ([9, 11, 8], [8, 9, 11]), ([8, 12], [8, 12]), ([13, 8], [13]), ([14], [14]), ([14, 14], [14]), ([15, 16, 14], [14, 15, 16]), ([14, 17], [14, 17]), ([18, 16, 0, 1, 2, 3, 4, 5, 6, 7, 8, 9, 10, 11, 12, 13, 14, 15, 16, 17, 18], [18])])
def fairwaylaw10_wakes.B3 : List Nat := [0, 1, 3, 7, 15, 31, 63, 127, 255, 511, 511, 1535, 4095, 8191, 16383, 32767, 32767, 131071, 262143, 524287]
theorem fairwaylaw10_wakes.tab3 : rtab .any (opsOf Try.f18 3) = fairwaylaw10_wakes.T3 := by kernel_rfl
theorem fairwaylaw10_wakes.bits3 : waitsOk fairwaylaw10_wakes.T3.2 fairwaylaw10_wakes.B3 = true := by kernel_rfl
set_option maxHeartbeats 8000000 in
set_option maxRecDepth 100000 in
theorem fairwaylaw10_wakes.calls (k : Nat)  (r : Bool) (w : World) (h : fairwaylaw10_wakes.f k  = some r) :
 Calls Try.prog 18 #[] w fun e w' => e = .returned (.bool r) ∧ Below w.heap.size w w' := by
 have hu25 := Try.underlying25
 have HB := Aside0.mk (Below.refl w.heap.size w)
 have H : ((fairwaylaw10_R.f 1 2 (⟨#[107]⟩ : ByteArray) (⟨#[98]⟩ : ByteArray)).bind fun bt162 => ((rec_Bytes.f k bt162.1 bt162.2.1 bt162.2.2.1 bt162.2.2.2.1 bt162.2.2.2.2.1 bt162.2.2.2.2.2).bind fun bt168 => ((rec_Take.f k bt168.1).bind fun bt170 => ((fairwaylaw10_num.f bt168.2).bind fun t179 => (if t179 = 0 then ((fairwaylaw10_num.f bt170.2.2.2.2.2.2.2).bind fun t180 => (if t180 = 0 then (if bt170.2.2.2.2.2.2.1 = (bt168.1.size : Int) then ((fairwaylaw10_R.f 1 2 (⟨#[107]⟩ : ByteArray) (⟨#[98]⟩ : ByteArray)).bind fun bt181 => (some (bt170.1 == bt181.1 && (bt170.2.1 == bt181.2.1 && (bt170.2.2.1.toList == bt181.2.2.1.toList && (bt170.2.2.2.1.toList == bt181.2.2.2.1.toList && (bt170.2.2.2.2.1 == bt181.2.2.2.2.1 && (bt170.2.2.2.2.2.1 == bt181.2.2.2.2.2)))))))) else (some false)) else (some false))) else (some false)))))) = some r := h
 clear h
 replace H := Option.bind_eq_some_iff.mp H
 obtain ⟨⟨t162, t163, t164, t165, t166, t167⟩, A10, H⟩ := H
 replace H : ((rec_Bytes.f k t162 t163 t164 t165 t166 t167).bind fun bt168 => ((rec_Take.f k bt168.1).bind fun bt170 => ((fairwaylaw10_num.f bt168.2).bind fun t179 => (if t179 = 0 then ((fairwaylaw10_num.f bt170.2.2.2.2.2.2.2).bind fun t180 => (if t180 = 0 then (if bt170.2.2.2.2.2.2.1 = (bt168.1.size : Int) then ((fairwaylaw10_R.f 1 2 (⟨#[107]⟩ : ByteArray) (⟨#[98]⟩ : ByteArray)).bind fun bt181 => (some (bt170.1 == bt181.1 && (bt170.2.1 == bt181.2.1 && (bt170.2.2.1.toList == bt181.2.2.1.toList && (bt170.2.2.2.1.toList == bt181.2.2.2.1.toList && (bt170.2.2.2.2.1 == bt181.2.2.2.2.1 && (bt170.2.2.2.2.2.1 == bt181.2.2.2.2.2)))))))) else (some false)) else (some false))) else (some false))))) = some r := H
 have A1 := Aside0.mk A10
 clear A10
 replace H := Option.bind_eq_some_iff.mp H
 obtain ⟨⟨t168, t169⟩, A20, H⟩ := H
 replace H : ((rec_Take.f k t168).bind fun bt170 => ((fairwaylaw10_num.f t169).bind fun t179 => (if t179 = 0 then ((fairwaylaw10_num.f bt170.2.2.2.2.2.2.2).bind fun t180 => (if t180 = 0 then (if bt170.2.2.2.2.2.2.1 = (t168.size : Int) then ((fairwaylaw10_R.f 1 2 (⟨#[107]⟩ : ByteArray) (⟨#[98]⟩ : ByteArray)).bind fun bt181 => (some (bt170.1 == bt181.1 && (bt170.2.1 == bt181.2.1 && (bt170.2.2.1.toList == bt181.2.2.1.toList && (bt170.2.2.2.1.toList == bt181.2.2.2.1.toList && (bt170.2.2.2.2.1 == bt181.2.2.2.2.1 && (bt170.2.2.2.2.2.1 == bt181.2.2.2.2.2)))))))) else (some false)) else (some false))) else (some false)))) = some r := H
 have A2 := Aside0.mk A20
 clear A20
 replace H := Option.bind_eq_some_iff.mp H
 obtain ⟨⟨t170, t171, t172, t173, t174, t175, t176, t177⟩, A30, H⟩ := H
 replace H : ((fairwaylaw10_num.f t169).bind fun t179 => (if t179 = 0 then ((fairwaylaw10_num.f t177).bind fun t180 => (if t180 = 0 then (if t176 = (t168.size : Int) then ((fairwaylaw10_R.f 1 2 (⟨#[107]⟩ : ByteArray) (⟨#[98]⟩ : ByteArray)).bind fun bt181 => (some (t170 == bt181.1 && (t171 == bt181.2.1 && (t172.toList == bt181.2.2.1.toList && (t173.toList == bt181.2.2.2.1.toList && (t174 == bt181.2.2.2.2.1 && (t175 == bt181.2.2.2.2.2)))))))) else (some false)) else (some false))) else (some false))) = some r := H
 have A3 := Aside0.mk A30
 clear A30
 replace H := Option.bind_eq_some_iff.mp H
 obtain ⟨t179, A40, H⟩ := H
 replace H : (if t179 = 0 then ((fairwaylaw10_num.f t177).bind fun t180 => (if t180 = 0 then (if t176 = (t168.size : Int) then ((fairwaylaw10_R.f 1 2 (⟨#[107]⟩ : ByteArray) (⟨#[98]⟩ : ByteArray)).bind fun bt181 => (some (t170 == bt181.1 && (t171 == bt181.2.1 && (t172.toList == bt181.2.2.1.toList && (t173.toList == bt181.2.2.2.1.toList && (t174 == bt181.2.2.2.2.1 && (t175 == bt181.2.2.2.2.2)))))))) else (some false)) else (some false))) else (some false)) = some r := H
 have A4 := Aside0.mk A40
 clear A40
 by_cases c5 : t179 = 0
 ·rw [if_pos c5] at H
  have c5b0 : (t179 == 0) = true := beq_iff_eq.mpr c5
  have c5b1 : (t179 != 0) = false := bne_eq_false_iff_eq.mpr c5
  clear c5
  replace H := Option.bind_eq_some_iff.mp H
  obtain ⟨t180, A60, H⟩ := H
  replace H : (if t180 = 0 then (if t176 = (t168.size : Int) then ((fairwaylaw10_R.f 1 2 (⟨#[107]⟩ : ByteArray) (⟨#[98]⟩ : ByteArray)).bind fun bt181 => (some (t170 == bt181.1 && (t171 == bt181.2.1 && (t172.toList == bt181.2.2.1.toList && (t173.toList == bt181.2.2.2.1.toList && (t174 == bt181.2.2.2.2.1 && (t175 == bt181.2.2.2.2.2)))))))) else (some false)) else (some false)) = some r := H
  have A6 := Aside0.mk A60
  clear A60
  by_cases c7 : t180 = 0
  ·rw [if_pos c7] at H
   have c7b0 : (t180 == 0) = true := beq_iff_eq.mpr c7
   have c7b1 : (t180 != 0) = false := bne_eq_false_iff_eq.mpr c7
   clear c7
   by_cases c8 : t176 = (t168.size : Int)
   ·rw [if_pos c8] at H
    have c8b0 : (t176 == (t168.size : Int)) = true := beq_iff_eq.mpr c8
    have c8b1 : (t176 != (t168.size : Int)) = false := bne_eq_false_iff_eq.mpr c8
    clear c8
    replace H := Option.bind_eq_some_iff.mp H
    obtain ⟨⟨t181, t182, t183, t184, t185, t186⟩, A90, H⟩ := H
    replace H : (some (t170 == t181 && (t171 == t182 && (t172.toList == t183.toList && (t173.toList == t184.toList && (t174 == t185 && (t175 == t186))))))) = some r := H
    have A9 := Aside0.mk A90
    clear A90
    obtain rfl := Option.some.inj H
    go_enter Try.func18, Try.ntmps18
    try go_wp2_with (first | ((with_reducible refine gate_callee (f := 67) rfl ?_); refine goesL_ (some 7) rfl rfl Try.func67 (by kernel_rfl) rfl #[.int .i64 1, .int .i64 2, .string (⟨#[107]⟩ : ByteArray), .string (⟨#[98]⟩ : ByteArray)] rfl aa ?_; (with_reducible refine (fairwaylaw10_R.calls 1 2 (⟨#[107]⟩ : ByteArray) (⟨#[98]⟩ : ByteArray) t162 t163 t164 t165 t166 t167 _ A1.out).mono ?_); rintro e w10 ⟨rfl, hb⟩; refine ⟨_, rfl, ?_⟩; replace HB := Aside0.mk (below_step bo hb); (try clear hb); (try clear hb2); (try clear hk); (try clear hi)) | ((with_reducible refine gate_callee (f := 14) rfl ?_); refine goesL_ (some 8) rfl rfl Try.func14 (by kernel_rfl) rfl #[.agg #[.int .i64 t162, .int .i64 t163, .string t164, .string t165, .int .i64 t166, .bool t167]] rfl aa ?_; (with_reducible refine (rec_Bytes.calls k t162 t163 t164 t165 t166 t167 t168 t169 _ A2.out).mono ?_); rintro e w11 ⟨rfl, hb⟩; refine ⟨_, rfl, ?_⟩; replace HB := Aside0.mk (below_step bo hb); (try clear hb); (try clear hb2); (try clear hk); (try clear hi)) | ((with_reducible refine gate_callee (f := 16) rfl ?_); refine goesL_ (some 13) rfl rfl Try.func16 (by kernel_rfl) rfl #[.string t168] rfl aa ?_; (with_reducible refine (rec_Take.calls k t168 t170 t171 t172 t173 t174 t175 t176 t177 _ A3.out).mono ?_); rintro e w12 ⟨rfl, hb⟩; refine ⟨_, rfl, ?_⟩; replace HB := Aside0.mk (below_step bo hb); (try clear hb); (try clear hb2); (try clear hk); (try clear hi)) | ((with_reducible refine gate_dst (N := 3) rfl ?_); (try (refine gate_guard (by rfl) ?_; dsimp only)); refine box_event ?hg (N := 3) ?hd (cs := #[.int .i64 0, .int .i64 0, .string (⟨#[]⟩ : ByteArray), .string (⟨#[]⟩ : ByteArray), .int .i64 0, .bool false]) (t := 25) ?hr ?_; (case hd => rfl); (case hg => rfl); (case hr => first | (go_simp; done) | (go_simp; rfl)); intro gb178 hg w13 hbox hb; have BK178 := Aside0.mk (hbox); have GW178 := Aside0.mk ((by rw [hg]; exact (below_size bo) : w.heap.size ≤ gb178)); have GE178 := Aside0.mk ((by rw [hg]; exact (below_size bo) : w.heap.size ≤ gb178)); replace HB := Aside0.mk (below_step bo hb); clear hb hbox hg; obtain ⟨hcz14_0, hcz14_1, hcz14_2, hcz14_3, hcz14_4, hcz14_5⟩ := cl6 BK178.out; obtain ⟨hfz14_0, hfz14_1, hfz14_2, hfz14_3, hfz14_4, hfz14_5⟩ := fz6 BK178.out))
    (try (rw [drewN_self w13]; generalize hq_ : World.drewN w13 _ = w13; have n0_ := Aside0.mk (blk_at hq_ BK178.out); have n1_ := Aside0.mk (below_at hq_ HB.out); clear hq_ BK178 HB; have BK178 := n0_; have HB := n1_; clear n0_ n1_))
    have n0_ : Aside0 (((((((w13.setCell ⟨gb178, 0, none⟩ (.int .i64 t170)).setCell ⟨gb178, 1, none⟩ (.int .i64 t171)).setCell ⟨gb178, 2, none⟩ (.string t172)).setCell ⟨gb178, 3, none⟩ (.string t173)).setCell ⟨gb178, 4, none⟩ (.int .i64 t174)).setCell ⟨gb178, 5, none⟩ (.bool t175)).heap[gb178]? = some (.cells #[.int .i64 t170, .int .i64 t171, .string t172, .string t173, .int .i64 t174, .bool t175] 25 (0, 0))) := ⟨by (with_reducible repeat (first | refine blk_drewN ?_ _ | refine blk_drew ?_ | refine blk_alloc ?_ _)); refine blk_put (cs := #[.int .i64 t170, .int .i64 t171, .string t172, .string t173, .int .i64 t174, .bool false]) ?_ 5 _ rfl; (with_reducible repeat (first | refine blk_drewN ?_ _ | refine blk_drew ?_ | refine blk_alloc ?_ _)); refine blk_put (cs := #[.int .i64 t170, .int .i64 t171, .string t172, .string t173, .int .i64 0, .bool false]) ?_ 4 _ rfl; (with_reducible repeat (first | refine blk_drewN ?_ _ | refine blk_drew ?_ | refine blk_alloc ?_ _)); refine blk_put (cs := #[.int .i64 t170, .int .i64 t171, .string t172, .string (⟨#[]⟩ : ByteArray), .int .i64 0, .bool false]) ?_ 3 _ rfl; (with_reducible repeat (first | refine blk_drewN ?_ _ | refine blk_drew ?_ | refine blk_alloc ?_ _)); refine blk_put (cs := #[.int .i64 t170, .int .i64 t171, .string (⟨#[]⟩ : ByteArray), .string (⟨#[]⟩ : ByteArray), .int .i64 0, .bool false]) ?_ 2 _ rfl; (with_reducible repeat (first | refine blk_drewN ?_ _ | refine blk_drew ?_ | refine blk_alloc ?_ _)); refine blk_put (cs := #[.int .i64 t170, .int .i64 0, .string (⟨#[]⟩ : ByteArray), .string (⟨#[]⟩ : ByteArray), .int .i64 0, .bool false]) ?_ 1 _ rfl; (with_reducible repeat (first | refine blk_drewN ?_ _ | refine blk_drew ?_ | refine blk_alloc ?_ _)); refine blk_put (cs := #[.int .i64 0, .int .i64 0, .string (⟨#[]⟩ : ByteArray), .string (⟨#[]⟩ : ByteArray), .int .i64 0, .bool false]) ?_ 0 _ rfl; (with_reducible repeat (first | refine blk_drewN ?_ _ | refine blk_drew ?_ | refine blk_alloc ?_ _)); exact BK178.out⟩
    have n1_ : Aside0 (Below w.heap.size w ((((((w13.setCell ⟨gb178, 0, none⟩ (.int .i64 t170)).setCell ⟨gb178, 1, none⟩ (.int .i64 t171)).setCell ⟨gb178, 2, none⟩ (.string t172)).setCell ⟨gb178, 3, none⟩ (.string t173)).setCell ⟨gb178, 4, none⟩ (.int .i64 t174)).setCell ⟨gb178, 5, none⟩ (.bool t175))) := ⟨bo⟩
    (try clear BK178)
    (try clear HB)
    generalize ((((((w13.setCell ⟨gb178, 0, none⟩ (.int .i64 t170)).setCell ⟨gb178, 1, none⟩ (.int .i64 t171)).setCell ⟨gb178, 2, none⟩ (.string t172)).setCell ⟨gb178, 3, none⟩ (.string t173)).setCell ⟨gb178, 4, none⟩ (.int .i64 t174)).setCell ⟨gb178, 5, none⟩ (.bool t175)) = w15 at n0_ n1_ ⊢
    have BK178 := n0_
    have HB := n1_
    clear n0_ n1_
    replace BK178 := Aside0.mk (blk_drew BK178.out)
    replace HB := Aside0.mk (below_drew1 HB.out)
    refine start_ (n := 20) (S := fun w' => w'.cell? ⟨gb178, 0, none⟩ = some (.int .i64 t170) ∧ w'.cell? ⟨gb178, 1, none⟩ = some (.int .i64 t171) ∧ w'.cell? ⟨gb178, 2, none⟩ = some (.string t172) ∧ w'.cell? ⟨gb178, 3, none⟩ = some (.string t173) ∧ w'.cell? ⟨gb178, 4, none⟩ = some (.int .i64 t174) ∧ w'.cell? ⟨gb178, 5, none⟩ = some (.bool t175)) (ds := []) #[O,O,O,O,O,O,O,O,O,O,O,O,O,O,O,O,O,O,O,O] (by kernel_rfl) rfl rfl ⟨(blk_cell BK178.out 0).trans rfl, (blk_cell BK178.out 1).trans rfl, (blk_cell BK178.out 2).trans rfl, (blk_cell BK178.out 3).trans rfl, (blk_cell BK178.out 4).trans rfl, (blk_cell BK178.out 5).trans rfl⟩ (fun hHeld => ?_); refine with_tabW fairwaylaw10_wakes.tab3 fairwaylaw10_wakes.bits3 (fun HT_ HW_ => ?_)
    generalize w15.drew = w16 at BK178 HB hHeld ⊢
    refine pz (i := 0) (N := some 17) #[I,O,O,O,O,O,O,O,O,O,O,O,O,O,O,O,O,O,O,O] ?_
    refine one_ (i := 1) (N := some 18) #[I,I,O,O,O,O,O,O,O,O,O,O,O,O,O,O,O,O,O,O] rfl rfl (one_of HT_.out (by kernel_rfl)) (by decide) (fun K hK => ?_)
    refine goes_ Try.func15 (by kernel_rfl) rfl #[.int .i64 t169] (by rfl) rfl rfl aa ?_
    with_reducible refine (fairwaylaw10_num.calls t169 t179 _ A4.out).mono ?_
    rintro e w' ⟨rfl, ⟨nd, rfl⟩⟩
    refine ⟨_, rfl, ?_⟩
    refine hK.out _ _ ⟨(blk_cell BK178.out 0).trans rfl, (blk_cell BK178.out 1).trans rfl, (blk_cell BK178.out 2).trans rfl, (blk_cell BK178.out 3).trans rfl, (blk_cell BK178.out 4).trans rfl, (blk_cell BK178.out 5).trans rfl⟩ (fun hHeld => ?_)
    clear hK K
    refine norm_ (a' := ?_) ?_ ?_
    rotate_left
    ·show Act.put _ (some 18) _ = _
     simp only [Act.put, List.setIfInBounds_toArray, List.set_cons_zero, List.set_cons_succ, i64_w, i32_w]
     rfl
    refine pz (i := 2) (N := some 19) #[I,I,I,O,O,O,O,O,O,O,O,O,O,O,O,O,O,O,O,O] ?_
    refine pz (i := 3) (N := some 20) #[I,I,I,I,O,O,O,O,O,O,O,O,O,O,O,O,O,O,O,O] ?_
    refine pz (i := 4) (N := some 21) #[I,I,I,I,I,O,O,O,O,O,O,O,O,O,O,O,O,O,O,O] ?_
    refine one_ (i := 5) (N := some 22) #[I,I,I,I,I,I,O,O,O,O,O,O,O,O,O,O,O,O,O,O] rfl rfl (one_of HT_.out (by kernel_rfl)) (by decide) (fun K hK => ?_)
    refine goes_ Try.func15 (by kernel_rfl) rfl #[.int .i64 t177] (by rfl) rfl rfl aa ?_
    with_reducible refine (fairwaylaw10_num.calls t177 t180 _ A6.out).mono ?_
    rintro e w' ⟨rfl, ⟨nd, rfl⟩⟩
    refine ⟨_, rfl, ?_⟩
    refine hK.out _ _ ⟨(blk_cell BK178.out 0).trans rfl, (blk_cell BK178.out 1).trans rfl, (blk_cell BK178.out 2).trans rfl, (blk_cell BK178.out 3).trans rfl, (blk_cell BK178.out 4).trans rfl, (blk_cell BK178.out 5).trans rfl⟩ (fun hHeld => ?_)
    clear hK K
    refine norm_ (a' := ?_) ?_ ?_
    rotate_left
    ·show Act.put _ (some 22) _ = _
     simp only [Act.put, List.setIfInBounds_toArray, List.set_cons_zero, List.set_cons_succ, i64_w, i32_w]
     rfl
    refine pz (i := 6) (N := some 23) #[I,I,I,I,I,I,I,O,O,O,O,O,O,O,O,O,O,O,O,O] ?_
    refine pz (i := 7) (N := some 24) #[I,I,I,I,I,I,I,I,O,O,O,O,O,O,O,O,O,O,O,O] ?_
    refine pz (i := 8) (N := some 25) #[I,I,I,I,I,I,I,I,I,O,O,O,O,O,O,O,O,O,O,O] ?_
    refine pz (i := 9) (N := some 26) #[I,I,I,I,I,I,I,I,I,I,O,O,O,O,O,O,O,O,O,O] ?_
    refine pz (i := 10) (N := some 27) #[I,I,I,I,I,I,I,I,I,I,I,O,O,O,O,O,O,O,O,O] ?_
    refine pz (i := 11) (N := some 28) #[I,I,I,I,I,I,I,I,I,I,I,I,O,O,O,O,O,O,O,O] ?_
    refine pz (i := 12) (N := some 29) #[I,I,I,I,I,I,I,I,I,I,I,I,I,O,O,O,O,O,O,O] ?_
    refine pz (i := 13) (N := some 30) #[I,I,I,I,I,I,I,I,I,I,I,I,I,I,O,O,O,O,O,O] ?_
    refine pz (i := 14) (N := some 31) #[I,I,I,I,I,I,I,I,I,I,I,I,I,I,I,O,O,O,O,O] ?_
    refine tz (i := 15) (N := some 32) #[I,I,I,I,I,I,I,I,I,I,I,I,I,I,I,I,O,O,O,O] ?_
    refine one_ (i := 16) (N := some 33) #[I,I,I,I,I,I,I,I,I,I,I,I,I,I,I,I,I,O,O,O] rfl rfl (one_of HT_.out (by kernel_rfl)) (by decide) (fun K hK => ?_)
    refine goes_ Try.func67 (by kernel_rfl) rfl #[.int .i64 1, .int .i64 2, .string (⟨#[107]⟩ : ByteArray), .string (⟨#[98]⟩ : ByteArray)] (by rfl) rfl rfl aa ?_
    with_reducible refine (fairwaylaw10_R.calls 1 2 (⟨#[107]⟩ : ByteArray) (⟨#[98]⟩ : ByteArray) t181 t182 t183 t184 t185 t186 _ A9.out).mono ?_
    rintro e w17 ⟨rfl, hb⟩
    refine ⟨_, rfl, ?_⟩
    replace BK178 := Aside0.mk (blk_below (g := gb178) (o := .cells #[.int .i64 t170, .int .i64 t171, .string t172, .string t173, .int .i64 t174, .bool t175] 25 (0, 0)) (bk BK178.out) hb)
    replace HB := Aside0.mk (below_step bo hb)
    (try clear hb)
    (try clear hb2)
    (try clear hk)
    (try clear hi)
    refine hK.out _ _ ⟨(blk_cell BK178.out 0).trans rfl, (blk_cell BK178.out 1).trans rfl, (blk_cell BK178.out 2).trans rfl, (blk_cell BK178.out 3).trans rfl, (blk_cell BK178.out 4).trans rfl, (blk_cell BK178.out 5).trans rfl⟩ (fun hHeld => ?_)
    clear hK K
    refine norm_ (a' := ?_) ?_ ?_
    rotate_left
    ·show Act.put _ (some 33) _ = _
     simp only [Act.put, List.setIfInBounds_toArray, List.set_cons_zero, List.set_cons_succ, i64_w, i32_w]
     rfl
    refine pz (i := 17) (N := some 34) #[I,I,I,I,I,I,I,I,I,I,I,I,I,I,I,I,I,I,O,O] ?_
    refine pz (i := 18) (N := some 35) #[I,I,I,I,I,I,I,I,I,I,I,I,I,I,I,I,I,I,I,O] ?_
    refine pz (i := 19) (N := some 0) #[I,I,I,I,I,I,I,I,I,I,I,I,I,I,I,I,I,I,I,I] ?_
    refine done_ (done_of HT_.out (by kernel_rfl)) ?_
    try go_wp2
    go_ret
    exact ⟨er, bo⟩
   ·rw [if_neg c8] at H
    have c8b0 : (t176 == (t168.size : Int)) = false := beq_eq_false_iff_ne.mpr c8
    have c8b1 : (t176 != (t168.size : Int)) = true := bne_iff_ne.mpr c8
    obtain rfl := Option.some.inj H
    go_enter Try.func18, Try.ntmps18
    try go_wp2_with (first | ((with_reducible refine gate_callee (f := 67) rfl ?_); refine goesL_ (some 7) rfl rfl Try.func67 (by kernel_rfl) rfl #[.int .i64 1, .int .i64 2, .string (⟨#[107]⟩ : ByteArray), .string (⟨#[98]⟩ : ByteArray)] rfl aa ?_; (with_reducible refine (fairwaylaw10_R.calls 1 2 (⟨#[107]⟩ : ByteArray) (⟨#[98]⟩ : ByteArray) t162 t163 t164 t165 t166 t167 _ A1.out).mono ?_); rintro e w18 ⟨rfl, hb⟩; refine ⟨_, rfl, ?_⟩; replace HB := Aside0.mk (below_step bo hb); (try clear hb); (try clear hb2); (try clear hk); (try clear hi)) | ((with_reducible refine gate_callee (f := 14) rfl ?_); refine goesL_ (some 8) rfl rfl Try.func14 (by kernel_rfl) rfl #[.agg #[.int .i64 t162, .int .i64 t163, .string t164, .string t165, .int .i64 t166, .bool t167]] rfl aa ?_; (with_reducible refine (rec_Bytes.calls k t162 t163 t164 t165 t166 t167 t168 t169 _ A2.out).mono ?_); rintro e w19 ⟨rfl, hb⟩; refine ⟨_, rfl, ?_⟩; replace HB := Aside0.mk (below_step bo hb); (try clear hb); (try clear hb2); (try clear hk); (try clear hi)) | ((with_reducible refine gate_callee (f := 16) rfl ?_); refine goesL_ (some 13) rfl rfl Try.func16 (by kernel_rfl) rfl #[.string t168] rfl aa ?_; (with_reducible refine (rec_Take.calls k t168 t170 t171 t172 t173 t174 t175 t176 t177 _ A3.out).mono ?_); rintro e w20 ⟨rfl, hb⟩; refine ⟨_, rfl, ?_⟩; replace HB := Aside0.mk (below_step bo hb); (try clear hb); (try clear hb2); (try clear hk); (try clear hi)) | ((with_reducible refine gate_dst (N := 3) rfl ?_); (try (refine gate_guard (by rfl) ?_; dsimp only)); refine box_event ?hg (N := 3) ?hd (cs := #[.int .i64 0, .int .i64 0, .string (⟨#[]⟩ : ByteArray), .string (⟨#[]⟩ : ByteArray), .int .i64 0, .bool false]) (t := 25) ?hr ?_; (case hd => rfl); (case hg => rfl); (case hr => first | (go_simp; done) | (go_simp; rfl)); intro gb178 hg w21 hbox hb; have BK178 := Aside0.mk (hbox); have GW178 := Aside0.mk ((by rw [hg]; exact (below_size bo) : w.heap.size ≤ gb178)); have GE178 := Aside0.mk ((by rw [hg]; exact (below_size bo) : w.heap.size ≤ gb178)); replace HB := Aside0.mk (below_step bo hb); clear hb hbox hg; obtain ⟨hcz22_0, hcz22_1, hcz22_2, hcz22_3, hcz22_4, hcz22_5⟩ := cl6 BK178.out; obtain ⟨hfz22_0, hfz22_1, hfz22_2, hfz22_3, hfz22_4, hfz22_5⟩ := fz6 BK178.out))
    (try (rw [drewN_self w21]; generalize hq_ : World.drewN w21 _ = w21; have n0_ := Aside0.mk (blk_at hq_ BK178.out); have n1_ := Aside0.mk (below_at hq_ HB.out); clear hq_ BK178 HB; have BK178 := n0_; have HB := n1_; clear n0_ n1_))
    have n0_ : Aside0 (((((((w21.setCell ⟨gb178, 0, none⟩ (.int .i64 t170)).setCell ⟨gb178, 1, none⟩ (.int .i64 t171)).setCell ⟨gb178, 2, none⟩ (.string t172)).setCell ⟨gb178, 3, none⟩ (.string t173)).setCell ⟨gb178, 4, none⟩ (.int .i64 t174)).setCell ⟨gb178, 5, none⟩ (.bool t175)).heap[gb178]? = some (.cells #[.int .i64 t170, .int .i64 t171, .string t172, .string t173, .int .i64 t174, .bool t175] 25 (0, 0))) := ⟨by (with_reducible repeat (first | refine blk_drewN ?_ _ | refine blk_drew ?_ | refine blk_alloc ?_ _)); refine blk_put (cs := #[.int .i64 t170, .int .i64 t171, .string t172, .string t173, .int .i64 t174, .bool false]) ?_ 5 _ rfl; (with_reducible repeat (first | refine blk_drewN ?_ _ | refine blk_drew ?_ | refine blk_alloc ?_ _)); refine blk_put (cs := #[.int .i64 t170, .int .i64 t171, .string t172, .string t173, .int .i64 0, .bool false]) ?_ 4 _ rfl; (with_reducible repeat (first | refine blk_drewN ?_ _ | refine blk_drew ?_ | refine blk_alloc ?_ _)); refine blk_put (cs := #[.int .i64 t170, .int .i64 t171, .string t172, .string (⟨#[]⟩ : ByteArray), .int .i64 0, .bool false]) ?_ 3 _ rfl; (with_reducible repeat (first | refine blk_drewN ?_ _ | refine blk_drew ?_ | refine blk_alloc ?_ _)); refine blk_put (cs := #[.int .i64 t170, .int .i64 t171, .string (⟨#[]⟩ : ByteArray), .string (⟨#[]⟩ : ByteArray), .int .i64 0, .bool false]) ?_ 2 _ rfl; (with_reducible repeat (first | refine blk_drewN ?_ _ | refine blk_drew ?_ | refine blk_alloc ?_ _)); refine blk_put (cs := #[.int .i64 t170, .int .i64 0, .string (⟨#[]⟩ : ByteArray), .string (⟨#[]⟩ : ByteArray), .int .i64 0, .bool false]) ?_ 1 _ rfl; (with_reducible repeat (first | refine blk_drewN ?_ _ | refine blk_drew ?_ | refine blk_alloc ?_ _)); refine blk_put (cs := #[.int .i64 0, .int .i64 0, .string (⟨#[]⟩ : ByteArray), .string (⟨#[]⟩ : ByteArray), .int .i64 0, .bool false]) ?_ 0 _ rfl; (with_reducible repeat (first | refine blk_drewN ?_ _ | refine blk_drew ?_ | refine blk_alloc ?_ _)); exact BK178.out⟩
    have n1_ : Aside0 (Below w.heap.size w ((((((w21.setCell ⟨gb178, 0, none⟩ (.int .i64 t170)).setCell ⟨gb178, 1, none⟩ (.int .i64 t171)).setCell ⟨gb178, 2, none⟩ (.string t172)).setCell ⟨gb178, 3, none⟩ (.string t173)).setCell ⟨gb178, 4, none⟩ (.int .i64 t174)).setCell ⟨gb178, 5, none⟩ (.bool t175))) := ⟨bo⟩
    (try clear BK178)
    (try clear HB)
    generalize ((((((w21.setCell ⟨gb178, 0, none⟩ (.int .i64 t170)).setCell ⟨gb178, 1, none⟩ (.int .i64 t171)).setCell ⟨gb178, 2, none⟩ (.string t172)).setCell ⟨gb178, 3, none⟩ (.string t173)).setCell ⟨gb178, 4, none⟩ (.int .i64 t174)).setCell ⟨gb178, 5, none⟩ (.bool t175)) = w23 at n0_ n1_ ⊢
    have BK178 := n0_
    have HB := n1_
    clear n0_ n1_
    replace BK178 := Aside0.mk (blk_drew BK178.out)
    replace HB := Aside0.mk (below_drew1 HB.out)
    refine start_ (n := 20) (S := fun w' => True) (ds := []) #[O,O,O,O,O,O,O,O,O,O,O,O,O,O,O,O,O,O,O,O] (by kernel_rfl) rfl rfl trivial (fun hHeld => ?_); refine with_tabW fairwaylaw10_wakes.tab3 fairwaylaw10_wakes.bits3 (fun HT_ HW_ => ?_)
    generalize w23.drew = w24 at BK178 HB hHeld ⊢
    refine pz (i := 0) (N := some 17) #[I,O,O,O,O,O,O,O,O,O,O,O,O,O,O,O,O,O,O,O] ?_
    refine one_ (i := 1) (N := some 18) #[I,I,O,O,O,O,O,O,O,O,O,O,O,O,O,O,O,O,O,O] rfl rfl (one_of HT_.out (by kernel_rfl)) (by decide) (fun K hK => ?_)
    refine goes_ Try.func15 (by kernel_rfl) rfl #[.int .i64 t169] (by rfl) rfl rfl aa ?_
    with_reducible refine (fairwaylaw10_num.calls t169 t179 _ A4.out).mono ?_
    rintro e w' ⟨rfl, ⟨nd, rfl⟩⟩
    refine ⟨_, rfl, ?_⟩
    refine hK.out _ _ trivial (fun hHeld => ?_)
    clear hK K
    refine norm_ (a' := ?_) ?_ ?_
    rotate_left
    ·show Act.put _ (some 18) _ = _
     simp only [Act.put, List.setIfInBounds_toArray, List.set_cons_zero, List.set_cons_succ, i64_w, i32_w]
     rfl
    refine pz (i := 2) (N := some 19) #[I,I,I,O,O,O,O,O,O,O,O,O,O,O,O,O,O,O,O,O] ?_
    refine pz (i := 3) (N := some 20) #[I,I,I,I,O,O,O,O,O,O,O,O,O,O,O,O,O,O,O,O] ?_
    refine pz (i := 4) (N := some 21) #[I,I,I,I,I,O,O,O,O,O,O,O,O,O,O,O,O,O,O,O] ?_
    refine one_ (i := 5) (N := some 22) #[I,I,I,I,I,I,O,O,O,O,O,O,O,O,O,O,O,O,O,O] rfl rfl (one_of HT_.out (by kernel_rfl)) (by decide) (fun K hK => ?_)
    refine goes_ Try.func15 (by kernel_rfl) rfl #[.int .i64 t177] (by rfl) rfl rfl aa ?_
    with_reducible refine (fairwaylaw10_num.calls t177 t180 _ A6.out).mono ?_
    rintro e w' ⟨rfl, ⟨nd, rfl⟩⟩
    refine ⟨_, rfl, ?_⟩
    refine hK.out _ _ trivial (fun hHeld => ?_)
    clear hK K
    refine norm_ (a' := ?_) ?_ ?_
    rotate_left
    ·show Act.put _ (some 22) _ = _
     simp only [Act.put, List.setIfInBounds_toArray, List.set_cons_zero, List.set_cons_succ, i64_w, i32_w]
     rfl
    refine pz (i := 6) (N := some 23) #[I,I,I,I,I,I,I,O,O,O,O,O,O,O,O,O,O,O,O,O] ?_
    refine pz (i := 7) (N := some 24) #[I,I,I,I,I,I,I,I,O,O,O,O,O,O,O,O,O,O,O,O] ?_
    refine pz (i := 8) (N := some 25) #[I,I,I,I,I,I,I,I,I,O,O,O,O,O,O,O,O,O,O,O] ?_
    refine pz (i := 9) (N := some 26) #[I,I,I,I,I,I,I,I,I,I,O,O,O,O,O,O,O,O,O,O] ?_
    refine pz (i := 10) (N := some 27) #[I,I,I,I,I,I,I,I,I,I,I,O,O,O,O,O,O,O,O,O] ?_
    refine pz (i := 11) (N := some 28) #[I,I,I,I,I,I,I,I,I,I,I,I,O,O,O,O,O,O,O,O] ?_
    refine pz (i := 12) (N := some 29) #[I,I,I,I,I,I,I,I,I,I,I,I,I,O,O,O,O,O,O,O] ?_
    refine pz (i := 13) (N := some 30) #[I,I,I,I,I,I,I,I,I,I,I,I,I,I,O,O,O,O,O,O] ?_
    refine pz (i := 14) (N := some 31) #[I,I,I,I,I,I,I,I,I,I,I,I,I,I,I,O,O,O,O,O] ?_
    refine pu (i := 15) (N := some 32) #[I,I,I,I,I,I,I,I,I,I,I,I,I,I,I,I,O,O,O,O] ?_
    refine pu (i := 16) (N := some 33) #[I,I,I,I,I,I,I,I,I,I,I,I,I,I,I,I,I,O,O,O] ?_
    refine pu (i := 17) (N := some 34) #[I,I,I,I,I,I,I,I,I,I,I,I,I,I,I,I,I,I,O,O] ?_
    refine pz (i := 18) (N := some 35) #[I,I,I,I,I,I,I,I,I,I,I,I,I,I,I,I,I,I,I,O] ?_
    refine pz (i := 19) (N := some 0) #[I,I,I,I,I,I,I,I,I,I,I,I,I,I,I,I,I,I,I,I] ?_
    refine done_ (done_of HT_.out (by kernel_rfl)) ?_
    try go_wp2
    go_ret
    exact ⟨er, bo⟩
  ·rw [if_neg c7] at H
   have c7b0 : (t180 == 0) = false := beq_eq_false_iff_ne.mpr c7
   have c7b1 : (t180 != 0) = true := bne_iff_ne.mpr c7
   obtain rfl := Option.some.inj H
   go_enter Try.func18, Try.ntmps18
   try go_wp2_with (first | ((with_reducible refine gate_callee (f := 67) rfl ?_); refine goesL_ (some 7) rfl rfl Try.func67 (by kernel_rfl) rfl #[.int .i64 1, .int .i64 2, .string (⟨#[107]⟩ : ByteArray), .string (⟨#[98]⟩ : ByteArray)] rfl aa ?_; (with_reducible refine (fairwaylaw10_R.calls 1 2 (⟨#[107]⟩ : ByteArray) (⟨#[98]⟩ : ByteArray) t162 t163 t164 t165 t166 t167 _ A1.out).mono ?_); rintro e w25 ⟨rfl, hb⟩; refine ⟨_, rfl, ?_⟩; replace HB := Aside0.mk (below_step bo hb); (try clear hb); (try clear hb2); (try clear hk); (try clear hi)) | ((with_reducible refine gate_callee (f := 14) rfl ?_); refine goesL_ (some 8) rfl rfl Try.func14 (by kernel_rfl) rfl #[.agg #[.int .i64 t162, .int .i64 t163, .string t164, .string t165, .int .i64 t166, .bool t167]] rfl aa ?_; (with_reducible refine (rec_Bytes.calls k t162 t163 t164 t165 t166 t167 t168 t169 _ A2.out).mono ?_); rintro e w26 ⟨rfl, hb⟩; refine ⟨_, rfl, ?_⟩; replace HB := Aside0.mk (below_step bo hb); (try clear hb); (try clear hb2); (try clear hk); (try clear hi)) | ((with_reducible refine gate_callee (f := 16) rfl ?_); refine goesL_ (some 13) rfl rfl Try.func16 (by kernel_rfl) rfl #[.string t168] rfl aa ?_; (with_reducible refine (rec_Take.calls k t168 t170 t171 t172 t173 t174 t175 t176 t177 _ A3.out).mono ?_); rintro e w27 ⟨rfl, hb⟩; refine ⟨_, rfl, ?_⟩; replace HB := Aside0.mk (below_step bo hb); (try clear hb); (try clear hb2); (try clear hk); (try clear hi)) | ((with_reducible refine gate_dst (N := 3) rfl ?_); (try (refine gate_guard (by rfl) ?_; dsimp only)); refine box_event ?hg (N := 3) ?hd (cs := #[.int .i64 0, .int .i64 0, .string (⟨#[]⟩ : ByteArray), .string (⟨#[]⟩ : ByteArray), .int .i64 0, .bool false]) (t := 25) ?hr ?_; (case hd => rfl); (case hg => rfl); (case hr => first | (go_simp; done) | (go_simp; rfl)); intro gb178 hg w28 hbox hb; have BK178 := Aside0.mk (hbox); have GW178 := Aside0.mk ((by rw [hg]; exact (below_size bo) : w.heap.size ≤ gb178)); have GE178 := Aside0.mk ((by rw [hg]; exact (below_size bo) : w.heap.size ≤ gb178)); replace HB := Aside0.mk (below_step bo hb); clear hb hbox hg; obtain ⟨hcz29_0, hcz29_1, hcz29_2, hcz29_3, hcz29_4, hcz29_5⟩ := cl6 BK178.out; obtain ⟨hfz29_0, hfz29_1, hfz29_2, hfz29_3, hfz29_4, hfz29_5⟩ := fz6 BK178.out))
   (try (rw [drewN_self w28]; generalize hq_ : World.drewN w28 _ = w28; have n0_ := Aside0.mk (blk_at hq_ BK178.out); have n1_ := Aside0.mk (below_at hq_ HB.out); clear hq_ BK178 HB; have BK178 := n0_; have HB := n1_; clear n0_ n1_))
   have n0_ : Aside0 (((((((w28.setCell ⟨gb178, 0, none⟩ (.int .i64 t170)).setCell ⟨gb178, 1, none⟩ (.int .i64 t171)).setCell ⟨gb178, 2, none⟩ (.string t172)).setCell ⟨gb178, 3, none⟩ (.string t173)).setCell ⟨gb178, 4, none⟩ (.int .i64 t174)).setCell ⟨gb178, 5, none⟩ (.bool t175)).heap[gb178]? = some (.cells #[.int .i64 t170, .int .i64 t171, .string t172, .string t173, .int .i64 t174, .bool t175] 25 (0, 0))) := ⟨by (with_reducible repeat (first | refine blk_drewN ?_ _ | refine blk_drew ?_ | refine blk_alloc ?_ _)); refine blk_put (cs := #[.int .i64 t170, .int .i64 t171, .string t172, .string t173, .int .i64 t174, .bool false]) ?_ 5 _ rfl; (with_reducible repeat (first | refine blk_drewN ?_ _ | refine blk_drew ?_ | refine blk_alloc ?_ _)); refine blk_put (cs := #[.int .i64 t170, .int .i64 t171, .string t172, .string t173, .int .i64 0, .bool false]) ?_ 4 _ rfl; (with_reducible repeat (first | refine blk_drewN ?_ _ | refine blk_drew ?_ | refine blk_alloc ?_ _)); refine blk_put (cs := #[.int .i64 t170, .int .i64 t171, .string t172, .string (⟨#[]⟩ : ByteArray), .int .i64 0, .bool false]) ?_ 3 _ rfl; (with_reducible repeat (first | refine blk_drewN ?_ _ | refine blk_drew ?_ | refine blk_alloc ?_ _)); refine blk_put (cs := #[.int .i64 t170, .int .i64 t171, .string (⟨#[]⟩ : ByteArray), .string (⟨#[]⟩ : ByteArray), .int .i64 0, .bool false]) ?_ 2 _ rfl; (with_reducible repeat (first | refine blk_drewN ?_ _ | refine blk_drew ?_ | refine blk_alloc ?_ _)); refine blk_put (cs := #[.int .i64 t170, .int .i64 0, .string (⟨#[]⟩ : ByteArray), .string (⟨#[]⟩ : ByteArray), .int .i64 0, .bool false]) ?_ 1 _ rfl; (with_reducible repeat (first | refine blk_drewN ?_ _ | refine blk_drew ?_ | refine blk_alloc ?_ _)); refine blk_put (cs := #[.int .i64 0, .int .i64 0, .string (⟨#[]⟩ : ByteArray), .string (⟨#[]⟩ : ByteArray), .int .i64 0, .bool false]) ?_ 0 _ rfl; (with_reducible repeat (first | refine blk_drewN ?_ _ | refine blk_drew ?_ | refine blk_alloc ?_ _)); exact BK178.out⟩
   have n1_ : Aside0 (Below w.heap.size w ((((((w28.setCell ⟨gb178, 0, none⟩ (.int .i64 t170)).setCell ⟨gb178, 1, none⟩ (.int .i64 t171)).setCell ⟨gb178, 2, none⟩ (.string t172)).setCell ⟨gb178, 3, none⟩ (.string t173)).setCell ⟨gb178, 4, none⟩ (.int .i64 t174)).setCell ⟨gb178, 5, none⟩ (.bool t175))) := ⟨bo⟩
   (try clear BK178)
   (try clear HB)
   generalize ((((((w28.setCell ⟨gb178, 0, none⟩ (.int .i64 t170)).setCell ⟨gb178, 1, none⟩ (.int .i64 t171)).setCell ⟨gb178, 2, none⟩ (.string t172)).setCell ⟨gb178, 3, none⟩ (.string t173)).setCell ⟨gb178, 4, none⟩ (.int .i64 t174)).setCell ⟨gb178, 5, none⟩ (.bool t175)) = w30 at n0_ n1_ ⊢
   have BK178 := n0_
   have HB := n1_
   clear n0_ n1_
   replace BK178 := Aside0.mk (blk_drew BK178.out)
   replace HB := Aside0.mk (below_drew1 HB.out)
   refine start_ (n := 20) (S := fun w' => True) (ds := []) #[O,O,O,O,O,O,O,O,O,O,O,O,O,O,O,O,O,O,O,O] (by kernel_rfl) rfl rfl trivial (fun hHeld => ?_); refine with_tabW fairwaylaw10_wakes.tab3 fairwaylaw10_wakes.bits3 (fun HT_ HW_ => ?_)
   generalize w30.drew = w31 at BK178 HB hHeld ⊢
   refine pz (i := 0) (N := some 17) #[I,O,O,O,O,O,O,O,O,O,O,O,O,O,O,O,O,O,O,O] ?_
   refine one_ (i := 1) (N := some 18) #[I,I,O,O,O,O,O,O,O,O,O,O,O,O,O,O,O,O,O,O] rfl rfl (one_of HT_.out (by kernel_rfl)) (by decide) (fun K hK => ?_)
   refine goes_ Try.func15 (by kernel_rfl) rfl #[.int .i64 t169] (by rfl) rfl rfl aa ?_
   with_reducible refine (fairwaylaw10_num.calls t169 t179 _ A4.out).mono ?_
   rintro e w' ⟨rfl, ⟨nd, rfl⟩⟩
   refine ⟨_, rfl, ?_⟩
   refine hK.out _ _ trivial (fun hHeld => ?_)
   clear hK K
   refine norm_ (a' := ?_) ?_ ?_
   rotate_left
   ·show Act.put _ (some 18) _ = _
    simp only [Act.put, List.setIfInBounds_toArray, List.set_cons_zero, List.set_cons_succ, i64_w, i32_w]
    rfl
   refine pz (i := 2) (N := some 19) #[I,I,I,O,O,O,O,O,O,O,O,O,O,O,O,O,O,O,O,O] ?_
   refine pz (i := 3) (N := some 20) #[I,I,I,I,O,O,O,O,O,O,O,O,O,O,O,O,O,O,O,O] ?_
   refine pz (i := 4) (N := some 21) #[I,I,I,I,I,O,O,O,O,O,O,O,O,O,O,O,O,O,O,O] ?_
   refine one_ (i := 5) (N := some 22) #[I,I,I,I,I,I,O,O,O,O,O,O,O,O,O,O,O,O,O,O] rfl rfl (one_of HT_.out (by kernel_rfl)) (by decide) (fun K hK => ?_)
   refine goes_ Try.func15 (by kernel_rfl) rfl #[.int .i64 t177] (by rfl) rfl rfl aa ?_
   with_reducible refine (fairwaylaw10_num.calls t177 t180 _ A6.out).mono ?_
   rintro e w' ⟨rfl, ⟨nd, rfl⟩⟩
   refine ⟨_, rfl, ?_⟩
   refine hK.out _ _ trivial (fun hHeld => ?_)
   clear hK K
   refine norm_ (a' := ?_) ?_ ?_
   rotate_left
   ·show Act.put _ (some 22) _ = _
    simp only [Act.put, List.setIfInBounds_toArray, List.set_cons_zero, List.set_cons_succ, i64_w, i32_w]
    rfl
   refine pz (i := 6) (N := some 23) #[I,I,I,I,I,I,I,O,O,O,O,O,O,O,O,O,O,O,O,O] ?_
   refine pz (i := 7) (N := some 24) #[I,I,I,I,I,I,I,I,O,O,O,O,O,O,O,O,O,O,O,O] ?_
   refine pz (i := 8) (N := some 25) #[I,I,I,I,I,I,I,I,I,O,O,O,O,O,O,O,O,O,O,O] ?_
   refine pu (i := 9) (N := some 26) #[I,I,I,I,I,I,I,I,I,I,O,O,O,O,O,O,O,O,O,O] ?_
   refine pu (i := 10) (N := some 27) #[I,I,I,I,I,I,I,I,I,I,I,O,O,O,O,O,O,O,O,O] ?_
   refine pu (i := 11) (N := some 28) #[I,I,I,I,I,I,I,I,I,I,I,I,O,O,O,O,O,O,O,O] ?_
   refine pu (i := 12) (N := some 29) #[I,I,I,I,I,I,I,I,I,I,I,I,I,O,O,O,O,O,O,O] ?_
   refine pz (i := 13) (N := some 30) #[I,I,I,I,I,I,I,I,I,I,I,I,I,I,O,O,O,O,O,O] ?_
   refine pz (i := 14) (N := some 31) #[I,I,I,I,I,I,I,I,I,I,I,I,I,I,I,O,O,O,O,O] ?_
   refine pu (i := 15) (N := some 32) #[I,I,I,I,I,I,I,I,I,I,I,I,I,I,I,I,O,O,O,O] ?_
   refine pu (i := 16) (N := some 33) #[I,I,I,I,I,I,I,I,I,I,I,I,I,I,I,I,I,O,O,O] ?_
   refine pu (i := 17) (N := some 34) #[I,I,I,I,I,I,I,I,I,I,I,I,I,I,I,I,I,I,O,O] ?_
   refine pz (i := 18) (N := some 35) #[I,I,I,I,I,I,I,I,I,I,I,I,I,I,I,I,I,I,I,O] ?_
   refine pz (i := 19) (N := some 0) #[I,I,I,I,I,I,I,I,I,I,I,I,I,I,I,I,I,I,I,I] ?_
   refine done_ (done_of HT_.out (by kernel_rfl)) ?_
   try go_wp2
   go_ret
   exact ⟨er, bo⟩
 ·rw [if_neg c5] at H
  have c5b0 : (t179 == 0) = false := beq_eq_false_iff_ne.mpr c5
  have c5b1 : (t179 != 0) = true := bne_iff_ne.mpr c5
  obtain rfl := Option.some.inj H
  go_enter Try.func18, Try.ntmps18
  try go_wp2_with (first | ((with_reducible refine gate_callee (f := 67) rfl ?_); refine goesL_ (some 7) rfl rfl Try.func67 (by kernel_rfl) rfl #[.int .i64 1, .int .i64 2, .string (⟨#[107]⟩ : ByteArray), .string (⟨#[98]⟩ : ByteArray)] rfl aa ?_; (with_reducible refine (fairwaylaw10_R.calls 1 2 (⟨#[107]⟩ : ByteArray) (⟨#[98]⟩ : ByteArray) t162 t163 t164 t165 t166 t167 _ A1.out).mono ?_); rintro e w32 ⟨rfl, hb⟩; refine ⟨_, rfl, ?_⟩; replace HB := Aside0.mk (below_step bo hb); (try clear hb); (try clear hb2); (try clear hk); (try clear hi)) | ((with_reducible refine gate_callee (f := 14) rfl ?_); refine goesL_ (some 8) rfl rfl Try.func14 (by kernel_rfl) rfl #[.agg #[.int .i64 t162, .int .i64 t163, .string t164, .string t165, .int .i64 t166, .bool t167]] rfl aa ?_; (with_reducible refine (rec_Bytes.calls k t162 t163 t164 t165 t166 t167 t168 t169 _ A2.out).mono ?_); rintro e w33 ⟨rfl, hb⟩; refine ⟨_, rfl, ?_⟩; replace HB := Aside0.mk (below_step bo hb); (try clear hb); (try clear hb2); (try clear hk); (try clear hi)) | ((with_reducible refine gate_callee (f := 16) rfl ?_); refine goesL_ (some 13) rfl rfl Try.func16 (by kernel_rfl) rfl #[.string t168] rfl aa ?_; (with_reducible refine (rec_Take.calls k t168 t170 t171 t172 t173 t174 t175 t176 t177 _ A3.out).mono ?_); rintro e w34 ⟨rfl, hb⟩; refine ⟨_, rfl, ?_⟩; replace HB := Aside0.mk (below_step bo hb); (try clear hb); (try clear hb2); (try clear hk); (try clear hi)) | ((with_reducible refine gate_dst (N := 3) rfl ?_); (try (refine gate_guard (by rfl) ?_; dsimp only)); refine box_event ?hg (N := 3) ?hd (cs := #[.int .i64 0, .int .i64 0, .string (⟨#[]⟩ : ByteArray), .string (⟨#[]⟩ : ByteArray), .int .i64 0, .bool false]) (t := 25) ?hr ?_; (case hd => rfl); (case hg => rfl); (case hr => first | (go_simp; done) | (go_simp; rfl)); intro gb178 hg w35 hbox hb; have BK178 := Aside0.mk (hbox); have GW178 := Aside0.mk ((by rw [hg]; exact (below_size bo) : w.heap.size ≤ gb178)); have GE178 := Aside0.mk ((by rw [hg]; exact (below_size bo) : w.heap.size ≤ gb178)); replace HB := Aside0.mk (below_step bo hb); clear hb hbox hg; obtain ⟨hcz36_0, hcz36_1, hcz36_2, hcz36_3, hcz36_4, hcz36_5⟩ := cl6 BK178.out; obtain ⟨hfz36_0, hfz36_1, hfz36_2, hfz36_3, hfz36_4, hfz36_5⟩ := fz6 BK178.out))
  (try (rw [drewN_self w35]; generalize hq_ : World.drewN w35 _ = w35; have n0_ := Aside0.mk (blk_at hq_ BK178.out); have n1_ := Aside0.mk (below_at hq_ HB.out); clear hq_ BK178 HB; have BK178 := n0_; have HB := n1_; clear n0_ n1_))
  have n0_ : Aside0 (((((((w35.setCell ⟨gb178, 0, none⟩ (.int .i64 t170)).setCell ⟨gb178, 1, none⟩ (.int .i64 t171)).setCell ⟨gb178, 2, none⟩ (.string t172)).setCell ⟨gb178, 3, none⟩ (.string t173)).setCell ⟨gb178, 4, none⟩ (.int .i64 t174)).setCell ⟨gb178, 5, none⟩ (.bool t175)).heap[gb178]? = some (.cells #[.int .i64 t170, .int .i64 t171, .string t172, .string t173, .int .i64 t174, .bool t175] 25 (0, 0))) := ⟨by (with_reducible repeat (first | refine blk_drewN ?_ _ | refine blk_drew ?_ | refine blk_alloc ?_ _)); refine blk_put (cs := #[.int .i64 t170, .int .i64 t171, .string t172, .string t173, .int .i64 t174, .bool false]) ?_ 5 _ rfl; (with_reducible repeat (first | refine blk_drewN ?_ _ | refine blk_drew ?_ | refine blk_alloc ?_ _)); refine blk_put (cs := #[.int .i64 t170, .int .i64 t171, .string t172, .string t173, .int .i64 0, .bool false]) ?_ 4 _ rfl; (with_reducible repeat (first | refine blk_drewN ?_ _ | refine blk_drew ?_ | refine blk_alloc ?_ _)); refine blk_put (cs := #[.int .i64 t170, .int .i64 t171, .string t172, .string (⟨#[]⟩ : ByteArray), .int .i64 0, .bool false]) ?_ 3 _ rfl; (with_reducible repeat (first | refine blk_drewN ?_ _ | refine blk_drew ?_ | refine blk_alloc ?_ _)); refine blk_put (cs := #[.int .i64 t170, .int .i64 t171, .string (⟨#[]⟩ : ByteArray), .string (⟨#[]⟩ : ByteArray), .int .i64 0, .bool false]) ?_ 2 _ rfl; (with_reducible repeat (first | refine blk_drewN ?_ _ | refine blk_drew ?_ | refine blk_alloc ?_ _)); refine blk_put (cs := #[.int .i64 t170, .int .i64 0, .string (⟨#[]⟩ : ByteArray), .string (⟨#[]⟩ : ByteArray), .int .i64 0, .bool false]) ?_ 1 _ rfl; (with_reducible repeat (first | refine blk_drewN ?_ _ | refine blk_drew ?_ | refine blk_alloc ?_ _)); refine blk_put (cs := #[.int .i64 0, .int .i64 0, .string (⟨#[]⟩ : ByteArray), .string (⟨#[]⟩ : ByteArray), .int .i64 0, .bool false]) ?_ 0 _ rfl; (with_reducible repeat (first | refine blk_drewN ?_ _ | refine blk_drew ?_ | refine blk_alloc ?_ _)); exact BK178.out⟩
  have n1_ : Aside0 (Below w.heap.size w ((((((w35.setCell ⟨gb178, 0, none⟩ (.int .i64 t170)).setCell ⟨gb178, 1, none⟩ (.int .i64 t171)).setCell ⟨gb178, 2, none⟩ (.string t172)).setCell ⟨gb178, 3, none⟩ (.string t173)).setCell ⟨gb178, 4, none⟩ (.int .i64 t174)).setCell ⟨gb178, 5, none⟩ (.bool t175))) := ⟨bo⟩
  (try clear BK178)
  (try clear HB)
  generalize ((((((w35.setCell ⟨gb178, 0, none⟩ (.int .i64 t170)).setCell ⟨gb178, 1, none⟩ (.int .i64 t171)).setCell ⟨gb178, 2, none⟩ (.string t172)).setCell ⟨gb178, 3, none⟩ (.string t173)).setCell ⟨gb178, 4, none⟩ (.int .i64 t174)).setCell ⟨gb178, 5, none⟩ (.bool t175)) = w37 at n0_ n1_ ⊢
  have BK178 := n0_
  have HB := n1_
  clear n0_ n1_
  replace BK178 := Aside0.mk (blk_drew BK178.out)
  replace HB := Aside0.mk (below_drew1 HB.out)
  refine start_ (n := 20) (S := fun w' => True) (ds := []) #[O,O,O,O,O,O,O,O,O,O,O,O,O,O,O,O,O,O,O,O] (by kernel_rfl) rfl rfl trivial (fun hHeld => ?_); refine with_tabW fairwaylaw10_wakes.tab3 fairwaylaw10_wakes.bits3 (fun HT_ HW_ => ?_)
  generalize w37.drew = w38 at BK178 HB hHeld ⊢
  refine pz (i := 0) (N := some 17) #[I,O,O,O,O,O,O,O,O,O,O,O,O,O,O,O,O,O,O,O] ?_
  refine one_ (i := 1) (N := some 18) #[I,I,O,O,O,O,O,O,O,O,O,O,O,O,O,O,O,O,O,O] rfl rfl (one_of HT_.out (by kernel_rfl)) (by decide) (fun K hK => ?_)
  refine goes_ Try.func15 (by kernel_rfl) rfl #[.int .i64 t169] (by rfl) rfl rfl aa ?_
  with_reducible refine (fairwaylaw10_num.calls t169 t179 _ A4.out).mono ?_
  rintro e w' ⟨rfl, ⟨nd, rfl⟩⟩
  refine ⟨_, rfl, ?_⟩
  refine hK.out _ _ trivial (fun hHeld => ?_)
  clear hK K
  refine norm_ (a' := ?_) ?_ ?_
  rotate_left
  ·show Act.put _ (some 18) _ = _
   simp only [Act.put, List.setIfInBounds_toArray, List.set_cons_zero, List.set_cons_succ, i64_w, i32_w]
   rfl
  refine pz (i := 2) (N := some 19) #[I,I,I,O,O,O,O,O,O,O,O,O,O,O,O,O,O,O,O,O] ?_
  refine pz (i := 3) (N := some 20) #[I,I,I,I,O,O,O,O,O,O,O,O,O,O,O,O,O,O,O,O] ?_
  refine pu (i := 4) (N := some 21) #[I,I,I,I,I,O,O,O,O,O,O,O,O,O,O,O,O,O,O,O] ?_
  refine pu (i := 5) (N := some 22) #[I,I,I,I,I,I,O,O,O,O,O,O,O,O,O,O,O,O,O,O] ?_
  refine pu (i := 6) (N := some 23) #[I,I,I,I,I,I,I,O,O,O,O,O,O,O,O,O,O,O,O,O] ?_
  refine pz (i := 7) (N := some 24) #[I,I,I,I,I,I,I,I,O,O,O,O,O,O,O,O,O,O,O,O] ?_
  refine pz (i := 8) (N := some 25) #[I,I,I,I,I,I,I,I,I,O,O,O,O,O,O,O,O,O,O,O] ?_
  refine pu (i := 9) (N := some 26) #[I,I,I,I,I,I,I,I,I,I,O,O,O,O,O,O,O,O,O,O] ?_
  refine pu (i := 10) (N := some 27) #[I,I,I,I,I,I,I,I,I,I,I,O,O,O,O,O,O,O,O,O] ?_
  refine pu (i := 11) (N := some 28) #[I,I,I,I,I,I,I,I,I,I,I,I,O,O,O,O,O,O,O,O] ?_
  refine pu (i := 12) (N := some 29) #[I,I,I,I,I,I,I,I,I,I,I,I,I,O,O,O,O,O,O,O] ?_
  refine pz (i := 13) (N := some 30) #[I,I,I,I,I,I,I,I,I,I,I,I,I,I,O,O,O,O,O,O] ?_
  refine pz (i := 14) (N := some 31) #[I,I,I,I,I,I,I,I,I,I,I,I,I,I,I,O,O,O,O,O] ?_
  refine pu (i := 15) (N := some 32) #[I,I,I,I,I,I,I,I,I,I,I,I,I,I,I,I,O,O,O,O] ?_
  refine pu (i := 16) (N := some 33) #[I,I,I,I,I,I,I,I,I,I,I,I,I,I,I,I,I,O,O,O] ?_
  refine pu (i := 17) (N := some 34) #[I,I,I,I,I,I,I,I,I,I,I,I,I,I,I,I,I,I,O,O] ?_
  refine pz (i := 18) (N := some 35) #[I,I,I,I,I,I,I,I,I,I,I,I,I,I,I,I,I,I,I,O] ?_
  refine pz (i := 19) (N := some 0) #[I,I,I,I,I,I,I,I,I,I,I,I,I,I,I,I,I,I,I,I] ?_
  refine done_ (done_of HT_.out (by kernel_rfl)) ?_
  try go_wp2
  go_ret
  exact ⟨er, bo⟩

end Go.Proofs.Ytmabdfdmccbfnaa.P

-- written by a program of the proving session, out of the translation; Lean checks it
namespace Go.Proofs.Ytmabdfdmccbfnaa.P
open Go.RowKit Go.Proofs.Ytmabdfdmccbfnaa.Sq Go.Proofs.YtmabdfdmccbfnaaW.PrintWords Go.Proofs.YtmabdfdmccbfnaaW.PrintLast Go.Proofs.YtmabdfdmccbfnaaW.PrintMore
attribute [local go_sem] max2_int min2_int max_two min_two max_three min_three max_four min_four   -- for this text's walks alone
set_option linter.unusedVariables false
set_option linter.unusedSimpArgs false

attribute [local go_sem high] eqA25
/-! ### fairwaylaw10_RecEdges: function 3 -/
mutual
def fairwaylaw10_RecEdges.l0 : Nat → List (S38) → Int → Int → Int → ByteArray → ByteArray → Int → Bool → Option (Bool)
 | 0, _, _, _, _, _, _, _, _ => none
 | k + 1, x0, x4, x194000, x194001, x194002, x194003, x194004, x194005 => if x4 < 8 then (if x4 = 1 then (fairwaylaw10_RecEdges.j1 k x0 x4 x194000 x194001 x194002 x194003 x194004 x194005 1099511627776 x194001 x194002 x194003 x194004 x194005) else (if x4 = 2 then (fairwaylaw10_RecEdges.j1 k x0 x4 x194000 x194001 x194002 x194003 x194004 x194005 x194000 1099511627777 x194002 x194003 x194004 x194005) else (if x4 = 3 then (if x194002.size + 1 ≤ 9223372036854775807 then (fairwaylaw10_RecEdges.j1 k x0 x4 x194000 x194001 x194002 x194003 x194004 x194005 x194000 x194001 (x194002 ++ (⟨#[120]⟩ : ByteArray)) x194003 x194004 x194005) else (none)) else (if x4 = 4 then (if x194003.size + 1 ≤ 9223372036854775807 then (fairwaylaw10_RecEdges.j1 k x0 x4 x194000 x194001 x194002 x194003 x194004 x194005 x194000 x194001 x194002 (x194003 ++ (⟨#[120]⟩ : ByteArray)) x194004 x194005) else (none)) else (if x4 = 5 then (fairwaylaw10_RecEdges.j1 k x0 x4 x194000 x194001 x194002 x194003 x194004 x194005 x194000 x194001 x194002 x194003 3 x194005) else (if x4 = 6 then (fairwaylaw10_RecEdges.j1 k x0 x4 x194000 x194001 x194002 x194003 x194004 x194005 x194000 x194001 x194002 x194003 x194004 true) else (if x4 = 7 then (fairwaylaw10_RecEdges.j1 k x0 x4 x194000 x194001 x194002 x194003 x194004 x194005 x194000 x194001 x194002 (⟨#[]⟩ : ByteArray) x194004 true) else (fairwaylaw10_RecEdges.j1 k x0 x4 x194000 x194001 x194002 x194003 x194004 x194005 x194000 x194001 x194002 x194003 x194004 x194005)))))))) else (if (x0.length : Int) ≥ 0 then ((fairwaylaw10_wakes.f k).bind fun t194 => (some t194)) else (some false))
def fairwaylaw10_RecEdges.j1 : Nat → List (S38) → Int → Int → Int → ByteArray → ByteArray → Int → Bool → Int → Int → ByteArray → ByteArray → Int → Bool → Option (Bool)
 | 0, _, _, _, _, _, _, _, _, _, _, _, _, _, _ => none
 | k + 1, x0, x4, x194000, x194001, x194002, x194003, x194004, x194005, x196000, x196001, x196002, x196003, x196004, x196005 => (rec_Bytes.f k x196000 x196001 x196002 x196003 x196004 x196005).bind fun bt196 => (if x4 = 0 then (fairwaylaw10_RecEdges.j2 k x0 x4 bt196.1 bt196.2 true x194000 x194001 x194002 x194003 x194004 x194005 x196000 x196001 x196002 x196003 x196004 x196005) else (fairwaylaw10_RecEdges.j2 k x0 x4 bt196.1 bt196.2 (x4 == 7) x194000 x194001 x194002 x194003 x194004 x194005 x196000 x196001 x196002 x196003 x196004 x196005))
def fairwaylaw10_RecEdges.j2 : Nat → List (S38) → Int → ByteArray → Int → Bool → Int → Int → ByteArray → ByteArray → Int → Bool → Int → Int → ByteArray → ByteArray → Int → Bool → Option (Bool)
 | 0, _, _, _, _, _, _, _, _, _, _, _, _, _, _, _, _, _ => none
 | k + 1, x0, x4, x6, x7, x8, x194000, x194001, x194002, x194003, x194004, x194005, x196000, x196001, x196002, x196003, x196004, x196005 => (fairwaylaw10_num.f x7).bind fun t198 => (if ((t198 == 0) != x8) = true then (some false) else (if x8 = true then ((rec_Take.f k x6).bind fun bt199 => (if (x6.size : Int) = (wrap64 ((wrap64 (25 + (x196002.size : Int))) + (x196003.size : Int))) then ((fairwaylaw10_num.f bt199.2.2.2.2.2.2.2).bind fun t208 => (if t208 = 0 then (if (!(bt199.1 == x196000) || (!(bt199.2.1 == x196001) || (!(bt199.2.2.1.toList == x196002.toList) || (!(bt199.2.2.2.1.toList == x196003.toList) || (!(bt199.2.2.2.2.1 == x196004) || (!(bt199.2.2.2.2.2.1 == x196005))))))) = true then (some false) else (if bt199.2.2.2.2.2.2.1 = (x6.size : Int) then ((fairwayref10_Rec.f bt199.1 bt199.2.1 bt199.2.2.1 bt199.2.2.2.1 bt199.2.2.2.2.1 bt199.2.2.2.2.2.1).bind fun t209 => (if t209 = true then (fairwaylaw10_RecEdges.l0 k x0 (wrap64 (x4 + 1)) x194000 x194001 x194002 x194003 x194004 x194005) else (some false))) else (some false))) else (some false))) else (some false))) else (fairwaylaw10_RecEdges.l0 k x0 (wrap64 (x4 + 1)) x194000 x194001 x194002 x194003 x194004 x194005)))
end
def fairwaylaw10_RecEdges.f (k : Nat) (l0 : List (S38)) : Option (Bool) := if 1024 ≤ 281474976710656 then (fairwaylaw10_RecEdges.l0 k l0 0 1099511627775 1099511627776 (strOfNums (List.replicate 1024 0)) (strOfNums (List.replicate 1024 0)) 2 false) else (none)
theorem fairwaylaw10_RecEdges.mono_l : ∀ k, (∀ y0 y1 y2 y3 y4 y5 y6 y7, LeO (fairwaylaw10_RecEdges.l0 k y0 y1 y2 y3 y4 y5 y6 y7) (fairwaylaw10_RecEdges.l0 (k + 1) y0 y1 y2 y3 y4 y5 y6 y7)) ∧ (∀ y0 y1 y2 y3 y4 y5 y6 y7 y8 y9 y10 y11 y12 y13, LeO (fairwaylaw10_RecEdges.j1 k y0 y1 y2 y3 y4 y5 y6 y7 y8 y9 y10 y11 y12 y13) (fairwaylaw10_RecEdges.j1 (k + 1) y0 y1 y2 y3 y4 y5 y6 y7 y8 y9 y10 y11 y12 y13)) ∧ (∀ y0 y1 y2 y3 y4 y5 y6 y7 y8 y9 y10 y11 y12 y13 y14 y15 y16, LeO (fairwaylaw10_RecEdges.j2 k y0 y1 y2 y3 y4 y5 y6 y7 y8 y9 y10 y11 y12 y13 y14 y15 y16) (fairwaylaw10_RecEdges.j2 (k + 1) y0 y1 y2 y3 y4 y5 y6 y7 y8 y9 y10 y11 y12 y13 y14 y15 y16))
 | 0 => ⟨fun _ _ _ _ _ _ _ _ r h => by simp [fairwaylaw10_RecEdges.l0] at h, fun _ _ _ _ _ _ _ _ _ _ _ _ _ _ r h => by simp [fairwaylaw10_RecEdges.j1] at h, fun _ _ _ _ _ _ _ _ _ _ _ _ _ _ _ _ _ r h => by simp [fairwaylaw10_RecEdges.j2] at h⟩
 | k + 1 => by
  obtain ⟨ih0, ih1, ih2⟩ := fairwaylaw10_RecEdges.mono_l k
  refine ⟨?_, ?_, ?_⟩
  ·intro y0 y1 y2 y3 y4 y5 y6 y7
   unfold fairwaylaw10_RecEdges.l0
   repeat' first
   | (with_reducible exact ih0 _ _ _ _ _ _ _ _)
   | (with_reducible exact ih1 _ _ _ _ _ _ _ _ _ _ _ _ _ _)
   | (with_reducible exact ih2 _ _ _ _ _ _ _ _ _ _ _ _ _ _ _ _ _)
   | (with_reducible exact fairwaylaw10_wakes.mono _)
   | (with_reducible exact rec_Bytes.mono _ _ _ _ _ _ _)
   | (with_reducible exact rec_Take.mono _ _)
   | (with_reducible exact LeO.refl _)
   | (with_reducible exact LeO.none _)
   | (with_reducible refine LeO.ite ?_ ?_)
   | (with_reducible refine LeO.bind ?_ (fun _ => ?_))
   | exact ih0 _ _ _ _ _ _ _ _
   | exact ih1 _ _ _ _ _ _ _ _ _ _ _ _ _ _
   | exact ih2 _ _ _ _ _ _ _ _ _ _ _ _ _ _ _ _ _
   | exact fairwaylaw10_wakes.mono _
   | exact rec_Bytes.mono _ _ _ _ _ _ _
   | exact rec_Take.mono _ _
   | exact LeO.none _
   | refine LeO.ite ?_ ?_
   | refine LeO.bind ?_ (fun _ => ?_)
  ·intro y0 y1 y2 y3 y4 y5 y6 y7 y8 y9 y10 y11 y12 y13
   unfold fairwaylaw10_RecEdges.j1
   repeat' first
   | (with_reducible exact ih0 _ _ _ _ _ _ _ _)
   | (with_reducible exact ih1 _ _ _ _ _ _ _ _ _ _ _ _ _ _)
   | (with_reducible exact ih2 _ _ _ _ _ _ _ _ _ _ _ _ _ _ _ _ _)
   | (with_reducible exact fairwaylaw10_wakes.mono _)
   | (with_reducible exact rec_Bytes.mono _ _ _ _ _ _ _)
   | (with_reducible exact rec_Take.mono _ _)
   | (with_reducible exact LeO.refl _)
   | (with_reducible exact LeO.none _)
   | (with_reducible refine LeO.ite ?_ ?_)
   | (with_reducible refine LeO.bind ?_ (fun _ => ?_))
   | exact ih0 _ _ _ _ _ _ _ _
   | exact ih1 _ _ _ _ _ _ _ _ _ _ _ _ _ _
   | exact ih2 _ _ _ _ _ _ _ _ _ _ _ _ _ _ _ _ _
   | exact fairwaylaw10_wakes.mono _
   | exact rec_Bytes.mono _ _ _ _ _ _ _
   | exact rec_Take.mono _ _
   | exact LeO.none _
   | refine LeO.ite ?_ ?_
   | refine LeO.bind ?_ (fun _ => ?_)
  ·intro y0 y1 y2 y3 y4 y5 y6 y7 y8 y9 y10 y11 y12 y13 y14 y15 y16
   unfold fairwaylaw10_RecEdges.j2
   repeat' first
   | (with_reducible exact ih0 _ _ _ _ _ _ _ _)
   | (with_reducible exact ih1 _ _ _ _ _ _ _ _ _ _ _ _ _ _)
   | (with_reducible exact ih2 _ _ _ _ _ _ _ _ _ _ _ _ _ _ _ _ _)
   | (with_reducible exact fairwaylaw10_wakes.mono _)
   | (with_reducible exact rec_Bytes.mono _ _ _ _ _ _ _)
   | (with_reducible exact rec_Take.mono _ _)
   | (with_reducible exact LeO.refl _)
   | (with_reducible exact LeO.none _)
   | (with_reducible refine LeO.ite ?_ ?_)
   | (with_reducible refine LeO.bind ?_ (fun _ => ?_))
   | exact ih0 _ _ _ _ _ _ _ _
   | exact ih1 _ _ _ _ _ _ _ _ _ _ _ _ _ _
   | exact ih2 _ _ _ _ _ _ _ _ _ _ _ _ _ _ _ _ _
   | exact fairwaylaw10_wakes.mono _
   | exact rec_Bytes.mono _ _ _ _ _ _ _
   | exact rec_Take.mono _ _
   | exact LeO.none _
   | refine LeO.ite ?_ ?_
   | refine LeO.bind ?_ (fun _ => ?_)
theorem fairwaylaw10_RecEdges.mono : ∀ a0 k, LeO (fairwaylaw10_RecEdges.f k a0) (fairwaylaw10_RecEdges.f (k + 1) a0) := by
 intro a0 k
 obtain ⟨ih0, ih1, ih2⟩ := fairwaylaw10_RecEdges.mono_l k
 unfold fairwaylaw10_RecEdges.f
 repeat' first
  | (with_reducible exact ih0 _ _ _ _ _ _ _ _)
  | (with_reducible exact ih1 _ _ _ _ _ _ _ _ _ _ _ _ _ _)
  | (with_reducible exact ih2 _ _ _ _ _ _ _ _ _ _ _ _ _ _ _ _ _)
  | (with_reducible exact fairwaylaw10_wakes.mono _)
  | (with_reducible exact rec_Bytes.mono _ _ _ _ _ _ _)
  | (with_reducible exact rec_Take.mono _ _)
  | (with_reducible exact LeO.refl _)
  | (with_reducible exact LeO.none _)
  | (with_reducible refine LeO.ite ?_ ?_)
  | (with_reducible refine LeO.bind ?_ (fun _ => ?_))
  | exact ih0 _ _ _ _ _ _ _ _
  | exact ih1 _ _ _ _ _ _ _ _ _ _ _ _ _ _
  | exact ih2 _ _ _ _ _ _ _ _ _ _ _ _ _ _ _ _ _
  | exact fairwaylaw10_wakes.mono _
  | exact rec_Bytes.mono _ _ _ _ _ _ _
  | exact rec_Take.mono _ _
  | exact LeO.none _
  | refine LeO.ite ?_ ?_
  | refine LeO.bind ?_ (fun _ => ?_)
set_option maxHeartbeats 8000000 in
set_option maxRecDepth 100000 in
theorem fairwaylaw10_RecEdges.calls (k : Nat) (A0 : Option Addr) (c0 : Nat) (l0 : List (S38)) (r : Bool) (w : World) (hr0 : Kd.C k38 w A0 l0.length l0) (hc0 : l0.length ≤ c0) (h : fairwaylaw10_RecEdges.f k l0 = some r) :
 Calls Try.prog 3 #[.slice A0 l0.length c0] w fun e w' => e = .returned (.bool r) ∧ Below w.heap.size w w' := by
 have hu25 := Try.underlying25
 have HR0 := Aside0.mk hr0
 have HC0 := Aside0.mk hc0
 clear hr0 hc0
 have HB := Aside0.mk (Below.refl w.heap.size w)
 have H : (if 1024 ≤ 281474976710656 then (fairwaylaw10_RecEdges.l0 k l0 0 1099511627775 1099511627776 (strOfNums (List.replicate 1024 0)) (strOfNums (List.replicate 1024 0)) 2 false) else (none)) = some r := h
 clear h
 by_cases c2 : 1024 ≤ 281474976710656
 ·rw [if_pos c2] at H
  have c2b0 := eq_true c2
  have c2b1 : decide (1024 ≤ 281474976710656) = true := decide_eq_true c2
  clear c2
  obtain ⟨y187, hy187⟩ : ∃ y_ : List Int, y_ = (List.replicate 1024 0) := ⟨_, rfl⟩
  replace H : (fairwaylaw10_RecEdges.l0 k l0 0 1099511627775 1099511627776 (strOfNums y187) (strOfNums (List.replicate 1024 0)) 2 false) = some r := by first | (rw [hy187]; with_reducible exact H) | (have H2_ := (Option.bind_some _ _).symm.trans H; rw [hy187]; with_reducible exact H2_) | (have H2_ := (Option.bind_some _ _).symm.trans H; with_reducible exact H2_) | with_reducible exact H | (rw [hy187]; exact H) | exact H
  have Ny187 := Aside0.mk hy187
  clear hy187
  obtain ⟨y190, hy190⟩ : ∃ y_ : List Int, y_ = (List.replicate 1024 0) := ⟨_, rfl⟩
  replace H : (fairwaylaw10_RecEdges.l0 k l0 0 1099511627775 1099511627776 (strOfNums y187) (strOfNums y190) 2 false) = some r := by first | (rw [hy190]; with_reducible exact H) | (have H2_ := (Option.bind_some _ _).symm.trans H; rw [hy190]; with_reducible exact H2_) | (have H2_ := (Option.bind_some _ _).symm.trans H; with_reducible exact H2_) | with_reducible exact H | (rw [hy190]; exact H) | exact H
  have Ny190 := Aside0.mk hy190
  clear hy190
  have H' := Aside0.mk H
  clear H
  go_enter Try.func3, Try.ntmps3
  try go_wp2
  replace HB := Aside0.mk (below_drew1 HB.out)
  refine start_ (n := 7) (S := fun w' => True) (ds := []) #[O,O,O,O,O,O,O] (by kernel_rfl) rfl rfl trivial (fun hHeld => ?_)
  generalize w.drew = w3 at HB hHeld ⊢
  refine join_ (σ := Value × Value × Nat) 1 #[I,I,I,I,I,I,O] (fun s_ => [(12, s_.1), (13, .string (strOfNums y187)), (14, s_.2.1), (15, .string (strOfNums y190)), (3, .pointer (some ⟨s_.2.2, 0, none⟩)), (16, .agg #[.int .i64 1099511627775, .int .i64 1099511627776, .string (strOfNums y187), .string (strOfNums y190), .int .i64 2, .bool false])]) (fun s_ w' => (Kd.R (Kd.int .u8) 5 w' w.heap.size (fun k_ => some k_ ≠ (s_.2.1 : Value).ownBlock) s_.1 y187) ∧ (Kd.R (Kd.int .u8) 5 w' w.heap.size (fun k_ => some k_ ≠ (s_.1 : Value).ownBlock) s_.2.1 y190) ∧ (w'.heap[s_.2.2]? = some (.cells #[.int .i64 0, .int .i64 0, .string (⟨#[]⟩ : ByteArray), .string (⟨#[]⟩ : ByteArray), .int .i64 0, .bool false] 25 (0, 0))) ∧ (w.heap.size ≤ s_.2.2) ∧ (w.heap.size ≤ s_.2.2) ∧ (Below w.heap.size w w')) ?_ ?_
  rotate_left
  ·intro hJ0_1_2_3_5
   refine join_ (σ := Value × Value) 2 #[I,I,I,I,I,O,O] (fun s_ => [(12, s_.1), (13, .string (strOfNums y187)), (14, s_.2), (15, .string (strOfNums y190)), (16, .agg #[.int .i64 1099511627775, .int .i64 1099511627776, .string (strOfNums y187), .string (strOfNums y190), .int .i64 2, .bool false])]) (fun s_ w' => (Kd.R (Kd.int .u8) 5 w' w.heap.size (fun k_ => some k_ ≠ (s_.2 : Value).ownBlock) s_.1 y187) ∧ (Kd.R (Kd.int .u8) 5 w' w.heap.size (fun k_ => some k_ ≠ (s_.1 : Value).ownBlock) s_.2 y190) ∧ (Below w.heap.size w w')) ?_ ?_
   rotate_left
   ·intro hJ0_1_2_3
    refine join_ (σ := Value × Value × Nat) 3 #[I,I,I,O,O,I,O] (fun s_ => [(12, s_.1), (13, .string (strOfNums y187)), (14, s_.2.1), (3, .pointer (some ⟨s_.2.2, 0, none⟩))]) (fun s_ w' => (Kd.R (Kd.int .u8) 5 w' w.heap.size (fun k_ => some k_ ≠ (s_.2.1 : Value).ownBlock) s_.1 y187) ∧ (Kd.R (Kd.int .u8) 5 w' w.heap.size (fun k_ => some k_ ≠ (s_.1 : Value).ownBlock) s_.2.1 y190) ∧ (w'.heap[s_.2.2]? = some (.cells #[.int .i64 0, .int .i64 0, .string (⟨#[]⟩ : ByteArray), .string (⟨#[]⟩ : ByteArray), .int .i64 0, .bool false] 25 (0, 0))) ∧ (w.heap.size ≤ s_.2.2) ∧ (w.heap.size ≤ s_.2.2) ∧ (Below w.heap.size w w')) ?_ ?_
    rotate_left
    ·intro hJ0_1_2_5
     refine join_ (σ := Value × Value × Nat) 3 #[I,O,I,I,O,I,O] (fun s_ => [(12, s_.1), (14, s_.2.1), (15, .string (strOfNums y190)), (3, .pointer (some ⟨s_.2.2, 0, none⟩))]) (fun s_ w' => (Kd.R (Kd.int .u8) 5 w' w.heap.size (fun k_ => some k_ ≠ (s_.2.1 : Value).ownBlock) s_.1 y187) ∧ (Kd.R (Kd.int .u8) 5 w' w.heap.size (fun k_ => some k_ ≠ (s_.1 : Value).ownBlock) s_.2.1 y190) ∧ (w'.heap[s_.2.2]? = some (.cells #[.int .i64 0, .int .i64 0, .string (⟨#[]⟩ : ByteArray), .string (⟨#[]⟩ : ByteArray), .int .i64 0, .bool false] 25 (0, 0))) ∧ (w.heap.size ≤ s_.2.2) ∧ (w.heap.size ≤ s_.2.2) ∧ (Below w.heap.size w w')) ?_ ?_
     rotate_left
     ·intro hJ0_2_3_5
      refine join_ (σ := Value × Value) 4 #[I,I,I,O,O,O,O] (fun s_ => [(12, s_.1), (13, .string (strOfNums y187)), (14, s_.2)]) (fun s_ w' => (Kd.R (Kd.int .u8) 5 w' w.heap.size (fun k_ => some k_ ≠ (s_.2 : Value).ownBlock) s_.1 y187) ∧ (Kd.R (Kd.int .u8) 5 w' w.heap.size (fun k_ => some k_ ≠ (s_.1 : Value).ownBlock) s_.2 y190) ∧ (Below w.heap.size w w')) ?_ ?_
      rotate_left
      ·intro hJ0_1_2
       refine join_ (σ := Value × Nat) 4 #[I,I,O,O,O,I,O] (fun s_ => [(12, s_.1), (13, .string (strOfNums y187)), (3, .pointer (some ⟨s_.2, 0, none⟩))]) (fun s_ w' => (Kd.R (Kd.int .u8) 5 w' w.heap.size (fun _ => True) s_.1 y187) ∧ (w'.heap[s_.2]? = some (.cells #[.int .i64 0, .int .i64 0, .string (⟨#[]⟩ : ByteArray), .string (⟨#[]⟩ : ByteArray), .int .i64 0, .bool false] 25 (0, 0))) ∧ (w.heap.size ≤ s_.2) ∧ (w.heap.size ≤ s_.2) ∧ (Below w.heap.size w w')) ?_ ?_
       rotate_left
       ·intro hJ0_1_5
        refine join_ (σ := Value × Value) 4 #[I,O,I,I,O,O,O] (fun s_ => [(12, s_.1), (14, s_.2), (15, .string (strOfNums y190))]) (fun s_ w' => (Kd.R (Kd.int .u8) 5 w' w.heap.size (fun k_ => some k_ ≠ (s_.2 : Value).ownBlock) s_.1 y187) ∧ (Kd.R (Kd.int .u8) 5 w' w.heap.size (fun k_ => some k_ ≠ (s_.1 : Value).ownBlock) s_.2 y190) ∧ (Below w.heap.size w w')) ?_ ?_
        rotate_left
        ·intro hJ0_2_3
         refine join_ (σ := Value × Value × Nat) 4 #[I,O,I,O,O,I,O] (fun s_ => [(12, s_.1), (14, s_.2.1), (3, .pointer (some ⟨s_.2.2, 0, none⟩))]) (fun s_ w' => (Kd.R (Kd.int .u8) 5 w' w.heap.size (fun k_ => some k_ ≠ (s_.2.1 : Value).ownBlock) s_.1 y187) ∧ (Kd.R (Kd.int .u8) 5 w' w.heap.size (fun k_ => some k_ ≠ (s_.1 : Value).ownBlock) s_.2.1 y190) ∧ (w'.heap[s_.2.2]? = some (.cells #[.int .i64 0, .int .i64 0, .string (⟨#[]⟩ : ByteArray), .string (⟨#[]⟩ : ByteArray), .int .i64 0, .bool false] 25 (0, 0))) ∧ (w.heap.size ≤ s_.2.2) ∧ (w.heap.size ≤ s_.2.2) ∧ (Below w.heap.size w w')) ?_ ?_
         rotate_left
         ·intro hJ0_2_5
          refine join_ (σ := Value × Nat) 4 #[O,O,I,I,O,I,O] (fun s_ => [(14, s_.1), (15, .string (strOfNums y190)), (3, .pointer (some ⟨s_.2, 0, none⟩))]) (fun s_ w' => (Kd.R (Kd.int .u8) 5 w' w.heap.size (fun _ => True) s_.1 y190) ∧ (w'.heap[s_.2]? = some (.cells #[.int .i64 0, .int .i64 0, .string (⟨#[]⟩ : ByteArray), .string (⟨#[]⟩ : ByteArray), .int .i64 0, .bool false] 25 (0, 0))) ∧ (w.heap.size ≤ s_.2) ∧ (w.heap.size ≤ s_.2) ∧ (Below w.heap.size w w')) ?_ ?_
          rotate_left
          ·intro hJ2_3_5
           refine join_ (σ := Value) 5 #[I,I,O,O,O,O,O] (fun s_ => [(12, s_), (13, .string (strOfNums y187))]) (fun s_ w' => (Kd.R (Kd.int .u8) 5 w' w.heap.size (fun _ => True) s_ y187) ∧ (Below w.heap.size w w')) ?_ ?_
           rotate_left
           ·intro hJ0_1
            refine join_ (σ := Value × Value) 5 #[I,O,I,O,O,O,O] (fun s_ => [(12, s_.1), (14, s_.2)]) (fun s_ w' => (Kd.R (Kd.int .u8) 5 w' w.heap.size (fun k_ => some k_ ≠ (s_.2 : Value).ownBlock) s_.1 y187) ∧ (Kd.R (Kd.int .u8) 5 w' w.heap.size (fun k_ => some k_ ≠ (s_.1 : Value).ownBlock) s_.2 y190) ∧ (Below w.heap.size w w')) ?_ ?_
            rotate_left
            ·intro hJ0_2
             refine join_ (σ := Value × Nat) 5 #[I,O,O,O,O,I,O] (fun s_ => [(12, s_.1), (3, .pointer (some ⟨s_.2, 0, none⟩))]) (fun s_ w' => (Kd.R (Kd.int .u8) 5 w' w.heap.size (fun _ => True) s_.1 y187) ∧ (w'.heap[s_.2]? = some (.cells #[.int .i64 0, .int .i64 0, .string (⟨#[]⟩ : ByteArray), .string (⟨#[]⟩ : ByteArray), .int .i64 0, .bool false] 25 (0, 0))) ∧ (w.heap.size ≤ s_.2) ∧ (w.heap.size ≤ s_.2) ∧ (Below w.heap.size w w')) ?_ ?_
             rotate_left
             ·intro hJ0_5
              refine join_ (σ := Value) 5 #[O,O,I,I,O,O,O] (fun s_ => [(14, s_), (15, .string (strOfNums y190))]) (fun s_ w' => (Kd.R (Kd.int .u8) 5 w' w.heap.size (fun _ => True) s_ y190) ∧ (Below w.heap.size w w')) ?_ ?_
              rotate_left
              ·intro hJ2_3
               refine join_ (σ := Value × Nat) 5 #[O,O,I,O,O,I,O] (fun s_ => [(14, s_.1), (3, .pointer (some ⟨s_.2, 0, none⟩))]) (fun s_ w' => (Kd.R (Kd.int .u8) 5 w' w.heap.size (fun _ => True) s_.1 y190) ∧ (w'.heap[s_.2]? = some (.cells #[.int .i64 0, .int .i64 0, .string (⟨#[]⟩ : ByteArray), .string (⟨#[]⟩ : ByteArray), .int .i64 0, .bool false] 25 (0, 0))) ∧ (w.heap.size ≤ s_.2) ∧ (w.heap.size ≤ s_.2) ∧ (Below w.heap.size w w')) ?_ ?_
               rotate_left
               ·intro hJ2_5
                refine join_ (σ := Value) 6 #[I,O,O,O,O,O,O] (fun s_ => [(12, s_)]) (fun s_ w' => (Kd.R (Kd.int .u8) 5 w' w.heap.size (fun _ => True) s_ y187) ∧ (Below w.heap.size w w')) ?_ ?_
                rotate_left
                ·intro hJ0
                 refine join_ (σ := Value) 6 #[O,O,I,O,O,O,O] (fun s_ => [(14, s_)]) (fun s_ w' => (Kd.R (Kd.int .u8) 5 w' w.heap.size (fun _ => True) s_ y190) ∧ (Below w.heap.size w w')) ?_ ?_
                 rotate_left
                 ·intro hJ2
                  refine join_ (σ := Nat) 6 #[O,O,O,O,O,I,O] (fun s_ => [(3, .pointer (some ⟨s_, 0, none⟩))]) (fun s_ w' => (w'.heap[s_]? = some (.cells #[.int .i64 0, .int .i64 0, .string (⟨#[]⟩ : ByteArray), .string (⟨#[]⟩ : ByteArray), .int .i64 0, .bool false] 25 (0, 0))) ∧ (w.heap.size ≤ s_) ∧ (w.heap.size ≤ s_) ∧ (Below w.heap.size w w')) ?_ ?_
                  rotate_left
                  ·intro hJ5
                   refine three_ (i := 0) (j := 2) (k := 5) (Ni := some 12) (Nj := some 14) (Nk := some 3) #[I,O,O,O,O,O,O] #[O,O,I,O,O,O,O] #[O,O,O,O,O,I,O] rfl rfl rfl rfl rfl rfl (by kernel_rfl) (by decide) (by decide) (by decide) (fun K hK => ?_) (fun K hK => ?_) (fun K hK => ?_)
                   ·skip
                    refine Kd.R_make_step (Kd.int .u8) _ 5 (by rfl) (N := 12) rfl 23 _ _ rfl 1024 rfl rfl Try.underlying23 (.int .u8 0) 1 info5 rfl (by decide) (by omega) 0 (ok := fun _ => True) (okp := fun _ => True) rfl (fun _ hk => hk) trivial (by omega) (by omega) (Below.refl _ _) (Nat.le_refl _) ?_
                    intro v188 w4 ho5 hb hg_ hnew_
                    clear hg_ hnew_
                    (first | rw [← Ny187.out] at ho5 | (simp only [Int.reduceToNat] at ho5; rw [← Ny187.out] at ho5))
                    have HO189 := Aside0.mk (Kd.R_lower ho5 (below_size bo))
                    replace HB := Aside0.mk (below_step bo hb)
                    clear hb ho5
                    refine hK.out _ _ trivial (fun hHeld => ?_)
                    clear hK K
                    refine norm_ (a' := ?_) ?_ ?_
                    rotate_left
                    ·show Act.put _ (some 12) _ = _
                     simp only [Act.put, List.setIfInBounds_toArray, List.set_cons_zero, List.set_cons_succ, i64_w, i32_w]
                     rfl
                    exact norm_ (by first | (simp only [putAll, Act.put, List.setIfInBounds_toArray, List.set_cons_zero, List.set_cons_succ]; done) | (simp only [putAll, Act.put, List.setIfInBounds_toArray, List.set_cons_zero, List.set_cons_succ]; rfl)) (hJ0 (v188) _ ⟨(rk HO189.out), bo⟩)
                   ·skip
                    refine Kd.R_make_step (Kd.int .u8) _ 5 (by rfl) (N := 14) rfl 23 _ _ rfl 1024 rfl rfl Try.underlying23 (.int .u8 0) 1 info5 rfl (by decide) (by omega) 0 (ok := fun _ => True) (okp := fun _ => True) rfl (fun _ hk => hk) trivial (by omega) (by omega) (Below.refl _ _) (Nat.le_refl _) ?_
                    intro v191 w4 ho5 hb hg_ hnew_
                    clear hg_ hnew_
                    (first | rw [← Ny190.out] at ho5 | (simp only [Int.reduceToNat] at ho5; rw [← Ny190.out] at ho5))
                    have HO192 := Aside0.mk (Kd.R_lower ho5 (below_size bo))
                    replace HB := Aside0.mk (below_step bo hb)
                    clear hb ho5
                    refine hK.out _ _ trivial (fun hHeld => ?_)
                    clear hK K
                    refine norm_ (a' := ?_) ?_ ?_
                    rotate_left
                    ·show Act.put _ (some 14) _ = _
                     simp only [Act.put, List.setIfInBounds_toArray, List.set_cons_zero, List.set_cons_succ, i64_w, i32_w]
                     rfl
                    exact norm_ (by first | (simp only [putAll, Act.put, List.setIfInBounds_toArray, List.set_cons_zero, List.set_cons_succ]; done) | (simp only [putAll, Act.put, List.setIfInBounds_toArray, List.set_cons_zero, List.set_cons_succ]; rfl)) (hJ2 (v191) _ ⟨(rk HO192.out), bo⟩)
                   ·skip
                    refine box_step ?hg (N := 3) ?hd (cs := #[.int .i64 0, .int .i64 0, .string (⟨#[]⟩ : ByteArray), .string (⟨#[]⟩ : ByteArray), .int .i64 0, .bool false]) (t := 25) ?hr ?_; (case hd => rfl); (case hg => rfl); (case hr => first | (go_simp; done) | (go_simp; rfl))
                    intro gb193 hg w4 hbox hb
                    have BK193 := Aside0.mk (hbox)
                    have GW193 := Aside0.mk ((by rw [hg]; exact (below_size bo) : w.heap.size ≤ gb193))
                    have GE193 := Aside0.mk ((by rw [hg]; exact (below_size bo) : w.heap.size ≤ gb193))
                    replace HB := Aside0.mk (below_step bo hb)
                    clear hb hbox hg
                    refine hK.out _ _ trivial (fun hHeld => ?_)
                    clear hK K
                    refine norm_ (a' := ?_) ?_ ?_
                    rotate_left
                    ·show Act.put _ (some 3) _ = _
                     simp only [Act.put, List.setIfInBounds_toArray, List.set_cons_zero, List.set_cons_succ, i64_w, i32_w]
                     rfl
                    exact norm_ (by first | (simp only [putAll, Act.put, List.setIfInBounds_toArray, List.set_cons_zero, List.set_cons_succ]; done) | (simp only [putAll, Act.put, List.setIfInBounds_toArray, List.set_cons_zero, List.set_cons_succ]; rfl)) (hJ5 (gb193) _ ⟨(bk BK193.out), GW193.out, GE193.out, bo⟩)
                  ·skip
                   rintro gb193 w5 ⟨h0_, h1_, h2_, h3_⟩
                   have n0_ : Aside0 (w5.heap[gb193]? = some (.cells #[.int .i64 0, .int .i64 0, .string (⟨#[]⟩ : ByteArray), .string (⟨#[]⟩ : ByteArray), .int .i64 0, .bool false] 25 (0, 0))) := ⟨h0_⟩
                   have n1_ : Aside0 (w.heap.size ≤ gb193) := ⟨h1_⟩
                   have n2_ : Aside0 (w.heap.size ≤ gb193) := ⟨h2_⟩
                   have n3_ : Aside0 (Below w.heap.size w w5) := ⟨h3_⟩
                   clear HB
                   clear h0_ h1_ h2_ h3_
                   have BK193 := n0_
                   have GW193 := n1_
                   have GE193 := n2_
                   have HB := n3_
                   clear n0_ n1_ n2_ n3_
                   have hHeld := trivial
                   refine norm_ (a' := ?_) ?_ ?_
                   rotate_left
                   ·simp only [putAll, Act.put, List.setIfInBounds_toArray, List.set_cons_zero, List.set_cons_succ]
                    rfl
                   refine two_ (i := 0) (j := 2) (Ni := some 12) (Nj := some 14) #[I,O,O,O,O,I,O] #[O,O,I,O,O,I,O] rfl rfl rfl rfl (by kernel_rfl) (by decide) (by decide) (fun K hK => ?_) (fun K hK => ?_)
                   ·skip
                    refine Kd.R_make_step (Kd.int .u8) _ 5 (by rfl) (N := 12) rfl 23 _ _ rfl 1024 rfl rfl Try.underlying23 (.int .u8 0) 1 info5 rfl (by decide) (by omega) 0 (ok := fun _ => True) (okp := fun _ => True) rfl (fun _ hk => hk) trivial (by omega) (by omega) (Below.refl _ _) (Nat.le_refl _) ?_
                    intro v188 w6 ho7 hb hg_ hnew_
                    clear hg_ hnew_
                    (first | rw [← Ny187.out] at ho7 | (simp only [Int.reduceToNat] at ho7; rw [← Ny187.out] at ho7))
                    have HO189 := Aside0.mk (Kd.R_lower ho7 (below_size bo))
                    replace BK193 := Aside0.mk (blk_below (g := gb193) (o := .cells #[.int .i64 0, .int .i64 0, .string (⟨#[]⟩ : ByteArray), .string (⟨#[]⟩ : ByteArray), .int .i64 0, .bool false] 25 (0, 0)) (bk BK193.out) hb)
                    replace HB := Aside0.mk (below_step bo hb)
                    clear hb ho7
                    refine hK.out _ _ trivial (fun hHeld => ?_)
                    clear hK K
                    refine norm_ (a' := ?_) ?_ ?_
                    rotate_left
                    ·show Act.put _ (some 12) _ = _
                     simp only [Act.put, List.setIfInBounds_toArray, List.set_cons_zero, List.set_cons_succ, i64_w, i32_w]
                     rfl
                    exact norm_ (by first | (simp only [putAll, Act.put, List.setIfInBounds_toArray, List.set_cons_zero, List.set_cons_succ]; done) | (simp only [putAll, Act.put, List.setIfInBounds_toArray, List.set_cons_zero, List.set_cons_succ]; rfl)) (hJ0_5 (v188, gb193) _ ⟨(rk HO189.out), (bk BK193.out), GW193.out, GE193.out, bo⟩)
                   ·skip
                    refine Kd.R_make_step (Kd.int .u8) _ 5 (by rfl) (N := 14) rfl 23 _ _ rfl 1024 rfl rfl Try.underlying23 (.int .u8 0) 1 info5 rfl (by decide) (by omega) 0 (ok := fun _ => True) (okp := fun _ => True) rfl (fun _ hk => hk) trivial (by omega) (by omega) (Below.refl _ _) (Nat.le_refl _) ?_
                    intro v191 w6 ho7 hb hg_ hnew_
                    clear hg_ hnew_
                    (first | rw [← Ny190.out] at ho7 | (simp only [Int.reduceToNat] at ho7; rw [← Ny190.out] at ho7))
                    have HO192 := Aside0.mk (Kd.R_lower ho7 (below_size bo))
                    replace BK193 := Aside0.mk (blk_below (g := gb193) (o := .cells #[.int .i64 0, .int .i64 0, .string (⟨#[]⟩ : ByteArray), .string (⟨#[]⟩ : ByteArray), .int .i64 0, .bool false] 25 (0, 0)) (bk BK193.out) hb)
                    replace HB := Aside0.mk (below_step bo hb)
                    clear hb ho7
                    refine hK.out _ _ trivial (fun hHeld => ?_)
                    clear hK K
                    refine norm_ (a' := ?_) ?_ ?_
                    rotate_left
                    ·show Act.put _ (some 14) _ = _
                     simp only [Act.put, List.setIfInBounds_toArray, List.set_cons_zero, List.set_cons_succ, i64_w, i32_w]
                     rfl
                    exact norm_ (by first | (simp only [putAll, Act.put, List.setIfInBounds_toArray, List.set_cons_zero, List.set_cons_succ]; done) | (simp only [putAll, Act.put, List.setIfInBounds_toArray, List.set_cons_zero, List.set_cons_succ]; rfl)) (hJ2_5 (v191, gb193) _ ⟨(rk HO192.out), (bk BK193.out), GW193.out, GE193.out, bo⟩)
                 ·skip
                  rintro v191 w6 ⟨h0_, h1_⟩
                  have n0_ : Aside0 (Kd.R (Kd.int .u8) 5 w6 w.heap.size (fun _ => True) v191 y190) := ⟨h0_⟩
                  have n1_ : Aside0 (Below w.heap.size w w6) := ⟨h1_⟩
                  clear HB
                  clear h0_ h1_
                  have HO192 := n0_
                  have HB := n1_
                  clear n0_ n1_
                  have hHeld := trivial
                  refine norm_ (a' := ?_) ?_ ?_
                  rotate_left
                  ·simp only [putAll, Act.put, List.setIfInBounds_toArray, List.set_cons_zero, List.set_cons_succ]
                   rfl
                  refine three_ (i := 0) (j := 3) (k := 5) (Ni := some 12) (Nj := some 15) (Nk := some 3) #[I,O,I,O,O,O,O] #[O,O,I,I,O,O,O] #[O,O,I,O,O,I,O] rfl rfl rfl rfl rfl rfl (by kernel_rfl) (by decide) (by decide) (by decide) (fun K hK => ?_) (fun K hK => ?_) (fun K hK => ?_)
                  ·skip
                   refine Kd.R_make_step (Kd.int .u8) _ 5 (by rfl) (N := 12) rfl 23 _ _ rfl 1024 rfl rfl Try.underlying23 (.int .u8 0) 1 info5 rfl (by decide) (by omega) 0 (ok := fun _ => True) (okp := fun _ => True) rfl (fun _ hk => hk) trivial (by omega) (by omega) (Below.refl _ _) (Nat.le_refl _) ?_
                   intro v188 w7 ho8 hb hg_ hnew_
                   clear hg_ hnew_
                   (first | rw [← Ny187.out] at ho8 | (simp only [Int.reduceToNat] at ho8; rw [← Ny187.out] at ho8))
                   have HO189 := Aside0.mk (Kd.R_lower (Kd.R_new' ho8 (Kd.R_lt (rk HO192.out))) (below_size bo))
                   replace HO192 := Aside0.mk (Kd.R_elder' (rk HO192.out) (Kd.R_base ho8) hb)
                   replace HB := Aside0.mk (below_step bo hb)
                   clear hb ho8
                   refine hK.out _ _ trivial (fun hHeld => ?_)
                   clear hK K
                   refine norm_ (a' := ?_) ?_ ?_
                   rotate_left
                   ·show Act.put _ (some 12) _ = _
                    simp only [Act.put, List.setIfInBounds_toArray, List.set_cons_zero, List.set_cons_succ, i64_w, i32_w]
                    rfl
                   exact norm_ (by first | (simp only [putAll, Act.put, List.setIfInBounds_toArray, List.set_cons_zero, List.set_cons_succ]; done) | (simp only [putAll, Act.put, List.setIfInBounds_toArray, List.set_cons_zero, List.set_cons_succ]; rfl)) (hJ0_2 (v188, v191) _ ⟨(by (with_reducible repeat (first | apply Kd.R_alloc | apply Kd.R_drewN | apply Kd.R_drew)); exact Kd.R_mono HO189.out (fun _ hk => hk.2)), (by (with_reducible repeat (first | apply Kd.R_alloc | apply Kd.R_drewN | apply Kd.R_drew)); exact Kd.R_mono HO192.out (fun _ hk => hk.2)), bo⟩)
                  ·skip
                   have hcv7 := own_string (P := Try.prog) Try.underlying23 Try.underlying5 Try.underlying9 (Kd.own_of_R HO192.out)
                   refine value_ (w1 := ?_) (v := ?_) (by rfl) rfl ?_ ?_
                   rotate_left 2
                   ·go_simp
                    constructor
                    ·rfl
                    ·rfl
                   clear hcv7
                   refine hK.out _ _ trivial (fun hHeld => ?_)
                   clear hK K
                   refine norm_ (a' := ?_) ?_ ?_
                   rotate_left
                   ·show Act.put _ (some 15) _ = _
                    simp only [Act.put, List.setIfInBounds_toArray, List.set_cons_zero, List.set_cons_succ, i64_w, i32_w]
                    rfl
                   exact norm_ (by first | (simp only [putAll, Act.put, List.setIfInBounds_toArray, List.set_cons_zero, List.set_cons_succ]; done) | (simp only [putAll, Act.put, List.setIfInBounds_toArray, List.set_cons_zero, List.set_cons_succ]; rfl)) (hJ2_3 (v191) _ ⟨(rk HO192.out), bo⟩)
                  ·skip
                   refine box_step ?hg (N := 3) ?hd (cs := #[.int .i64 0, .int .i64 0, .string (⟨#[]⟩ : ByteArray), .string (⟨#[]⟩ : ByteArray), .int .i64 0, .bool false]) (t := 25) ?hr ?_; (case hd => rfl); (case hg => rfl); (case hr => first | (go_simp; done) | (go_simp; rfl))
                   intro gb193 hg w7 hbox hb
                   replace HO192 := Aside0.mk (Kd.R_below (rk HO192.out) hb)
                   have BK193 := Aside0.mk (hbox)
                   have GW193 := Aside0.mk ((by rw [hg]; exact (below_size bo) : w.heap.size ≤ gb193))
                   have GE193 := Aside0.mk ((by rw [hg]; exact (below_size bo) : w.heap.size ≤ gb193))
                   replace HB := Aside0.mk (below_step bo hb)
                   clear hb hbox hg
                   refine hK.out _ _ trivial (fun hHeld => ?_)
                   clear hK K
                   refine norm_ (a' := ?_) ?_ ?_
                   rotate_left
                   ·show Act.put _ (some 3) _ = _
                    simp only [Act.put, List.setIfInBounds_toArray, List.set_cons_zero, List.set_cons_succ, i64_w, i32_w]
                    rfl
                   exact norm_ (by first | (simp only [putAll, Act.put, List.setIfInBounds_toArray, List.set_cons_zero, List.set_cons_succ]; done) | (simp only [putAll, Act.put, List.setIfInBounds_toArray, List.set_cons_zero, List.set_cons_succ]; rfl)) (hJ2_5 (v191, gb193) _ ⟨(rk HO192.out), (bk BK193.out), GW193.out, GE193.out, bo⟩)
                ·skip
                 rintro v188 w6 ⟨h0_, h1_⟩
                 have n0_ : Aside0 (Kd.R (Kd.int .u8) 5 w6 w.heap.size (fun _ => True) v188 y187) := ⟨h0_⟩
                 have n1_ : Aside0 (Below w.heap.size w w6) := ⟨h1_⟩
                 clear HB
                 clear h0_ h1_
                 have HO189 := n0_
                 have HB := n1_
                 clear n0_ n1_
                 have hHeld := trivial
                 refine norm_ (a' := ?_) ?_ ?_
                 rotate_left
                 ·simp only [putAll, Act.put, List.setIfInBounds_toArray, List.set_cons_zero, List.set_cons_succ]
                  rfl
                 refine three_ (i := 1) (j := 2) (k := 5) (Ni := some 13) (Nj := some 14) (Nk := some 3) #[I,I,O,O,O,O,O] #[I,O,I,O,O,O,O] #[I,O,O,O,O,I,O] rfl rfl rfl rfl rfl rfl (by kernel_rfl) (by decide) (by decide) (by decide) (fun K hK => ?_) (fun K hK => ?_) (fun K hK => ?_)
                 ·skip
                  have hcv7 := own_string (P := Try.prog) Try.underlying23 Try.underlying5 Try.underlying9 (Kd.own_of_R HO189.out)
                  refine value_ (w1 := ?_) (v := ?_) (by rfl) rfl ?_ ?_
                  rotate_left 2
                  ·go_simp
                   constructor
                   ·rfl
                   ·rfl
                  clear hcv7
                  refine hK.out _ _ trivial (fun hHeld => ?_)
                  clear hK K
                  refine norm_ (a' := ?_) ?_ ?_
                  rotate_left
                  ·show Act.put _ (some 13) _ = _
                   simp only [Act.put, List.setIfInBounds_toArray, List.set_cons_zero, List.set_cons_succ, i64_w, i32_w]
                   rfl
                  exact norm_ (by first | (simp only [putAll, Act.put, List.setIfInBounds_toArray, List.set_cons_zero, List.set_cons_succ]; done) | (simp only [putAll, Act.put, List.setIfInBounds_toArray, List.set_cons_zero, List.set_cons_succ]; rfl)) (hJ0_1 (v188) _ ⟨(rk HO189.out), bo⟩)
                 ·skip
                  refine Kd.R_make_step (Kd.int .u8) _ 5 (by rfl) (N := 14) rfl 23 _ _ rfl 1024 rfl rfl Try.underlying23 (.int .u8 0) 1 info5 rfl (by decide) (by omega) 0 (ok := fun _ => True) (okp := fun _ => True) rfl (fun _ hk => hk) trivial (by omega) (by omega) (Below.refl _ _) (Nat.le_refl _) ?_
                  intro v191 w7 ho8 hb hg_ hnew_
                  clear hg_ hnew_
                  (first | rw [← Ny190.out] at ho8 | (simp only [Int.reduceToNat] at ho8; rw [← Ny190.out] at ho8))
                  have HO192 := Aside0.mk (Kd.R_lower (Kd.R_new' ho8 (Kd.R_lt (rk HO189.out))) (below_size bo))
                  replace HO189 := Aside0.mk (Kd.R_elder' (rk HO189.out) (Kd.R_base ho8) hb)
                  replace HB := Aside0.mk (below_step bo hb)
                  clear hb ho8
                  refine hK.out _ _ trivial (fun hHeld => ?_)
                  clear hK K
                  refine norm_ (a' := ?_) ?_ ?_
                  rotate_left
                  ·show Act.put _ (some 14) _ = _
                   simp only [Act.put, List.setIfInBounds_toArray, List.set_cons_zero, List.set_cons_succ, i64_w, i32_w]
                   rfl
                  exact norm_ (by first | (simp only [putAll, Act.put, List.setIfInBounds_toArray, List.set_cons_zero, List.set_cons_succ]; done) | (simp only [putAll, Act.put, List.setIfInBounds_toArray, List.set_cons_zero, List.set_cons_succ]; rfl)) (hJ0_2 (v188, v191) _ ⟨(by (with_reducible repeat (first | apply Kd.R_alloc | apply Kd.R_drewN | apply Kd.R_drew)); exact Kd.R_mono HO189.out (fun _ hk => hk.2)), (by (with_reducible repeat (first | apply Kd.R_alloc | apply Kd.R_drewN | apply Kd.R_drew)); exact Kd.R_mono HO192.out (fun _ hk => hk.2)), bo⟩)
                 ·skip
                  refine box_step ?hg (N := 3) ?hd (cs := #[.int .i64 0, .int .i64 0, .string (⟨#[]⟩ : ByteArray), .string (⟨#[]⟩ : ByteArray), .int .i64 0, .bool false]) (t := 25) ?hr ?_; (case hd => rfl); (case hg => rfl); (case hr => first | (go_simp; done) | (go_simp; rfl))
                  intro gb193 hg w7 hbox hb
                  replace HO189 := Aside0.mk (Kd.R_below (rk HO189.out) hb)
                  have BK193 := Aside0.mk (hbox)
                  have GW193 := Aside0.mk ((by rw [hg]; exact (below_size bo) : w.heap.size ≤ gb193))
                  have GE193 := Aside0.mk ((by rw [hg]; exact (below_size bo) : w.heap.size ≤ gb193))
                  replace HB := Aside0.mk (below_step bo hb)
                  clear hb hbox hg
                  refine hK.out _ _ trivial (fun hHeld => ?_)
                  clear hK K
                  refine norm_ (a' := ?_) ?_ ?_
                  rotate_left
                  ·show Act.put _ (some 3) _ = _
                   simp only [Act.put, List.setIfInBounds_toArray, List.set_cons_zero, List.set_cons_succ, i64_w, i32_w]
                   rfl
                  exact norm_ (by first | (simp only [putAll, Act.put, List.setIfInBounds_toArray, List.set_cons_zero, List.set_cons_succ]; done) | (simp only [putAll, Act.put, List.setIfInBounds_toArray, List.set_cons_zero, List.set_cons_succ]; rfl)) (hJ0_5 (v188, gb193) _ ⟨(rk HO189.out), (bk BK193.out), GW193.out, GE193.out, bo⟩)
               ·skip
                rintro ⟨v191, gb193⟩ w7 ⟨h0_, h1_, h2_, h3_, h4_⟩
                have n0_ : Aside0 (Kd.R (Kd.int .u8) 5 w7 w.heap.size (fun _ => True) v191 y190) := ⟨h0_⟩
                have n1_ : Aside0 (w7.heap[gb193]? = some (.cells #[.int .i64 0, .int .i64 0, .string (⟨#[]⟩ : ByteArray), .string (⟨#[]⟩ : ByteArray), .int .i64 0, .bool false] 25 (0, 0))) := ⟨h1_⟩
                have n2_ : Aside0 (w.heap.size ≤ gb193) := ⟨h2_⟩
                have n3_ : Aside0 (w.heap.size ≤ gb193) := ⟨h3_⟩
                have n4_ : Aside0 (Below w.heap.size w w7) := ⟨h4_⟩
                clear HB
                clear h0_ h1_ h2_ h3_ h4_
                have HO192 := n0_
                have BK193 := n1_
                have GW193 := n2_
                have GE193 := n3_
                have HB := n4_
                clear n0_ n1_ n2_ n3_ n4_
                have hHeld := trivial
                refine norm_ (a' := ?_) ?_ ?_
                rotate_left
                ·simp only [putAll, Act.put, List.setIfInBounds_toArray, List.set_cons_zero, List.set_cons_succ]
                 rfl
                refine two_ (i := 0) (j := 3) (Ni := some 12) (Nj := some 15) #[I,O,I,O,O,I,O] #[O,O,I,I,O,I,O] rfl rfl rfl rfl (by kernel_rfl) (by decide) (by decide) (fun K hK => ?_) (fun K hK => ?_)
                ·skip
                 refine Kd.R_make_step (Kd.int .u8) _ 5 (by rfl) (N := 12) rfl 23 _ _ rfl 1024 rfl rfl Try.underlying23 (.int .u8 0) 1 info5 rfl (by decide) (by omega) 0 (ok := fun _ => True) (okp := fun _ => True) rfl (fun _ hk => hk) trivial (by omega) (by omega) (Below.refl _ _) (Nat.le_refl _) ?_
                 intro v188 w8 ho9 hb hg_ hnew_
                 clear hg_ hnew_
                 (first | rw [← Ny187.out] at ho9 | (simp only [Int.reduceToNat] at ho9; rw [← Ny187.out] at ho9))
                 have HO189 := Aside0.mk (Kd.R_lower (Kd.R_new' ho9 (Kd.R_lt (rk HO192.out))) (below_size bo))
                 replace HO192 := Aside0.mk (Kd.R_elder' (rk HO192.out) (Kd.R_base ho9) hb)
                 replace BK193 := Aside0.mk (blk_below (g := gb193) (o := .cells #[.int .i64 0, .int .i64 0, .string (⟨#[]⟩ : ByteArray), .string (⟨#[]⟩ : ByteArray), .int .i64 0, .bool false] 25 (0, 0)) (bk BK193.out) hb)
                 replace HB := Aside0.mk (below_step bo hb)
                 clear hb ho9
                 refine hK.out _ _ trivial (fun hHeld => ?_)
                 clear hK K
                 refine norm_ (a' := ?_) ?_ ?_
                 rotate_left
                 ·show Act.put _ (some 12) _ = _
                  simp only [Act.put, List.setIfInBounds_toArray, List.set_cons_zero, List.set_cons_succ, i64_w, i32_w]
                  rfl
                 exact norm_ (by first | (simp only [putAll, Act.put, List.setIfInBounds_toArray, List.set_cons_zero, List.set_cons_succ]; done) | (simp only [putAll, Act.put, List.setIfInBounds_toArray, List.set_cons_zero, List.set_cons_succ]; rfl)) (hJ0_2_5 (v188, v191, gb193) _ ⟨(by (with_reducible repeat (first | apply Kd.R_alloc | apply Kd.R_drewN | apply Kd.R_drew)); exact Kd.R_mono HO189.out (fun _ hk => hk.2)), (by (with_reducible repeat (first | apply Kd.R_alloc | apply Kd.R_drewN | apply Kd.R_drew)); exact Kd.R_mono HO192.out (fun _ hk => hk.2)), (bk BK193.out), GW193.out, GE193.out, bo⟩)
                ·skip
                 have hcv8 := own_string (P := Try.prog) Try.underlying23 Try.underlying5 Try.underlying9 (Kd.own_of_R HO192.out)
                 refine value_ (w1 := ?_) (v := ?_) (by rfl) rfl ?_ ?_
                 rotate_left 2
                 ·go_simp
                  constructor
                  ·rfl
                  ·rfl
                 clear hcv8
                 refine hK.out _ _ trivial (fun hHeld => ?_)
                 clear hK K
                 refine norm_ (a' := ?_) ?_ ?_
                 rotate_left
                 ·show Act.put _ (some 15) _ = _
                  simp only [Act.put, List.setIfInBounds_toArray, List.set_cons_zero, List.set_cons_succ, i64_w, i32_w]
                  rfl
                 exact norm_ (by first | (simp only [putAll, Act.put, List.setIfInBounds_toArray, List.set_cons_zero, List.set_cons_succ]; done) | (simp only [putAll, Act.put, List.setIfInBounds_toArray, List.set_cons_zero, List.set_cons_succ]; rfl)) (hJ2_3_5 (v191, gb193) _ ⟨(rk HO192.out), (bk BK193.out), GW193.out, GE193.out, bo⟩)
              ·skip
               rintro v191 w7 ⟨h0_, h1_⟩
               have n0_ : Aside0 (Kd.R (Kd.int .u8) 5 w7 w.heap.size (fun _ => True) v191 y190) := ⟨h0_⟩
               have n1_ : Aside0 (Below w.heap.size w w7) := ⟨h1_⟩
               clear HB
               clear h0_ h1_
               have HO192 := n0_
               have HB := n1_
               clear n0_ n1_
               have hHeld := trivial
               refine norm_ (a' := ?_) ?_ ?_
               rotate_left
               ·simp only [putAll, Act.put, List.setIfInBounds_toArray, List.set_cons_zero, List.set_cons_succ]
                rfl
               refine two_ (i := 0) (j := 5) (Ni := some 12) (Nj := some 3) #[I,O,I,I,O,O,O] #[O,O,I,I,O,I,O] rfl rfl rfl rfl (by kernel_rfl) (by decide) (by decide) (fun K hK => ?_) (fun K hK => ?_)
               ·skip
                refine Kd.R_make_step (Kd.int .u8) _ 5 (by rfl) (N := 12) rfl 23 _ _ rfl 1024 rfl rfl Try.underlying23 (.int .u8 0) 1 info5 rfl (by decide) (by omega) 0 (ok := fun _ => True) (okp := fun _ => True) rfl (fun _ hk => hk) trivial (by omega) (by omega) (Below.refl _ _) (Nat.le_refl _) ?_
                intro v188 w8 ho9 hb hg_ hnew_
                clear hg_ hnew_
                (first | rw [← Ny187.out] at ho9 | (simp only [Int.reduceToNat] at ho9; rw [← Ny187.out] at ho9))
                have HO189 := Aside0.mk (Kd.R_lower (Kd.R_new' ho9 (Kd.R_lt (rk HO192.out))) (below_size bo))
                replace HO192 := Aside0.mk (Kd.R_elder' (rk HO192.out) (Kd.R_base ho9) hb)
                replace HB := Aside0.mk (below_step bo hb)
                clear hb ho9
                refine hK.out _ _ trivial (fun hHeld => ?_)
                clear hK K
                refine norm_ (a' := ?_) ?_ ?_
                rotate_left
                ·show Act.put _ (some 12) _ = _
                 simp only [Act.put, List.setIfInBounds_toArray, List.set_cons_zero, List.set_cons_succ, i64_w, i32_w]
                 rfl
                exact norm_ (by first | (simp only [putAll, Act.put, List.setIfInBounds_toArray, List.set_cons_zero, List.set_cons_succ]; done) | (simp only [putAll, Act.put, List.setIfInBounds_toArray, List.set_cons_zero, List.set_cons_succ]; rfl)) (hJ0_2_3 (v188, v191) _ ⟨(by (with_reducible repeat (first | apply Kd.R_alloc | apply Kd.R_drewN | apply Kd.R_drew)); exact Kd.R_mono HO189.out (fun _ hk => hk.2)), (by (with_reducible repeat (first | apply Kd.R_alloc | apply Kd.R_drewN | apply Kd.R_drew)); exact Kd.R_mono HO192.out (fun _ hk => hk.2)), bo⟩)
               ·skip
                refine box_step ?hg (N := 3) ?hd (cs := #[.int .i64 0, .int .i64 0, .string (⟨#[]⟩ : ByteArray), .string (⟨#[]⟩ : ByteArray), .int .i64 0, .bool false]) (t := 25) ?hr ?_; (case hd => rfl); (case hg => rfl); (case hr => first | (go_simp; done) | (go_simp; rfl))
                intro gb193 hg w8 hbox hb
                replace HO192 := Aside0.mk (Kd.R_below (rk HO192.out) hb)
                have BK193 := Aside0.mk (hbox)
                have GW193 := Aside0.mk ((by rw [hg]; exact (below_size bo) : w.heap.size ≤ gb193))
                have GE193 := Aside0.mk ((by rw [hg]; exact (below_size bo) : w.heap.size ≤ gb193))
                replace HB := Aside0.mk (below_step bo hb)
                clear hb hbox hg
                refine hK.out _ _ trivial (fun hHeld => ?_)
                clear hK K
                refine norm_ (a' := ?_) ?_ ?_
                rotate_left
                ·show Act.put _ (some 3) _ = _
                 simp only [Act.put, List.setIfInBounds_toArray, List.set_cons_zero, List.set_cons_succ, i64_w, i32_w]
                 rfl
                exact norm_ (by first | (simp only [putAll, Act.put, List.setIfInBounds_toArray, List.set_cons_zero, List.set_cons_succ]; done) | (simp only [putAll, Act.put, List.setIfInBounds_toArray, List.set_cons_zero, List.set_cons_succ]; rfl)) (hJ2_3_5 (v191, gb193) _ ⟨(rk HO192.out), (bk BK193.out), GW193.out, GE193.out, bo⟩)
             ·skip
              rintro ⟨v188, gb193⟩ w7 ⟨h0_, h1_, h2_, h3_, h4_⟩
              have n0_ : Aside0 (Kd.R (Kd.int .u8) 5 w7 w.heap.size (fun _ => True) v188 y187) := ⟨h0_⟩
              have n1_ : Aside0 (w7.heap[gb193]? = some (.cells #[.int .i64 0, .int .i64 0, .string (⟨#[]⟩ : ByteArray), .string (⟨#[]⟩ : ByteArray), .int .i64 0, .bool false] 25 (0, 0))) := ⟨h1_⟩
              have n2_ : Aside0 (w.heap.size ≤ gb193) := ⟨h2_⟩
              have n3_ : Aside0 (w.heap.size ≤ gb193) := ⟨h3_⟩
              have n4_ : Aside0 (Below w.heap.size w w7) := ⟨h4_⟩
              clear HB
              clear h0_ h1_ h2_ h3_ h4_
              have HO189 := n0_
              have BK193 := n1_
              have GW193 := n2_
              have GE193 := n3_
              have HB := n4_
              clear n0_ n1_ n2_ n3_ n4_
              have hHeld := trivial
              refine norm_ (a' := ?_) ?_ ?_
              rotate_left
              ·simp only [putAll, Act.put, List.setIfInBounds_toArray, List.set_cons_zero, List.set_cons_succ]
               rfl
              refine two_ (i := 1) (j := 2) (Ni := some 13) (Nj := some 14) #[I,I,O,O,O,I,O] #[I,O,I,O,O,I,O] rfl rfl rfl rfl (by kernel_rfl) (by decide) (by decide) (fun K hK => ?_) (fun K hK => ?_)
              ·skip
               have hcv8 := own_string (P := Try.prog) Try.underlying23 Try.underlying5 Try.underlying9 (Kd.own_of_R HO189.out)
               refine value_ (w1 := ?_) (v := ?_) (by rfl) rfl ?_ ?_
               rotate_left 2
               ·go_simp
                constructor
                ·rfl
                ·rfl
               clear hcv8
               refine hK.out _ _ trivial (fun hHeld => ?_)
               clear hK K
               refine norm_ (a' := ?_) ?_ ?_
               rotate_left
               ·show Act.put _ (some 13) _ = _
                simp only [Act.put, List.setIfInBounds_toArray, List.set_cons_zero, List.set_cons_succ, i64_w, i32_w]
                rfl
               exact norm_ (by first | (simp only [putAll, Act.put, List.setIfInBounds_toArray, List.set_cons_zero, List.set_cons_succ]; done) | (simp only [putAll, Act.put, List.setIfInBounds_toArray, List.set_cons_zero, List.set_cons_succ]; rfl)) (hJ0_1_5 (v188, gb193) _ ⟨(rk HO189.out), (bk BK193.out), GW193.out, GE193.out, bo⟩)
              ·skip
               refine Kd.R_make_step (Kd.int .u8) _ 5 (by rfl) (N := 14) rfl 23 _ _ rfl 1024 rfl rfl Try.underlying23 (.int .u8 0) 1 info5 rfl (by decide) (by omega) 0 (ok := fun _ => True) (okp := fun _ => True) rfl (fun _ hk => hk) trivial (by omega) (by omega) (Below.refl _ _) (Nat.le_refl _) ?_
               intro v191 w8 ho9 hb hg_ hnew_
               clear hg_ hnew_
               (first | rw [← Ny190.out] at ho9 | (simp only [Int.reduceToNat] at ho9; rw [← Ny190.out] at ho9))
               have HO192 := Aside0.mk (Kd.R_lower (Kd.R_new' ho9 (Kd.R_lt (rk HO189.out))) (below_size bo))
               replace HO189 := Aside0.mk (Kd.R_elder' (rk HO189.out) (Kd.R_base ho9) hb)
               replace BK193 := Aside0.mk (blk_below (g := gb193) (o := .cells #[.int .i64 0, .int .i64 0, .string (⟨#[]⟩ : ByteArray), .string (⟨#[]⟩ : ByteArray), .int .i64 0, .bool false] 25 (0, 0)) (bk BK193.out) hb)
               replace HB := Aside0.mk (below_step bo hb)
               clear hb ho9
               refine hK.out _ _ trivial (fun hHeld => ?_)
               clear hK K
               refine norm_ (a' := ?_) ?_ ?_
               rotate_left
               ·show Act.put _ (some 14) _ = _
                simp only [Act.put, List.setIfInBounds_toArray, List.set_cons_zero, List.set_cons_succ, i64_w, i32_w]
                rfl
               exact norm_ (by first | (simp only [putAll, Act.put, List.setIfInBounds_toArray, List.set_cons_zero, List.set_cons_succ]; done) | (simp only [putAll, Act.put, List.setIfInBounds_toArray, List.set_cons_zero, List.set_cons_succ]; rfl)) (hJ0_2_5 (v188, v191, gb193) _ ⟨(by (with_reducible repeat (first | apply Kd.R_alloc | apply Kd.R_drewN | apply Kd.R_drew)); exact Kd.R_mono HO189.out (fun _ hk => hk.2)), (by (with_reducible repeat (first | apply Kd.R_alloc | apply Kd.R_drewN | apply Kd.R_drew)); exact Kd.R_mono HO192.out (fun _ hk => hk.2)), (bk BK193.out), GW193.out, GE193.out, bo⟩)
            ·skip
             rintro ⟨v188, v191⟩ w8 ⟨h0_, h1_, h2_⟩
             have n0_ : Aside0 (Kd.R (Kd.int .u8) 5 w8 w.heap.size (fun k_ => some k_ ≠ (v191 : Value).ownBlock) v188 y187) := ⟨h0_⟩
             have n1_ : Aside0 (Kd.R (Kd.int .u8) 5 w8 w.heap.size (fun k_ => some k_ ≠ (v188 : Value).ownBlock) v191 y190) := ⟨h1_⟩
             have n2_ : Aside0 (Below w.heap.size w w8) := ⟨h2_⟩
             clear HB
             clear h0_ h1_ h2_
             have HO189 := n0_
             have HO192 := n1_
             have HB := n2_
             clear n0_ n1_ n2_
             have hHeld := trivial
             refine norm_ (a' := ?_) ?_ ?_
             rotate_left
             ·simp only [putAll, Act.put, List.setIfInBounds_toArray, List.set_cons_zero, List.set_cons_succ]
              rfl
             refine three_ (i := 1) (j := 3) (k := 5) (Ni := some 13) (Nj := some 15) (Nk := some 3) #[I,I,I,O,O,O,O] #[I,O,I,I,O,O,O] #[I,O,I,O,O,I,O] rfl rfl rfl rfl rfl rfl (by kernel_rfl) (by decide) (by decide) (by decide) (fun K hK => ?_) (fun K hK => ?_) (fun K hK => ?_)
             ·skip
              have hcv9 := own_string (P := Try.prog) Try.underlying23 Try.underlying5 Try.underlying9 (Kd.own_of_R HO189.out)
              refine value_ (w1 := ?_) (v := ?_) (by rfl) rfl ?_ ?_
              rotate_left 2
              ·go_simp
               constructor
               ·rfl
               ·rfl
              clear hcv9
              refine hK.out _ _ trivial (fun hHeld => ?_)
              clear hK K
              refine norm_ (a' := ?_) ?_ ?_
              rotate_left
              ·show Act.put _ (some 13) _ = _
               simp only [Act.put, List.setIfInBounds_toArray, List.set_cons_zero, List.set_cons_succ, i64_w, i32_w]
               rfl
              exact norm_ (by first | (simp only [putAll, Act.put, List.setIfInBounds_toArray, List.set_cons_zero, List.set_cons_succ]; done) | (simp only [putAll, Act.put, List.setIfInBounds_toArray, List.set_cons_zero, List.set_cons_succ]; rfl)) (hJ0_1_2 (v188, v191) _ ⟨(rk HO189.out), (rk HO192.out), bo⟩)
             ·skip
              have hcv9 := own_string (P := Try.prog) Try.underlying23 Try.underlying5 Try.underlying9 (Kd.own_of_R HO192.out)
              refine value_ (w1 := ?_) (v := ?_) (by rfl) rfl ?_ ?_
              rotate_left 2
              ·go_simp
               constructor
               ·rfl
               ·rfl
              clear hcv9
              refine hK.out _ _ trivial (fun hHeld => ?_)
              clear hK K
              refine norm_ (a' := ?_) ?_ ?_
              rotate_left
              ·show Act.put _ (some 15) _ = _
               simp only [Act.put, List.setIfInBounds_toArray, List.set_cons_zero, List.set_cons_succ, i64_w, i32_w]
               rfl
              exact norm_ (by first | (simp only [putAll, Act.put, List.setIfInBounds_toArray, List.set_cons_zero, List.set_cons_succ]; done) | (simp only [putAll, Act.put, List.setIfInBounds_toArray, List.set_cons_zero, List.set_cons_succ]; rfl)) (hJ0_2_3 (v188, v191) _ ⟨(rk HO189.out), (rk HO192.out), bo⟩)
             ·skip
              refine box_step ?hg (N := 3) ?hd (cs := #[.int .i64 0, .int .i64 0, .string (⟨#[]⟩ : ByteArray), .string (⟨#[]⟩ : ByteArray), .int .i64 0, .bool false]) (t := 25) ?hr ?_; (case hd => rfl); (case hg => rfl); (case hr => first | (go_simp; done) | (go_simp; rfl))
              intro gb193 hg w9 hbox hb
              replace HO189 := Aside0.mk (Kd.R_below (rk HO189.out) hb)
              replace HO192 := Aside0.mk (Kd.R_below (rk HO192.out) hb)
              have BK193 := Aside0.mk (hbox)
              have GW193 := Aside0.mk ((by rw [hg]; exact (below_size bo) : w.heap.size ≤ gb193))
              have GE193 := Aside0.mk ((by rw [hg]; exact (below_size bo) : w.heap.size ≤ gb193))
              replace HB := Aside0.mk (below_step bo hb)
              clear hb hbox hg
              refine hK.out _ _ trivial (fun hHeld => ?_)
              clear hK K
              refine norm_ (a' := ?_) ?_ ?_
              rotate_left
              ·show Act.put _ (some 3) _ = _
               simp only [Act.put, List.setIfInBounds_toArray, List.set_cons_zero, List.set_cons_succ, i64_w, i32_w]
               rfl
              exact norm_ (by first | (simp only [putAll, Act.put, List.setIfInBounds_toArray, List.set_cons_zero, List.set_cons_succ]; done) | (simp only [putAll, Act.put, List.setIfInBounds_toArray, List.set_cons_zero, List.set_cons_succ]; rfl)) (hJ0_2_5 (v188, v191, gb193) _ ⟨(rk HO189.out), (rk HO192.out), (bk BK193.out), GW193.out, GE193.out, bo⟩)
           ·skip
            rintro v188 w7 ⟨h0_, h1_⟩
            have n0_ : Aside0 (Kd.R (Kd.int .u8) 5 w7 w.heap.size (fun _ => True) v188 y187) := ⟨h0_⟩
            have n1_ : Aside0 (Below w.heap.size w w7) := ⟨h1_⟩
            clear HB
            clear h0_ h1_
            have HO189 := n0_
            have HB := n1_
            clear n0_ n1_
            have hHeld := trivial
            refine norm_ (a' := ?_) ?_ ?_
            rotate_left
            ·simp only [putAll, Act.put, List.setIfInBounds_toArray, List.set_cons_zero, List.set_cons_succ]
             rfl
            refine two_ (i := 2) (j := 5) (Ni := some 14) (Nj := some 3) #[I,I,I,O,O,O,O] #[I,I,O,O,O,I,O] rfl rfl rfl rfl (by kernel_rfl) (by decide) (by decide) (fun K hK => ?_) (fun K hK => ?_)
            ·skip
             refine Kd.R_make_step (Kd.int .u8) _ 5 (by rfl) (N := 14) rfl 23 _ _ rfl 1024 rfl rfl Try.underlying23 (.int .u8 0) 1 info5 rfl (by decide) (by omega) 0 (ok := fun _ => True) (okp := fun _ => True) rfl (fun _ hk => hk) trivial (by omega) (by omega) (Below.refl _ _) (Nat.le_refl _) ?_
             intro v191 w8 ho9 hb hg_ hnew_
             clear hg_ hnew_
             (first | rw [← Ny190.out] at ho9 | (simp only [Int.reduceToNat] at ho9; rw [← Ny190.out] at ho9))
             have HO192 := Aside0.mk (Kd.R_lower (Kd.R_new' ho9 (Kd.R_lt (rk HO189.out))) (below_size bo))
             replace HO189 := Aside0.mk (Kd.R_elder' (rk HO189.out) (Kd.R_base ho9) hb)
             replace HB := Aside0.mk (below_step bo hb)
             clear hb ho9
             refine hK.out _ _ trivial (fun hHeld => ?_)
             clear hK K
             refine norm_ (a' := ?_) ?_ ?_
             rotate_left
             ·show Act.put _ (some 14) _ = _
              simp only [Act.put, List.setIfInBounds_toArray, List.set_cons_zero, List.set_cons_succ, i64_w, i32_w]
              rfl
             exact norm_ (by first | (simp only [putAll, Act.put, List.setIfInBounds_toArray, List.set_cons_zero, List.set_cons_succ]; done) | (simp only [putAll, Act.put, List.setIfInBounds_toArray, List.set_cons_zero, List.set_cons_succ]; rfl)) (hJ0_1_2 (v188, v191) _ ⟨(by (with_reducible repeat (first | apply Kd.R_alloc | apply Kd.R_drewN | apply Kd.R_drew)); exact Kd.R_mono HO189.out (fun _ hk => hk.2)), (by (with_reducible repeat (first | apply Kd.R_alloc | apply Kd.R_drewN | apply Kd.R_drew)); exact Kd.R_mono HO192.out (fun _ hk => hk.2)), bo⟩)
            ·skip
             refine box_step ?hg (N := 3) ?hd (cs := #[.int .i64 0, .int .i64 0, .string (⟨#[]⟩ : ByteArray), .string (⟨#[]⟩ : ByteArray), .int .i64 0, .bool false]) (t := 25) ?hr ?_; (case hd => rfl); (case hg => rfl); (case hr => first | (go_simp; done) | (go_simp; rfl))
             intro gb193 hg w8 hbox hb
             replace HO189 := Aside0.mk (Kd.R_below (rk HO189.out) hb)
             have BK193 := Aside0.mk (hbox)
             have GW193 := Aside0.mk ((by rw [hg]; exact (below_size bo) : w.heap.size ≤ gb193))
             have GE193 := Aside0.mk ((by rw [hg]; exact (below_size bo) : w.heap.size ≤ gb193))
             replace HB := Aside0.mk (below_step bo hb)
             clear hb hbox hg
             refine hK.out _ _ trivial (fun hHeld => ?_)
             clear hK K
             refine norm_ (a' := ?_) ?_ ?_
             rotate_left
             ·show Act.put _ (some 3) _ = _
              simp only [Act.put, List.setIfInBounds_toArray, List.set_cons_zero, List.set_cons_succ, i64_w, i32_w]
              rfl
             exact norm_ (by first | (simp only [putAll, Act.put, List.setIfInBounds_toArray, List.set_cons_zero, List.set_cons_succ]; done) | (simp only [putAll, Act.put, List.setIfInBounds_toArray, List.set_cons_zero, List.set_cons_succ]; rfl)) (hJ0_1_5 (v188, gb193) _ ⟨(rk HO189.out), (bk BK193.out), GW193.out, GE193.out, bo⟩)
          ·skip
           rintro ⟨v191, gb193⟩ w8 ⟨h0_, h1_, h2_, h3_, h4_⟩
           have n0_ : Aside0 (Kd.R (Kd.int .u8) 5 w8 w.heap.size (fun _ => True) v191 y190) := ⟨h0_⟩
           have n1_ : Aside0 (w8.heap[gb193]? = some (.cells #[.int .i64 0, .int .i64 0, .string (⟨#[]⟩ : ByteArray), .string (⟨#[]⟩ : ByteArray), .int .i64 0, .bool false] 25 (0, 0))) := ⟨h1_⟩
           have n2_ : Aside0 (w.heap.size ≤ gb193) := ⟨h2_⟩
           have n3_ : Aside0 (w.heap.size ≤ gb193) := ⟨h3_⟩
           have n4_ : Aside0 (Below w.heap.size w w8) := ⟨h4_⟩
           clear HB
           clear h0_ h1_ h2_ h3_ h4_
           have HO192 := n0_
           have BK193 := n1_
           have GW193 := n2_
           have GE193 := n3_
           have HB := n4_
           clear n0_ n1_ n2_ n3_ n4_
           have hHeld := trivial
           refine norm_ (a' := ?_) ?_ ?_
           rotate_left
           ·simp only [putAll, Act.put, List.setIfInBounds_toArray, List.set_cons_zero, List.set_cons_succ]
            rfl
           refine one_ (i := 0) (N := some 12) #[I,O,I,I,O,I,O] rfl rfl (by kernel_rfl) (by decide) (fun K hK => ?_)
           refine Kd.R_make_step (Kd.int .u8) _ 5 (by rfl) (N := 12) rfl 23 _ _ rfl 1024 rfl rfl Try.underlying23 (.int .u8 0) 1 info5 rfl (by decide) (by omega) 0 (ok := fun _ => True) (okp := fun _ => True) rfl (fun _ hk => hk) trivial (by omega) (by omega) (Below.refl _ _) (Nat.le_refl _) ?_
           intro v188 w9 ho10 hb hg_ hnew_
           clear hg_ hnew_
           (first | rw [← Ny187.out] at ho10 | (simp only [Int.reduceToNat] at ho10; rw [← Ny187.out] at ho10))
           have HO189 := Aside0.mk (Kd.R_lower (Kd.R_new' ho10 (Kd.R_lt (rk HO192.out))) (below_size bo))
           replace HO192 := Aside0.mk (Kd.R_elder' (rk HO192.out) (Kd.R_base ho10) hb)
           replace BK193 := Aside0.mk (blk_below (g := gb193) (o := .cells #[.int .i64 0, .int .i64 0, .string (⟨#[]⟩ : ByteArray), .string (⟨#[]⟩ : ByteArray), .int .i64 0, .bool false] 25 (0, 0)) (bk BK193.out) hb)
           replace HB := Aside0.mk (below_step bo hb)
           clear hb ho10
           refine hK.out _ _ trivial (fun hHeld => ?_)
           clear hK K
           refine norm_ (a' := ?_) ?_ ?_
           rotate_left
           ·show Act.put _ (some 12) _ = _
            simp only [Act.put, List.setIfInBounds_toArray, List.set_cons_zero, List.set_cons_succ, i64_w, i32_w]
            rfl
           exact norm_ (by first | (simp only [putAll, Act.put, List.setIfInBounds_toArray, List.set_cons_zero, List.set_cons_succ]; done) | (simp only [putAll, Act.put, List.setIfInBounds_toArray, List.set_cons_zero, List.set_cons_succ]; rfl)) (hJ0_2_3_5 (v188, v191, gb193) _ ⟨(by (with_reducible repeat (first | apply Kd.R_alloc | apply Kd.R_drewN | apply Kd.R_drew)); exact Kd.R_mono HO189.out (fun _ hk => hk.2)), (by (with_reducible repeat (first | apply Kd.R_alloc | apply Kd.R_drewN | apply Kd.R_drew)); exact Kd.R_mono HO192.out (fun _ hk => hk.2)), (bk BK193.out), GW193.out, GE193.out, bo⟩)
         ·skip
          rintro ⟨v188, v191, gb193⟩ w9 ⟨h0_, h1_, h2_, h3_, h4_, h5_⟩
          have n0_ : Aside0 (Kd.R (Kd.int .u8) 5 w9 w.heap.size (fun k_ => some k_ ≠ (v191 : Value).ownBlock) v188 y187) := ⟨h0_⟩
          have n1_ : Aside0 (Kd.R (Kd.int .u8) 5 w9 w.heap.size (fun k_ => some k_ ≠ (v188 : Value).ownBlock) v191 y190) := ⟨h1_⟩
          have n2_ : Aside0 (w9.heap[gb193]? = some (.cells #[.int .i64 0, .int .i64 0, .string (⟨#[]⟩ : ByteArray), .string (⟨#[]⟩ : ByteArray), .int .i64 0, .bool false] 25 (0, 0))) := ⟨h2_⟩
          have n3_ : Aside0 (w.heap.size ≤ gb193) := ⟨h3_⟩
          have n4_ : Aside0 (w.heap.size ≤ gb193) := ⟨h4_⟩
          have n5_ : Aside0 (Below w.heap.size w w9) := ⟨h5_⟩
          clear HB
          clear h0_ h1_ h2_ h3_ h4_ h5_
          have HO189 := n0_
          have HO192 := n1_
          have BK193 := n2_
          have GW193 := n3_
          have GE193 := n4_
          have HB := n5_
          clear n0_ n1_ n2_ n3_ n4_ n5_
          have hHeld := trivial
          refine norm_ (a' := ?_) ?_ ?_
          rotate_left
          ·simp only [putAll, Act.put, List.setIfInBounds_toArray, List.set_cons_zero, List.set_cons_succ]
           rfl
          refine two_ (i := 1) (j := 3) (Ni := some 13) (Nj := some 15) #[I,I,I,O,O,I,O] #[I,O,I,I,O,I,O] rfl rfl rfl rfl (by kernel_rfl) (by decide) (by decide) (fun K hK => ?_) (fun K hK => ?_)
          ·skip
           have hcv10 := own_string (P := Try.prog) Try.underlying23 Try.underlying5 Try.underlying9 (Kd.own_of_R HO189.out)
           refine value_ (w1 := ?_) (v := ?_) (by rfl) rfl ?_ ?_
           rotate_left 2
           ·go_simp
            constructor
            ·rfl
            ·rfl
           clear hcv10
           refine hK.out _ _ trivial (fun hHeld => ?_)
           clear hK K
           refine norm_ (a' := ?_) ?_ ?_
           rotate_left
           ·show Act.put _ (some 13) _ = _
            simp only [Act.put, List.setIfInBounds_toArray, List.set_cons_zero, List.set_cons_succ, i64_w, i32_w]
            rfl
           exact norm_ (by first | (simp only [putAll, Act.put, List.setIfInBounds_toArray, List.set_cons_zero, List.set_cons_succ]; done) | (simp only [putAll, Act.put, List.setIfInBounds_toArray, List.set_cons_zero, List.set_cons_succ]; rfl)) (hJ0_1_2_5 (v188, v191, gb193) _ ⟨(rk HO189.out), (rk HO192.out), (bk BK193.out), GW193.out, GE193.out, bo⟩)
          ·skip
           have hcv10 := own_string (P := Try.prog) Try.underlying23 Try.underlying5 Try.underlying9 (Kd.own_of_R HO192.out)
           refine value_ (w1 := ?_) (v := ?_) (by rfl) rfl ?_ ?_
           rotate_left 2
           ·go_simp
            constructor
            ·rfl
            ·rfl
           clear hcv10
           refine hK.out _ _ trivial (fun hHeld => ?_)
           clear hK K
           refine norm_ (a' := ?_) ?_ ?_
           rotate_left
           ·show Act.put _ (some 15) _ = _
            simp only [Act.put, List.setIfInBounds_toArray, List.set_cons_zero, List.set_cons_succ, i64_w, i32_w]
            rfl
           exact norm_ (by first | (simp only [putAll, Act.put, List.setIfInBounds_toArray, List.set_cons_zero, List.set_cons_succ]; done) | (simp only [putAll, Act.put, List.setIfInBounds_toArray, List.set_cons_zero, List.set_cons_succ]; rfl)) (hJ0_2_3_5 (v188, v191, gb193) _ ⟨(rk HO189.out), (rk HO192.out), (bk BK193.out), GW193.out, GE193.out, bo⟩)
        ·skip
         rintro ⟨v188, v191⟩ w9 ⟨h0_, h1_, h2_⟩
         have n0_ : Aside0 (Kd.R (Kd.int .u8) 5 w9 w.heap.size (fun k_ => some k_ ≠ (v191 : Value).ownBlock) v188 y187) := ⟨h0_⟩
         have n1_ : Aside0 (Kd.R (Kd.int .u8) 5 w9 w.heap.size (fun k_ => some k_ ≠ (v188 : Value).ownBlock) v191 y190) := ⟨h1_⟩
         have n2_ : Aside0 (Below w.heap.size w w9) := ⟨h2_⟩
         clear HB
         clear h0_ h1_ h2_
         have HO189 := n0_
         have HO192 := n1_
         have HB := n2_
         clear n0_ n1_ n2_
         have hHeld := trivial
         refine norm_ (a' := ?_) ?_ ?_
         rotate_left
         ·simp only [putAll, Act.put, List.setIfInBounds_toArray, List.set_cons_zero, List.set_cons_succ]
          rfl
         refine two_ (i := 1) (j := 5) (Ni := some 13) (Nj := some 3) #[I,I,I,I,O,O,O] #[I,O,I,I,O,I,O] rfl rfl rfl rfl (by kernel_rfl) (by decide) (by decide) (fun K hK => ?_) (fun K hK => ?_)
         ·skip
          have hcv10 := own_string (P := Try.prog) Try.underlying23 Try.underlying5 Try.underlying9 (Kd.own_of_R HO189.out)
          refine value_ (w1 := ?_) (v := ?_) (by rfl) rfl ?_ ?_
          rotate_left 2
          ·go_simp
           constructor
           ·rfl
           ·rfl
          clear hcv10
          refine hK.out _ _ trivial (fun hHeld => ?_)
          clear hK K
          refine norm_ (a' := ?_) ?_ ?_
          rotate_left
          ·show Act.put _ (some 13) _ = _
           simp only [Act.put, List.setIfInBounds_toArray, List.set_cons_zero, List.set_cons_succ, i64_w, i32_w]
           rfl
          refine pure_ (i := 4) (N := some 16) (v := ?_) (a' := ?_) #[I,I,I,I,I,O,O] rfl rfl (by kernel_rfl) (fun _ _ _ h => h) (Or.inl ⟨by rfl, ?_⟩) ?_ ?_
          rotate_left
          ·intro w'
           go_simp
           with_reducible rfl
          rotate_left
          ·simp only [Act.put, List.setIfInBounds_toArray, List.set_cons_zero, List.set_cons_succ, i64_w, i32_w]
           rfl
          exact norm_ (by first | (simp only [putAll, Act.put, List.setIfInBounds_toArray, List.set_cons_zero, List.set_cons_succ]; done) | (simp only [putAll, Act.put, List.setIfInBounds_toArray, List.set_cons_zero, List.set_cons_succ]; rfl)) (hJ0_1_2_3 (v188, v191) _ ⟨(rk HO189.out), (rk HO192.out), bo⟩)
         ·skip
          refine box_step ?hg (N := 3) ?hd (cs := #[.int .i64 0, .int .i64 0, .string (⟨#[]⟩ : ByteArray), .string (⟨#[]⟩ : ByteArray), .int .i64 0, .bool false]) (t := 25) ?hr ?_; (case hd => rfl); (case hg => rfl); (case hr => first | (go_simp; done) | (go_simp; rfl))
          intro gb193 hg w10 hbox hb
          replace HO189 := Aside0.mk (Kd.R_below (rk HO189.out) hb)
          replace HO192 := Aside0.mk (Kd.R_below (rk HO192.out) hb)
          have BK193 := Aside0.mk (hbox)
          have GW193 := Aside0.mk ((by rw [hg]; exact (below_size bo) : w.heap.size ≤ gb193))
          have GE193 := Aside0.mk ((by rw [hg]; exact (below_size bo) : w.heap.size ≤ gb193))
          replace HB := Aside0.mk (below_step bo hb)
          clear hb hbox hg
          refine hK.out _ _ trivial (fun hHeld => ?_)
          clear hK K
          refine norm_ (a' := ?_) ?_ ?_
          rotate_left
          ·show Act.put _ (some 3) _ = _
           simp only [Act.put, List.setIfInBounds_toArray, List.set_cons_zero, List.set_cons_succ, i64_w, i32_w]
           rfl
          exact norm_ (by first | (simp only [putAll, Act.put, List.setIfInBounds_toArray, List.set_cons_zero, List.set_cons_succ]; done) | (simp only [putAll, Act.put, List.setIfInBounds_toArray, List.set_cons_zero, List.set_cons_succ]; rfl)) (hJ0_2_3_5 (v188, v191, gb193) _ ⟨(rk HO189.out), (rk HO192.out), (bk BK193.out), GW193.out, GE193.out, bo⟩)
       ·skip
        rintro ⟨v188, gb193⟩ w8 ⟨h0_, h1_, h2_, h3_, h4_⟩
        have n0_ : Aside0 (Kd.R (Kd.int .u8) 5 w8 w.heap.size (fun _ => True) v188 y187) := ⟨h0_⟩
        have n1_ : Aside0 (w8.heap[gb193]? = some (.cells #[.int .i64 0, .int .i64 0, .string (⟨#[]⟩ : ByteArray), .string (⟨#[]⟩ : ByteArray), .int .i64 0, .bool false] 25 (0, 0))) := ⟨h1_⟩
        have n2_ : Aside0 (w.heap.size ≤ gb193) := ⟨h2_⟩
        have n3_ : Aside0 (w.heap.size ≤ gb193) := ⟨h3_⟩
        have n4_ : Aside0 (Below w.heap.size w w8) := ⟨h4_⟩
        clear HB
        clear h0_ h1_ h2_ h3_ h4_
        have HO189 := n0_
        have BK193 := n1_
        have GW193 := n2_
        have GE193 := n3_
        have HB := n4_
        clear n0_ n1_ n2_ n3_ n4_
        have hHeld := trivial
        refine norm_ (a' := ?_) ?_ ?_
        rotate_left
        ·simp only [putAll, Act.put, List.setIfInBounds_toArray, List.set_cons_zero, List.set_cons_succ]
         rfl
        refine one_ (i := 2) (N := some 14) #[I,I,I,O,O,I,O] rfl rfl (by kernel_rfl) (by decide) (fun K hK => ?_)
        refine Kd.R_make_step (Kd.int .u8) _ 5 (by rfl) (N := 14) rfl 23 _ _ rfl 1024 rfl rfl Try.underlying23 (.int .u8 0) 1 info5 rfl (by decide) (by omega) 0 (ok := fun _ => True) (okp := fun _ => True) rfl (fun _ hk => hk) trivial (by omega) (by omega) (Below.refl _ _) (Nat.le_refl _) ?_
        intro v191 w9 ho10 hb hg_ hnew_
        clear hg_ hnew_
        (first | rw [← Ny190.out] at ho10 | (simp only [Int.reduceToNat] at ho10; rw [← Ny190.out] at ho10))
        have HO192 := Aside0.mk (Kd.R_lower (Kd.R_new' ho10 (Kd.R_lt (rk HO189.out))) (below_size bo))
        replace HO189 := Aside0.mk (Kd.R_elder' (rk HO189.out) (Kd.R_base ho10) hb)
        replace BK193 := Aside0.mk (blk_below (g := gb193) (o := .cells #[.int .i64 0, .int .i64 0, .string (⟨#[]⟩ : ByteArray), .string (⟨#[]⟩ : ByteArray), .int .i64 0, .bool false] 25 (0, 0)) (bk BK193.out) hb)
        replace HB := Aside0.mk (below_step bo hb)
        clear hb ho10
        refine hK.out _ _ trivial (fun hHeld => ?_)
        clear hK K
        refine norm_ (a' := ?_) ?_ ?_
        rotate_left
        ·show Act.put _ (some 14) _ = _
         simp only [Act.put, List.setIfInBounds_toArray, List.set_cons_zero, List.set_cons_succ, i64_w, i32_w]
         rfl
        exact norm_ (by first | (simp only [putAll, Act.put, List.setIfInBounds_toArray, List.set_cons_zero, List.set_cons_succ]; done) | (simp only [putAll, Act.put, List.setIfInBounds_toArray, List.set_cons_zero, List.set_cons_succ]; rfl)) (hJ0_1_2_5 (v188, v191, gb193) _ ⟨(by (with_reducible repeat (first | apply Kd.R_alloc | apply Kd.R_drewN | apply Kd.R_drew)); exact Kd.R_mono HO189.out (fun _ hk => hk.2)), (by (with_reducible repeat (first | apply Kd.R_alloc | apply Kd.R_drewN | apply Kd.R_drew)); exact Kd.R_mono HO192.out (fun _ hk => hk.2)), (bk BK193.out), GW193.out, GE193.out, bo⟩)
      ·skip
       rintro ⟨v188, v191⟩ w9 ⟨h0_, h1_, h2_⟩
       have n0_ : Aside0 (Kd.R (Kd.int .u8) 5 w9 w.heap.size (fun k_ => some k_ ≠ (v191 : Value).ownBlock) v188 y187) := ⟨h0_⟩
       have n1_ : Aside0 (Kd.R (Kd.int .u8) 5 w9 w.heap.size (fun k_ => some k_ ≠ (v188 : Value).ownBlock) v191 y190) := ⟨h1_⟩
       have n2_ : Aside0 (Below w.heap.size w w9) := ⟨h2_⟩
       clear HB
       clear h0_ h1_ h2_
       have HO189 := n0_
       have HO192 := n1_
       have HB := n2_
       clear n0_ n1_ n2_
       have hHeld := trivial
       refine norm_ (a' := ?_) ?_ ?_
       rotate_left
       ·simp only [putAll, Act.put, List.setIfInBounds_toArray, List.set_cons_zero, List.set_cons_succ]
        rfl
       refine two_ (i := 3) (j := 5) (Ni := some 15) (Nj := some 3) #[I,I,I,I,O,O,O] #[I,I,I,O,O,I,O] rfl rfl rfl rfl (by kernel_rfl) (by decide) (by decide) (fun K hK => ?_) (fun K hK => ?_)
       ·skip
        have hcv10 := own_string (P := Try.prog) Try.underlying23 Try.underlying5 Try.underlying9 (Kd.own_of_R HO192.out)
        refine value_ (w1 := ?_) (v := ?_) (by rfl) rfl ?_ ?_
        rotate_left 2
        ·go_simp
         constructor
         ·rfl
         ·rfl
        clear hcv10
        refine hK.out _ _ trivial (fun hHeld => ?_)
        clear hK K
        refine norm_ (a' := ?_) ?_ ?_
        rotate_left
        ·show Act.put _ (some 15) _ = _
         simp only [Act.put, List.setIfInBounds_toArray, List.set_cons_zero, List.set_cons_succ, i64_w, i32_w]
         rfl
        refine pure_ (i := 4) (N := some 16) (v := ?_) (a' := ?_) #[I,I,I,I,I,O,O] rfl rfl (by kernel_rfl) (fun _ _ _ h => h) (Or.inl ⟨by rfl, ?_⟩) ?_ ?_
        rotate_left
        ·intro w'
         go_simp
         with_reducible rfl
        rotate_left
        ·simp only [Act.put, List.setIfInBounds_toArray, List.set_cons_zero, List.set_cons_succ, i64_w, i32_w]
         rfl
        exact norm_ (by first | (simp only [putAll, Act.put, List.setIfInBounds_toArray, List.set_cons_zero, List.set_cons_succ]; done) | (simp only [putAll, Act.put, List.setIfInBounds_toArray, List.set_cons_zero, List.set_cons_succ]; rfl)) (hJ0_1_2_3 (v188, v191) _ ⟨(rk HO189.out), (rk HO192.out), bo⟩)
       ·skip
        refine box_step ?hg (N := 3) ?hd (cs := #[.int .i64 0, .int .i64 0, .string (⟨#[]⟩ : ByteArray), .string (⟨#[]⟩ : ByteArray), .int .i64 0, .bool false]) (t := 25) ?hr ?_; (case hd => rfl); (case hg => rfl); (case hr => first | (go_simp; done) | (go_simp; rfl))
        intro gb193 hg w10 hbox hb
        replace HO189 := Aside0.mk (Kd.R_below (rk HO189.out) hb)
        replace HO192 := Aside0.mk (Kd.R_below (rk HO192.out) hb)
        have BK193 := Aside0.mk (hbox)
        have GW193 := Aside0.mk ((by rw [hg]; exact (below_size bo) : w.heap.size ≤ gb193))
        have GE193 := Aside0.mk ((by rw [hg]; exact (below_size bo) : w.heap.size ≤ gb193))
        replace HB := Aside0.mk (below_step bo hb)
        clear hb hbox hg
        refine hK.out _ _ trivial (fun hHeld => ?_)
        clear hK K
        refine norm_ (a' := ?_) ?_ ?_
        rotate_left
        ·show Act.put _ (some 3) _ = _
         simp only [Act.put, List.setIfInBounds_toArray, List.set_cons_zero, List.set_cons_succ, i64_w, i32_w]
         rfl
        exact norm_ (by first | (simp only [putAll, Act.put, List.setIfInBounds_toArray, List.set_cons_zero, List.set_cons_succ]; done) | (simp only [putAll, Act.put, List.setIfInBounds_toArray, List.set_cons_zero, List.set_cons_succ]; rfl)) (hJ0_1_2_5 (v188, v191, gb193) _ ⟨(rk HO189.out), (rk HO192.out), (bk BK193.out), GW193.out, GE193.out, bo⟩)
     ·skip
      rintro ⟨v188, v191, gb193⟩ w10 ⟨h0_, h1_, h2_, h3_, h4_, h5_⟩
      have n0_ : Aside0 (Kd.R (Kd.int .u8) 5 w10 w.heap.size (fun k_ => some k_ ≠ (v191 : Value).ownBlock) v188 y187) := ⟨h0_⟩
      have n1_ : Aside0 (Kd.R (Kd.int .u8) 5 w10 w.heap.size (fun k_ => some k_ ≠ (v188 : Value).ownBlock) v191 y190) := ⟨h1_⟩
      have n2_ : Aside0 (w10.heap[gb193]? = some (.cells #[.int .i64 0, .int .i64 0, .string (⟨#[]⟩ : ByteArray), .string (⟨#[]⟩ : ByteArray), .int .i64 0, .bool false] 25 (0, 0))) := ⟨h2_⟩
      have n3_ : Aside0 (w.heap.size ≤ gb193) := ⟨h3_⟩
      have n4_ : Aside0 (w.heap.size ≤ gb193) := ⟨h4_⟩
      have n5_ : Aside0 (Below w.heap.size w w10) := ⟨h5_⟩
      clear HB
      clear h0_ h1_ h2_ h3_ h4_ h5_
      have HO189 := n0_
      have HO192 := n1_
      have BK193 := n2_
      have GW193 := n3_
      have GE193 := n4_
      have HB := n5_
      clear n0_ n1_ n2_ n3_ n4_ n5_
      have hHeld := trivial
      refine norm_ (a' := ?_) ?_ ?_
      rotate_left
      ·simp only [putAll, Act.put, List.setIfInBounds_toArray, List.set_cons_zero, List.set_cons_succ]
       rfl
      refine one_ (i := 1) (N := some 13) #[I,I,I,I,O,I,O] rfl rfl (by kernel_rfl) (by decide) (fun K hK => ?_)
      have hcv11 := own_string (P := Try.prog) Try.underlying23 Try.underlying5 Try.underlying9 (Kd.own_of_R HO189.out)
      refine value_ (w1 := ?_) (v := ?_) (by rfl) rfl ?_ ?_
      rotate_left 2
      ·go_simp
       constructor
       ·rfl
       ·rfl
      clear hcv11
      refine hK.out _ _ trivial (fun hHeld => ?_)
      clear hK K
      refine norm_ (a' := ?_) ?_ ?_
      rotate_left
      ·show Act.put _ (some 13) _ = _
       simp only [Act.put, List.setIfInBounds_toArray, List.set_cons_zero, List.set_cons_succ, i64_w, i32_w]
       rfl
      refine pure_ (i := 4) (N := some 16) (v := ?_) (a' := ?_) #[I,I,I,I,I,I,O] rfl rfl (by kernel_rfl) (fun _ _ _ h => h) (Or.inl ⟨by rfl, ?_⟩) ?_ ?_
      rotate_left
      ·intro w'
       go_simp
       with_reducible rfl
      rotate_left
      ·simp only [Act.put, List.setIfInBounds_toArray, List.set_cons_zero, List.set_cons_succ, i64_w, i32_w]
       rfl
      exact norm_ (by first | (simp only [putAll, Act.put, List.setIfInBounds_toArray, List.set_cons_zero, List.set_cons_succ]; done) | (simp only [putAll, Act.put, List.setIfInBounds_toArray, List.set_cons_zero, List.set_cons_succ]; rfl)) (hJ0_1_2_3_5 (v188, v191, gb193) _ ⟨(rk HO189.out), (rk HO192.out), (bk BK193.out), GW193.out, GE193.out, bo⟩)
    ·skip
     rintro ⟨v188, v191, gb193⟩ w10 ⟨h0_, h1_, h2_, h3_, h4_, h5_⟩
     have n0_ : Aside0 (Kd.R (Kd.int .u8) 5 w10 w.heap.size (fun k_ => some k_ ≠ (v191 : Value).ownBlock) v188 y187) := ⟨h0_⟩
     have n1_ : Aside0 (Kd.R (Kd.int .u8) 5 w10 w.heap.size (fun k_ => some k_ ≠ (v188 : Value).ownBlock) v191 y190) := ⟨h1_⟩
     have n2_ : Aside0 (w10.heap[gb193]? = some (.cells #[.int .i64 0, .int .i64 0, .string (⟨#[]⟩ : ByteArray), .string (⟨#[]⟩ : ByteArray), .int .i64 0, .bool false] 25 (0, 0))) := ⟨h2_⟩
     have n3_ : Aside0 (w.heap.size ≤ gb193) := ⟨h3_⟩
     have n4_ : Aside0 (w.heap.size ≤ gb193) := ⟨h4_⟩
     have n5_ : Aside0 (Below w.heap.size w w10) := ⟨h5_⟩
     clear HB
     clear h0_ h1_ h2_ h3_ h4_ h5_
     have HO189 := n0_
     have HO192 := n1_
     have BK193 := n2_
     have GW193 := n3_
     have GE193 := n4_
     have HB := n5_
     clear n0_ n1_ n2_ n3_ n4_ n5_
     have hHeld := trivial
     refine norm_ (a' := ?_) ?_ ?_
     rotate_left
     ·simp only [putAll, Act.put, List.setIfInBounds_toArray, List.set_cons_zero, List.set_cons_succ]
      rfl
     refine one_ (i := 3) (N := some 15) #[I,I,I,I,O,I,O] rfl rfl (by kernel_rfl) (by decide) (fun K hK => ?_)
     have hcv11 := own_string (P := Try.prog) Try.underlying23 Try.underlying5 Try.underlying9 (Kd.own_of_R HO192.out)
     refine value_ (w1 := ?_) (v := ?_) (by rfl) rfl ?_ ?_
     rotate_left 2
     ·go_simp
      constructor
      ·rfl
      ·rfl
     clear hcv11
     refine hK.out _ _ trivial (fun hHeld => ?_)
     clear hK K
     refine norm_ (a' := ?_) ?_ ?_
     rotate_left
     ·show Act.put _ (some 15) _ = _
      simp only [Act.put, List.setIfInBounds_toArray, List.set_cons_zero, List.set_cons_succ, i64_w, i32_w]
      rfl
     refine pure_ (i := 4) (N := some 16) (v := ?_) (a' := ?_) #[I,I,I,I,I,I,O] rfl rfl (by kernel_rfl) (fun _ _ _ h => h) (Or.inl ⟨by rfl, ?_⟩) ?_ ?_
     rotate_left
     ·intro w'
      go_simp
      with_reducible rfl
     rotate_left
     ·simp only [Act.put, List.setIfInBounds_toArray, List.set_cons_zero, List.set_cons_succ, i64_w, i32_w]
      rfl
     exact norm_ (by first | (simp only [putAll, Act.put, List.setIfInBounds_toArray, List.set_cons_zero, List.set_cons_succ]; done) | (simp only [putAll, Act.put, List.setIfInBounds_toArray, List.set_cons_zero, List.set_cons_succ]; rfl)) (hJ0_1_2_3_5 (v188, v191, gb193) _ ⟨(rk HO189.out), (rk HO192.out), (bk BK193.out), GW193.out, GE193.out, bo⟩)
   ·skip
    rintro ⟨v188, v191⟩ w10 ⟨h0_, h1_, h2_⟩
    have n0_ : Aside0 (Kd.R (Kd.int .u8) 5 w10 w.heap.size (fun k_ => some k_ ≠ (v191 : Value).ownBlock) v188 y187) := ⟨h0_⟩
    have n1_ : Aside0 (Kd.R (Kd.int .u8) 5 w10 w.heap.size (fun k_ => some k_ ≠ (v188 : Value).ownBlock) v191 y190) := ⟨h1_⟩
    have n2_ : Aside0 (Below w.heap.size w w10) := ⟨h2_⟩
    clear HB
    clear h0_ h1_ h2_
    have HO189 := n0_
    have HO192 := n1_
    have HB := n2_
    clear n0_ n1_ n2_
    have hHeld := trivial
    refine norm_ (a' := ?_) ?_ ?_
    rotate_left
    ·simp only [putAll, Act.put, List.setIfInBounds_toArray, List.set_cons_zero, List.set_cons_succ]
     rfl
    refine one_ (i := 5) (N := some 3) #[I,I,I,I,I,I,O] rfl rfl (by kernel_rfl) (by decide) (fun K hK => ?_)
    refine box_step ?hg (N := 3) ?hd (cs := #[.int .i64 0, .int .i64 0, .string (⟨#[]⟩ : ByteArray), .string (⟨#[]⟩ : ByteArray), .int .i64 0, .bool false]) (t := 25) ?hr ?_; (case hd => rfl); (case hg => rfl); (case hr => first | (go_simp; done) | (go_simp; rfl))
    intro gb193 hg w11 hbox hb
    replace HO189 := Aside0.mk (Kd.R_below (rk HO189.out) hb)
    replace HO192 := Aside0.mk (Kd.R_below (rk HO192.out) hb)
    have BK193 := Aside0.mk (hbox)
    have GW193 := Aside0.mk ((by rw [hg]; exact (below_size bo) : w.heap.size ≤ gb193))
    have GE193 := Aside0.mk ((by rw [hg]; exact (below_size bo) : w.heap.size ≤ gb193))
    replace HB := Aside0.mk (below_step bo hb)
    clear hb hbox hg
    refine hK.out _ _ trivial (fun hHeld => ?_)
    clear hK K
    refine norm_ (a' := ?_) ?_ ?_
    rotate_left
    ·show Act.put _ (some 3) _ = _
     simp only [Act.put, List.setIfInBounds_toArray, List.set_cons_zero, List.set_cons_succ, i64_w, i32_w]
     rfl
    exact norm_ (by first | (simp only [putAll, Act.put, List.setIfInBounds_toArray, List.set_cons_zero, List.set_cons_succ]; done) | (simp only [putAll, Act.put, List.setIfInBounds_toArray, List.set_cons_zero, List.set_cons_succ]; rfl)) (hJ0_1_2_3_5 (v188, v191, gb193) _ ⟨(rk HO189.out), (rk HO192.out), (bk BK193.out), GW193.out, GE193.out, bo⟩)
  rintro ⟨v188, v191, gb193⟩ w11 ⟨h0_, h1_, h2_, h3_, h4_, h5_⟩
  have n0_ : Aside0 (Kd.R (Kd.int .u8) 5 w11 w.heap.size (fun k_ => some k_ ≠ (v191 : Value).ownBlock) v188 y187) := ⟨h0_⟩
  have n1_ : Aside0 (Kd.R (Kd.int .u8) 5 w11 w.heap.size (fun k_ => some k_ ≠ (v188 : Value).ownBlock) v191 y190) := ⟨h1_⟩
  have n2_ : Aside0 (w11.heap[gb193]? = some (.cells #[.int .i64 0, .int .i64 0, .string (⟨#[]⟩ : ByteArray), .string (⟨#[]⟩ : ByteArray), .int .i64 0, .bool false] 25 (0, 0))) := ⟨h2_⟩
  have n3_ : Aside0 (w.heap.size ≤ gb193) := ⟨h3_⟩
  have n4_ : Aside0 (w.heap.size ≤ gb193) := ⟨h4_⟩
  have n5_ : Aside0 (Below w.heap.size w w11) := ⟨h5_⟩
  clear HB
  clear h0_ h1_ h2_ h3_ h4_ h5_
  have HO189 := n0_
  have HO192 := n1_
  have BK193 := n2_
  have GW193 := n3_
  have GE193 := n4_
  have HB := n5_
  clear n0_ n1_ n2_ n3_ n4_ n5_
  have hHeld := trivial
  refine norm_ (a' := ?_) ?_ ?_
  rotate_left
  ·simp only [putAll, Act.put, List.setIfInBounds_toArray, List.set_cons_zero, List.set_cons_succ]
   rfl
  refine one_ (i := 6) (N := none) #[I,I,I,I,I,I,I] rfl rfl (by kernel_rfl) (by decide) (fun K hK => ?_)
  have hs12 : w11.cell? ⟨gb193, 0, none⟩ = some (.int .i64 0) := (blk_cell BK193.out 0).trans rfl
  have hfs12 := blk_frozen BK193.out 0
  have hs13 : w11.cell? ⟨gb193, 1, none⟩ = some (.int .i64 0) := (blk_cell BK193.out 1).trans rfl
  have hfs13 := blk_frozen BK193.out 1
  have hs14 : w11.cell? ⟨gb193, 2, none⟩ = some (.string (⟨#[]⟩ : ByteArray)) := (blk_cell BK193.out 2).trans rfl
  have hfs14 := blk_frozen BK193.out 2
  have hs15 : w11.cell? ⟨gb193, 3, none⟩ = some (.string (⟨#[]⟩ : ByteArray)) := (blk_cell BK193.out 3).trans rfl
  have hfs15 := blk_frozen BK193.out 3
  have hs16 : w11.cell? ⟨gb193, 4, none⟩ = some (.int .i64 0) := (blk_cell BK193.out 4).trans rfl
  have hfs16 := blk_frozen BK193.out 4
  have hs17 : w11.cell? ⟨gb193, 5, none⟩ = some (.bool false) := (blk_cell BK193.out 5).trans rfl
  have hfs17 := blk_frozen BK193.out 5
  refine skip_ (w1 := ?_) (by rfl) rfl ?_ ?_
  rotate_left
  ·go_simp
   rfl
  refine hK.out _ _ trivial (fun hHeld => ?_)
  clear hK K
  refine done_ (by kernel_rfl) ?_
  try go_wp2
  go_loopg [4] k (fun kq v4 w' => ∃ (x4_1 : Int), v4 = .int .i64 x4_1 ∧ Aside0 (fairwaylaw10_RecEdges.l0 kq l0 x4_1 1099511627775 1099511627776 (strOfNums y187) (strOfNums y190) 2 false = some r) ∧ Aside0 (kq ≤ k) ∧ Aside0 (w'.heap[gb193]? = some (.cells #[.int .i64 1099511627775, .int .i64 1099511627776, .string (strOfNums y187), .string (strOfNums y190), .int .i64 2, .bool false] 25 (0, 0))) ∧ Aside0 (Below w.heap.size w w'))
  case atStart => exact ⟨(0), ap, H', ⟨Nat.le_refl _⟩, ⟨by (with_reducible repeat (first | refine blk_drewN ?_ _ | refine blk_drew ?_ | refine blk_alloc ?_ _)); refine blk_put (cs := #[.int .i64 1099511627775, .int .i64 1099511627776, .string (strOfNums y187), .string (strOfNums y190), .int .i64 2, .bool false]) ?_ 5 _ rfl; (with_reducible repeat (first | refine blk_drewN ?_ _ | refine blk_drew ?_ | refine blk_alloc ?_ _)); refine blk_put (cs := #[.int .i64 1099511627775, .int .i64 1099511627776, .string (strOfNums y187), .string (strOfNums y190), .int .i64 0, .bool false]) ?_ 4 _ rfl; (with_reducible repeat (first | refine blk_drewN ?_ _ | refine blk_drew ?_ | refine blk_alloc ?_ _)); refine blk_put (cs := #[.int .i64 1099511627775, .int .i64 1099511627776, .string (strOfNums y187), .string (⟨#[]⟩ : ByteArray), .int .i64 0, .bool false]) ?_ 3 _ rfl; (with_reducible repeat (first | refine blk_drewN ?_ _ | refine blk_drew ?_ | refine blk_alloc ?_ _)); refine blk_put (cs := #[.int .i64 1099511627775, .int .i64 1099511627776, .string (⟨#[]⟩ : ByteArray), .string (⟨#[]⟩ : ByteArray), .int .i64 0, .bool false]) ?_ 2 _ rfl; (with_reducible repeat (first | refine blk_drewN ?_ _ | refine blk_drew ?_ | refine blk_alloc ?_ _)); refine blk_put (cs := #[.int .i64 1099511627775, .int .i64 0, .string (⟨#[]⟩ : ByteArray), .string (⟨#[]⟩ : ByteArray), .int .i64 0, .bool false]) ?_ 1 _ rfl; (with_reducible repeat (first | refine blk_drewN ?_ _ | refine blk_drew ?_ | refine blk_alloc ?_ _)); refine blk_put (cs := #[.int .i64 0, .int .i64 0, .string (⟨#[]⟩ : ByteArray), .string (⟨#[]⟩ : ByteArray), .int .i64 0, .bool false]) ?_ 0 _ rfl; (with_reducible repeat (first | refine blk_drewN ?_ _ | refine blk_drew ?_ | refine blk_alloc ?_ _)); exact BK193.out⟩, ⟨bo⟩⟩
  case round =>
   clear H'
   try clear hcv1
   try clear p2
   try clear hcv9
   try clear hcv10
   try clear hcv11
   obtain ⟨x4_1, rfl, HA, HK1, BK193, HB⟩ := hrel
   cases gk with
   | zero => exact absurd HA.out (by simp [fairwaylaw10_RecEdges.l0])
   | succ k1 =>
    have H := HA.out
    clear HA
    simp only [fairwaylaw10_RecEdges.l0] at H
    by_cases c18 : x4_1 < 8
    ·rw [if_pos c18] at H
     have c18b0 : decide (x4_1 < 8) = true := decide_eq_true c18
     clear c18
     have HC19 := Aside0.mk H
     clear H
     have hcz20_0 : wr.cell? ⟨gb193, 0, none⟩ = some (.int .i64 1099511627775) := (blk_cell BK193.out 0).trans rfl
     have hcz20_1 : wr.cell? ⟨gb193, 1, none⟩ = some (.int .i64 1099511627776) := (blk_cell BK193.out 1).trans rfl
     have hcz20_2 : wr.cell? ⟨gb193, 2, none⟩ = some (.string (strOfNums y187)) := (blk_cell BK193.out 2).trans rfl
     have hcz20_3 : wr.cell? ⟨gb193, 3, none⟩ = some (.string (strOfNums y190)) := (blk_cell BK193.out 3).trans rfl
     have hcz20_4 : wr.cell? ⟨gb193, 4, none⟩ = some (.int .i64 2) := (blk_cell BK193.out 4).trans rfl
     have hcz20_5 : wr.cell? ⟨gb193, 5, none⟩ = some (.bool false) := (blk_cell BK193.out 5).trans rfl
     have hfz20_0 := blk_frozen BK193.out 0
     have hfz20_1 := blk_frozen BK193.out 1
     have hfz20_2 := blk_frozen BK193.out 2
     have hfz20_3 := blk_frozen BK193.out 3
     have hfz20_4 := blk_frozen BK193.out 4
     have hfz20_5 := blk_frozen BK193.out 5
     go_upto_block 2 with (first | ((with_reducible refine gate_dst (N := 5) rfl ?_); (try (refine gate_guard (by rfl) ?_; dsimp only)); refine box_event ?hg (N := 5) ?hd (cs := #[.int .i64 0, .int .i64 0, .string (⟨#[]⟩ : ByteArray), .string (⟨#[]⟩ : ByteArray), .int .i64 0, .bool false]) (t := 25) ?hr ?_; (case hd => rfl); (case hg => rfl); (case hr => first | (go_simp; done) | (go_simp; rfl)); intro gb195 hg w21 hbox hb; have BK195 := Aside0.mk (hbox); have GW195 := Aside0.mk ((by rw [hg]; exact (below_size bo) : w.heap.size ≤ gb195)); have GE195 := Aside0.mk ((by rw [hg]; exact (below_size bo) : w.heap.size ≤ gb195)); replace HB := Aside0.mk (below_step bo hb); have NB193_195 := Aside0.mk ((by rw [hg]; exact Nat.ne_of_lt (blk_lt (g := gb193) (o := .cells #[.int .i64 1099511627775, .int .i64 1099511627776, .string (strOfNums y187), .string (strOfNums y190), .int .i64 2, .bool false] 25 (0, 0)) (bk BK193.out)) : gb193 ≠ gb195)); have NB195_193 := Aside0.mk ((by rw [hg]; exact Nat.ne_of_gt (blk_lt (g := gb193) (o := .cells #[.int .i64 1099511627775, .int .i64 1099511627776, .string (strOfNums y187), .string (strOfNums y190), .int .i64 2, .bool false] 25 (0, 0)) (bk BK193.out)) : gb195 ≠ gb193)); replace BK193 := Aside0.mk (blk_below (g := gb193) (o := .cells #[.int .i64 1099511627775, .int .i64 1099511627776, .string (strOfNums y187), .string (strOfNums y190), .int .i64 2, .bool false] 25 (0, 0)) (bk BK193.out) hb); clear hb hbox hg; have hnb22 := NB195_193.out; have hnc22 := NB193_195.out; obtain ⟨hcz23_0, hcz23_1, hcz23_2, hcz23_3, hcz23_4, hcz23_5⟩ := cl6 BK195.out; obtain ⟨hfz23_0, hfz23_1, hfz23_2, hfz23_3, hfz23_4, hfz23_5⟩ := fz6 BK195.out))
     (try simp only [Act.put, List.setIfInBounds_toArray, List.set_cons_zero, List.set_cons_succ])
     go_cut [] (fun wc => ∃ (kq : Nat) (x196000_18 : Int) (x196001_18 : Int) (x196002_18 : ByteArray) (x196003_18 : ByteArray) (x196004_18 : Int) (x196005_18 : Bool), Aside0 (fairwaylaw10_RecEdges.j1 kq l0 x4_1 1099511627775 1099511627776 (strOfNums y187) (strOfNums y190) 2 false x196000_18 x196001_18 x196002_18 x196003_18 x196004_18 x196005_18 = some r) ∧ Aside0 (kq ≤ k1) ∧ Aside0 (wc.heap[gb193]? = some (.cells #[.int .i64 1099511627775, .int .i64 1099511627776, .string (strOfNums y187), .string (strOfNums y190), .int .i64 2, .bool false] 25 (0, 0))) ∧ Aside0 (wc.heap[gb195]? = some (.cells #[.int .i64 x196000_18, .int .i64 x196001_18, .string x196002_18, .string x196003_18, .int .i64 x196004_18, .bool x196005_18] 25 (0, 0))) ∧ Aside0 (Below w.heap.size w wc))
     case first =>
      have H := HC19.out
      clear HC19
      by_cases c24 : x4_1 = 1
      ·rw [if_pos c24] at H
       have c24b0 : (x4_1 == 1) = true := beq_iff_eq.mpr c24
       have c24b1 : (x4_1 != 1) = false := bne_eq_false_iff_eq.mpr c24
       clear c24
       (first | rw [c24b0] | (simp only [i64_w, i32_w]; rw [c24b0]) | skip)
       have H' := Aside0.mk H
       clear H
       have hnb25 := NB195_193.out
       have hnc25 := NB193_195.out
       have hcz26_0 : w21.cell? ⟨gb195, 0, none⟩ = some (.int .i64 0) := (blk_cell BK195.out 0).trans rfl
       have hcz26_1 : w21.cell? ⟨gb195, 1, none⟩ = some (.int .i64 0) := (blk_cell BK195.out 1).trans rfl
       have hcz26_2 : w21.cell? ⟨gb195, 2, none⟩ = some (.string (⟨#[]⟩ : ByteArray)) := (blk_cell BK195.out 2).trans rfl
       have hcz26_3 : w21.cell? ⟨gb195, 3, none⟩ = some (.string (⟨#[]⟩ : ByteArray)) := (blk_cell BK195.out 3).trans rfl
       have hcz26_4 : w21.cell? ⟨gb195, 4, none⟩ = some (.int .i64 0) := (blk_cell BK195.out 4).trans rfl
       have hcz26_5 : w21.cell? ⟨gb195, 5, none⟩ = some (.bool false) := (blk_cell BK195.out 5).trans rfl
       have hfz26_0 := blk_frozen BK195.out 0
       have hfz26_1 := blk_frozen BK195.out 1
       have hfz26_2 := blk_frozen BK195.out 2
       have hfz26_3 := blk_frozen BK195.out 3
       have hfz26_4 := blk_frozen BK195.out 4
       have hfz26_5 := blk_frozen BK195.out 5
       go_wp2
       go_meet
       case rel => exact ⟨_, (1099511627776), (1099511627776), ((strOfNums y187)), ((strOfNums y190)), (2), (false), H', ⟨by have := HK1.out; first | omega | exact Nat.le_refl _⟩, ⟨by (with_reducible repeat (first | refine blk_drewN ?_ _ | refine blk_drew ?_ | refine blk_alloc ?_ _)); refine blk_far ?_ NB193_195.out _; (with_reducible repeat (first | refine blk_drewN ?_ _ | refine blk_drew ?_ | refine blk_alloc ?_ _)); refine blk_far ?_ NB193_195.out _; (with_reducible repeat (first | refine blk_drewN ?_ _ | refine blk_drew ?_ | refine blk_alloc ?_ _)); refine blk_far ?_ NB193_195.out _; (with_reducible repeat (first | refine blk_drewN ?_ _ | refine blk_drew ?_ | refine blk_alloc ?_ _)); refine blk_far ?_ NB193_195.out _; (with_reducible repeat (first | refine blk_drewN ?_ _ | refine blk_drew ?_ | refine blk_alloc ?_ _)); refine blk_far ?_ NB193_195.out _; (with_reducible repeat (first | refine blk_drewN ?_ _ | refine blk_drew ?_ | refine blk_alloc ?_ _)); refine blk_far ?_ NB193_195.out _; (with_reducible repeat (first | refine blk_drewN ?_ _ | refine blk_drew ?_ | refine blk_alloc ?_ _)); refine blk_far ?_ NB193_195.out _; (with_reducible repeat (first | refine blk_drewN ?_ _ | refine blk_drew ?_ | refine blk_alloc ?_ _)); exact BK193.out⟩, ⟨by (with_reducible repeat (first | refine blk_drewN ?_ _ | refine blk_drew ?_ | refine blk_alloc ?_ _)); refine blk_put (cs := #[.int .i64 1099511627775, .int .i64 1099511627776, .string (strOfNums y187), .string (strOfNums y190), .int .i64 2, .bool false]) ?_ 0 _ rfl; (with_reducible repeat (first | refine blk_drewN ?_ _ | refine blk_drew ?_ | refine blk_alloc ?_ _)); refine blk_put (cs := #[.int .i64 1099511627775, .int .i64 1099511627776, .string (strOfNums y187), .string (strOfNums y190), .int .i64 2, .bool false]) ?_ 5 _ rfl; (with_reducible repeat (first | refine blk_drewN ?_ _ | refine blk_drew ?_ | refine blk_alloc ?_ _)); refine blk_put (cs := #[.int .i64 1099511627775, .int .i64 1099511627776, .string (strOfNums y187), .string (strOfNums y190), .int .i64 0, .bool false]) ?_ 4 _ rfl; (with_reducible repeat (first | refine blk_drewN ?_ _ | refine blk_drew ?_ | refine blk_alloc ?_ _)); refine blk_put (cs := #[.int .i64 1099511627775, .int .i64 1099511627776, .string (strOfNums y187), .string (⟨#[]⟩ : ByteArray), .int .i64 0, .bool false]) ?_ 3 _ rfl; (with_reducible repeat (first | refine blk_drewN ?_ _ | refine blk_drew ?_ | refine blk_alloc ?_ _)); refine blk_put (cs := #[.int .i64 1099511627775, .int .i64 1099511627776, .string (⟨#[]⟩ : ByteArray), .string (⟨#[]⟩ : ByteArray), .int .i64 0, .bool false]) ?_ 2 _ rfl; (with_reducible repeat (first | refine blk_drewN ?_ _ | refine blk_drew ?_ | refine blk_alloc ?_ _)); refine blk_put (cs := #[.int .i64 1099511627775, .int .i64 0, .string (⟨#[]⟩ : ByteArray), .string (⟨#[]⟩ : ByteArray), .int .i64 0, .bool false]) ?_ 1 _ rfl; (with_reducible repeat (first | refine blk_drewN ?_ _ | refine blk_drew ?_ | refine blk_alloc ?_ _)); refine blk_put (cs := #[.int .i64 0, .int .i64 0, .string (⟨#[]⟩ : ByteArray), .string (⟨#[]⟩ : ByteArray), .int .i64 0, .bool false]) ?_ 0 _ rfl; (with_reducible repeat (first | refine blk_drewN ?_ _ | refine blk_drew ?_ | refine blk_alloc ?_ _)); exact BK195.out⟩, ⟨bo⟩⟩
      ·rw [if_neg c24] at H
       have c24b0 : (x4_1 == 1) = false := beq_eq_false_iff_ne.mpr c24
       have c24b1 : (x4_1 != 1) = true := bne_iff_ne.mpr c24
       (first | rw [c24b0] | (simp only [i64_w, i32_w]; rw [c24b0]) | skip)
       by_cases c27 : x4_1 = 2
       ·rw [if_pos c27] at H
        have c27b0 : (x4_1 == 2) = true := beq_iff_eq.mpr c27
        have c27b1 : (x4_1 != 2) = false := bne_eq_false_iff_eq.mpr c27
        clear c27
        have H' := Aside0.mk H
        clear H
        have hnb28 := NB195_193.out
        have hnc28 := NB193_195.out
        have hcz29_0 : w21.cell? ⟨gb195, 0, none⟩ = some (.int .i64 0) := (blk_cell BK195.out 0).trans rfl
        have hcz29_1 : w21.cell? ⟨gb195, 1, none⟩ = some (.int .i64 0) := (blk_cell BK195.out 1).trans rfl
        have hcz29_2 : w21.cell? ⟨gb195, 2, none⟩ = some (.string (⟨#[]⟩ : ByteArray)) := (blk_cell BK195.out 2).trans rfl
        have hcz29_3 : w21.cell? ⟨gb195, 3, none⟩ = some (.string (⟨#[]⟩ : ByteArray)) := (blk_cell BK195.out 3).trans rfl
        have hcz29_4 : w21.cell? ⟨gb195, 4, none⟩ = some (.int .i64 0) := (blk_cell BK195.out 4).trans rfl
        have hcz29_5 : w21.cell? ⟨gb195, 5, none⟩ = some (.bool false) := (blk_cell BK195.out 5).trans rfl
        have hfz29_0 := blk_frozen BK195.out 0
        have hfz29_1 := blk_frozen BK195.out 1
        have hfz29_2 := blk_frozen BK195.out 2
        have hfz29_3 := blk_frozen BK195.out 3
        have hfz29_4 := blk_frozen BK195.out 4
        have hfz29_5 := blk_frozen BK195.out 5
        go_wp2
        go_meet
        case rel => exact ⟨_, (1099511627775), (1099511627777), ((strOfNums y187)), ((strOfNums y190)), (2), (false), H', ⟨by have := HK1.out; first | omega | exact Nat.le_refl _⟩, ⟨by (with_reducible repeat (first | refine blk_drewN ?_ _ | refine blk_drew ?_ | refine blk_alloc ?_ _)); refine blk_far ?_ NB193_195.out _; (with_reducible repeat (first | refine blk_drewN ?_ _ | refine blk_drew ?_ | refine blk_alloc ?_ _)); refine blk_far ?_ NB193_195.out _; (with_reducible repeat (first | refine blk_drewN ?_ _ | refine blk_drew ?_ | refine blk_alloc ?_ _)); refine blk_far ?_ NB193_195.out _; (with_reducible repeat (first | refine blk_drewN ?_ _ | refine blk_drew ?_ | refine blk_alloc ?_ _)); refine blk_far ?_ NB193_195.out _; (with_reducible repeat (first | refine blk_drewN ?_ _ | refine blk_drew ?_ | refine blk_alloc ?_ _)); refine blk_far ?_ NB193_195.out _; (with_reducible repeat (first | refine blk_drewN ?_ _ | refine blk_drew ?_ | refine blk_alloc ?_ _)); refine blk_far ?_ NB193_195.out _; (with_reducible repeat (first | refine blk_drewN ?_ _ | refine blk_drew ?_ | refine blk_alloc ?_ _)); refine blk_far ?_ NB193_195.out _; (with_reducible repeat (first | refine blk_drewN ?_ _ | refine blk_drew ?_ | refine blk_alloc ?_ _)); exact BK193.out⟩, ⟨by (with_reducible repeat (first | refine blk_drewN ?_ _ | refine blk_drew ?_ | refine blk_alloc ?_ _)); refine blk_put (cs := #[.int .i64 1099511627775, .int .i64 1099511627776, .string (strOfNums y187), .string (strOfNums y190), .int .i64 2, .bool false]) ?_ 1 _ rfl; (with_reducible repeat (first | refine blk_drewN ?_ _ | refine blk_drew ?_ | refine blk_alloc ?_ _)); refine blk_put (cs := #[.int .i64 1099511627775, .int .i64 1099511627776, .string (strOfNums y187), .string (strOfNums y190), .int .i64 2, .bool false]) ?_ 5 _ rfl; (with_reducible repeat (first | refine blk_drewN ?_ _ | refine blk_drew ?_ | refine blk_alloc ?_ _)); refine blk_put (cs := #[.int .i64 1099511627775, .int .i64 1099511627776, .string (strOfNums y187), .string (strOfNums y190), .int .i64 0, .bool false]) ?_ 4 _ rfl; (with_reducible repeat (first | refine blk_drewN ?_ _ | refine blk_drew ?_ | refine blk_alloc ?_ _)); refine blk_put (cs := #[.int .i64 1099511627775, .int .i64 1099511627776, .string (strOfNums y187), .string (⟨#[]⟩ : ByteArray), .int .i64 0, .bool false]) ?_ 3 _ rfl; (with_reducible repeat (first | refine blk_drewN ?_ _ | refine blk_drew ?_ | refine blk_alloc ?_ _)); refine blk_put (cs := #[.int .i64 1099511627775, .int .i64 1099511627776, .string (⟨#[]⟩ : ByteArray), .string (⟨#[]⟩ : ByteArray), .int .i64 0, .bool false]) ?_ 2 _ rfl; (with_reducible repeat (first | refine blk_drewN ?_ _ | refine blk_drew ?_ | refine blk_alloc ?_ _)); refine blk_put (cs := #[.int .i64 1099511627775, .int .i64 0, .string (⟨#[]⟩ : ByteArray), .string (⟨#[]⟩ : ByteArray), .int .i64 0, .bool false]) ?_ 1 _ rfl; (with_reducible repeat (first | refine blk_drewN ?_ _ | refine blk_drew ?_ | refine blk_alloc ?_ _)); refine blk_put (cs := #[.int .i64 0, .int .i64 0, .string (⟨#[]⟩ : ByteArray), .string (⟨#[]⟩ : ByteArray), .int .i64 0, .bool false]) ?_ 0 _ rfl; (with_reducible repeat (first | refine blk_drewN ?_ _ | refine blk_drew ?_ | refine blk_alloc ?_ _)); exact BK195.out⟩, ⟨bo⟩⟩
       ·rw [if_neg c27] at H
        have c27b0 : (x4_1 == 2) = false := beq_eq_false_iff_ne.mpr c27
        have c27b1 : (x4_1 != 2) = true := bne_iff_ne.mpr c27
        by_cases c30 : x4_1 = 3
        ·rw [if_pos c30] at H
         have c30b0 : (x4_1 == 3) = true := beq_iff_eq.mpr c30
         have c30b1 : (x4_1 != 3) = false := bne_eq_false_iff_eq.mpr c30
         clear c30
         by_cases c31 : (strOfNums y187).size + 1 ≤ 9223372036854775807
         ·rw [if_pos c31] at H
          have c31b0 := eq_true c31
          have c31b1 : decide ((strOfNums y187).size + 1 ≤ 9223372036854775807) = true := decide_eq_true c31
          try have c31b2 : (9223372036854775807 < (strOfNums y187).size + 1) = False := eq_false (Nat.not_lt.2 c31)
          have H' := Aside0.mk H
          clear H
          have hnb32 := NB195_193.out
          have hnc32 := NB193_195.out
          have hcz33_0 : w21.cell? ⟨gb195, 0, none⟩ = some (.int .i64 0) := (blk_cell BK195.out 0).trans rfl
          have hcz33_1 : w21.cell? ⟨gb195, 1, none⟩ = some (.int .i64 0) := (blk_cell BK195.out 1).trans rfl
          have hcz33_2 : w21.cell? ⟨gb195, 2, none⟩ = some (.string (⟨#[]⟩ : ByteArray)) := (blk_cell BK195.out 2).trans rfl
          have hcz33_3 : w21.cell? ⟨gb195, 3, none⟩ = some (.string (⟨#[]⟩ : ByteArray)) := (blk_cell BK195.out 3).trans rfl
          have hcz33_4 : w21.cell? ⟨gb195, 4, none⟩ = some (.int .i64 0) := (blk_cell BK195.out 4).trans rfl
          have hcz33_5 : w21.cell? ⟨gb195, 5, none⟩ = some (.bool false) := (blk_cell BK195.out 5).trans rfl
          have hfz33_0 := blk_frozen BK195.out 0
          have hfz33_1 := blk_frozen BK195.out 1
          have hfz33_2 := blk_frozen BK195.out 2
          have hfz33_3 := blk_frozen BK195.out 3
          have hfz33_4 := blk_frozen BK195.out 4
          have hfz33_5 := blk_frozen BK195.out 5
          go_wp2
          go_meet
          case rel => exact ⟨_, (1099511627775), (1099511627776), ((strOfNums y187) ++ (⟨#[120]⟩ : ByteArray)), ((strOfNums y190)), (2), (false), H', ⟨by have := HK1.out; first | omega | exact Nat.le_refl _⟩, ⟨by (with_reducible repeat (first | refine blk_drewN ?_ _ | refine blk_drew ?_ | refine blk_alloc ?_ _)); refine blk_far ?_ NB193_195.out _; (with_reducible repeat (first | refine blk_drewN ?_ _ | refine blk_drew ?_ | refine blk_alloc ?_ _)); refine blk_far ?_ NB193_195.out _; (with_reducible repeat (first | refine blk_drewN ?_ _ | refine blk_drew ?_ | refine blk_alloc ?_ _)); refine blk_far ?_ NB193_195.out _; (with_reducible repeat (first | refine blk_drewN ?_ _ | refine blk_drew ?_ | refine blk_alloc ?_ _)); refine blk_far ?_ NB193_195.out _; (with_reducible repeat (first | refine blk_drewN ?_ _ | refine blk_drew ?_ | refine blk_alloc ?_ _)); refine blk_far ?_ NB193_195.out _; (with_reducible repeat (first | refine blk_drewN ?_ _ | refine blk_drew ?_ | refine blk_alloc ?_ _)); refine blk_far ?_ NB193_195.out _; (with_reducible repeat (first | refine blk_drewN ?_ _ | refine blk_drew ?_ | refine blk_alloc ?_ _)); refine blk_far ?_ NB193_195.out _; (with_reducible repeat (first | refine blk_drewN ?_ _ | refine blk_drew ?_ | refine blk_alloc ?_ _)); exact BK193.out⟩, ⟨by (with_reducible repeat (first | refine blk_drewN ?_ _ | refine blk_drew ?_ | refine blk_alloc ?_ _)); refine blk_put (cs := #[.int .i64 1099511627775, .int .i64 1099511627776, .string (strOfNums y187), .string (strOfNums y190), .int .i64 2, .bool false]) ?_ 2 _ rfl; (with_reducible repeat (first | refine blk_drewN ?_ _ | refine blk_drew ?_ | refine blk_alloc ?_ _)); refine blk_put (cs := #[.int .i64 1099511627775, .int .i64 1099511627776, .string (strOfNums y187), .string (strOfNums y190), .int .i64 2, .bool false]) ?_ 5 _ rfl; (with_reducible repeat (first | refine blk_drewN ?_ _ | refine blk_drew ?_ | refine blk_alloc ?_ _)); refine blk_put (cs := #[.int .i64 1099511627775, .int .i64 1099511627776, .string (strOfNums y187), .string (strOfNums y190), .int .i64 0, .bool false]) ?_ 4 _ rfl; (with_reducible repeat (first | refine blk_drewN ?_ _ | refine blk_drew ?_ | refine blk_alloc ?_ _)); refine blk_put (cs := #[.int .i64 1099511627775, .int .i64 1099511627776, .string (strOfNums y187), .string (⟨#[]⟩ : ByteArray), .int .i64 0, .bool false]) ?_ 3 _ rfl; (with_reducible repeat (first | refine blk_drewN ?_ _ | refine blk_drew ?_ | refine blk_alloc ?_ _)); refine blk_put (cs := #[.int .i64 1099511627775, .int .i64 1099511627776, .string (⟨#[]⟩ : ByteArray), .string (⟨#[]⟩ : ByteArray), .int .i64 0, .bool false]) ?_ 2 _ rfl; (with_reducible repeat (first | refine blk_drewN ?_ _ | refine blk_drew ?_ | refine blk_alloc ?_ _)); refine blk_put (cs := #[.int .i64 1099511627775, .int .i64 0, .string (⟨#[]⟩ : ByteArray), .string (⟨#[]⟩ : ByteArray), .int .i64 0, .bool false]) ?_ 1 _ rfl; (with_reducible repeat (first | refine blk_drewN ?_ _ | refine blk_drew ?_ | refine blk_alloc ?_ _)); refine blk_put (cs := #[.int .i64 0, .int .i64 0, .string (⟨#[]⟩ : ByteArray), .string (⟨#[]⟩ : ByteArray), .int .i64 0, .bool false]) ?_ 0 _ rfl; (with_reducible repeat (first | refine blk_drewN ?_ _ | refine blk_drew ?_ | refine blk_alloc ?_ _)); exact BK195.out⟩, ⟨bo⟩⟩
         ·rw [if_neg c31] at H
          exact absurd H (by simp)
        ·rw [if_neg c30] at H
         have c30b0 : (x4_1 == 3) = false := beq_eq_false_iff_ne.mpr c30
         have c30b1 : (x4_1 != 3) = true := bne_iff_ne.mpr c30
         by_cases c34 : x4_1 = 4
         ·rw [if_pos c34] at H
          have c34b0 : (x4_1 == 4) = true := beq_iff_eq.mpr c34
          have c34b1 : (x4_1 != 4) = false := bne_eq_false_iff_eq.mpr c34
          clear c34
          by_cases c35 : (strOfNums y190).size + 1 ≤ 9223372036854775807
          ·rw [if_pos c35] at H
           have c35b0 := eq_true c35
           have c35b1 : decide ((strOfNums y190).size + 1 ≤ 9223372036854775807) = true := decide_eq_true c35
           try have c35b2 : (9223372036854775807 < (strOfNums y190).size + 1) = False := eq_false (Nat.not_lt.2 c35)
           have H' := Aside0.mk H
           clear H
           have hnb36 := NB195_193.out
           have hnc36 := NB193_195.out
           have hcz37_0 : w21.cell? ⟨gb195, 0, none⟩ = some (.int .i64 0) := (blk_cell BK195.out 0).trans rfl
           have hcz37_1 : w21.cell? ⟨gb195, 1, none⟩ = some (.int .i64 0) := (blk_cell BK195.out 1).trans rfl
           have hcz37_2 : w21.cell? ⟨gb195, 2, none⟩ = some (.string (⟨#[]⟩ : ByteArray)) := (blk_cell BK195.out 2).trans rfl
           have hcz37_3 : w21.cell? ⟨gb195, 3, none⟩ = some (.string (⟨#[]⟩ : ByteArray)) := (blk_cell BK195.out 3).trans rfl
           have hcz37_4 : w21.cell? ⟨gb195, 4, none⟩ = some (.int .i64 0) := (blk_cell BK195.out 4).trans rfl
           have hcz37_5 : w21.cell? ⟨gb195, 5, none⟩ = some (.bool false) := (blk_cell BK195.out 5).trans rfl
           have hfz37_0 := blk_frozen BK195.out 0
           have hfz37_1 := blk_frozen BK195.out 1
           have hfz37_2 := blk_frozen BK195.out 2
           have hfz37_3 := blk_frozen BK195.out 3
           have hfz37_4 := blk_frozen BK195.out 4
           have hfz37_5 := blk_frozen BK195.out 5
           go_wp2
           go_meet
           case rel => exact ⟨_, (1099511627775), (1099511627776), ((strOfNums y187)), ((strOfNums y190) ++ (⟨#[120]⟩ : ByteArray)), (2), (false), H', ⟨by have := HK1.out; first | omega | exact Nat.le_refl _⟩, ⟨by (with_reducible repeat (first | refine blk_drewN ?_ _ | refine blk_drew ?_ | refine blk_alloc ?_ _)); refine blk_far ?_ NB193_195.out _; (with_reducible repeat (first | refine blk_drewN ?_ _ | refine blk_drew ?_ | refine blk_alloc ?_ _)); refine blk_far ?_ NB193_195.out _; (with_reducible repeat (first | refine blk_drewN ?_ _ | refine blk_drew ?_ | refine blk_alloc ?_ _)); refine blk_far ?_ NB193_195.out _; (with_reducible repeat (first | refine blk_drewN ?_ _ | refine blk_drew ?_ | refine blk_alloc ?_ _)); refine blk_far ?_ NB193_195.out _; (with_reducible repeat (first | refine blk_drewN ?_ _ | refine blk_drew ?_ | refine blk_alloc ?_ _)); refine blk_far ?_ NB193_195.out _; (with_reducible repeat (first | refine blk_drewN ?_ _ | refine blk_drew ?_ | refine blk_alloc ?_ _)); refine blk_far ?_ NB193_195.out _; (with_reducible repeat (first | refine blk_drewN ?_ _ | refine blk_drew ?_ | refine blk_alloc ?_ _)); refine blk_far ?_ NB193_195.out _; (with_reducible repeat (first | refine blk_drewN ?_ _ | refine blk_drew ?_ | refine blk_alloc ?_ _)); exact BK193.out⟩, ⟨by (with_reducible repeat (first | refine blk_drewN ?_ _ | refine blk_drew ?_ | refine blk_alloc ?_ _)); refine blk_put (cs := #[.int .i64 1099511627775, .int .i64 1099511627776, .string (strOfNums y187), .string (strOfNums y190), .int .i64 2, .bool false]) ?_ 3 _ rfl; (with_reducible repeat (first | refine blk_drewN ?_ _ | refine blk_drew ?_ | refine blk_alloc ?_ _)); refine blk_put (cs := #[.int .i64 1099511627775, .int .i64 1099511627776, .string (strOfNums y187), .string (strOfNums y190), .int .i64 2, .bool false]) ?_ 5 _ rfl; (with_reducible repeat (first | refine blk_drewN ?_ _ | refine blk_drew ?_ | refine blk_alloc ?_ _)); refine blk_put (cs := #[.int .i64 1099511627775, .int .i64 1099511627776, .string (strOfNums y187), .string (strOfNums y190), .int .i64 0, .bool false]) ?_ 4 _ rfl; (with_reducible repeat (first | refine blk_drewN ?_ _ | refine blk_drew ?_ | refine blk_alloc ?_ _)); refine blk_put (cs := #[.int .i64 1099511627775, .int .i64 1099511627776, .string (strOfNums y187), .string (⟨#[]⟩ : ByteArray), .int .i64 0, .bool false]) ?_ 3 _ rfl; (with_reducible repeat (first | refine blk_drewN ?_ _ | refine blk_drew ?_ | refine blk_alloc ?_ _)); refine blk_put (cs := #[.int .i64 1099511627775, .int .i64 1099511627776, .string (⟨#[]⟩ : ByteArray), .string (⟨#[]⟩ : ByteArray), .int .i64 0, .bool false]) ?_ 2 _ rfl; (with_reducible repeat (first | refine blk_drewN ?_ _ | refine blk_drew ?_ | refine blk_alloc ?_ _)); refine blk_put (cs := #[.int .i64 1099511627775, .int .i64 0, .string (⟨#[]⟩ : ByteArray), .string (⟨#[]⟩ : ByteArray), .int .i64 0, .bool false]) ?_ 1 _ rfl; (with_reducible repeat (first | refine blk_drewN ?_ _ | refine blk_drew ?_ | refine blk_alloc ?_ _)); refine blk_put (cs := #[.int .i64 0, .int .i64 0, .string (⟨#[]⟩ : ByteArray), .string (⟨#[]⟩ : ByteArray), .int .i64 0, .bool false]) ?_ 0 _ rfl; (with_reducible repeat (first | refine blk_drewN ?_ _ | refine blk_drew ?_ | refine blk_alloc ?_ _)); exact BK195.out⟩, ⟨bo⟩⟩
          ·rw [if_neg c35] at H
           exact absurd H (by simp)
         ·rw [if_neg c34] at H
          have c34b0 : (x4_1 == 4) = false := beq_eq_false_iff_ne.mpr c34
          have c34b1 : (x4_1 != 4) = true := bne_iff_ne.mpr c34
          by_cases c38 : x4_1 = 5
          ·rw [if_pos c38] at H
           have c38b0 : (x4_1 == 5) = true := beq_iff_eq.mpr c38
           have c38b1 : (x4_1 != 5) = false := bne_eq_false_iff_eq.mpr c38
           clear c38
           have H' := Aside0.mk H
           clear H
           have hnb39 := NB195_193.out
           have hnc39 := NB193_195.out
           have hcz40_0 : w21.cell? ⟨gb195, 0, none⟩ = some (.int .i64 0) := (blk_cell BK195.out 0).trans rfl
           have hcz40_1 : w21.cell? ⟨gb195, 1, none⟩ = some (.int .i64 0) := (blk_cell BK195.out 1).trans rfl
           have hcz40_2 : w21.cell? ⟨gb195, 2, none⟩ = some (.string (⟨#[]⟩ : ByteArray)) := (blk_cell BK195.out 2).trans rfl
           have hcz40_3 : w21.cell? ⟨gb195, 3, none⟩ = some (.string (⟨#[]⟩ : ByteArray)) := (blk_cell BK195.out 3).trans rfl
           have hcz40_4 : w21.cell? ⟨gb195, 4, none⟩ = some (.int .i64 0) := (blk_cell BK195.out 4).trans rfl
           have hcz40_5 : w21.cell? ⟨gb195, 5, none⟩ = some (.bool false) := (blk_cell BK195.out 5).trans rfl
           have hfz40_0 := blk_frozen BK195.out 0
           have hfz40_1 := blk_frozen BK195.out 1
           have hfz40_2 := blk_frozen BK195.out 2
           have hfz40_3 := blk_frozen BK195.out 3
           have hfz40_4 := blk_frozen BK195.out 4
           have hfz40_5 := blk_frozen BK195.out 5
           go_wp2
           go_meet
           case rel => exact ⟨_, (1099511627775), (1099511627776), ((strOfNums y187)), ((strOfNums y190)), (3), (false), H', ⟨by have := HK1.out; first | omega | exact Nat.le_refl _⟩, ⟨by (with_reducible repeat (first | refine blk_drewN ?_ _ | refine blk_drew ?_ | refine blk_alloc ?_ _)); refine blk_far ?_ NB193_195.out _; (with_reducible repeat (first | refine blk_drewN ?_ _ | refine blk_drew ?_ | refine blk_alloc ?_ _)); refine blk_far ?_ NB193_195.out _; (with_reducible repeat (first | refine blk_drewN ?_ _ | refine blk_drew ?_ | refine blk_alloc ?_ _)); refine blk_far ?_ NB193_195.out _; (with_reducible repeat (first | refine blk_drewN ?_ _ | refine blk_drew ?_ | refine blk_alloc ?_ _)); refine blk_far ?_ NB193_195.out _; (with_reducible repeat (first | refine blk_drewN ?_ _ | refine blk_drew ?_ | refine blk_alloc ?_ _)); refine blk_far ?_ NB193_195.out _; (with_reducible repeat (first | refine blk_drewN ?_ _ | refine blk_drew ?_ | refine blk_alloc ?_ _)); refine blk_far ?_ NB193_195.out _; (with_reducible repeat (first | refine blk_drewN ?_ _ | refine blk_drew ?_ | refine blk_alloc ?_ _)); refine blk_far ?_ NB193_195.out _; (with_reducible repeat (first | refine blk_drewN ?_ _ | refine blk_drew ?_ | refine blk_alloc ?_ _)); exact BK193.out⟩, ⟨by (with_reducible repeat (first | refine blk_drewN ?_ _ | refine blk_drew ?_ | refine blk_alloc ?_ _)); refine blk_put (cs := #[.int .i64 1099511627775, .int .i64 1099511627776, .string (strOfNums y187), .string (strOfNums y190), .int .i64 2, .bool false]) ?_ 4 _ rfl; (with_reducible repeat (first | refine blk_drewN ?_ _ | refine blk_drew ?_ | refine blk_alloc ?_ _)); refine blk_put (cs := #[.int .i64 1099511627775, .int .i64 1099511627776, .string (strOfNums y187), .string (strOfNums y190), .int .i64 2, .bool false]) ?_ 5 _ rfl; (with_reducible repeat (first | refine blk_drewN ?_ _ | refine blk_drew ?_ | refine blk_alloc ?_ _)); refine blk_put (cs := #[.int .i64 1099511627775, .int .i64 1099511627776, .string (strOfNums y187), .string (strOfNums y190), .int .i64 0, .bool false]) ?_ 4 _ rfl; (with_reducible repeat (first | refine blk_drewN ?_ _ | refine blk_drew ?_ | refine blk_alloc ?_ _)); refine blk_put (cs := #[.int .i64 1099511627775, .int .i64 1099511627776, .string (strOfNums y187), .string (⟨#[]⟩ : ByteArray), .int .i64 0, .bool false]) ?_ 3 _ rfl; (with_reducible repeat (first | refine blk_drewN ?_ _ | refine blk_drew ?_ | refine blk_alloc ?_ _)); refine blk_put (cs := #[.int .i64 1099511627775, .int .i64 1099511627776, .string (⟨#[]⟩ : ByteArray), .string (⟨#[]⟩ : ByteArray), .int .i64 0, .bool false]) ?_ 2 _ rfl; (with_reducible repeat (first | refine blk_drewN ?_ _ | refine blk_drew ?_ | refine blk_alloc ?_ _)); refine blk_put (cs := #[.int .i64 1099511627775, .int .i64 0, .string (⟨#[]⟩ : ByteArray), .string (⟨#[]⟩ : ByteArray), .int .i64 0, .bool false]) ?_ 1 _ rfl; (with_reducible repeat (first | refine blk_drewN ?_ _ | refine blk_drew ?_ | refine blk_alloc ?_ _)); refine blk_put (cs := #[.int .i64 0, .int .i64 0, .string (⟨#[]⟩ : ByteArray), .string (⟨#[]⟩ : ByteArray), .int .i64 0, .bool false]) ?_ 0 _ rfl; (with_reducible repeat (first | refine blk_drewN ?_ _ | refine blk_drew ?_ | refine blk_alloc ?_ _)); exact BK195.out⟩, ⟨bo⟩⟩
          ·rw [if_neg c38] at H
           have c38b0 : (x4_1 == 5) = false := beq_eq_false_iff_ne.mpr c38
           have c38b1 : (x4_1 != 5) = true := bne_iff_ne.mpr c38
           by_cases c41 : x4_1 = 6
           ·rw [if_pos c41] at H
            have c41b0 : (x4_1 == 6) = true := beq_iff_eq.mpr c41
            have c41b1 : (x4_1 != 6) = false := bne_eq_false_iff_eq.mpr c41
            clear c41
            have H' := Aside0.mk H
            clear H
            have hnb42 := NB195_193.out
            have hnc42 := NB193_195.out
            have hcz43_0 : w21.cell? ⟨gb195, 0, none⟩ = some (.int .i64 0) := (blk_cell BK195.out 0).trans rfl
            have hcz43_1 : w21.cell? ⟨gb195, 1, none⟩ = some (.int .i64 0) := (blk_cell BK195.out 1).trans rfl
            have hcz43_2 : w21.cell? ⟨gb195, 2, none⟩ = some (.string (⟨#[]⟩ : ByteArray)) := (blk_cell BK195.out 2).trans rfl
            have hcz43_3 : w21.cell? ⟨gb195, 3, none⟩ = some (.string (⟨#[]⟩ : ByteArray)) := (blk_cell BK195.out 3).trans rfl
            have hcz43_4 : w21.cell? ⟨gb195, 4, none⟩ = some (.int .i64 0) := (blk_cell BK195.out 4).trans rfl
            have hcz43_5 : w21.cell? ⟨gb195, 5, none⟩ = some (.bool false) := (blk_cell BK195.out 5).trans rfl
            have hfz43_0 := blk_frozen BK195.out 0
            have hfz43_1 := blk_frozen BK195.out 1
            have hfz43_2 := blk_frozen BK195.out 2
            have hfz43_3 := blk_frozen BK195.out 3
            have hfz43_4 := blk_frozen BK195.out 4
            have hfz43_5 := blk_frozen BK195.out 5
            go_wp2
            go_meet
            case rel => exact ⟨_, (1099511627775), (1099511627776), ((strOfNums y187)), ((strOfNums y190)), (2), (true), H', ⟨by have := HK1.out; first | omega | exact Nat.le_refl _⟩, ⟨by (with_reducible repeat (first | refine blk_drewN ?_ _ | refine blk_drew ?_ | refine blk_alloc ?_ _)); refine blk_far ?_ NB193_195.out _; (with_reducible repeat (first | refine blk_drewN ?_ _ | refine blk_drew ?_ | refine blk_alloc ?_ _)); refine blk_far ?_ NB193_195.out _; (with_reducible repeat (first | refine blk_drewN ?_ _ | refine blk_drew ?_ | refine blk_alloc ?_ _)); refine blk_far ?_ NB193_195.out _; (with_reducible repeat (first | refine blk_drewN ?_ _ | refine blk_drew ?_ | refine blk_alloc ?_ _)); refine blk_far ?_ NB193_195.out _; (with_reducible repeat (first | refine blk_drewN ?_ _ | refine blk_drew ?_ | refine blk_alloc ?_ _)); refine blk_far ?_ NB193_195.out _; (with_reducible repeat (first | refine blk_drewN ?_ _ | refine blk_drew ?_ | refine blk_alloc ?_ _)); refine blk_far ?_ NB193_195.out _; (with_reducible repeat (first | refine blk_drewN ?_ _ | refine blk_drew ?_ | refine blk_alloc ?_ _)); refine blk_far ?_ NB193_195.out _; (with_reducible repeat (first | refine blk_drewN ?_ _ | refine blk_drew ?_ | refine blk_alloc ?_ _)); exact BK193.out⟩, ⟨by (with_reducible repeat (first | refine blk_drewN ?_ _ | refine blk_drew ?_ | refine blk_alloc ?_ _)); refine blk_put (cs := #[.int .i64 1099511627775, .int .i64 1099511627776, .string (strOfNums y187), .string (strOfNums y190), .int .i64 2, .bool false]) ?_ 5 _ rfl; (with_reducible repeat (first | refine blk_drewN ?_ _ | refine blk_drew ?_ | refine blk_alloc ?_ _)); refine blk_put (cs := #[.int .i64 1099511627775, .int .i64 1099511627776, .string (strOfNums y187), .string (strOfNums y190), .int .i64 2, .bool false]) ?_ 5 _ rfl; (with_reducible repeat (first | refine blk_drewN ?_ _ | refine blk_drew ?_ | refine blk_alloc ?_ _)); refine blk_put (cs := #[.int .i64 1099511627775, .int .i64 1099511627776, .string (strOfNums y187), .string (strOfNums y190), .int .i64 0, .bool false]) ?_ 4 _ rfl; (with_reducible repeat (first | refine blk_drewN ?_ _ | refine blk_drew ?_ | refine blk_alloc ?_ _)); refine blk_put (cs := #[.int .i64 1099511627775, .int .i64 1099511627776, .string (strOfNums y187), .string (⟨#[]⟩ : ByteArray), .int .i64 0, .bool false]) ?_ 3 _ rfl; (with_reducible repeat (first | refine blk_drewN ?_ _ | refine blk_drew ?_ | refine blk_alloc ?_ _)); refine blk_put (cs := #[.int .i64 1099511627775, .int .i64 1099511627776, .string (⟨#[]⟩ : ByteArray), .string (⟨#[]⟩ : ByteArray), .int .i64 0, .bool false]) ?_ 2 _ rfl; (with_reducible repeat (first | refine blk_drewN ?_ _ | refine blk_drew ?_ | refine blk_alloc ?_ _)); refine blk_put (cs := #[.int .i64 1099511627775, .int .i64 0, .string (⟨#[]⟩ : ByteArray), .string (⟨#[]⟩ : ByteArray), .int .i64 0, .bool false]) ?_ 1 _ rfl; (with_reducible repeat (first | refine blk_drewN ?_ _ | refine blk_drew ?_ | refine blk_alloc ?_ _)); refine blk_put (cs := #[.int .i64 0, .int .i64 0, .string (⟨#[]⟩ : ByteArray), .string (⟨#[]⟩ : ByteArray), .int .i64 0, .bool false]) ?_ 0 _ rfl; (with_reducible repeat (first | refine blk_drewN ?_ _ | refine blk_drew ?_ | refine blk_alloc ?_ _)); exact BK195.out⟩, ⟨bo⟩⟩
           ·rw [if_neg c41] at H
            have c41b0 : (x4_1 == 6) = false := beq_eq_false_iff_ne.mpr c41
            have c41b1 : (x4_1 != 6) = true := bne_iff_ne.mpr c41
            by_cases c44 : x4_1 = 7
            ·rw [if_pos c44] at H
             have c44b0 : (x4_1 == 7) = true := beq_iff_eq.mpr c44
             have c44b1 : (x4_1 != 7) = false := bne_eq_false_iff_eq.mpr c44
             clear c44
             have H' := Aside0.mk H
             clear H
             have hnb45 := NB195_193.out
             have hnc45 := NB193_195.out
             have hcz46_0 : w21.cell? ⟨gb195, 0, none⟩ = some (.int .i64 0) := (blk_cell BK195.out 0).trans rfl
             have hcz46_1 : w21.cell? ⟨gb195, 1, none⟩ = some (.int .i64 0) := (blk_cell BK195.out 1).trans rfl
             have hcz46_2 : w21.cell? ⟨gb195, 2, none⟩ = some (.string (⟨#[]⟩ : ByteArray)) := (blk_cell BK195.out 2).trans rfl
             have hcz46_3 : w21.cell? ⟨gb195, 3, none⟩ = some (.string (⟨#[]⟩ : ByteArray)) := (blk_cell BK195.out 3).trans rfl
             have hcz46_4 : w21.cell? ⟨gb195, 4, none⟩ = some (.int .i64 0) := (blk_cell BK195.out 4).trans rfl
             have hcz46_5 : w21.cell? ⟨gb195, 5, none⟩ = some (.bool false) := (blk_cell BK195.out 5).trans rfl
             have hfz46_0 := blk_frozen BK195.out 0
             have hfz46_1 := blk_frozen BK195.out 1
             have hfz46_2 := blk_frozen BK195.out 2
             have hfz46_3 := blk_frozen BK195.out 3
             have hfz46_4 := blk_frozen BK195.out 4
             have hfz46_5 := blk_frozen BK195.out 5
             go_wp2
             go_meet
             case rel => exact ⟨_, (1099511627775), (1099511627776), ((strOfNums y187)), ((⟨#[]⟩ : ByteArray)), (2), (true), H', ⟨by have := HK1.out; first | omega | exact Nat.le_refl _⟩, ⟨by (with_reducible repeat (first | refine blk_drewN ?_ _ | refine blk_drew ?_ | refine blk_alloc ?_ _)); refine blk_far ?_ NB193_195.out _; (with_reducible repeat (first | refine blk_drewN ?_ _ | refine blk_drew ?_ | refine blk_alloc ?_ _)); refine blk_far ?_ NB193_195.out _; (with_reducible repeat (first | refine blk_drewN ?_ _ | refine blk_drew ?_ | refine blk_alloc ?_ _)); refine blk_far ?_ NB193_195.out _; (with_reducible repeat (first | refine blk_drewN ?_ _ | refine blk_drew ?_ | refine blk_alloc ?_ _)); refine blk_far ?_ NB193_195.out _; (with_reducible repeat (first | refine blk_drewN ?_ _ | refine blk_drew ?_ | refine blk_alloc ?_ _)); refine blk_far ?_ NB193_195.out _; (with_reducible repeat (first | refine blk_drewN ?_ _ | refine blk_drew ?_ | refine blk_alloc ?_ _)); refine blk_far ?_ NB193_195.out _; (with_reducible repeat (first | refine blk_drewN ?_ _ | refine blk_drew ?_ | refine blk_alloc ?_ _)); refine blk_far ?_ NB193_195.out _; (with_reducible repeat (first | refine blk_drewN ?_ _ | refine blk_drew ?_ | refine blk_alloc ?_ _)); refine blk_far ?_ NB193_195.out _; (with_reducible repeat (first | refine blk_drewN ?_ _ | refine blk_drew ?_ | refine blk_alloc ?_ _)); exact BK193.out⟩, ⟨by (with_reducible repeat (first | refine blk_drewN ?_ _ | refine blk_drew ?_ | refine blk_alloc ?_ _)); refine blk_put (cs := #[.int .i64 1099511627775, .int .i64 1099511627776, .string (strOfNums y187), .string (strOfNums y190), .int .i64 2, .bool true]) ?_ 3 _ rfl; (with_reducible repeat (first | refine blk_drewN ?_ _ | refine blk_drew ?_ | refine blk_alloc ?_ _)); refine blk_put (cs := #[.int .i64 1099511627775, .int .i64 1099511627776, .string (strOfNums y187), .string (strOfNums y190), .int .i64 2, .bool false]) ?_ 5 _ rfl; (with_reducible repeat (first | refine blk_drewN ?_ _ | refine blk_drew ?_ | refine blk_alloc ?_ _)); refine blk_put (cs := #[.int .i64 1099511627775, .int .i64 1099511627776, .string (strOfNums y187), .string (strOfNums y190), .int .i64 2, .bool false]) ?_ 5 _ rfl; (with_reducible repeat (first | refine blk_drewN ?_ _ | refine blk_drew ?_ | refine blk_alloc ?_ _)); refine blk_put (cs := #[.int .i64 1099511627775, .int .i64 1099511627776, .string (strOfNums y187), .string (strOfNums y190), .int .i64 0, .bool false]) ?_ 4 _ rfl; (with_reducible repeat (first | refine blk_drewN ?_ _ | refine blk_drew ?_ | refine blk_alloc ?_ _)); refine blk_put (cs := #[.int .i64 1099511627775, .int .i64 1099511627776, .string (strOfNums y187), .string (⟨#[]⟩ : ByteArray), .int .i64 0, .bool false]) ?_ 3 _ rfl; (with_reducible repeat (first | refine blk_drewN ?_ _ | refine blk_drew ?_ | refine blk_alloc ?_ _)); refine blk_put (cs := #[.int .i64 1099511627775, .int .i64 1099511627776, .string (⟨#[]⟩ : ByteArray), .string (⟨#[]⟩ : ByteArray), .int .i64 0, .bool false]) ?_ 2 _ rfl; (with_reducible repeat (first | refine blk_drewN ?_ _ | refine blk_drew ?_ | refine blk_alloc ?_ _)); refine blk_put (cs := #[.int .i64 1099511627775, .int .i64 0, .string (⟨#[]⟩ : ByteArray), .string (⟨#[]⟩ : ByteArray), .int .i64 0, .bool false]) ?_ 1 _ rfl; (with_reducible repeat (first | refine blk_drewN ?_ _ | refine blk_drew ?_ | refine blk_alloc ?_ _)); refine blk_put (cs := #[.int .i64 0, .int .i64 0, .string (⟨#[]⟩ : ByteArray), .string (⟨#[]⟩ : ByteArray), .int .i64 0, .bool false]) ?_ 0 _ rfl; (with_reducible repeat (first | refine blk_drewN ?_ _ | refine blk_drew ?_ | refine blk_alloc ?_ _)); exact BK195.out⟩, ⟨bo⟩⟩
            ·rw [if_neg c44] at H
             have c44b0 : (x4_1 == 7) = false := beq_eq_false_iff_ne.mpr c44
             have c44b1 : (x4_1 != 7) = true := bne_iff_ne.mpr c44
             have H' := Aside0.mk H
             clear H
             go_wp2
             go_meet
             case rel => exact ⟨_, (1099511627775), (1099511627776), ((strOfNums y187)), ((strOfNums y190)), (2), (false), H', ⟨by have := HK1.out; first | omega | exact Nat.le_refl _⟩, ⟨by (with_reducible repeat (first | refine blk_drewN ?_ _ | refine blk_drew ?_ | refine blk_alloc ?_ _)); refine blk_far ?_ NB193_195.out _; (with_reducible repeat (first | refine blk_drewN ?_ _ | refine blk_drew ?_ | refine blk_alloc ?_ _)); refine blk_far ?_ NB193_195.out _; (with_reducible repeat (first | refine blk_drewN ?_ _ | refine blk_drew ?_ | refine blk_alloc ?_ _)); refine blk_far ?_ NB193_195.out _; (with_reducible repeat (first | refine blk_drewN ?_ _ | refine blk_drew ?_ | refine blk_alloc ?_ _)); refine blk_far ?_ NB193_195.out _; (with_reducible repeat (first | refine blk_drewN ?_ _ | refine blk_drew ?_ | refine blk_alloc ?_ _)); refine blk_far ?_ NB193_195.out _; (with_reducible repeat (first | refine blk_drewN ?_ _ | refine blk_drew ?_ | refine blk_alloc ?_ _)); refine blk_far ?_ NB193_195.out _; (with_reducible repeat (first | refine blk_drewN ?_ _ | refine blk_drew ?_ | refine blk_alloc ?_ _)); exact BK193.out⟩, ⟨by (with_reducible repeat (first | refine blk_drewN ?_ _ | refine blk_drew ?_ | refine blk_alloc ?_ _)); refine blk_put (cs := #[.int .i64 1099511627775, .int .i64 1099511627776, .string (strOfNums y187), .string (strOfNums y190), .int .i64 2, .bool false]) ?_ 5 _ rfl; (with_reducible repeat (first | refine blk_drewN ?_ _ | refine blk_drew ?_ | refine blk_alloc ?_ _)); refine blk_put (cs := #[.int .i64 1099511627775, .int .i64 1099511627776, .string (strOfNums y187), .string (strOfNums y190), .int .i64 0, .bool false]) ?_ 4 _ rfl; (with_reducible repeat (first | refine blk_drewN ?_ _ | refine blk_drew ?_ | refine blk_alloc ?_ _)); refine blk_put (cs := #[.int .i64 1099511627775, .int .i64 1099511627776, .string (strOfNums y187), .string (⟨#[]⟩ : ByteArray), .int .i64 0, .bool false]) ?_ 3 _ rfl; (with_reducible repeat (first | refine blk_drewN ?_ _ | refine blk_drew ?_ | refine blk_alloc ?_ _)); refine blk_put (cs := #[.int .i64 1099511627775, .int .i64 1099511627776, .string (⟨#[]⟩ : ByteArray), .string (⟨#[]⟩ : ByteArray), .int .i64 0, .bool false]) ?_ 2 _ rfl; (with_reducible repeat (first | refine blk_drewN ?_ _ | refine blk_drew ?_ | refine blk_alloc ?_ _)); refine blk_put (cs := #[.int .i64 1099511627775, .int .i64 0, .string (⟨#[]⟩ : ByteArray), .string (⟨#[]⟩ : ByteArray), .int .i64 0, .bool false]) ?_ 1 _ rfl; (with_reducible repeat (first | refine blk_drewN ?_ _ | refine blk_drew ?_ | refine blk_alloc ?_ _)); refine blk_put (cs := #[.int .i64 0, .int .i64 0, .string (⟨#[]⟩ : ByteArray), .string (⟨#[]⟩ : ByteArray), .int .i64 0, .bool false]) ?_ 0 _ rfl; (with_reducible repeat (first | refine blk_drewN ?_ _ | refine blk_drew ?_ | refine blk_alloc ?_ _)); exact BK195.out⟩, ⟨bo⟩⟩
     case rest =>
      clear HC19
      try clear c1
      try clear hcv1
      try clear c2
      try clear p2
      try clear c3
      try clear c4
      try clear hcv9
      try clear hcv10
      try clear hcv11
      try clear c18
      try clear c18b0
      try clear c22
      try clear c24
      try clear c24b0
      try clear c24b1
      try clear c25
      try clear c27
      try clear c27b0
      try clear c27b1
      try clear c28
      try clear c30
      try clear c30b0
      try clear c30b1
      try clear c31
      try clear c31b0
      try clear c31b1
      try clear c31b2
      try clear c32
      try clear c34
      try clear c34b0
      try clear c34b1
      try clear c35
      try clear c35b0
      try clear c35b1
      try clear c35b2
      try clear c36
      try clear c38
      try clear c38b0
      try clear c38b1
      try clear c39
      try clear c41
      try clear c41b0
      try clear c41b1
      try clear c42
      try clear c44
      try clear c44b0
      try clear c44b1
      try clear c45
      try clear hcz20_0
      try clear hcz20_1
      try clear hcz20_2
      try clear hcz20_3
      try clear hcz20_4
      try clear hcz20_5
      try clear hcz23_0
      try clear hcz23_1
      try clear hcz23_2
      try clear hcz23_3
      try clear hcz23_4
      try clear hcz23_5
      try clear hcz26_0
      try clear hcz26_1
      try clear hcz26_2
      try clear hcz26_3
      try clear hcz26_4
      try clear hcz26_5
      try clear hcz29_0
      try clear hcz29_1
      try clear hcz29_2
      try clear hcz29_3
      try clear hcz29_4
      try clear hcz29_5
      try clear hcz33_0
      try clear hcz33_1
      try clear hcz33_2
      try clear hcz33_3
      try clear hcz33_4
      try clear hcz33_5
      try clear hcz37_0
      try clear hcz37_1
      try clear hcz37_2
      try clear hcz37_3
      try clear hcz37_4
      try clear hcz37_5
      try clear hcz40_0
      try clear hcz40_1
      try clear hcz40_2
      try clear hcz40_3
      try clear hcz40_4
      try clear hcz40_5
      try clear hcz43_0
      try clear hcz43_1
      try clear hcz43_2
      try clear hcz43_3
      try clear hcz43_4
      try clear hcz43_5
      try clear hcz46_0
      try clear hcz46_1
      try clear hcz46_2
      try clear hcz46_3
      try clear hcz46_4
      try clear hcz46_5
      try clear hfz20_0
      try clear hfz20_1
      try clear hfz20_2
      try clear hfz20_3
      try clear hfz20_4
      try clear hfz20_5
      try clear hfz23_0
      try clear hfz23_1
      try clear hfz23_2
      try clear hfz23_3
      try clear hfz23_4
      try clear hfz23_5
      try clear hfz26_0
      try clear hfz26_1
      try clear hfz26_2
      try clear hfz26_3
      try clear hfz26_4
      try clear hfz26_5
      try clear hfz29_0
      try clear hfz29_1
      try clear hfz29_2
      try clear hfz29_3
      try clear hfz29_4
      try clear hfz29_5
      try clear hfz33_0
      try clear hfz33_1
      try clear hfz33_2
      try clear hfz33_3
      try clear hfz33_4
      try clear hfz33_5
      try clear hfz37_0
      try clear hfz37_1
      try clear hfz37_2
      try clear hfz37_3
      try clear hfz37_4
      try clear hfz37_5
      try clear hfz40_0
      try clear hfz40_1
      try clear hfz40_2
      try clear hfz40_3
      try clear hfz40_4
      try clear hfz40_5
      try clear hfz43_0
      try clear hfz43_1
      try clear hfz43_2
      try clear hfz43_3
      try clear hfz43_4
      try clear hfz43_5
      try clear hfz46_0
      try clear hfz46_1
      try clear hfz46_2
      try clear hfz46_3
      try clear hfz46_4
      try clear hfz46_5
      try clear p2
      obtain ⟨kq, x196000_18, x196001_18, x196002_18, x196003_18, x196004_18, x196005_18, HA, HJ18, BK193, BK195, HB⟩ := hcut
      cases kq with
      | zero => exact absurd HA.out (by simp [fairwaylaw10_RecEdges.j1])
      | succ kj18 =>
       have H := HA.out
       clear HA
       simp only [fairwaylaw10_RecEdges.j1] at H
       replace H := Option.bind_eq_some_iff.mp H
       obtain ⟨⟨t196, t197⟩, A470, H⟩ := H
       replace H : (if x4_1 = 0 then (fairwaylaw10_RecEdges.j2 kj18 l0 x4_1 t196 t197 true 1099511627775 1099511627776 (strOfNums y187) (strOfNums y190) 2 false x196000_18 x196001_18 x196002_18 x196003_18 x196004_18 x196005_18) else (fairwaylaw10_RecEdges.j2 kj18 l0 x4_1 t196 t197 (x4_1 == 7) 1099511627775 1099511627776 (strOfNums y187) (strOfNums y190) 2 false x196000_18 x196001_18 x196002_18 x196003_18 x196004_18 x196005_18)) = some r := H
       have A47 := Aside0.mk A470
       clear A470
       have HC48 := Aside0.mk H
       clear H
       have hnb49 := NB195_193.out
       have hnc49 := NB193_195.out
       have hcz50_0 : wc.cell? ⟨gb195, 0, none⟩ = some (.int .i64 x196000_18) := (blk_cell BK195.out 0).trans rfl
       have hcz50_1 : wc.cell? ⟨gb195, 1, none⟩ = some (.int .i64 x196001_18) := (blk_cell BK195.out 1).trans rfl
       have hcz50_2 : wc.cell? ⟨gb195, 2, none⟩ = some (.string x196002_18) := (blk_cell BK195.out 2).trans rfl
       have hcz50_3 : wc.cell? ⟨gb195, 3, none⟩ = some (.string x196003_18) := (blk_cell BK195.out 3).trans rfl
       have hcz50_4 : wc.cell? ⟨gb195, 4, none⟩ = some (.int .i64 x196004_18) := (blk_cell BK195.out 4).trans rfl
       have hcz50_5 : wc.cell? ⟨gb195, 5, none⟩ = some (.bool x196005_18) := (blk_cell BK195.out 5).trans rfl
       have hfz50_0 := blk_frozen BK195.out 0
       have hfz50_1 := blk_frozen BK195.out 1
       have hfz50_2 := blk_frozen BK195.out 2
       have hfz50_3 := blk_frozen BK195.out 3
       have hfz50_4 := blk_frozen BK195.out 4
       have hfz50_5 := blk_frozen BK195.out 5
       go_upto_region 22 with (first | ((with_reducible refine gate_callee (f := 14) rfl ?_); refine goesL_ (some 53) rfl rfl Try.func14 (by kernel_rfl) rfl #[.agg #[.int .i64 x196000_18, .int .i64 x196001_18, .string x196002_18, .string x196003_18, .int .i64 x196004_18, .bool x196005_18]] rfl aa ?_; (with_reducible refine (rec_Bytes.calls kj18 x196000_18 x196001_18 x196002_18 x196003_18 x196004_18 x196005_18 t196 t197 _ A47.out).mono ?_); rintro e w51 ⟨rfl, hb⟩; refine ⟨_, rfl, ?_⟩; replace BK193 := Aside0.mk (blk_below (g := gb193) (o := .cells #[.int .i64 1099511627775, .int .i64 1099511627776, .string (strOfNums y187), .string (strOfNums y190), .int .i64 2, .bool false] 25 (0, 0)) (bk BK193.out) hb); replace BK195 := Aside0.mk (blk_below (g := gb195) (o := .cells #[.int .i64 x196000_18, .int .i64 x196001_18, .string x196002_18, .string x196003_18, .int .i64 x196004_18, .bool x196005_18] 25 (0, 0)) (bk BK195.out) hb); replace HB := Aside0.mk (below_step bo hb); (try clear hb); (try clear hb2); (try clear hk); (try clear hi)))
       (try simp only [Act.put, List.setIfInBounds_toArray, List.set_cons_zero, List.set_cons_succ])
       go_cut [8] (fun v8 wc => ∃ (kq : Nat) (x8_47 : Bool), v8 = .bool x8_47 ∧ Aside0 (fairwaylaw10_RecEdges.j2 kq l0 x4_1 t196 t197 x8_47 1099511627775 1099511627776 (strOfNums y187) (strOfNums y190) 2 false x196000_18 x196001_18 x196002_18 x196003_18 x196004_18 x196005_18 = some r) ∧ Aside0 (kq ≤ kj18) ∧ Aside0 (wc.heap[gb193]? = some (.cells #[.int .i64 1099511627775, .int .i64 1099511627776, .string (strOfNums y187), .string (strOfNums y190), .int .i64 2, .bool false] 25 (0, 0))) ∧ Aside0 (wc.heap[gb195]? = some (.cells #[.int .i64 x196000_18, .int .i64 x196001_18, .string x196002_18, .string x196003_18, .int .i64 x196004_18, .bool x196005_18] 25 (0, 0))) ∧ Aside0 (Below w.heap.size w wc))
       case first =>
        have H := HC48.out
        clear HC48
        by_cases c52 : x4_1 = 0
        ·rw [if_pos c52] at H
         have c52b0 : (x4_1 == 0) = true := beq_iff_eq.mpr c52
         have c52b1 : (x4_1 != 0) = false := bne_eq_false_iff_eq.mpr c52
         clear c52
         (first | rw [c52b0] | (simp only [i64_w, i32_w]; rw [c52b0]) | skip)
         have H' := Aside0.mk H
         clear H
         go_wp2
         go_meet
         case rel => exact ⟨_, (true), ap, H', ⟨by have := HK1.out; have := HJ18.out; first | omega | exact Nat.le_refl _⟩, ⟨by (with_reducible repeat (first | refine blk_drewN ?_ _ | refine blk_drew ?_ | refine blk_alloc ?_ _)); exact BK193.out⟩, ⟨by (with_reducible repeat (first | refine blk_drewN ?_ _ | refine blk_drew ?_ | refine blk_alloc ?_ _)); exact BK195.out⟩, ⟨bo⟩⟩
        ·rw [if_neg c52] at H
         have c52b0 : (x4_1 == 0) = false := beq_eq_false_iff_ne.mpr c52
         have c52b1 : (x4_1 != 0) = true := bne_iff_ne.mpr c52
         (first | rw [c52b0] | (simp only [i64_w, i32_w]; rw [c52b0]) | skip)
         have H' := Aside0.mk H
         clear H
         go_wp2
         go_meet
         case rel => exact ⟨_, ((x4_1 == 7)), ap, H', ⟨by have := HK1.out; have := HJ18.out; first | omega | exact Nat.le_refl _⟩, ⟨by (with_reducible repeat (first | refine blk_drewN ?_ _ | refine blk_drew ?_ | refine blk_alloc ?_ _)); exact BK193.out⟩, ⟨by (with_reducible repeat (first | refine blk_drewN ?_ _ | refine blk_drew ?_ | refine blk_alloc ?_ _)); exact BK195.out⟩, ⟨bo⟩⟩
       case rest =>
        clear HC48
        try clear c1
        try clear hcv1
        try clear c2
        try clear p2
        try clear c3
        try clear c4
        try clear c5
        try clear hcv9
        try clear hcv10
        try clear hcv11
        try clear c14
        try clear c18
        try clear c18b0
        try clear c22
        try clear c24
        try clear c24b0
        try clear c24b1
        try clear c25
        try clear c27
        try clear c27b0
        try clear c27b1
        try clear c28
        try clear c30
        try clear c30b0
        try clear c30b1
        try clear c31
        try clear c31b0
        try clear c31b1
        try clear c31b2
        try clear c32
        try clear c34
        try clear c34b0
        try clear c34b1
        try clear c35
        try clear c35b0
        try clear c35b1
        try clear c35b2
        try clear c36
        try clear c38
        try clear c38b0
        try clear c38b1
        try clear c39
        try clear c41
        try clear c41b0
        try clear c41b1
        try clear c42
        try clear c44
        try clear c44b0
        try clear c44b1
        try clear c45
        try clear c49
        try clear c52
        try clear c52b0
        try clear c52b1
        try clear hcz20_0
        try clear hcz20_1
        try clear hcz20_2
        try clear hcz20_3
        try clear hcz20_4
        try clear hcz20_5
        try clear hcz23_0
        try clear hcz23_1
        try clear hcz23_2
        try clear hcz23_3
        try clear hcz23_4
        try clear hcz23_5
        try clear hcz26_0
        try clear hcz26_1
        try clear hcz26_2
        try clear hcz26_3
        try clear hcz26_4
        try clear hcz26_5
        try clear hcz29_0
        try clear hcz29_1
        try clear hcz29_2
        try clear hcz29_3
        try clear hcz29_4
        try clear hcz29_5
        try clear hcz33_0
        try clear hcz33_1
        try clear hcz33_2
        try clear hcz33_3
        try clear hcz33_4
        try clear hcz33_5
        try clear hcz37_0
        try clear hcz37_1
        try clear hcz37_2
        try clear hcz37_3
        try clear hcz37_4
        try clear hcz37_5
        try clear hcz40_0
        try clear hcz40_1
        try clear hcz40_2
        try clear hcz40_3
        try clear hcz40_4
        try clear hcz40_5
        try clear hcz43_0
        try clear hcz43_1
        try clear hcz43_2
        try clear hcz43_3
        try clear hcz43_4
        try clear hcz43_5
        try clear hcz46_0
        try clear hcz46_1
        try clear hcz46_2
        try clear hcz46_3
        try clear hcz46_4
        try clear hcz46_5
        try clear hcz50_0
        try clear hcz50_1
        try clear hcz50_2
        try clear hcz50_3
        try clear hcz50_4
        try clear hcz50_5
        try clear hfz20_0
        try clear hfz20_1
        try clear hfz20_2
        try clear hfz20_3
        try clear hfz20_4
        try clear hfz20_5
        try clear hfz23_0
        try clear hfz23_1
        try clear hfz23_2
        try clear hfz23_3
        try clear hfz23_4
        try clear hfz23_5
        try clear hfz26_0
        try clear hfz26_1
        try clear hfz26_2
        try clear hfz26_3
        try clear hfz26_4
        try clear hfz26_5
        try clear hfz29_0
        try clear hfz29_1
        try clear hfz29_2
        try clear hfz29_3
        try clear hfz29_4
        try clear hfz29_5
        try clear hfz33_0
        try clear hfz33_1
        try clear hfz33_2
        try clear hfz33_3
        try clear hfz33_4
        try clear hfz33_5
        try clear hfz37_0
        try clear hfz37_1
        try clear hfz37_2
        try clear hfz37_3
        try clear hfz37_4
        try clear hfz37_5
        try clear hfz40_0
        try clear hfz40_1
        try clear hfz40_2
        try clear hfz40_3
        try clear hfz40_4
        try clear hfz40_5
        try clear hfz43_0
        try clear hfz43_1
        try clear hfz43_2
        try clear hfz43_3
        try clear hfz43_4
        try clear hfz43_5
        try clear hfz46_0
        try clear hfz46_1
        try clear hfz46_2
        try clear hfz46_3
        try clear hfz46_4
        try clear hfz46_5
        try clear hfz50_0
        try clear hfz50_1
        try clear hfz50_2
        try clear hfz50_3
        try clear hfz50_4
        try clear hfz50_5
        try clear p2
        obtain ⟨kq, x8_47, rfl, HA, HJ47, BK193, BK195, HB⟩ := hcut
        cases kq with
        | zero => exact absurd HA.out (by simp [fairwaylaw10_RecEdges.j2])
        | succ kj47 =>
         have H := HA.out
         clear HA
         simp only [fairwaylaw10_RecEdges.j2] at H
         replace H := Option.bind_eq_some_iff.mp H
         obtain ⟨t198, A530, H⟩ := H
         replace H : (if ((t198 == 0) != x8_47) = true then (some false) else (if x8_47 = true then ((rec_Take.f kj47 t196).bind fun bt199 => (if (t196.size : Int) = (wrap64 ((wrap64 (25 + (x196002_18.size : Int))) + (x196003_18.size : Int))) then ((fairwaylaw10_num.f bt199.2.2.2.2.2.2.2).bind fun t208 => (if t208 = 0 then (if (!(bt199.1 == x196000_18) || (!(bt199.2.1 == x196001_18) || (!(bt199.2.2.1.toList == x196002_18.toList) || (!(bt199.2.2.2.1.toList == x196003_18.toList) || (!(bt199.2.2.2.2.1 == x196004_18) || (!(bt199.2.2.2.2.2.1 == x196005_18))))))) = true then (some false) else (if bt199.2.2.2.2.2.2.1 = (t196.size : Int) then ((fairwayref10_Rec.f bt199.1 bt199.2.1 bt199.2.2.1 bt199.2.2.2.1 bt199.2.2.2.2.1 bt199.2.2.2.2.2.1).bind fun t209 => (if t209 = true then (fairwaylaw10_RecEdges.l0 kj47 l0 (wrap64 (x4_1 + 1)) 1099511627775 1099511627776 (strOfNums y187) (strOfNums y190) 2 false) else (some false))) else (some false))) else (some false))) else (some false))) else (fairwaylaw10_RecEdges.l0 kj47 l0 (wrap64 (x4_1 + 1)) 1099511627775 1099511627776 (strOfNums y187) (strOfNums y190) 2 false))) = some r := H
         have A53 := Aside0.mk A530
         clear A530
         by_cases c54 : ((t198 == 0) != x8_47) = true
         ·rw [if_pos c54] at H
          have c54b0 : ((t198 == 0) != x8_47) = true := c54
          (try (have c54b1 : decide ((t198 == 0) = x8_47) = false := by simpa using c54))
          (try (have c54b2 : ((t198 == 0) == x8_47) = false := by simpa using c54))
          (try (have c54b3 : ¬ ((t198 == 0) = x8_47) := by simpa using c54))
          clear c54
          obtain rfl := Option.some.inj H
          go_wp2_with (first | ((with_reducible refine gate_callee (f := 15) rfl ?_); refine goesL_ (some 63) rfl rfl Try.func15 (by kernel_rfl) rfl #[.int .i64 t197] rfl aa ?_; (with_reducible refine (fairwaylaw10_num.calls t197 t198 _ A53.out).mono ?_); rintro e w' ⟨rfl, ⟨nd, rfl⟩⟩; refine ⟨_, rfl, ?_⟩))
          go_ret
          exact ⟨er, bo⟩
         ·rw [if_neg c54] at H
          have c54b0 : ((t198 == 0) != x8_47) = false := by simpa using c54
          (try (have c54b1 : decide ((t198 == 0) = x8_47) = true := by simpa using c54))
          (try (have c54b2 : ((t198 == 0) == x8_47) = true := by simpa using c54))
          clear c54
          by_cases c55 : x8_47 = true
          ·subst c55
           have H1 : ((rec_Take.f kj47 t196).bind fun bt199 => (if (t196.size : Int) = (wrap64 ((wrap64 (25 + (x196002_18.size : Int))) + (x196003_18.size : Int))) then ((fairwaylaw10_num.f bt199.2.2.2.2.2.2.2).bind fun t208 => (if t208 = 0 then (if (!(bt199.1 == x196000_18) || (!(bt199.2.1 == x196001_18) || (!(bt199.2.2.1.toList == x196002_18.toList) || (!(bt199.2.2.2.1.toList == x196003_18.toList) || (!(bt199.2.2.2.2.1 == x196004_18) || (!(bt199.2.2.2.2.2.1 == x196005_18))))))) = true then (some false) else (if bt199.2.2.2.2.2.2.1 = (t196.size : Int) then ((fairwayref10_Rec.f bt199.1 bt199.2.1 bt199.2.2.1 bt199.2.2.2.1 bt199.2.2.2.2.1 bt199.2.2.2.2.2.1).bind fun t209 => (if t209 = true then (fairwaylaw10_RecEdges.l0 kj47 l0 (wrap64 (x4_1 + 1)) 1099511627775 1099511627776 (strOfNums y187) (strOfNums y190) 2 false) else (some false))) else (some false))) else (some false))) else (some false))) = some r := by rw [if_pos rfl] at H; exact H
           clear H
           have H := H1
           clear H1
           replace H := Option.bind_eq_some_iff.mp H
           obtain ⟨⟨t199, t200, t201, t202, t203, t204, t205, t206⟩, A560, H⟩ := H
           replace H : (if (t196.size : Int) = (wrap64 ((wrap64 (25 + (x196002_18.size : Int))) + (x196003_18.size : Int))) then ((fairwaylaw10_num.f t206).bind fun t208 => (if t208 = 0 then (if (!(t199 == x196000_18) || (!(t200 == x196001_18) || (!(t201.toList == x196002_18.toList) || (!(t202.toList == x196003_18.toList) || (!(t203 == x196004_18) || (!(t204 == x196005_18))))))) = true then (some false) else (if t205 = (t196.size : Int) then ((fairwayref10_Rec.f t199 t200 t201 t202 t203 t204).bind fun t209 => (if t209 = true then (fairwaylaw10_RecEdges.l0 kj47 l0 (wrap64 (x4_1 + 1)) 1099511627775 1099511627776 (strOfNums y187) (strOfNums y190) 2 false) else (some false))) else (some false))) else (some false))) else (some false)) = some r := H
           have A56 := Aside0.mk A560
           clear A560
           by_cases c57 : (t196.size : Int) = (wrap64 ((wrap64 (25 + (x196002_18.size : Int))) + (x196003_18.size : Int)))
           ·rw [if_pos c57] at H
            have c57b0 : ((t196.size : Int) == (wrap64 ((wrap64 (25 + (x196002_18.size : Int))) + (x196003_18.size : Int)))) = true := beq_iff_eq.mpr c57
            have c57b1 : ((t196.size : Int) != (wrap64 ((wrap64 (25 + (x196002_18.size : Int))) + (x196003_18.size : Int)))) = false := bne_eq_false_iff_eq.mpr c57
            clear c57
            replace H := Option.bind_eq_some_iff.mp H
            obtain ⟨t208, A580, H⟩ := H
            replace H : (if t208 = 0 then (if (!(t199 == x196000_18) || (!(t200 == x196001_18) || (!(t201.toList == x196002_18.toList) || (!(t202.toList == x196003_18.toList) || (!(t203 == x196004_18) || (!(t204 == x196005_18))))))) = true then (some false) else (if t205 = (t196.size : Int) then ((fairwayref10_Rec.f t199 t200 t201 t202 t203 t204).bind fun t209 => (if t209 = true then (fairwaylaw10_RecEdges.l0 kj47 l0 (wrap64 (x4_1 + 1)) 1099511627775 1099511627776 (strOfNums y187) (strOfNums y190) 2 false) else (some false))) else (some false))) else (some false)) = some r := H
            have A58 := Aside0.mk A580
            clear A580
            by_cases c59 : t208 = 0
            ·rw [if_pos c59] at H
             have c59b0 : (t208 == 0) = true := beq_iff_eq.mpr c59
             have c59b1 : (t208 != 0) = false := bne_eq_false_iff_eq.mpr c59
             clear c59
             by_cases c60 : (!(t199 == x196000_18) || (!(t200 == x196001_18) || (!(t201.toList == x196002_18.toList) || (!(t202.toList == x196003_18.toList) || (!(t203 == x196004_18) || (!(t204 == x196005_18))))))) = true
             ·rw [if_pos c60] at H
              have c60b0 : (!(t199 == x196000_18) || (!(t200 == x196001_18) || (!(t201.toList == x196002_18.toList) || (!(t202.toList == x196003_18.toList) || (!(t203 == x196004_18) || (!(t204 == x196005_18))))))) = true := c60
              clear c60
              obtain rfl := Option.some.inj H
              go_wp2_with (first | ((with_reducible refine gate_callee (f := 15) rfl ?_); refine goesL_ (some 63) rfl rfl Try.func15 (by kernel_rfl) rfl #[.int .i64 t197] rfl aa ?_; (with_reducible refine (fairwaylaw10_num.calls t197 t198 _ A53.out).mono ?_); rintro e w' ⟨rfl, ⟨nd, rfl⟩⟩; refine ⟨_, rfl, ?_⟩; (try (rw [drewN_self wc]; generalize hq_ : World.drewN wc _ = wc; have n0_ : Aside0 (wc.heap[gb193]? = some (.cells #[.int .i64 1099511627775, .int .i64 1099511627776, .string (strOfNums y187), .string (strOfNums y190), .int .i64 2, .bool false] 25 (0, 0))) := ⟨by rw [← hq_]; exact (bk BK193.out)⟩; have n1_ : Aside0 (wc.heap[gb195]? = some (.cells #[.int .i64 x196000_18, .int .i64 x196001_18, .string x196002_18, .string x196003_18, .int .i64 x196004_18, .bool x196005_18] 25 (0, 0))) := ⟨by rw [← hq_]; exact (bk BK195.out)⟩; have n2_ : Aside0 (Below w.heap.size w wc) := ⟨by rw [← hq_]; exact bo⟩; clear BK193 BK195 HB hq_; have BK193 := n0_; have BK195 := n1_; have HB := n2_; clear n0_ n1_ n2_))) | ((with_reducible refine gate_callee (f := 16) rfl ?_); refine goesL_ (some 70) rfl rfl Try.func16 (by kernel_rfl) rfl #[.string t196] rfl aa ?_; (with_reducible refine (rec_Take.calls kj47 t196 t199 t200 t201 t202 t203 t204 t205 t206 _ A56.out).mono ?_); rintro e w61 ⟨rfl, hb⟩; refine ⟨_, rfl, ?_⟩; replace BK193 := Aside0.mk (blk_below (g := gb193) (o := .cells #[.int .i64 1099511627775, .int .i64 1099511627776, .string (strOfNums y187), .string (strOfNums y190), .int .i64 2, .bool false] 25 (0, 0)) (bk BK193.out) hb); replace BK195 := Aside0.mk (blk_below (g := gb195) (o := .cells #[.int .i64 x196000_18, .int .i64 x196001_18, .string x196002_18, .string x196003_18, .int .i64 x196004_18, .bool x196005_18] 25 (0, 0)) (bk BK195.out) hb); replace HB := Aside0.mk (below_step bo hb); (try clear hb); (try clear hb2); (try clear hk); (try clear hi)) | ((with_reducible refine gate_dst (N := 9) rfl ?_); (try (refine gate_guard (by rfl) ?_; dsimp only)); refine box_event ?hg (N := 9) ?hd (cs := #[.int .i64 0, .int .i64 0, .string (⟨#[]⟩ : ByteArray), .string (⟨#[]⟩ : ByteArray), .int .i64 0, .bool false]) (t := 25) ?hr ?_; (case hd => rfl); (case hg => rfl); (case hr => first | (go_simp; done) | (go_simp; rfl)); intro gb207 hg w62 hbox hb; have BK207 := Aside0.mk (hbox); have GW207 := Aside0.mk ((by rw [hg]; exact (below_size bo) : w.heap.size ≤ gb207)); have GE207 := Aside0.mk ((by rw [hg]; exact (below_size bo) : w.heap.size ≤ gb207)); replace HB := Aside0.mk (below_step bo hb); have NB193_207 := Aside0.mk ((by rw [hg]; exact Nat.ne_of_lt (blk_lt (g := gb193) (o := .cells #[.int .i64 1099511627775, .int .i64 1099511627776, .string (strOfNums y187), .string (strOfNums y190), .int .i64 2, .bool false] 25 (0, 0)) (bk BK193.out)) : gb193 ≠ gb207)); have NB207_193 := Aside0.mk ((by rw [hg]; exact Nat.ne_of_gt (blk_lt (g := gb193) (o := .cells #[.int .i64 1099511627775, .int .i64 1099511627776, .string (strOfNums y187), .string (strOfNums y190), .int .i64 2, .bool false] 25 (0, 0)) (bk BK193.out)) : gb207 ≠ gb193)); replace BK193 := Aside0.mk (blk_below (g := gb193) (o := .cells #[.int .i64 1099511627775, .int .i64 1099511627776, .string (strOfNums y187), .string (strOfNums y190), .int .i64 2, .bool false] 25 (0, 0)) (bk BK193.out) hb); have NB195_207 := Aside0.mk ((by rw [hg]; exact Nat.ne_of_lt (blk_lt (g := gb195) (o := .cells #[.int .i64 x196000_18, .int .i64 x196001_18, .string x196002_18, .string x196003_18, .int .i64 x196004_18, .bool x196005_18] 25 (0, 0)) (bk BK195.out)) : gb195 ≠ gb207)); have NB207_195 := Aside0.mk ((by rw [hg]; exact Nat.ne_of_gt (blk_lt (g := gb195) (o := .cells #[.int .i64 x196000_18, .int .i64 x196001_18, .string x196002_18, .string x196003_18, .int .i64 x196004_18, .bool x196005_18] 25 (0, 0)) (bk BK195.out)) : gb207 ≠ gb195)); replace BK195 := Aside0.mk (blk_below (g := gb195) (o := .cells #[.int .i64 x196000_18, .int .i64 x196001_18, .string x196002_18, .string x196003_18, .int .i64 x196004_18, .bool x196005_18] 25 (0, 0)) (bk BK195.out) hb); clear hb hbox hg; have hnb63 := NB207_193.out; have hnc63 := NB193_207.out; have hnb64 := NB207_195.out; have hnc64 := NB195_207.out; obtain ⟨hcz65_0, hcz65_1, hcz65_2, hcz65_3, hcz65_4, hcz65_5⟩ := cl6 BK207.out; obtain ⟨hfz65_0, hfz65_1, hfz65_2, hfz65_3, hfz65_4, hfz65_5⟩ := fz6 BK207.out; have hnb66 := NB195_193.out; have hnc66 := NB193_195.out; obtain ⟨hcz67_0, hcz67_1, hcz67_2, hcz67_3, hcz67_4, hcz67_5⟩ := cl6 BK195.out; obtain ⟨hfz67_0, hfz67_1, hfz67_2, hfz67_3, hfz67_4, hfz67_5⟩ := fz6 BK195.out) | (go_at_call 15; (with_reducible refine (fairwaylaw10_num.calls t206 t208 _ A58.out).mono ?_); rintro e w' ⟨rfl, ⟨nd, rfl⟩⟩))
              go_ret
              exact ⟨er, bo⟩
             ·rw [if_neg c60] at H
              have c60b0 : (!(t199 == x196000_18) || (!(t200 == x196001_18) || (!(t201.toList == x196002_18.toList) || (!(t202.toList == x196003_18.toList) || (!(t203 == x196004_18) || (!(t204 == x196005_18))))))) = false := by simpa using c60
              clear c60
              by_cases c68 : t205 = (t196.size : Int)
              ·rw [if_pos c68] at H
               have c68b0 : (t205 == (t196.size : Int)) = true := beq_iff_eq.mpr c68
               have c68b1 : (t205 != (t196.size : Int)) = false := bne_eq_false_iff_eq.mpr c68
               clear c68
               replace H := Option.bind_eq_some_iff.mp H
               obtain ⟨t209, A690, H⟩ := H
               replace H : (if t209 = true then (fairwaylaw10_RecEdges.l0 kj47 l0 (wrap64 (x4_1 + 1)) 1099511627775 1099511627776 (strOfNums y187) (strOfNums y190) 2 false) else (some false)) = some r := H
               have A69 := Aside0.mk A690
               clear A690
               by_cases c70 : t209 = true
               ·subst c70
                have H1 : (fairwaylaw10_RecEdges.l0 kj47 l0 (wrap64 (x4_1 + 1)) 1099511627775 1099511627776 (strOfNums y187) (strOfNums y190) 2 false) = some r := by rw [if_pos rfl] at H; exact H
                clear H
                have H := H1
                clear H1
                have H' := Aside0.mk H
                clear H
                go_wp2_with (first | ((with_reducible refine gate_callee (f := 15) rfl ?_); refine goesL_ (some 63) rfl rfl Try.func15 (by kernel_rfl) rfl #[.int .i64 t197] rfl aa ?_; (with_reducible refine (fairwaylaw10_num.calls t197 t198 _ A53.out).mono ?_); rintro e w' ⟨rfl, ⟨nd, rfl⟩⟩; refine ⟨_, rfl, ?_⟩; (try (rw [drewN_self wc]; generalize hq_ : World.drewN wc _ = wc; have n0_ : Aside0 (wc.heap[gb193]? = some (.cells #[.int .i64 1099511627775, .int .i64 1099511627776, .string (strOfNums y187), .string (strOfNums y190), .int .i64 2, .bool false] 25 (0, 0))) := ⟨by rw [← hq_]; exact (bk BK193.out)⟩; have n1_ : Aside0 (wc.heap[gb195]? = some (.cells #[.int .i64 x196000_18, .int .i64 x196001_18, .string x196002_18, .string x196003_18, .int .i64 x196004_18, .bool x196005_18] 25 (0, 0))) := ⟨by rw [← hq_]; exact (bk BK195.out)⟩; have n2_ : Aside0 (Below w.heap.size w wc) := ⟨by rw [← hq_]; exact bo⟩; clear BK193 BK195 HB hq_; have BK193 := n0_; have BK195 := n1_; have HB := n2_; clear n0_ n1_ n2_))) | ((with_reducible refine gate_callee (f := 16) rfl ?_); refine goesL_ (some 70) rfl rfl Try.func16 (by kernel_rfl) rfl #[.string t196] rfl aa ?_; (with_reducible refine (rec_Take.calls kj47 t196 t199 t200 t201 t202 t203 t204 t205 t206 _ A56.out).mono ?_); rintro e w71 ⟨rfl, hb⟩; refine ⟨_, rfl, ?_⟩; replace BK193 := Aside0.mk (blk_below (g := gb193) (o := .cells #[.int .i64 1099511627775, .int .i64 1099511627776, .string (strOfNums y187), .string (strOfNums y190), .int .i64 2, .bool false] 25 (0, 0)) (bk BK193.out) hb); replace BK195 := Aside0.mk (blk_below (g := gb195) (o := .cells #[.int .i64 x196000_18, .int .i64 x196001_18, .string x196002_18, .string x196003_18, .int .i64 x196004_18, .bool x196005_18] 25 (0, 0)) (bk BK195.out) hb); replace HB := Aside0.mk (below_step bo hb); (try clear hb); (try clear hb2); (try clear hk); (try clear hi)) | ((with_reducible refine gate_dst (N := 9) rfl ?_); (try (refine gate_guard (by rfl) ?_; dsimp only)); refine box_event ?hg (N := 9) ?hd (cs := #[.int .i64 0, .int .i64 0, .string (⟨#[]⟩ : ByteArray), .string (⟨#[]⟩ : ByteArray), .int .i64 0, .bool false]) (t := 25) ?hr ?_; (case hd => rfl); (case hg => rfl); (case hr => first | (go_simp; done) | (go_simp; rfl)); intro gb207 hg w72 hbox hb; have BK207 := Aside0.mk (hbox); have GW207 := Aside0.mk ((by rw [hg]; exact (below_size bo) : w.heap.size ≤ gb207)); have GE207 := Aside0.mk ((by rw [hg]; exact (below_size bo) : w.heap.size ≤ gb207)); replace HB := Aside0.mk (below_step bo hb); have NB193_207 := Aside0.mk ((by rw [hg]; exact Nat.ne_of_lt (blk_lt (g := gb193) (o := .cells #[.int .i64 1099511627775, .int .i64 1099511627776, .string (strOfNums y187), .string (strOfNums y190), .int .i64 2, .bool false] 25 (0, 0)) (bk BK193.out)) : gb193 ≠ gb207)); have NB207_193 := Aside0.mk ((by rw [hg]; exact Nat.ne_of_gt (blk_lt (g := gb193) (o := .cells #[.int .i64 1099511627775, .int .i64 1099511627776, .string (strOfNums y187), .string (strOfNums y190), .int .i64 2, .bool false] 25 (0, 0)) (bk BK193.out)) : gb207 ≠ gb193)); replace BK193 := Aside0.mk (blk_below (g := gb193) (o := .cells #[.int .i64 1099511627775, .int .i64 1099511627776, .string (strOfNums y187), .string (strOfNums y190), .int .i64 2, .bool false] 25 (0, 0)) (bk BK193.out) hb); have NB195_207 := Aside0.mk ((by rw [hg]; exact Nat.ne_of_lt (blk_lt (g := gb195) (o := .cells #[.int .i64 x196000_18, .int .i64 x196001_18, .string x196002_18, .string x196003_18, .int .i64 x196004_18, .bool x196005_18] 25 (0, 0)) (bk BK195.out)) : gb195 ≠ gb207)); have NB207_195 := Aside0.mk ((by rw [hg]; exact Nat.ne_of_gt (blk_lt (g := gb195) (o := .cells #[.int .i64 x196000_18, .int .i64 x196001_18, .string x196002_18, .string x196003_18, .int .i64 x196004_18, .bool x196005_18] 25 (0, 0)) (bk BK195.out)) : gb207 ≠ gb195)); replace BK195 := Aside0.mk (blk_below (g := gb195) (o := .cells #[.int .i64 x196000_18, .int .i64 x196001_18, .string x196002_18, .string x196003_18, .int .i64 x196004_18, .bool x196005_18] 25 (0, 0)) (bk BK195.out) hb); clear hb hbox hg; have hnb73 := NB207_193.out; have hnc73 := NB193_207.out; have hnb74 := NB207_195.out; have hnc74 := NB195_207.out; obtain ⟨hcz75_0, hcz75_1, hcz75_2, hcz75_3, hcz75_4, hcz75_5⟩ := cl6 BK207.out; obtain ⟨hfz75_0, hfz75_1, hfz75_2, hfz75_3, hfz75_4, hfz75_5⟩ := fz6 BK207.out; have hnb76 := NB195_193.out; have hnc76 := NB193_195.out; obtain ⟨hcz77_0, hcz77_1, hcz77_2, hcz77_3, hcz77_4, hcz77_5⟩ := cl6 BK195.out; obtain ⟨hfz77_0, hfz77_1, hfz77_2, hfz77_3, hfz77_4, hfz77_5⟩ := fz6 BK195.out) | (go_at_call 15; (with_reducible refine (fairwaylaw10_num.calls t206 t208 _ A58.out).mono ?_); rintro e w' ⟨rfl, ⟨nd, rfl⟩⟩) | (go_at_call 17; (with_reducible refine (fairwayref10_Rec.calls t199 t200 t201 t202 t203 t204 true _ A69.out).mono ?_); rintro e w78 ⟨rfl, hb⟩; replace BK193 := Aside0.mk (blk_below (g := gb193) (o := .cells #[.int .i64 1099511627775, .int .i64 1099511627776, .string (strOfNums y187), .string (strOfNums y190), .int .i64 2, .bool false] 25 (0, 0)) (bf BK193.out) hb); replace BK195 := Aside0.mk (blk_below (g := gb195) (o := .cells #[.int .i64 x196000_18, .int .i64 x196001_18, .string x196002_18, .string x196003_18, .int .i64 x196004_18, .bool x196005_18] 25 (0, 0)) (bf BK195.out) hb); replace BK207 := Aside0.mk (blk_below (g := gb207) (o := .cells #[.int .i64 t199, .int .i64 t200, .string t201, .string t202, .int .i64 t203, .bool t204] 25 (0, 0)) (by (with_reducible repeat (first | refine blk_drewN ?_ _ | refine blk_drew ?_ | refine blk_alloc ?_ _)); refine blk_put (cs := #[.int .i64 t199, .int .i64 t200, .string t201, .string t202, .int .i64 t203, .bool false]) ?_ 5 _ rfl; (with_reducible repeat (first | refine blk_drewN ?_ _ | refine blk_drew ?_ | refine blk_alloc ?_ _)); refine blk_put (cs := #[.int .i64 t199, .int .i64 t200, .string t201, .string t202, .int .i64 0, .bool false]) ?_ 4 _ rfl; (with_reducible repeat (first | refine blk_drewN ?_ _ | refine blk_drew ?_ | refine blk_alloc ?_ _)); refine blk_put (cs := #[.int .i64 t199, .int .i64 t200, .string t201, .string (⟨#[]⟩ : ByteArray), .int .i64 0, .bool false]) ?_ 3 _ rfl; (with_reducible repeat (first | refine blk_drewN ?_ _ | refine blk_drew ?_ | refine blk_alloc ?_ _)); refine blk_put (cs := #[.int .i64 t199, .int .i64 t200, .string (⟨#[]⟩ : ByteArray), .string (⟨#[]⟩ : ByteArray), .int .i64 0, .bool false]) ?_ 2 _ rfl; (with_reducible repeat (first | refine blk_drewN ?_ _ | refine blk_drew ?_ | refine blk_alloc ?_ _)); refine blk_put (cs := #[.int .i64 t199, .int .i64 0, .string (⟨#[]⟩ : ByteArray), .string (⟨#[]⟩ : ByteArray), .int .i64 0, .bool false]) ?_ 1 _ rfl; (with_reducible repeat (first | refine blk_drewN ?_ _ | refine blk_drew ?_ | refine blk_alloc ?_ _)); refine blk_put (cs := #[.int .i64 0, .int .i64 0, .string (⟨#[]⟩ : ByteArray), .string (⟨#[]⟩ : ByteArray), .int .i64 0, .bool false]) ?_ 0 _ rfl; (with_reducible repeat (first | refine blk_drewN ?_ _ | refine blk_drew ?_ | refine blk_alloc ?_ _)); exact BK207.out) hb); replace HB := Aside0.mk (below_step bo hb); (try clear hb); (try clear hb2); (try clear hk); (try clear hi)))
                go_roundg kj47
                case measure => have := HK1.out; have := HJ18.out; have := HJ47.out; omega
                case rel => exact ⟨(wrap64 (x4_1 + 1)), ap, H', ⟨by have := HK1.out; have := HJ18.out; have := HJ47.out; omega⟩, ⟨by (with_reducible repeat (first | refine blk_drewN ?_ _ | refine blk_drew ?_ | refine blk_alloc ?_ _)); exact BK193.out⟩, ⟨bo⟩⟩
               ·replace c70 := Bool.eq_false_iff.mpr c70
                subst c70
                have H1 : (some false) = some r := by rw [if_neg (show ¬ (false = true) by decide)] at H; exact H
                clear H
                have H := H1
                clear H1
                obtain rfl := Option.some.inj H
                go_wp2_with (first | ((with_reducible refine gate_callee (f := 15) rfl ?_); refine goesL_ (some 63) rfl rfl Try.func15 (by kernel_rfl) rfl #[.int .i64 t197] rfl aa ?_; (with_reducible refine (fairwaylaw10_num.calls t197 t198 _ A53.out).mono ?_); rintro e w' ⟨rfl, ⟨nd, rfl⟩⟩; refine ⟨_, rfl, ?_⟩; (try (rw [drewN_self wc]; generalize hq_ : World.drewN wc _ = wc; have n0_ : Aside0 (wc.heap[gb193]? = some (.cells #[.int .i64 1099511627775, .int .i64 1099511627776, .string (strOfNums y187), .string (strOfNums y190), .int .i64 2, .bool false] 25 (0, 0))) := ⟨by rw [← hq_]; exact (bk BK193.out)⟩; have n1_ : Aside0 (wc.heap[gb195]? = some (.cells #[.int .i64 x196000_18, .int .i64 x196001_18, .string x196002_18, .string x196003_18, .int .i64 x196004_18, .bool x196005_18] 25 (0, 0))) := ⟨by rw [← hq_]; exact (bk BK195.out)⟩; have n2_ : Aside0 (Below w.heap.size w wc) := ⟨by rw [← hq_]; exact bo⟩; clear BK193 BK195 HB hq_; have BK193 := n0_; have BK195 := n1_; have HB := n2_; clear n0_ n1_ n2_))) | ((with_reducible refine gate_callee (f := 16) rfl ?_); refine goesL_ (some 70) rfl rfl Try.func16 (by kernel_rfl) rfl #[.string t196] rfl aa ?_; (with_reducible refine (rec_Take.calls kj47 t196 t199 t200 t201 t202 t203 t204 t205 t206 _ A56.out).mono ?_); rintro e w79 ⟨rfl, hb⟩; refine ⟨_, rfl, ?_⟩; replace BK193 := Aside0.mk (blk_below (g := gb193) (o := .cells #[.int .i64 1099511627775, .int .i64 1099511627776, .string (strOfNums y187), .string (strOfNums y190), .int .i64 2, .bool false] 25 (0, 0)) (bk BK193.out) hb); replace BK195 := Aside0.mk (blk_below (g := gb195) (o := .cells #[.int .i64 x196000_18, .int .i64 x196001_18, .string x196002_18, .string x196003_18, .int .i64 x196004_18, .bool x196005_18] 25 (0, 0)) (bk BK195.out) hb); replace HB := Aside0.mk (below_step bo hb); (try clear hb); (try clear hb2); (try clear hk); (try clear hi)) | ((with_reducible refine gate_dst (N := 9) rfl ?_); (try (refine gate_guard (by rfl) ?_; dsimp only)); refine box_event ?hg (N := 9) ?hd (cs := #[.int .i64 0, .int .i64 0, .string (⟨#[]⟩ : ByteArray), .string (⟨#[]⟩ : ByteArray), .int .i64 0, .bool false]) (t := 25) ?hr ?_; (case hd => rfl); (case hg => rfl); (case hr => first | (go_simp; done) | (go_simp; rfl)); intro gb207 hg w80 hbox hb; have BK207 := Aside0.mk (hbox); have GW207 := Aside0.mk ((by rw [hg]; exact (below_size bo) : w.heap.size ≤ gb207)); have GE207 := Aside0.mk ((by rw [hg]; exact (below_size bo) : w.heap.size ≤ gb207)); replace HB := Aside0.mk (below_step bo hb); have NB193_207 := Aside0.mk ((by rw [hg]; exact Nat.ne_of_lt (blk_lt (g := gb193) (o := .cells #[.int .i64 1099511627775, .int .i64 1099511627776, .string (strOfNums y187), .string (strOfNums y190), .int .i64 2, .bool false] 25 (0, 0)) (bk BK193.out)) : gb193 ≠ gb207)); have NB207_193 := Aside0.mk ((by rw [hg]; exact Nat.ne_of_gt (blk_lt (g := gb193) (o := .cells #[.int .i64 1099511627775, .int .i64 1099511627776, .string (strOfNums y187), .string (strOfNums y190), .int .i64 2, .bool false] 25 (0, 0)) (bk BK193.out)) : gb207 ≠ gb193)); replace BK193 := Aside0.mk (blk_below (g := gb193) (o := .cells #[.int .i64 1099511627775, .int .i64 1099511627776, .string (strOfNums y187), .string (strOfNums y190), .int .i64 2, .bool false] 25 (0, 0)) (bk BK193.out) hb); have NB195_207 := Aside0.mk ((by rw [hg]; exact Nat.ne_of_lt (blk_lt (g := gb195) (o := .cells #[.int .i64 x196000_18, .int .i64 x196001_18, .string x196002_18, .string x196003_18, .int .i64 x196004_18, .bool x196005_18] 25 (0, 0)) (bk BK195.out)) : gb195 ≠ gb207)); have NB207_195 := Aside0.mk ((by rw [hg]; exact Nat.ne_of_gt (blk_lt (g := gb195) (o := .cells #[.int .i64 x196000_18, .int .i64 x196001_18, .string x196002_18, .string x196003_18, .int .i64 x196004_18, .bool x196005_18] 25 (0, 0)) (bk BK195.out)) : gb207 ≠ gb195)); replace BK195 := Aside0.mk (blk_below (g := gb195) (o := .cells #[.int .i64 x196000_18, .int .i64 x196001_18, .string x196002_18, .string x196003_18, .int .i64 x196004_18, .bool x196005_18] 25 (0, 0)) (bk BK195.out) hb); clear hb hbox hg; have hnb81 := NB207_193.out; have hnc81 := NB193_207.out; have hnb82 := NB207_195.out; have hnc82 := NB195_207.out; obtain ⟨hcz83_0, hcz83_1, hcz83_2, hcz83_3, hcz83_4, hcz83_5⟩ := cl6 BK207.out; obtain ⟨hfz83_0, hfz83_1, hfz83_2, hfz83_3, hfz83_4, hfz83_5⟩ := fz6 BK207.out; have hnb84 := NB195_193.out; have hnc84 := NB193_195.out; obtain ⟨hcz85_0, hcz85_1, hcz85_2, hcz85_3, hcz85_4, hcz85_5⟩ := cl6 BK195.out; obtain ⟨hfz85_0, hfz85_1, hfz85_2, hfz85_3, hfz85_4, hfz85_5⟩ := fz6 BK195.out) | (go_at_call 15; (with_reducible refine (fairwaylaw10_num.calls t206 t208 _ A58.out).mono ?_); rintro e w' ⟨rfl, ⟨nd, rfl⟩⟩) | (go_at_call 17; (with_reducible refine (fairwayref10_Rec.calls t199 t200 t201 t202 t203 t204 false _ A69.out).mono ?_); rintro e w86 ⟨rfl, hb⟩; replace BK193 := Aside0.mk (blk_below (g := gb193) (o := .cells #[.int .i64 1099511627775, .int .i64 1099511627776, .string (strOfNums y187), .string (strOfNums y190), .int .i64 2, .bool false] 25 (0, 0)) (bf BK193.out) hb); replace BK195 := Aside0.mk (blk_below (g := gb195) (o := .cells #[.int .i64 x196000_18, .int .i64 x196001_18, .string x196002_18, .string x196003_18, .int .i64 x196004_18, .bool x196005_18] 25 (0, 0)) (bf BK195.out) hb); replace BK207 := Aside0.mk (blk_below (g := gb207) (o := .cells #[.int .i64 t199, .int .i64 t200, .string t201, .string t202, .int .i64 t203, .bool t204] 25 (0, 0)) (by (with_reducible repeat (first | refine blk_drewN ?_ _ | refine blk_drew ?_ | refine blk_alloc ?_ _)); refine blk_put (cs := #[.int .i64 t199, .int .i64 t200, .string t201, .string t202, .int .i64 t203, .bool false]) ?_ 5 _ rfl; (with_reducible repeat (first | refine blk_drewN ?_ _ | refine blk_drew ?_ | refine blk_alloc ?_ _)); refine blk_put (cs := #[.int .i64 t199, .int .i64 t200, .string t201, .string t202, .int .i64 0, .bool false]) ?_ 4 _ rfl; (with_reducible repeat (first | refine blk_drewN ?_ _ | refine blk_drew ?_ | refine blk_alloc ?_ _)); refine blk_put (cs := #[.int .i64 t199, .int .i64 t200, .string t201, .string (⟨#[]⟩ : ByteArray), .int .i64 0, .bool false]) ?_ 3 _ rfl; (with_reducible repeat (first | refine blk_drewN ?_ _ | refine blk_drew ?_ | refine blk_alloc ?_ _)); refine blk_put (cs := #[.int .i64 t199, .int .i64 t200, .string (⟨#[]⟩ : ByteArray), .string (⟨#[]⟩ : ByteArray), .int .i64 0, .bool false]) ?_ 2 _ rfl; (with_reducible repeat (first | refine blk_drewN ?_ _ | refine blk_drew ?_ | refine blk_alloc ?_ _)); refine blk_put (cs := #[.int .i64 t199, .int .i64 0, .string (⟨#[]⟩ : ByteArray), .string (⟨#[]⟩ : ByteArray), .int .i64 0, .bool false]) ?_ 1 _ rfl; (with_reducible repeat (first | refine blk_drewN ?_ _ | refine blk_drew ?_ | refine blk_alloc ?_ _)); refine blk_put (cs := #[.int .i64 0, .int .i64 0, .string (⟨#[]⟩ : ByteArray), .string (⟨#[]⟩ : ByteArray), .int .i64 0, .bool false]) ?_ 0 _ rfl; (with_reducible repeat (first | refine blk_drewN ?_ _ | refine blk_drew ?_ | refine blk_alloc ?_ _)); exact BK207.out) hb); replace HB := Aside0.mk (below_step bo hb); (try clear hb); (try clear hb2); (try clear hk); (try clear hi)))
                go_ret
                exact ⟨er, bo⟩
              ·rw [if_neg c68] at H
               have c68b0 : (t205 == (t196.size : Int)) = false := beq_eq_false_iff_ne.mpr c68
               have c68b1 : (t205 != (t196.size : Int)) = true := bne_iff_ne.mpr c68
               obtain rfl := Option.some.inj H
               go_wp2_with (first | ((with_reducible refine gate_callee (f := 15) rfl ?_); refine goesL_ (some 63) rfl rfl Try.func15 (by kernel_rfl) rfl #[.int .i64 t197] rfl aa ?_; (with_reducible refine (fairwaylaw10_num.calls t197 t198 _ A53.out).mono ?_); rintro e w' ⟨rfl, ⟨nd, rfl⟩⟩; refine ⟨_, rfl, ?_⟩; (try (rw [drewN_self wc]; generalize hq_ : World.drewN wc _ = wc; have n0_ : Aside0 (wc.heap[gb193]? = some (.cells #[.int .i64 1099511627775, .int .i64 1099511627776, .string (strOfNums y187), .string (strOfNums y190), .int .i64 2, .bool false] 25 (0, 0))) := ⟨by rw [← hq_]; exact (bk BK193.out)⟩; have n1_ : Aside0 (wc.heap[gb195]? = some (.cells #[.int .i64 x196000_18, .int .i64 x196001_18, .string x196002_18, .string x196003_18, .int .i64 x196004_18, .bool x196005_18] 25 (0, 0))) := ⟨by rw [← hq_]; exact (bk BK195.out)⟩; have n2_ : Aside0 (Below w.heap.size w wc) := ⟨by rw [← hq_]; exact bo⟩; clear BK193 BK195 HB hq_; have BK193 := n0_; have BK195 := n1_; have HB := n2_; clear n0_ n1_ n2_))) | ((with_reducible refine gate_callee (f := 16) rfl ?_); refine goesL_ (some 70) rfl rfl Try.func16 (by kernel_rfl) rfl #[.string t196] rfl aa ?_; (with_reducible refine (rec_Take.calls kj47 t196 t199 t200 t201 t202 t203 t204 t205 t206 _ A56.out).mono ?_); rintro e w87 ⟨rfl, hb⟩; refine ⟨_, rfl, ?_⟩; replace BK193 := Aside0.mk (blk_below (g := gb193) (o := .cells #[.int .i64 1099511627775, .int .i64 1099511627776, .string (strOfNums y187), .string (strOfNums y190), .int .i64 2, .bool false] 25 (0, 0)) (bk BK193.out) hb); replace BK195 := Aside0.mk (blk_below (g := gb195) (o := .cells #[.int .i64 x196000_18, .int .i64 x196001_18, .string x196002_18, .string x196003_18, .int .i64 x196004_18, .bool x196005_18] 25 (0, 0)) (bk BK195.out) hb); replace HB := Aside0.mk (below_step bo hb); (try clear hb); (try clear hb2); (try clear hk); (try clear hi)) | ((with_reducible refine gate_dst (N := 9) rfl ?_); (try (refine gate_guard (by rfl) ?_; dsimp only)); refine box_event ?hg (N := 9) ?hd (cs := #[.int .i64 0, .int .i64 0, .string (⟨#[]⟩ : ByteArray), .string (⟨#[]⟩ : ByteArray), .int .i64 0, .bool false]) (t := 25) ?hr ?_; (case hd => rfl); (case hg => rfl); (case hr => first | (go_simp; done) | (go_simp; rfl)); intro gb207 hg w88 hbox hb; have BK207 := Aside0.mk (hbox); have GW207 := Aside0.mk ((by rw [hg]; exact (below_size bo) : w.heap.size ≤ gb207)); have GE207 := Aside0.mk ((by rw [hg]; exact (below_size bo) : w.heap.size ≤ gb207)); replace HB := Aside0.mk (below_step bo hb); have NB193_207 := Aside0.mk ((by rw [hg]; exact Nat.ne_of_lt (blk_lt (g := gb193) (o := .cells #[.int .i64 1099511627775, .int .i64 1099511627776, .string (strOfNums y187), .string (strOfNums y190), .int .i64 2, .bool false] 25 (0, 0)) (bk BK193.out)) : gb193 ≠ gb207)); have NB207_193 := Aside0.mk ((by rw [hg]; exact Nat.ne_of_gt (blk_lt (g := gb193) (o := .cells #[.int .i64 1099511627775, .int .i64 1099511627776, .string (strOfNums y187), .string (strOfNums y190), .int .i64 2, .bool false] 25 (0, 0)) (bk BK193.out)) : gb207 ≠ gb193)); replace BK193 := Aside0.mk (blk_below (g := gb193) (o := .cells #[.int .i64 1099511627775, .int .i64 1099511627776, .string (strOfNums y187), .string (strOfNums y190), .int .i64 2, .bool false] 25 (0, 0)) (bk BK193.out) hb); have NB195_207 := Aside0.mk ((by rw [hg]; exact Nat.ne_of_lt (blk_lt (g := gb195) (o := .cells #[.int .i64 x196000_18, .int .i64 x196001_18, .string x196002_18, .string x196003_18, .int .i64 x196004_18, .bool x196005_18] 25 (0, 0)) (bk BK195.out)) : gb195 ≠ gb207)); have NB207_195 := Aside0.mk ((by rw [hg]; exact Nat.ne_of_gt (blk_lt (g := gb195) (o := .cells #[.int .i64 x196000_18, .int .i64 x196001_18, .string x196002_18, .string x196003_18, .int .i64 x196004_18, .bool x196005_18] 25 (0, 0)) (bk BK195.out)) : gb207 ≠ gb195)); replace BK195 := Aside0.mk (blk_below (g := gb195) (o := .cells #[.int .i64 x196000_18, .int .i64 x196001_18, .string x196002_18, .string x196003_18, .int .i64 x196004_18, .bool x196005_18] 25 (0, 0)) (bk BK195.out) hb); clear hb hbox hg; have hnb89 := NB207_193.out; have hnc89 := NB193_207.out; have hnb90 := NB207_195.out; have hnc90 := NB195_207.out; obtain ⟨hcz91_0, hcz91_1, hcz91_2, hcz91_3, hcz91_4, hcz91_5⟩ := cl6 BK207.out; obtain ⟨hfz91_0, hfz91_1, hfz91_2, hfz91_3, hfz91_4, hfz91_5⟩ := fz6 BK207.out; have hnb92 := NB195_193.out; have hnc92 := NB193_195.out; obtain ⟨hcz93_0, hcz93_1, hcz93_2, hcz93_3, hcz93_4, hcz93_5⟩ := cl6 BK195.out; obtain ⟨hfz93_0, hfz93_1, hfz93_2, hfz93_3, hfz93_4, hfz93_5⟩ := fz6 BK195.out) | (go_at_call 15; (with_reducible refine (fairwaylaw10_num.calls t206 t208 _ A58.out).mono ?_); rintro e w' ⟨rfl, ⟨nd, rfl⟩⟩))
               go_ret
               exact ⟨er, bo⟩
            ·rw [if_neg c59] at H
             have c59b0 : (t208 == 0) = false := beq_eq_false_iff_ne.mpr c59
             have c59b1 : (t208 != 0) = true := bne_iff_ne.mpr c59
             obtain rfl := Option.some.inj H
             go_wp2_with (first | ((with_reducible refine gate_callee (f := 15) rfl ?_); refine goesL_ (some 63) rfl rfl Try.func15 (by kernel_rfl) rfl #[.int .i64 t197] rfl aa ?_; (with_reducible refine (fairwaylaw10_num.calls t197 t198 _ A53.out).mono ?_); rintro e w' ⟨rfl, ⟨nd, rfl⟩⟩; refine ⟨_, rfl, ?_⟩; (try (rw [drewN_self wc]; generalize hq_ : World.drewN wc _ = wc; have n0_ : Aside0 (wc.heap[gb193]? = some (.cells #[.int .i64 1099511627775, .int .i64 1099511627776, .string (strOfNums y187), .string (strOfNums y190), .int .i64 2, .bool false] 25 (0, 0))) := ⟨by rw [← hq_]; exact (bk BK193.out)⟩; have n1_ : Aside0 (wc.heap[gb195]? = some (.cells #[.int .i64 x196000_18, .int .i64 x196001_18, .string x196002_18, .string x196003_18, .int .i64 x196004_18, .bool x196005_18] 25 (0, 0))) := ⟨by rw [← hq_]; exact (bk BK195.out)⟩; have n2_ : Aside0 (Below w.heap.size w wc) := ⟨by rw [← hq_]; exact bo⟩; clear BK193 BK195 HB hq_; have BK193 := n0_; have BK195 := n1_; have HB := n2_; clear n0_ n1_ n2_))) | ((with_reducible refine gate_callee (f := 16) rfl ?_); refine goesL_ (some 70) rfl rfl Try.func16 (by kernel_rfl) rfl #[.string t196] rfl aa ?_; (with_reducible refine (rec_Take.calls kj47 t196 t199 t200 t201 t202 t203 t204 t205 t206 _ A56.out).mono ?_); rintro e w94 ⟨rfl, hb⟩; refine ⟨_, rfl, ?_⟩; replace BK193 := Aside0.mk (blk_below (g := gb193) (o := .cells #[.int .i64 1099511627775, .int .i64 1099511627776, .string (strOfNums y187), .string (strOfNums y190), .int .i64 2, .bool false] 25 (0, 0)) (bk BK193.out) hb); replace BK195 := Aside0.mk (blk_below (g := gb195) (o := .cells #[.int .i64 x196000_18, .int .i64 x196001_18, .string x196002_18, .string x196003_18, .int .i64 x196004_18, .bool x196005_18] 25 (0, 0)) (bk BK195.out) hb); replace HB := Aside0.mk (below_step bo hb); (try clear hb); (try clear hb2); (try clear hk); (try clear hi)) | ((with_reducible refine gate_dst (N := 9) rfl ?_); (try (refine gate_guard (by rfl) ?_; dsimp only)); refine box_event ?hg (N := 9) ?hd (cs := #[.int .i64 0, .int .i64 0, .string (⟨#[]⟩ : ByteArray), .string (⟨#[]⟩ : ByteArray), .int .i64 0, .bool false]) (t := 25) ?hr ?_; (case hd => rfl); (case hg => rfl); (case hr => first | (go_simp; done) | (go_simp; rfl)); intro gb207 hg w95 hbox hb; have BK207 := Aside0.mk (hbox); have GW207 := Aside0.mk ((by rw [hg]; exact (below_size bo) : w.heap.size ≤ gb207)); have GE207 := Aside0.mk ((by rw [hg]; exact (below_size bo) : w.heap.size ≤ gb207)); replace HB := Aside0.mk (below_step bo hb); have NB193_207 := Aside0.mk ((by rw [hg]; exact Nat.ne_of_lt (blk_lt (g := gb193) (o := .cells #[.int .i64 1099511627775, .int .i64 1099511627776, .string (strOfNums y187), .string (strOfNums y190), .int .i64 2, .bool false] 25 (0, 0)) (bk BK193.out)) : gb193 ≠ gb207)); have NB207_193 := Aside0.mk ((by rw [hg]; exact Nat.ne_of_gt (blk_lt (g := gb193) (o := .cells #[.int .i64 1099511627775, .int .i64 1099511627776, .string (strOfNums y187), .string (strOfNums y190), .int .i64 2, .bool false] 25 (0, 0)) (bk BK193.out)) : gb207 ≠ gb193)); replace BK193 := Aside0.mk (blk_below (g := gb193) (o := .cells #[.int .i64 1099511627775, .int .i64 1099511627776, .string (strOfNums y187), .string (strOfNums y190), .int .i64 2, .bool false] 25 (0, 0)) (bk BK193.out) hb); have NB195_207 := Aside0.mk ((by rw [hg]; exact Nat.ne_of_lt (blk_lt (g := gb195) (o := .cells #[.int .i64 x196000_18, .int .i64 x196001_18, .string x196002_18, .string x196003_18, .int .i64 x196004_18, .bool x196005_18] 25 (0, 0)) (bk BK195.out)) : gb195 ≠ gb207)); have NB207_195 := Aside0.mk ((by rw [hg]; exact Nat.ne_of_gt (blk_lt (g := gb195) (o := .cells #[.int .i64 x196000_18, .int .i64 x196001_18, .string x196002_18, .string x196003_18, .int .i64 x196004_18, .bool x196005_18] 25 (0, 0)) (bk BK195.out)) : gb207 ≠ gb195)); replace BK195 := Aside0.mk (blk_below (g := gb195) (o := .cells #[.int .i64 x196000_18, .int .i64 x196001_18, .string x196002_18, .string x196003_18, .int .i64 x196004_18, .bool x196005_18] 25 (0, 0)) (bk BK195.out) hb); clear hb hbox hg; have hnb96 := NB207_193.out; have hnc96 := NB193_207.out; have hnb97 := NB207_195.out; have hnc97 := NB195_207.out; obtain ⟨hcz98_0, hcz98_1, hcz98_2, hcz98_3, hcz98_4, hcz98_5⟩ := cl6 BK207.out; obtain ⟨hfz98_0, hfz98_1, hfz98_2, hfz98_3, hfz98_4, hfz98_5⟩ := fz6 BK207.out; have hnb99 := NB195_193.out; have hnc99 := NB193_195.out; obtain ⟨hcz100_0, hcz100_1, hcz100_2, hcz100_3, hcz100_4, hcz100_5⟩ := cl6 BK195.out; obtain ⟨hfz100_0, hfz100_1, hfz100_2, hfz100_3, hfz100_4, hfz100_5⟩ := fz6 BK195.out) | (go_at_call 15; (with_reducible refine (fairwaylaw10_num.calls t206 t208 _ A58.out).mono ?_); rintro e w' ⟨rfl, ⟨nd, rfl⟩⟩))
             go_ret
             exact ⟨er, bo⟩
           ·rw [if_neg c57] at H
            have c57b0 : ((t196.size : Int) == (wrap64 ((wrap64 (25 + (x196002_18.size : Int))) + (x196003_18.size : Int)))) = false := beq_eq_false_iff_ne.mpr c57
            have c57b1 : ((t196.size : Int) != (wrap64 ((wrap64 (25 + (x196002_18.size : Int))) + (x196003_18.size : Int)))) = true := bne_iff_ne.mpr c57
            obtain rfl := Option.some.inj H
            go_wp2_with (first | ((with_reducible refine gate_callee (f := 15) rfl ?_); refine goesL_ (some 63) rfl rfl Try.func15 (by kernel_rfl) rfl #[.int .i64 t197] rfl aa ?_; (with_reducible refine (fairwaylaw10_num.calls t197 t198 _ A53.out).mono ?_); rintro e w' ⟨rfl, ⟨nd, rfl⟩⟩; refine ⟨_, rfl, ?_⟩; (try (rw [drewN_self wc]; generalize hq_ : World.drewN wc _ = wc; have n0_ : Aside0 (wc.heap[gb193]? = some (.cells #[.int .i64 1099511627775, .int .i64 1099511627776, .string (strOfNums y187), .string (strOfNums y190), .int .i64 2, .bool false] 25 (0, 0))) := ⟨by rw [← hq_]; exact (bk BK193.out)⟩; have n1_ : Aside0 (wc.heap[gb195]? = some (.cells #[.int .i64 x196000_18, .int .i64 x196001_18, .string x196002_18, .string x196003_18, .int .i64 x196004_18, .bool x196005_18] 25 (0, 0))) := ⟨by rw [← hq_]; exact (bk BK195.out)⟩; have n2_ : Aside0 (Below w.heap.size w wc) := ⟨by rw [← hq_]; exact bo⟩; clear BK193 BK195 HB hq_; have BK193 := n0_; have BK195 := n1_; have HB := n2_; clear n0_ n1_ n2_))) | ((with_reducible refine gate_callee (f := 16) rfl ?_); refine goesL_ (some 70) rfl rfl Try.func16 (by kernel_rfl) rfl #[.string t196] rfl aa ?_; (with_reducible refine (rec_Take.calls kj47 t196 t199 t200 t201 t202 t203 t204 t205 t206 _ A56.out).mono ?_); rintro e w101 ⟨rfl, hb⟩; refine ⟨_, rfl, ?_⟩; replace BK193 := Aside0.mk (blk_below (g := gb193) (o := .cells #[.int .i64 1099511627775, .int .i64 1099511627776, .string (strOfNums y187), .string (strOfNums y190), .int .i64 2, .bool false] 25 (0, 0)) (bk BK193.out) hb); replace BK195 := Aside0.mk (blk_below (g := gb195) (o := .cells #[.int .i64 x196000_18, .int .i64 x196001_18, .string x196002_18, .string x196003_18, .int .i64 x196004_18, .bool x196005_18] 25 (0, 0)) (bk BK195.out) hb); replace HB := Aside0.mk (below_step bo hb); (try clear hb); (try clear hb2); (try clear hk); (try clear hi)) | ((with_reducible refine gate_dst (N := 9) rfl ?_); (try (refine gate_guard (by rfl) ?_; dsimp only)); refine box_event ?hg (N := 9) ?hd (cs := #[.int .i64 0, .int .i64 0, .string (⟨#[]⟩ : ByteArray), .string (⟨#[]⟩ : ByteArray), .int .i64 0, .bool false]) (t := 25) ?hr ?_; (case hd => rfl); (case hg => rfl); (case hr => first | (go_simp; done) | (go_simp; rfl)); intro gb207 hg w102 hbox hb; have BK207 := Aside0.mk (hbox); have GW207 := Aside0.mk ((by rw [hg]; exact (below_size bo) : w.heap.size ≤ gb207)); have GE207 := Aside0.mk ((by rw [hg]; exact (below_size bo) : w.heap.size ≤ gb207)); replace HB := Aside0.mk (below_step bo hb); have NB193_207 := Aside0.mk ((by rw [hg]; exact Nat.ne_of_lt (blk_lt (g := gb193) (o := .cells #[.int .i64 1099511627775, .int .i64 1099511627776, .string (strOfNums y187), .string (strOfNums y190), .int .i64 2, .bool false] 25 (0, 0)) (bk BK193.out)) : gb193 ≠ gb207)); have NB207_193 := Aside0.mk ((by rw [hg]; exact Nat.ne_of_gt (blk_lt (g := gb193) (o := .cells #[.int .i64 1099511627775, .int .i64 1099511627776, .string (strOfNums y187), .string (strOfNums y190), .int .i64 2, .bool false] 25 (0, 0)) (bk BK193.out)) : gb207 ≠ gb193)); replace BK193 := Aside0.mk (blk_below (g := gb193) (o := .cells #[.int .i64 1099511627775, .int .i64 1099511627776, .string (strOfNums y187), .string (strOfNums y190), .int .i64 2, .bool false] 25 (0, 0)) (bk BK193.out) hb); have NB195_207 := Aside0.mk ((by rw [hg]; exact Nat.ne_of_lt (blk_lt (g := gb195) (o := .cells #[.int .i64 x196000_18, .int .i64 x196001_18, .string x196002_18, .string x196003_18, .int .i64 x196004_18, .bool x196005_18] 25 (0, 0)) (bk BK195.out)) : gb195 ≠ gb207)); have NB207_195 := Aside0.mk ((by rw [hg]; exact Nat.ne_of_gt (blk_lt (g := gb195) (o := .cells #[.int .i64 x196000_18, .int .i64 x196001_18, .string x196002_18, .string x196003_18, .int .i64 x196004_18, .bool x196005_18] 25 (0, 0)) (bk BK195.out)) : gb207 ≠ gb195)); replace BK195 := Aside0.mk (blk_below (g := gb195) (o := .cells #[.int .i64 x196000_18, .int .i64 x196001_18, .string x196002_18, .string x196003_18, .int .i64 x196004_18, .bool x196005_18] 25 (0, 0)) (bk BK195.out) hb); clear hb hbox hg; have hnb103 := NB207_193.out; have hnc103 := NB193_207.out; have hnb104 := NB207_195.out; have hnc104 := NB195_207.out; obtain ⟨hcz105_0, hcz105_1, hcz105_2, hcz105_3, hcz105_4, hcz105_5⟩ := cl6 BK207.out; obtain ⟨hfz105_0, hfz105_1, hfz105_2, hfz105_3, hfz105_4, hfz105_5⟩ := fz6 BK207.out; have hnb106 := NB195_193.out; have hnc106 := NB193_195.out; obtain ⟨hcz107_0, hcz107_1, hcz107_2, hcz107_3, hcz107_4, hcz107_5⟩ := cl6 BK195.out; obtain ⟨hfz107_0, hfz107_1, hfz107_2, hfz107_3, hfz107_4, hfz107_5⟩ := fz6 BK195.out))
            go_ret
            exact ⟨er, bo⟩
          ·replace c55 := Bool.eq_false_iff.mpr c55
           subst c55
           have H1 : (fairwaylaw10_RecEdges.l0 kj47 l0 (wrap64 (x4_1 + 1)) 1099511627775 1099511627776 (strOfNums y187) (strOfNums y190) 2 false) = some r := by rw [if_neg (show ¬ (false = true) by decide)] at H; exact H
           clear H
           have H := H1
           clear H1
           have H' := Aside0.mk H
           clear H
           go_wp2_with (first | ((with_reducible refine gate_callee (f := 15) rfl ?_); refine goesL_ (some 63) rfl rfl Try.func15 (by kernel_rfl) rfl #[.int .i64 t197] rfl aa ?_; (with_reducible refine (fairwaylaw10_num.calls t197 t198 _ A53.out).mono ?_); rintro e w' ⟨rfl, ⟨nd, rfl⟩⟩; refine ⟨_, rfl, ?_⟩))
           go_roundg kj47
           case measure => have := HK1.out; have := HJ18.out; have := HJ47.out; omega
           case rel => exact ⟨(wrap64 (x4_1 + 1)), ap, H', ⟨by have := HK1.out; have := HJ18.out; have := HJ47.out; omega⟩, ⟨by (with_reducible repeat (first | refine blk_drewN ?_ _ | refine blk_drew ?_ | refine blk_alloc ?_ _)); exact BK193.out⟩, ⟨bo⟩⟩
    ·rw [if_neg c18] at H
     have c18b0 : decide (x4_1 < 8) = false := decide_eq_false c18
     clear c18
     by_cases c108 : (l0.length : Int) ≥ 0
     ·rw [if_pos c108] at H
      have c108b0 : decide (0 ≤ (l0.length : Int)) = true := decide_eq_true c108
      have c108b1 : decide (0 ≤ l0.length) = true := decide_eq_true (by omega)
      clear c108
      replace H := Option.bind_eq_some_iff.mp H
      obtain ⟨t194, A1090, H⟩ := H
      replace H : (some t194) = some r := H
      have A109 := Aside0.mk A1090
      clear A1090
      obtain rfl := Option.some.inj H
      go_wp2_with (first | (go_at_call 18; (with_reducible refine (fairwaylaw10_wakes.calls k1  t194 _ A109.out).mono ?_); rintro e w110 ⟨rfl, hb⟩; replace BK193 := Aside0.mk (blk_below (g := gb193) (o := .cells #[.int .i64 1099511627775, .int .i64 1099511627776, .string (strOfNums y187), .string (strOfNums y190), .int .i64 2, .bool false] 25 (0, 0)) (bk BK193.out) hb); replace HB := Aside0.mk (below_step bo hb); (try clear hb); (try clear hb2); (try clear hk); (try clear hi)))
      go_ret
      exact ⟨er, bo⟩
     ·exact absurd (show (l0.length : Int) ≥ 0 by omega) c108
 ·rw [if_neg c2] at H
  exact absurd H (by simp)

end Go.Proofs.Ytmabdfdmccbfnaa.P

/- From data to typed values: whatever the claim's reader reads at a type is told by the print's kinds, with the bounds of the reach. -/
namespace Go.Proofs.Ytmabdfdmccbfnaa.Open
open Go.RowKit Go.Proofs.YtmabdfdmccbfnaaW.PrintWords Go.Proofs.YtmabdfdmccbfnaaW.PrintLast
set_option linter.unusedVariables false

/-- What is read at type t is told by kind k, and is good. -/
structure Rd {α : Type} (P : Program) (t : TypeId) (k : Kd α) (good : α → Prop) : Prop where
  sz : P.cellsOf t = k.sz
  rd : ∀ {H : Type} (enc : TypeId × Value → H) (w : World) (fuel : Nat) (cs : List Value) (d : DataW H) (ps : List MemPlace),
    DataW.trod enc P w 0 (fun _ => true) true fuel t cs = some (d, ps) → (∀ n ∈ d.weights P t, n ≤ reachBytes) → ∃ x, k.K w x cs ∧ good x

theorem rd_int {P : Program} {t : TypeId} {k : IntKind} (hu : P.underlying t = some (.int k)) (hc : P.cellsOf t = 1) : Rd P t (Kd.int k) (fun n => (Lit.int k n).wf = true) where
  sz := hc
  rd := by
    intro H enc w fuel cs d ps h _
    obtain ⟨n, rfl, _, hw⟩ := DataW.trod_int hu h
    exact ⟨n, rfl, hw⟩

theorem rd_bool {P : Program} {t : TypeId} (hu : P.underlying t = some .bool) (hc : P.cellsOf t = 1) : Rd P t Kd.bool (fun _ => True) where
  sz := hc
  rd := by
    intro H enc w fuel cs d ps h _
    obtain ⟨b, rfl, _⟩ := DataW.trod_bool hu h
    exact ⟨b, rfl, trivial⟩

theorem rd_string {P : Program} {t : TypeId} (hu : P.underlying t = some .string) (hc : P.cellsOf t = 1) : Rd P t Kd.string (fun s => s.size ≤ 140737488351232) where
  sz := hc
  rd := by
    intro H enc w fuel cs d ps h hw
    obtain ⟨s, rfl, hx, _⟩ := DataW.trod_string hu h
    obtain ⟨rfl, rfl⟩ := Prod.mk.inj hx
    refine ⟨s, rfl, ?_⟩
    have := hw s.data.toList.length (by simp [DataW.weights])
    simpa [reachBytes] using this

/-- A struct's fields, from one on: their cells in line. -/
structure Fs {α : Type} (P : Program) (fs : List Field) (off : Nat) (k : Kd α) (good : α → Prop) : Prop where
  rd : ∀ {H : Type} (enc : TypeId × Value → H) (w : World) (fuel : Nat) (cs : List Value) (ds : List (DataW H × List MemPlace)),
    ds.length = fs.length → (∀ (i : Nat) f, fs[i]? = some f → DataW.trod enc P w 0 (fun _ => true) true fuel f.type ((cs.drop f.offset).take (P.cellsOf f.type)) = ds[i]?) →
    (∀ n ∈ DataW.weightsEach P (fs.map (·.type)) (ds.map (·.1)), n ≤ reachBytes) → cs.length = off + k.sz → ∃ x, k.K w x (cs.drop off) ∧ good x

theorem fs_last {α : Type} {P : Program} {f : Field} {k : Kd α} {good : α → Prop} (h : Rd P f.type k good) : Fs P [f] f.offset k good where
  rd := by
    intro H enc w fuel cs ds hl hd hw hc
    match ds, hl with
    | [y], _ =>
      have h0 := hd 0 f rfl
      simp only [List.getElem?_cons_zero] at h0
      obtain ⟨x, hk, hg⟩ := h.rd enc w fuel _ y.1 y.2 h0 (fun n hn => hw n (by simp [DataW.weightsEach]; exact hn))
      rw [h.sz, List.take_of_length_le (by rw [List.length_drop]; omega)] at hk
      exact ⟨x, hk, hg⟩

theorem fs_cons {α β : Type} {P : Program} {f : Field} {fs : List Field} {off : Nat} {k : Kd α} {k' : Kd β} {good : α → Prop} {good' : β → Prop} (h : Rd P f.type k good) (hs : Fs P fs off k' good')
    (ho : f.offset + k.sz = off) : Fs P (f :: fs) f.offset (Kd.pair k k') (fun x => good x.1 ∧ good' x.2) where
  rd := by
    intro H enc w fuel cs ds hl hd hw hc
    match ds, hl with
    | y :: ys, hl =>
      have hsz : (Kd.pair k k').sz = k.sz + k'.sz := rfl
      rw [hsz] at hc
      have h0 := hd 0 f rfl
      simp only [List.getElem?_cons_zero] at h0
      obtain ⟨x, hk, hg⟩ := h.rd enc w fuel _ y.1 y.2 h0 (fun n hn => hw n (by simp only [List.map_cons, DataW.weightsEach, List.mem_append]; exact .inl hn))
      obtain ⟨x', hk', hg'⟩ := hs.rd enc w fuel cs ys (by simpa using hl) (fun i g hi => by simpa using hd (i + 1) g (by simpa using hi))
        (fun n hn => hw n (by simp only [List.map_cons, DataW.weightsEach, List.mem_append]; exact .inr hn)) (by omega)
      rw [h.sz] at hk
      refine ⟨(x, x'), ⟨_, _, ?_, hk, hk'⟩, hg, hg'⟩
      rw [← ho, ← List.drop_drop, List.take_append_drop]

theorem rd_struct {α β : Type} {P : Program} {t : TypeId} {fs : Array Field} {k : Kd β} {good : β → Prop} {fw : α → β} {back : β → α} (hu : P.underlying t = some (.struct fs)) (h : Fs P fs.toList 0 k good)
    (hc : P.cellsOf t = k.sz) (hb : ∀ y, fw (back y) = y) : Rd P t (Kd.iso k fw) (fun x => good (fw x)) where
  sz := hc
  rd := by
    intro H enc w fuel cs d ps hr hw
    obtain ⟨xs, n, _, hx, hl, hlen, hf⟩ := DataW.trod_struct hu hr
    obtain ⟨rfl, rfl⟩ := Prod.mk.inj hx
    obtain ⟨x, hk, hg⟩ := h.rd enc w n cs xs (by simpa using hlen) (fun i f hi => by simpa using hf i f (by simpa using hi))
      (fun m hm => hw m (by simp only [DataW.weights, hu]; exact hm)) (by rw [hl, hc]; omega)
    refine ⟨back x, ?_, ?_⟩
    · show k.K w (fw (back x)) cs
      rw [hb]
      simpa using hk
    · show good (fw (back x))
      rw [hb]; exact hg

theorem list_of {α : Type} {p : Nat → α → Prop} : ∀ n, (∀ i, i < n → ∃ x, p i x) → ∃ xs : List α, xs.length = n ∧ ∀ i x, xs[i]? = some x → p i x
  | 0, _ => ⟨[], rfl, fun i x h => by simp at h⟩
  | n + 1, h => by
    obtain ⟨xs, hl, hx⟩ := list_of n (fun i hi => h i (by omega))
    obtain ⟨y, hy⟩ := h n (by omega)
    refine ⟨xs ++ [y], by simp [hl], fun i x hi => ?_⟩
    by_cases hin : i < xs.length
    · rw [List.getElem?_append_left hin] at hi
      exact hx i x hi
    · rw [List.getElem?_append_right (by omega)] at hi
      have : i = xs.length := by
        by_cases e : i - xs.length = 0
        · omega
        · rw [List.getElem?_eq_none (by simp; omega)] at hi
          exact absurd hi (by simp)
      subst this
      simp at hi
      rw [hl, ← hi]
      exact hy

theorem weights_all {H : Type} {P : Program} {e : TypeId} : ∀ {l : List (DataW H)} {d : DataW H}, d ∈ l → ∀ n ∈ d.weights P e, n ∈ DataW.weightsAll P e l
  | [], _, h, _, _ => by simp at h
  | x :: l, d, h, n, hn => by
    simp only [DataW.weightsAll, List.mem_append]
    rcases List.mem_cons.1 h with rfl | h
    · exact .inl hn
    · exact .inr (weights_all h n hn)

theorem rd_slice {α : Type} {P : Program} {t e : TypeId} {k : Kd α} {good : α → Prop} (B : Nat) (hu : P.underlying t = some (.slice e)) (hc : P.cellsOf t = 1) (hB : P.bytesOf e = B) (h : Rd P e k good) :
    Rd P t (Kd.slice e k) (fun xs => (∀ x ∈ xs, good x) ∧ xs.length * B ≤ 140737488351232) where
  sz := hc
  rd := by
    intro H enc w fuel cs d ps hr hw
    rcases DataW.trod_slice hu hr with ⟨rfl, hx⟩ | ⟨a, len, cap, elems, rest, n, _, rfl, hx, _, hl, hm, hlen, hel, _, _⟩
    · exact ⟨[], ⟨none, 0, rfl, Nat.le_refl 0, Kd.C_nil k w⟩, by simp, by simp⟩
    · obtain ⟨rfl, rfl⟩ := Prod.mk.inj hx
      have hw1 : ∀ x ∈ elems, ∀ n ∈ x.1.weights P e, n ≤ reachBytes := fun x hx n hn =>
        hw n (by simp only [DataW.weights, hu, List.mem_cons, List.mem_append]; exact .inr (.inl (weights_all (List.mem_map_of_mem hx) n hn)))
      have hw2 : (elems.length + rest.length) * P.bytesOf e ≤ reachBytes := hw _ (by simp only [DataW.weights, hu, List.mem_cons, List.length_map]; simp)
      have key : ∀ i, i < len → ∃ x, good x ∧ ∃ c, c.length = k.sz ∧ k.K w x c ∧ ∀ j u, c[j]? = some u → w.cell? (a.add (i * k.sz + j)) = some u := by
        intro i hi
        have h1 := hel i hi
        rw [List.getElem?_eq_getElem (by omega)] at h1
        obtain ⟨c, hcs, htr⟩ := Option.bind_eq_some_iff.1 h1
        obtain ⟨x, hk, hg⟩ := h.rd enc w n c _ _ htr (hw1 _ (List.getElem_mem _))
        obtain ⟨_, hcl, hcell⟩ := World.cells?_some hcs
        rw [h.sz] at hcl hcell
        refine ⟨x, hg, c, hcl, hk, fun j u hu => ?_⟩
        have hj : j < k.sz := by
          rw [← hcl]
          exact (List.getElem?_eq_some_iff.1 hu).1
        rw [← Go.Deep.add_add, hcell j hj, hu]
      obtain ⟨xs, hxl, hxs⟩ := list_of (α := α) len key
      subst hxl
      refine ⟨xs, ⟨some a, cap, rfl, hl, rfl, by unfold maxLen at hm; omega, fun _ => ⟨a, rfl, fun j p hp => ?_⟩⟩, fun x hx => ?_, ?_⟩
      · obtain ⟨_, c, h1, h2, h3⟩ := hxs j p hp
        exact ⟨c, h1, h2, h3⟩
      · obtain ⟨i, hi, rfl⟩ := List.mem_iff_getElem.1 hx
        exact (hxs i _ (List.getElem?_eq_getElem hi)).1
      · have : xs.length * P.bytesOf e ≤ (elems.length + rest.length) * P.bytesOf e := Nat.mul_le_mul_right _ (by omega)
        unfold reachBytes at hw2
        rw [hB] at hw2 this
        omega
end Go.Proofs.Ytmabdfdmccbfnaa.Open

/- Readers of the types that this seat's laws take. -/
namespace Go.Proofs.Ytmabdfdmccbfnaa.P
open Go.RowKit Go.Proofs.YtmabdfdmccbfnaaW.PrintWords Go.Proofs.YtmabdfdmccbfnaaW.PrintLast Go.Proofs.Ytmabdfdmccbfnaa.Open
set_option linter.unusedVariables false
def good25 (x : S25) : Prop := (Lit.int .i64 x.f0).wf = true ∧ (Lit.int .i64 x.f1).wf = true ∧ x.f2.size ≤ 140737488351232 ∧ x.f3.size ≤ 140737488351232 ∧ (Lit.int .i64 x.f4).wf = true ∧ True
theorem rd25 : Rd Try.prog 25 k25 good25 := rd_struct (back := fun y => ⟨y.1, y.2.1, y.2.2.1, y.2.2.2.1, y.2.2.2.2.1, y.2.2.2.2.2⟩) Try.underlying25 (fs_cons (rd_int Try.underlying3 (by kernel_rfl)) (fs_cons (rd_int Try.underlying3 (by kernel_rfl)) (fs_cons (rd_string Try.underlying9 (by kernel_rfl)) (fs_cons (rd_string Try.underlying9 (by kernel_rfl)) (fs_cons (rd_int Try.underlying3 (by kernel_rfl)) (fs_last (rd_bool Try.underlying4 (by kernel_rfl))) rfl) rfl) rfl) rfl) rfl) (by kernel_rfl) (fun _ => rfl)
def good38 (x : S38) : Prop := ((∀ z ∈ x.f0, good25 z) ∧ x.f0.length * 64 ≤ 140737488351232) ∧ x.f1.size ≤ 140737488351232
theorem rd38 : Rd Try.prog 38 k38 good38 := rd_struct (back := fun y => ⟨y.1, y.2⟩) Try.underlying38 (fs_cons (rd_slice 64 Try.underlying36 (by kernel_rfl) (by kernel_rfl) rd25) (fs_last (rd_string Try.underlying9 (by kernel_rfl))) rfl) (by kernel_rfl) (fun _ => rfl)
def good53 (x : S53) : Prop := (Lit.int .i64 x.f0).wf = true ∧ ((∀ z ∈ x.f1, good25 z) ∧ x.f1.length * 64 ≤ 140737488351232)
theorem rd53 : Rd Try.prog 53 k53 good53 := rd_struct (back := fun y => ⟨y.1, y.2⟩) Try.underlying53 (fs_cons (rd_int Try.underlying3 (by kernel_rfl)) (fs_last (rd_slice 64 Try.underlying36 (by kernel_rfl) (by kernel_rfl) rd25)) rfl) (by kernel_rfl) (fun _ => rfl)
structure S55 where
  f0 : S53
  f1 : List (S25)
  f2 : List (Int)
  f3 : ByteArray
def k55 : Kd S55 := Kd.iso (Kd.pair k53 (Kd.pair (Kd.slice 25 k25) (Kd.pair (Kd.slice 3 (Kd.int .i64)) Kd.string))) (fun x : S55 => (x.f0, x.f1, x.f2, x.f3))
def good55 (x : S55) : Prop := good53 x.f0 ∧ ((∀ z ∈ x.f1, good25 z) ∧ x.f1.length * 64 ≤ 140737488351232) ∧ ((∀ z ∈ x.f2, (Lit.int .i64 z).wf = true) ∧ x.f2.length * 8 ≤ 140737488351232) ∧ x.f3.size ≤ 140737488351232
theorem rd55 : Rd Try.prog 55 k55 good55 := rd_struct (back := fun y => ⟨y.1, y.2.1, y.2.2.1, y.2.2.2⟩) Try.underlying55 (fs_cons rd53 (fs_cons (rd_slice 64 Try.underlying36 (by kernel_rfl) (by kernel_rfl) rd25) (fs_cons (rd_slice 8 Try.underlying50 (by kernel_rfl) (by kernel_rfl) (rd_int Try.underlying3 (by kernel_rfl))) (fs_last (rd_string Try.underlying9 (by kernel_rfl))) rfl) rfl) rfl) (by kernel_rfl) (fun _ => rfl)
end Go.Proofs.Ytmabdfdmccbfnaa.P

/- A string's list of bytes. -/
namespace Go.Proofs.Ytmabdfdmccbfnaa.UTl
theorem toList_loop (b : ByteArray) (i : Nat) (r : List UInt8) : ByteArray.toList.loop b i r = r.reverse ++ b.data.toList.drop i := by
  fun_induction ByteArray.toList.loop b i r with
  | case1 i r h ih =>
    rw [ih]
    have h' : i < b.data.toList.length := by rw [Array.length_toList]; exact h
    rw [List.drop_eq_getElem_cons h']
    simp [ByteArray.get!, getElem!_pos, h]
  | case2 i r h =>
    have h' : b.data.toList.length ≤ i := by rw [Array.length_toList]; exact Nat.le_of_not_lt h
    simp [List.drop_eq_nil_of_le h']
theorem toList_data (b : ByteArray) : b.toList = b.data.toList := by
  rw [ByteArray.toList, toList_loop]; simp
theorem toList_nil (b : ByteArray) : b.toList = [] ↔ b.size = 0 := by
  rw [toList_data, ← ByteArray.size_data, ← Array.length_toList]; exact List.length_eq_zero_iff.symm
theorem toList_inj (a b : ByteArray) (h : a.toList = b.toList) : a = b := by
  rw [toList_data, toList_data] at h
  exact ByteArray.ext (Array.ext' h)
theorem append_nil (b : ByteArray) : b ++ (⟨#[]⟩ : ByteArray) = b := ByteArray.append_empty
end Go.Proofs.Ytmabdfdmccbfnaa.UTl

-- written by a program of the proving session, out of the translation; Lean checks it
namespace Go.Proofs.Ytmabdfdmccbfnaa.P
open Go.RowKit Go.Proofs.Ytmabdfdmccbfnaa.Sq Go.Proofs.YtmabdfdmccbfnaaW.PrintWords Go.Proofs.YtmabdfdmccbfnaaW.PrintLast Go.Proofs.YtmabdfdmccbfnaaW.PrintMore
attribute [local go_sem] max2_int min2_int max_two min_two max_three min_three max_four min_four   -- for this text's walks alone
set_option linter.unusedVariables false
set_option linter.unusedSimpArgs false

/-! ### fairwaylaw0_RecsWeight: function 68 -/
def fairwaylaw0_RecsWeight.l0 : Nat → List (S25) → Int → Int → Option (Int)
 | 0, _, _, _ => none
 | k + 1, x0, x3, x4 => if x4 < (x0.length : Int) then (if x3 < 1048576 then (if 0 ≤ x4 then (fairwaylaw0_RecsWeight.l0 k x0 (wrap64 ((wrap64 (x3 + (((rd_T25 x0 x4).f2).size : Int))) + (((rd_T25 x0 x4).f3).size : Int))) (wrap64 (x4 + 1))) else (none)) else (some x3)) else (some x3)
def fairwaylaw0_RecsWeight.f (k : Nat) (l0 : List (S25)) : Option (Int) := fairwaylaw0_RecsWeight.l0 k l0 (l0.length : Int) 0
theorem fairwaylaw0_RecsWeight.mono_l : ∀ k, (∀ y0 y1 y2, LeO (fairwaylaw0_RecsWeight.l0 k y0 y1 y2) (fairwaylaw0_RecsWeight.l0 (k + 1) y0 y1 y2))
 | 0 => fun _ _ _ r h => by simp [fairwaylaw0_RecsWeight.l0] at h
 | k + 1 => by
  have ih0 := fairwaylaw0_RecsWeight.mono_l k
  ·intro y0 y1 y2
   unfold fairwaylaw0_RecsWeight.l0
   repeat' first
   | (with_reducible exact ih0 _ _ _)
   | (with_reducible exact LeO.refl _)
   | (with_reducible exact LeO.none _)
   | (with_reducible refine LeO.ite ?_ ?_)
   | (with_reducible refine LeO.bind ?_ (fun _ => ?_))
   | exact ih0 _ _ _
   | exact LeO.none _
   | refine LeO.ite ?_ ?_
   | refine LeO.bind ?_ (fun _ => ?_)
theorem fairwaylaw0_RecsWeight.mono : ∀ a0 k, LeO (fairwaylaw0_RecsWeight.f k a0) (fairwaylaw0_RecsWeight.f (k + 1) a0) := by
 intro a0 k
 have ih0 := fairwaylaw0_RecsWeight.mono_l k
 unfold fairwaylaw0_RecsWeight.f
 repeat' first
  | (with_reducible exact ih0 _ _ _)
  | (with_reducible exact LeO.refl _)
  | (with_reducible exact LeO.none _)
  | (with_reducible refine LeO.ite ?_ ?_)
  | (with_reducible refine LeO.bind ?_ (fun _ => ?_))
  | exact ih0 _ _ _
  | exact LeO.none _
  | refine LeO.ite ?_ ?_
  | refine LeO.bind ?_ (fun _ => ?_)
set_option maxHeartbeats 8000000 in
set_option maxRecDepth 100000 in
theorem fairwaylaw0_RecsWeight.calls (k : Nat) (A0 : Option Addr) (c0 : Nat) (l0 : List (S25)) (r : Int) (w : World) (hr0 : Kd.C k25 w A0 l0.length l0) (hc0 : l0.length ≤ c0) (h : fairwaylaw0_RecsWeight.f k l0 = some r) :
 Calls Try.prog 68 #[.slice A0 l0.length c0] w fun e w' => e = .returned (.int .i64 r) ∧ Drawn0 w w' := by
 have HR0 := Aside0.mk hr0
 have HC0 := Aside0.mk hc0
 clear hr0 hc0
 have H : (fairwaylaw0_RecsWeight.l0 k l0 (l0.length : Int) 0) = some r := h
 clear h
 have H' := Aside0.mk H
 clear H
 go_enter Try.func68, Try.ntmps68
 go_wp2
 repeat (go_quiet (fail); try go_wp2)
 go_loopg [3, 4] k (fun kq v3 v4 w' => ∃ (x3_1 : Int) (x4_1 : Int), v3 = .int .i64 x3_1 ∧ v4 = .int .i64 x4_1 ∧ Aside0 (fairwaylaw0_RecsWeight.l0 kq l0 x3_1 x4_1 = some r) ∧ Aside0 (kq ≤ k) ∧ Drawn0 w w')
 case atStart => exact ⟨((l0.length : Int)), (0), ap, ap, H', ⟨Nat.le_refl _⟩, dr⟩
 case round =>
  clear H'
  obtain ⟨x3_1, x4_1, rfl, rfl, HA, HK1, ⟨m1, rfl⟩⟩ := hrel
  cases gk with
  | zero => exact absurd HA.out (by simp [fairwaylaw0_RecsWeight.l0])
  | succ k1 =>
   have H := HA.out
   clear HA
   simp only [fairwaylaw0_RecsWeight.l0] at H
   by_cases c2 : x4_1 < (l0.length : Int)
   ·rw [if_pos c2] at H
    have c2b0 : decide (x4_1 < (l0.length : Int)) = true := decide_eq_true c2
    clear c2
    by_cases c3 : x3_1 < 1048576
    ·rw [if_pos c3] at H
     have c3b0 : decide (x3_1 < 1048576) = true := decide_eq_true c3
     clear c3
     by_cases c4 : 0 ≤ x4_1
     ·rw [if_pos c4] at H
      have c4b0 : decide (0 ≤ x4_1) = true := decide_eq_true c4
      clear c4
      have H' := Aside0.mk H
      clear H
      have p210 : 0 ≤ (x4_1 : Int) := od
      have q210 : x4_1 < (l0.length : Int) := od
      obtain ⟨ad210, e210, hx210_0, hx210_1, hx210_2, hx210_3, hx210_4, hx210_5⟩ := at_T25 HR0.out x4_1 p210 q210
      cases e210
      replace p210 := eq_true p210
      replace q210 := eq_true q210
      have p211 : 0 ≤ (x4_1 : Int) := od
      have q211 : x4_1 < (l0.length : Int) := od
      obtain ⟨ad211, e211, hx211_0, hx211_1, hx211_2, hx211_3, hx211_4, hx211_5⟩ := at_T25 HR0.out x4_1 p211 q211
      obtain rfl : ad210 = ad211 := (by injection e211)
      replace p211 := eq_true p211
      replace q211 := eq_true q211
      go_wp2
      repeat (go_quiet (fail); try go_wp2)
      go_roundg k1
      case measure => have := HK1.out; omega
      case rel => exact ⟨(wrap64 ((wrap64 (x3_1 + (((rd_T25 l0 x4_1).f2).size : Int))) + (((rd_T25 l0 x4_1).f3).size : Int))), (wrap64 (x4_1 + 1)), ap, ap, H', ⟨by have := HK1.out; omega⟩, dr⟩
     ·rw [if_neg c4] at H
      exact absurd H (by simp)
    ·rw [if_neg c3] at H
     have c3b0 : decide (x3_1 < 1048576) = false := decide_eq_false c3
     clear c3
     obtain rfl := Option.some.inj H
     go_wp2
     repeat (go_quiet (fail); try go_wp2)
     go_ret
     exact ⟨ap, dr⟩
   ·rw [if_neg c2] at H
    have c2b0 : decide (x4_1 < (l0.length : Int)) = false := decide_eq_false c2
    clear c2
    obtain rfl := Option.some.inj H
    go_wp2
    repeat (go_quiet (fail); try go_wp2)
    go_ret
    exact ⟨ap, dr⟩

end Go.Proofs.Ytmabdfdmccbfnaa.P

-- written by a program of the proving session, out of the translation; Lean checks it
namespace Go.Proofs.Ytmabdfdmccbfnaa.P
open Go.RowKit Go.Proofs.Ytmabdfdmccbfnaa.Sq Go.Proofs.YtmabdfdmccbfnaaW.PrintWords Go.Proofs.YtmabdfdmccbfnaaW.PrintLast Go.Proofs.YtmabdfdmccbfnaaW.PrintMore
attribute [local go_sem] max2_int min2_int max_two min_two max_three min_three max_four min_four   -- for this text's walks alone
set_option linter.unusedVariables false
set_option linter.unusedSimpArgs false

/-! ### fairwaylaw10_heavy: function 19 -/
def fairwaylaw10_heavy.f (k : Nat) (l0_0 : List (S25)) (a0_1 : ByteArray) : Option (Bool) := (fairwaylaw0_RecsWeight.f k l0_0).bind fun t213 => (if t213 > 8000 then (some true) else (some (decide ((a0_1.size : Int) > 8000))))
theorem fairwaylaw10_heavy.mono : ∀ a0 a1 k, LeO (fairwaylaw10_heavy.f k a0 a1) (fairwaylaw10_heavy.f (k + 1) a0 a1) := by
 intro a0 a1 k
 unfold fairwaylaw10_heavy.f
 repeat' first
  | (with_reducible exact fairwaylaw0_RecsWeight.mono _ _)
  | (with_reducible exact LeO.refl _)
  | (with_reducible exact LeO.none _)
  | (with_reducible refine LeO.ite ?_ ?_)
  | (with_reducible refine LeO.bind ?_ (fun _ => ?_))
  | exact fairwaylaw0_RecsWeight.mono _ _
  | exact LeO.none _
  | refine LeO.ite ?_ ?_
  | refine LeO.bind ?_ (fun _ => ?_)
set_option maxHeartbeats 8000000 in
set_option maxRecDepth 100000 in
theorem fairwaylaw10_heavy.calls (k : Nat) (A0_0 : Option Addr) (c0_0 : Nat) (l0_0 : List (S25)) (a0_1 : ByteArray) (r : Bool) (w : World) (hr0_0 : Kd.C k25 w A0_0 l0_0.length l0_0) (hc0_0 : l0_0.length ≤ c0_0) (h : fairwaylaw10_heavy.f k l0_0 a0_1 = some r) :
 Calls Try.prog 19 #[.agg #[.slice A0_0 l0_0.length c0_0, .string a0_1]] w fun e w' => e = .returned (.bool r) ∧ Below w.heap.size w w' := by
 have hu38 := Try.underlying38
 have HR0_0 := Aside0.mk hr0_0
 have HC0_0 := Aside0.mk hc0_0
 clear hr0_0 hc0_0
 have HB := Aside0.mk (Below.refl w.heap.size w)
 have H : ((fairwaylaw0_RecsWeight.f k l0_0).bind fun t213 => (if t213 > 8000 then (some true) else (some (decide ((a0_1.size : Int) > 8000))))) = some r := h
 clear h
 replace H := Option.bind_eq_some_iff.mp H
 obtain ⟨t213, A20, H⟩ := H
 replace H : (if t213 > 8000 then (some true) else (some (decide ((a0_1.size : Int) > 8000)))) = some r := H
 have A2 := Aside0.mk A20
 clear A20
 by_cases c3 : t213 > 8000
 ·rw [if_pos c3] at H
  have c3b0 : decide (8000 < t213) = true := decide_eq_true c3
  clear c3
  obtain rfl := Option.some.inj H
  go_enter Try.func19, Try.ntmps19
  go_wp2_with (first | ((with_reducible refine gate_dst (N := 1) rfl ?_); (try (refine gate_guard (by rfl) ?_; dsimp only)); refine box_event ?hg (N := 1) ?hd (cs := #[.slice A0_0 l0_0.length c0_0, .string a0_1]) (t := 38) ?hr ?_; (case hd => rfl); (case hg => rfl); (case hr => first | (go_simp; done) | (go_simp; rfl)); intro gb212 hg w4 hbox hb; have BK212 := Aside0.mk (hbox); have GW212 := Aside0.mk ((by rw [hg]; exact (below_size bo) : w.heap.size ≤ gb212)); have GE212 := Aside0.mk ((by rw [hg]; exact (below_size bo) : w.heap.size ≤ gb212)); replace HB := Aside0.mk (below_step bo hb); clear hb hbox hg; obtain ⟨hcz5_0, hcz5_1⟩ := cl2 BK212.out; obtain ⟨hfz5_0, hfz5_1⟩ := fz2 BK212.out) | ((with_reducible refine gate_callee (f := 68) rfl ?_); refine goesL_ (some 5) rfl rfl Try.func68 (by kernel_rfl) rfl #[.slice A0_0 l0_0.length c0_0] rfl aa ?_; (with_reducible refine (fairwaylaw0_RecsWeight.calls k _ _ l0_0 t213 _ ?side1 ?side2 A2.out).mono ?_); (case side1 => repeat (first | exact (Kd.C_below HR0_0.out HB.out) | (with_reducible refine Kd.C_alloc ?_ _) | (with_reducible refine Kd.C_drewN ?_ _) | (with_reducible refine Kd.C_drew ?_))); (case side2 => exact HC0_0.out); rintro e w' ⟨rfl, ⟨nd, rfl⟩⟩; refine ⟨_, rfl, ?_⟩))
  go_ret
  exact ⟨er, bo⟩
 ·rw [if_neg c3] at H
  have c3b0 : decide (8000 < t213) = false := decide_eq_false c3
  clear c3
  obtain rfl := Option.some.inj H
  go_enter Try.func19, Try.ntmps19
  go_wp2_with (first | ((with_reducible refine gate_dst (N := 1) rfl ?_); (try (refine gate_guard (by rfl) ?_; dsimp only)); refine box_event ?hg (N := 1) ?hd (cs := #[.slice A0_0 l0_0.length c0_0, .string a0_1]) (t := 38) ?hr ?_; (case hd => rfl); (case hg => rfl); (case hr => first | (go_simp; done) | (go_simp; rfl)); intro gb212 hg w6 hbox hb; have BK212 := Aside0.mk (hbox); have GW212 := Aside0.mk ((by rw [hg]; exact (below_size bo) : w.heap.size ≤ gb212)); have GE212 := Aside0.mk ((by rw [hg]; exact (below_size bo) : w.heap.size ≤ gb212)); replace HB := Aside0.mk (below_step bo hb); clear hb hbox hg; obtain ⟨hcz7_0, hcz7_1⟩ := cl2 BK212.out; obtain ⟨hfz7_0, hfz7_1⟩ := fz2 BK212.out) | ((with_reducible refine gate_callee (f := 68) rfl ?_); refine goesL_ (some 5) rfl rfl Try.func68 (by kernel_rfl) rfl #[.slice A0_0 l0_0.length c0_0] rfl aa ?_; (with_reducible refine (fairwaylaw0_RecsWeight.calls k _ _ l0_0 t213 _ ?side1 ?side2 A2.out).mono ?_); (case side1 => repeat (first | exact (Kd.C_below HR0_0.out HB.out) | (with_reducible refine Kd.C_alloc ?_ _) | (with_reducible refine Kd.C_drewN ?_ _) | (with_reducible refine Kd.C_drew ?_))); (case side2 => exact HC0_0.out); rintro e w' ⟨rfl, ⟨nd, rfl⟩⟩; refine ⟨_, rfl, ?_⟩))
  go_ret
  exact ⟨er, bo⟩

end Go.Proofs.Ytmabdfdmccbfnaa.P

