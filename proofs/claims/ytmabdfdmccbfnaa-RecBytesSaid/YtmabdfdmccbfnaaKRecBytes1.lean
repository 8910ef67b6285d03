/- The law RecBytes: printed functions, their contracts, the plain laws and the row, part 1. -/
import Derived.Test.YtmabdfdmccbfnaaKRecBytes0
import Derived.Test.YtmabdfdmccbfnaaWWords
import Derived.Test.YtmabdfdmccbfnaaWLast
import Derived.Test.YtmabdfdmccbfnaaWMore
import Derived.ProofKit
import Derived.OpenShut
import Derived.SizedLaws
import Derived.Deep.Slices
-- written by a program of the proving session, out of the translation; Lean checks it
namespace Go.Proofs.Ytmabdfdmccbfnaa.P
open Go.RowKit Go.Proofs.Ytmabdfdmccbfnaa.Sq Go.Proofs.YtmabdfdmccbfnaaW.PrintWords Go.Proofs.YtmabdfdmccbfnaaW.PrintLast Go.Proofs.YtmabdfdmccbfnaaW.PrintMore
attribute [local go_sem] max2_int min2_int max_two min_two max_three min_three max_four min_four   -- for this text's walks alone
set_option linter.unusedVariables false
set_option linter.unusedSimpArgs false

attribute [local go_sem high] eqA25
/-! ### fairwaylaw10_wakes: function 18 -/
def fairwaylaw10_wakes.f (k : Nat)  : Option (Bool) := (fairwaylaw10_R.f 1 2 (⟨#[107]⟩ : ByteArray) (⟨#[98]⟩ : ByteArray)).bind fun bt162 => ((rec_Bytes.f k bt162.1 bt162.2.1 bt162.2.2.1 bt162.2.2.2.1 bt162.2.2.2.2.1 bt162.2.2.2.2.2).bind fun bt168 => ((rec_Take.f k bt168.1).bind fun bt170 => ((fairwaylaw10_num.f bt168.2).bind fun t179 => (if t179 = 0 then ((fairwaylaw10_num.f bt170.2.2.2.2.2.2.2).bind fun t180 => (if t180 = 0 then (if bt170.2.2.2.2.2.2.1 = (bt168.1.size : Int) then ((fairwaylaw10_R.f 1 2 (⟨#[107]⟩ : ByteArray) (⟨#[98]⟩ : ByteArray)).bind fun bt181 => (some (bt170.1 == bt181.1 && (bt170.2.1 == bt181.2.1 && (bt170.2.2.1.toList == bt181.2.2.1.toList && (bt170.2.2.2.1.toList == bt181.2.2.2.1.toList && (bt170.2.2.2.2.1 == bt181.2.2.2.2.1 && (bt170.2.2.2.2.2.1 == bt181.2.2.2.2.2)))))))) else (some false)) else (some false))) else (some false)))))
theorem fairwaylaw10_wakes.mono : ∀ k, LeO (fairwaylaw10_wakes.f k ) (fairwaylaw10_wakes.f (k + 1) ) := by
 intro  k
 unfold fairwaylaw10_wakes.f
 repeat' first
  | (with_reducible exact rec_Bytes.mono _ _ _ _ _ _ _)
  | (with_reducible exact rec_Take.mono _ _)
  | (with_reducible exact LeO.refl _)
  | (with_reducible exact LeO.none _)
  | (with_reducible refine LeO.ite ?_ ?_)
  | (with_reducible refine LeO.bind ?_ (fun _ => ?_))
  | exact rec_Bytes.mono _ _ _ _ _ _ _
  | exact rec_Take.mono _ _
  | exact LeO.none _
  | refine LeO.ite ?_ ?_
  | refine LeO.bind ?_ (fun _ => ?_)
def fairwaylaw10_wakes.T3 : Bool × List (List Nat × List Nat) := (true, [([], []), ([0], [0]), ([1], [1]), ([2, 1], [2]), ([3], [3]), ([4, 3, 3], [3, 4]), ([5, 3], [3, 5]), ([3, 6], [3, 6]), ([7, 5], [7]), ([8], [8]), ([8], [8]), ([10, 8], [8, 10]), ([9, 11, 8], [8, 9, 11]), ([8, 12], [8, 12]), ([13, 8], [13]), ([14], [14]), ([14, 14], [14]), ([15, 16, 14], [14, 15, 16]), ([14, 17], [14, 17]), ([18, 16, 0, 1, 2, 3, 4, 5, 6, 7, 8, 9, 10, 11, 12, 13, 14, 15, 16, 17, 18], [18])])
def fairwaylaw10_wakes.B3 : List Nat := [0, 1, 3, 7, 15, 31, 63, 127, 255, 511, 511, 1535, 4095, 8191, 16383, 32767, 32767, 131071, 262143, 524287]
theorem fairwaylaw10_wakes.tab3 : rtab .any (opsOf Try.f18 3) = fairwaylaw10_wakes.T3 := by kernel_rfl
theorem fairwaylaw10_wakes.bits3 : waitsOk fairwaylaw10_wakes.T3.2 fairwaylaw10_wakes.B3 = true := by kernel_rfl
set_option maxHeartbeats 8000000 in
set_option maxRecDepth 100000 in
theorem fairwaylaw10_wakes.calls (k : Nat)  (r : Bool) (w : World) (h : fairwaylaw10_wakes.f k  = some r) :
 Calls Try.prog 18 #[] w fun e w' => e = .returned (.bool r) ∧ Below w.heap.size w w' := by
 have hu25 := Try.underlying25
 have HB := Aside0.mk (Below.refl w.heap.size w)
 have H : ((fairwaylaw10_R.f 1 2 (⟨#[107]⟩ : ByteArray) (⟨#[98]⟩ : ByteArray)).bind fun bt162 => ((rec_Bytes.f k bt162.1 bt162.2.1 bt162.2.2.1 bt162.2.2.2.1 bt162.2.2.2.2.1 bt162.2.2.2.2.2).bind fun bt168 => ((rec_Take.f k bt168.1).bind fun bt170 => ((fairwaylaw10_num.f bt168.2).bind fun t179 => (if t179 = 0 then ((fairwaylaw10_num.f bt170.2.2.2.2.2.2.2).bind fun t180 => (if t180 = 0 then (if bt170.2.2.2.2.2.2.1 = (bt168.1.size : Int) then ((fairwaylaw10_R.f 1 2 (⟨#[107]⟩ : ByteArray) (⟨#[98]⟩ : ByteArray)).bind fun bt181 => (some (bt170.1 == bt181.1 && (bt170.2.1 == bt181.2.1 && (bt170.2.2.1.toList == bt181.2.2.1.toList && (bt170.2.2.2.1.toList == bt181.2.2.2.1.toList && (bt170.2.2.2.2.1 == bt181.2.2.2.2.1 && (bt170.2.2.2.2.2.1 == bt181.2.2.2.2.2)))))))) else (some false)) else (some false))) else (some false)))))) = some r := h
 clear h
 replace H := Option.bind_eq_some_iff.mp H
 obtain ⟨⟨t162, t163, t164, t165, t166, t167⟩, A10, H⟩ := H
 replace H : ((rec_Bytes.f k t162 t163 t164 t165 t166 t167).bind fun bt168 => ((rec_Take.f k bt168.1).bind fun bt170 => ((fairwaylaw10_num.f bt168.2).bind fun t179 => (if t179 = 0 then ((fairwaylaw10_num.f bt170.2.2.2.2.2.2.2).bind fun t180 => (if t180 = 0 then (if bt170.2.2.2.2.2.2.1 = (bt168.1.size : Int) then ((fairwaylaw10_R.f 1 2 (⟨#[107]⟩ : ByteArray) (⟨#[98]⟩ : ByteArray)).bind fun bt181 => (some (bt170.1 == bt181.1 && (bt170.2.1 == bt181.2.1 && (bt170.2.2.1.toList == bt181.2.2.1.toList && (bt170.2.2.2.1.toList == bt181.2.2.2.1.toList && (bt170.2.2.2.2.1 == bt181.2.2.2.2.1 && (bt170.2.2.2.2.2.1 == bt181.2.2.2.2.2)))))))) else (some false)) else (some false))) else (some false))))) = some r := H
 have A1 := Aside0.mk A10
 clear A10
 replace H := Option.bind_eq_some_iff.mp H
 obtain ⟨⟨t168, t169⟩, A20, H⟩ := H
 replace H : ((rec_Take.f k t168).bind fun bt170 => ((fairwaylaw10_num.f t169).bind fun t179 => (if t179 = 0 then ((fairwaylaw10_num.f bt170.2.2.2.2.2.2.2).bind fun t180 => (if t180 = 0 then (if bt170.2.2.2.2.2.2.1 = (t168.size : Int) then ((fairwaylaw10_R.f 1 2 (⟨#[107]⟩ : ByteArray) (⟨#[98]⟩ : ByteArray)).bind fun bt181 => (some (bt170.1 == bt181.1 && (bt170.2.1 == bt181.2.1 && (bt170.2.2.1.toList == bt181.2.2.1.toList && (bt170.2.2.2.1.toList == bt181.2.2.2.1.toList && (bt170.2.2.2.2.1 == bt181.2.2.2.2.1 && (bt170.2.2.2.2.2.1 == bt181.2.2.2.2.2)))))))) else (some false)) else (some false))) else (some false)))) = some r := H
 have A2 := Aside0.mk A20
 clear A20
 replace H := Option.bind_eq_some_iff.mp H
 obtain ⟨⟨t170, t171, t172, t173, t174, t175, t176, t177⟩, A30, H⟩ := H
 replace H : ((fairwaylaw10_num.f t169).bind fun t179 => (if t179 = 0 then ((fairwaylaw10_num.f t177).bind fun t180 => (if t180 = 0 then (if t176 = (t168.size : Int) then ((fairwaylaw10_R.f 1 2 (⟨#[107]⟩ : ByteArray) (⟨#[98]⟩ : ByteArray)).bind fun bt181 => (some (t170 == bt181.1 && (t171 == bt181.2.1 && (t172.toList == bt181.2.2.1.toList && (t173.toList == bt181.2.2.2.1.toList && (t174 == bt181.2.2.2.2.1 && (t175 == bt181.2.2.2.2.2)))))))) else (some false)) else (some false))) else (some false))) = some r := H
 have A3 := Aside0.mk A30
 clear A30
 replace H := Option.bind_eq_some_iff.mp H
 obtain ⟨t179, A40, H⟩ := H
 replace H : (if t179 = 0 then ((fairwaylaw10_num.f t177).bind fun t180 => (if t180 = 0 then (if t176 = (t168.size : Int) then ((fairwaylaw10_R.f 1 2 (⟨#[107]⟩ : ByteArray) (⟨#[98]⟩ : ByteArray)).bind fun bt181 => (some (t170 == bt181.1 && (t171 == bt181.2.1 && (t172.toList == bt181.2.2.1.toList && (t173.toList == bt181.2.2.2.1.toList && (t174 == bt181.2.2.2.2.1 && (t175 == bt181.2.2.2.2.2)))))))) else (some false)) else (some false))) else (some false)) = some r := H
 have A4 := Aside0.mk A40
 clear A40
 by_cases c5 : t179 = 0
 ·rw [if_pos c5] at H
  have c5b0 : (t179 == 0) = true := beq_iff_eq.mpr c5
  have c5b1 : (t179 != 0) = false := bne_eq_false_iff_eq.mpr c5
  clear c5
  replace H := Option.bind_eq_some_iff.mp H
  obtain ⟨t180, A60, H⟩ := H
  replace H : (if t180 = 0 then (if t176 = (t168.size : Int) then ((fairwaylaw10_R.f 1 2 (⟨#[107]⟩ : ByteArray) (⟨#[98]⟩ : ByteArray)).bind fun bt181 => (some (t170 == bt181.1 && (t171 == bt181.2.1 && (t172.toList == bt181.2.2.1.toList && (t173.toList == bt181.2.2.2.1.toList && (t174 == bt181.2.2.2.2.1 && (t175 == bt181.2.2.2.2.2)))))))) else (some false)) else (some false)) = some r := H
  have A6 := Aside0.mk A60
  clear A60
  by_cases c7 : t180 = 0
  ·rw [if_pos c7] at H
   have c7b0 : (t180 == 0) = true := beq_iff_eq.mpr c7
   have c7b1 : (t180 != 0) = false := bne_eq_false_iff_eq.mpr c7
   clear c7
   by_cases c8 : t176 = (t168.size : Int)
   ·rw [if_pos c8] at H
    have c8b0 : (t176 == (t168.size : Int)) = true := beq_iff_eq.mpr c8
    have c8b1 : (t176 != (t168.size : Int)) = false := bne_eq_false_iff_eq.mpr c8
    clear c8
    replace H := Option.bind_eq_some_iff.mp H
    obtain ⟨⟨t181, t182, t183, t184, t185, t186⟩, A90, H⟩ := H
    replace H : (some (t170 == t181 && (t171 == t182 && (t172.toList == t183.toList && (t173.toList == t184.toList && (t174 == t185 && (t175 == t186))))))) = some r := H
    have A9 := Aside0.mk A90
    clear A90
    obtain rfl := Option.some.inj H
    go_enter Try.func18, Try.ntmps18
    try go_wp2_with (first | ((with_reducible refine gate_callee (f := 67) rfl ?_); refine goesL_ (some 7) rfl rfl Try.func67 (by kernel_rfl) rfl #[.int .i64 1, .int .i64 2, .string (⟨#[107]⟩ : ByteArray), .string (⟨#[98]⟩ : ByteArray)] rfl aa ?_; (with_reducible refine (fairwaylaw10_R.calls 1 2 (⟨#[107]⟩ : ByteArray) (⟨#[98]⟩ : ByteArray) t162 t163 t164 t165 t166 t167 _ A1.out).mono ?_); rintro e w10 ⟨rfl, hb⟩; refine ⟨_, rfl, ?_⟩; replace HB := Aside0.mk (below_step bo hb); (try clear hb); (try clear hb2); (try clear hk); (try clear hi)) | ((with_reducible refine gate_callee (f := 14) rfl ?_); refine goesL_ (some 8) rfl rfl Try.func14 (by kernel_rfl) rfl #[.agg #[.int .i64 t162, .int .i64 t163, .string t164, .string t165, .int .i64 t166, .bool t167]] rfl aa ?_; (with_reducible refine (rec_Bytes.calls k t162 t163 t164 t165 t166 t167 t168 t169 _ A2.out).mono ?_); rintro e w11 ⟨rfl, hb⟩; refine ⟨_, rfl, ?_⟩; replace HB := Aside0.mk (below_step bo hb); (try clear hb); (try clear hb2); (try clear hk); (try clear hi)) | ((with_reducible refine gate_callee (f := 16) rfl ?_); refine goesL_ (some 13) rfl rfl Try.func16 (by kernel_rfl) rfl #[.string t168] rfl aa ?_; (with_reducible refine (rec_Take.calls k t168 t170 t171 t172 t173 t174 t175 t176 t177 _ A3.out).mono ?_); rintro e w12 ⟨rfl, hb⟩; refine ⟨_, rfl, ?_⟩; replace HB := Aside0.mk (below_step bo hb); (try clear hb); (try clear hb2); (try clear hk); (try clear hi)) | ((with_reducible refine gate_dst (N := 3) rfl ?_); (try (refine gate_guard (by rfl) ?_; dsimp only)); refine box_event ?hg (N := 3) ?hd (cs := #[.int .i64 0, .int .i64 0, .string (⟨#[]⟩ : ByteArray), .string (⟨#[]⟩ : ByteArray), .int .i64 0, .bool false]) (t := 25) ?hr ?_; (case hd => rfl); (case hg => rfl); (case hr => first | (go_simp; done) | (go_simp; rfl)); intro gb178 hg w13 hbox hb; have n0_ := Aside0.mk (below_step bo hb); have n1_ := Aside0.mk (hbox); have n2_ := Aside0.mk ((by rw [hg]; exact (below_size bo) : w.heap.size ≤ gb178)); have n3_ := Aside0.mk ((by rw [hg]; exact (below_size bo) : w.heap.size ≤ gb178)); clear HB; have HB := n0_; have BK178 := n1_; have GW178 := n2_; have GE178 := n3_; clear n0_ n1_ n2_ n3_; clear hb hbox hg; obtain ⟨hcz14_0, hcz14_1, hcz14_2, hcz14_3, hcz14_4, hcz14_5⟩ := cl6 BK178.out; obtain ⟨hfz14_0, hfz14_1, hfz14_2, hfz14_3, hfz14_4, hfz14_5⟩ := fz6 BK178.out))
    (try (rw [drewN_self w13]; generalize hq_ : World.drewN w13 _ = w13; have n0_ := Aside0.mk (blk_at hq_ BK178.out); have n1_ := Aside0.mk (below_at hq_ HB.out); clear hq_ BK178 HB; have BK178 := n0_; have HB := n1_; clear n0_ n1_))
    have n0_ : Aside0 (((((((w13.setCell ⟨gb178, 0, none⟩ (.int .i64 t170)).setCell ⟨gb178, 1, none⟩ (.int .i64 t171)).setCell ⟨gb178, 2, none⟩ (.string t172)).setCell ⟨gb178, 3, none⟩ (.string t173)).setCell ⟨gb178, 4, none⟩ (.int .i64 t174)).setCell ⟨gb178, 5, none⟩ (.bool t175)).heap[gb178]? = some (.cells #[.int .i64 t170, .int .i64 t171, .string t172, .string t173, .int .i64 t174, .bool t175] 25 (0, 0))) := ⟨by (with_reducible repeat (first | refine blk_drewN ?_ _ | refine blk_drew ?_ | refine blk_alloc ?_ _)); refine blk_put (cs := #[.int .i64 t170, .int .i64 t171, .string t172, .string t173, .int .i64 t174, .bool false]) ?_ 5 _ rfl; (with_reducible repeat (first | refine blk_drewN ?_ _ | refine blk_drew ?_ | refine blk_alloc ?_ _)); refine blk_put (cs := #[.int .i64 t170, .int .i64 t171, .string t172, .string t173, .int .i64 0, .bool false]) ?_ 4 _ rfl; (with_reducible repeat (first | refine blk_drewN ?_ _ | refine blk_drew ?_ | refine blk_alloc ?_ _)); refine blk_put (cs := #[.int .i64 t170, .int .i64 t171, .string t172, .string (⟨#[]⟩ : ByteArray), .int .i64 0, .bool false]) ?_ 3 _ rfl; (with_reducible repeat (first | refine blk_drewN ?_ _ | refine blk_drew ?_ | refine blk_alloc ?_ _)); refine blk_put (cs := #[.int .i64 t170, .int .i64 t171, .string (⟨#[]⟩ : ByteArray), .string (⟨#[]⟩ : ByteArray), .int .i64 0, .bool false]) ?_ 2 _ rfl; (with_reducible repeat (first | refine blk_drewN ?_ _ | refine blk_drew ?_ | refine blk_alloc ?_ _)); refine blk_put (cs := #[.int .i64 t170, .int .i64 0, .string (⟨#[]⟩ : ByteArray), .string (⟨#[]⟩ : ByteArray), .int .i64 0, .bool false]) ?_ 1 _ rfl; (with_reducible repeat (first | refine blk_drewN ?_ _ | refine blk_drew ?_ | refine blk_alloc ?_ _)); refine blk_put (cs := #[.int .i64 0, .int .i64 0, .string (⟨#[]⟩ : ByteArray), .string (⟨#[]⟩ : ByteArray), .int .i64 0, .bool false]) ?_ 0 _ rfl; (with_reducible repeat (first | refine blk_drewN ?_ _ | refine blk_drew ?_ | refine blk_alloc ?_ _)); exact BK178.out⟩
    have n1_ : Aside0 (Below w.heap.size w ((((((w13.setCell ⟨gb178, 0, none⟩ (.int .i64 t170)).setCell ⟨gb178, 1, none⟩ (.int .i64 t171)).setCell ⟨gb178, 2, none⟩ (.string t172)).setCell ⟨gb178, 3, none⟩ (.string t173)).setCell ⟨gb178, 4, none⟩ (.int .i64 t174)).setCell ⟨gb178, 5, none⟩ (.bool t175))) := ⟨bo⟩
    (try clear BK178)
    (try clear HB)
    generalize ((((((w13.setCell ⟨gb178, 0, none⟩ (.int .i64 t170)).setCell ⟨gb178, 1, none⟩ (.int .i64 t171)).setCell ⟨gb178, 2, none⟩ (.string t172)).setCell ⟨gb178, 3, none⟩ (.string t173)).setCell ⟨gb178, 4, none⟩ (.int .i64 t174)).setCell ⟨gb178, 5, none⟩ (.bool t175)) = w15 at n0_ n1_ ⊢
    have BK178 := n0_
    have HB := n1_
    clear n0_ n1_
    have n0_ := Aside0.mk (blk_drew BK178.out)
    have n1_ := Aside0.mk (below_drew1 HB.out)
    clear BK178
    clear HB
    have BK178 := n0_
    have HB := n1_
    clear n0_ n1_
    refine start_ (n := 20) (S := fun w' => w'.cell? ⟨gb178, 0, none⟩ = some (.int .i64 t170) ∧ w'.cell? ⟨gb178, 1, none⟩ = some (.int .i64 t171) ∧ w'.cell? ⟨gb178, 2, none⟩ = some (.string t172) ∧ w'.cell? ⟨gb178, 3, none⟩ = some (.string t173) ∧ w'.cell? ⟨gb178, 4, none⟩ = some (.int .i64 t174) ∧ w'.cell? ⟨gb178, 5, none⟩ = some (.bool t175)) (ds := []) #[O,O,O,O,O,O,O,O,O,O,O,O,O,O,O,O,O,O,O,O] (by kernel_rfl) rfl rfl ⟨(blk_cell BK178.out 0).trans rfl, (blk_cell BK178.out 1).trans rfl, (blk_cell BK178.out 2).trans rfl, (blk_cell BK178.out 3).trans rfl, (blk_cell BK178.out 4).trans rfl, (blk_cell BK178.out 5).trans rfl⟩ (fun hHeld => ?_); refine with_tabW fairwaylaw10_wakes.tab3 fairwaylaw10_wakes.bits3 (fun HT_ HW_ => ?_)
    generalize w15.drew = w16 at BK178 HB hHeld ⊢
    refine pz (i := 0) (N := some 17) #[I,O,O,O,O,O,O,O,O,O,O,O,O,O,O,O,O,O,O,O] ?_
    refine one_ (i := 1) (N := some 18) #[I,I,O,O,O,O,O,O,O,O,O,O,O,O,O,O,O,O,O,O] rfl rfl (one_of HT_.out (by kernel_rfl)) (by decide) (fun K hK => ?_)
    refine goes_ Try.func15 (by kernel_rfl) rfl #[.int .i64 t169] (by rfl) rfl rfl aa ?_
    with_reducible refine (fairwaylaw10_num.calls t169 t179 _ A4.out).mono ?_
    rintro e w' ⟨rfl, ⟨nd, rfl⟩⟩
    refine ⟨_, rfl, ?_⟩
    refine hK.out _ _ ⟨(blk_cell BK178.out 0).trans rfl, (blk_cell BK178.out 1).trans rfl, (blk_cell BK178.out 2).trans rfl, (blk_cell BK178.out 3).trans rfl, (blk_cell BK178.out 4).trans rfl, (blk_cell BK178.out 5).trans rfl⟩ (fun hHeld => ?_)
    clear hK K
    refine norm_ (a' := ?_) ?_ ?_
    rotate_left
    ·show Act.put _ (some 18) _ = _
     simp only [Act.put, List.setIfInBounds_toArray, List.set_cons_zero, List.set_cons_succ, i64_w, i32_w]
     rfl
    refine pz (i := 2) (N := some 19) #[I,I,I,O,O,O,O,O,O,O,O,O,O,O,O,O,O,O,O,O] ?_
    refine pz (i := 3) (N := some 20) #[I,I,I,I,O,O,O,O,O,O,O,O,O,O,O,O,O,O,O,O] ?_
    refine pz (i := 4) (N := some 21) #[I,I,I,I,I,O,O,O,O,O,O,O,O,O,O,O,O,O,O,O] ?_
    refine one_ (i := 5) (N := some 22) #[I,I,I,I,I,I,O,O,O,O,O,O,O,O,O,O,O,O,O,O] rfl rfl (one_of HT_.out (by kernel_rfl)) (by decide) (fun K hK => ?_)
    refine goes_ Try.func15 (by kernel_rfl) rfl #[.int .i64 t177] (by rfl) rfl rfl aa ?_
    with_reducible refine (fairwaylaw10_num.calls t177 t180 _ A6.out).mono ?_
    rintro e w' ⟨rfl, ⟨nd, rfl⟩⟩
    refine ⟨_, rfl, ?_⟩
    refine hK.out _ _ ⟨(blk_cell BK178.out 0).trans rfl, (blk_cell BK178.out 1).trans rfl, (blk_cell BK178.out 2).trans rfl, (blk_cell BK178.out 3).trans rfl, (blk_cell BK178.out 4).trans rfl, (blk_cell BK178.out 5).trans rfl⟩ (fun hHeld => ?_)
    clear hK K
    refine norm_ (a' := ?_) ?_ ?_
    rotate_left
    ·show Act.put _ (some 22) _ = _
     simp only [Act.put, List.setIfInBounds_toArray, List.set_cons_zero, List.set_cons_succ, i64_w, i32_w]
     rfl
    refine pz (i := 6) (N := some 23) #[I,I,I,I,I,I,I,O,O,O,O,O,O,O,O,O,O,O,O,O] ?_
    refine pz (i := 7) (N := some 24) #[I,I,I,I,I,I,I,I,O,O,O,O,O,O,O,O,O,O,O,O] ?_
    refine pz (i := 8) (N := some 25) #[I,I,I,I,I,I,I,I,I,O,O,O,O,O,O,O,O,O,O,O] ?_
    refine pz (i := 9) (N := some 26) #[I,I,I,I,I,I,I,I,I,I,O,O,O,O,O,O,O,O,O,O] ?_
    refine pz (i := 10) (N := some 27) #[I,I,I,I,I,I,I,I,I,I,I,O,O,O,O,O,O,O,O,O] ?_
    refine pz (i := 11) (N := some 28) #[I,I,I,I,I,I,I,I,I,I,I,I,O,O,O,O,O,O,O,O] ?_
    refine pz (i := 12) (N := some 29) #[I,I,I,I,I,I,I,I,I,I,I,I,I,O,O,O,O,O,O,O] ?_
    refine pz (i := 13) (N := some 30) #[I,I,I,I,I,I,I,I,I,I,I,I,I,I,O,O,O,O,O,O] ?_
    refine pz (i := 14) (N := some 31) #[I,I,I,I,I,I,I,I,I,I,I,I,I,I,I,O,O,O,O,O] ?_
    refine tz (i := 15) (N := some 32) #[I,I,I,I,I,I,I,I,I,I,I,I,I,I,I,I,O,O,O,O] ?_
    refine one_ (i := 16) (N := some 33) #[I,I,I,I,I,I,I,I,I,I,I,I,I,I,I,I,I,O,O,O] rfl rfl (one_of HT_.out (by kernel_rfl)) (by decide) (fun K hK => ?_)
    refine goes_ Try.func67 (by kernel_rfl) rfl #[.int .i64 1, .int .i64 2, .string (⟨#[107]⟩ : ByteArray), .string (⟨#[98]⟩ : ByteArray)] (by rfl) rfl rfl aa ?_
    with_reducible refine (fairwaylaw10_R.calls 1 2 (⟨#[107]⟩ : ByteArray) (⟨#[98]⟩ : ByteArray) t181 t182 t183 t184 t185 t186 _ A9.out).mono ?_
    rintro e w17 ⟨rfl, hb⟩
    refine ⟨_, rfl, ?_⟩
    have n0_ := Aside0.mk (blk_below (g := gb178) (o := .cells #[.int .i64 t170, .int .i64 t171, .string t172, .string t173, .int .i64 t174, .bool t175] 25 (0, 0)) (bk BK178.out) hb)
    have n1_ := Aside0.mk (below_step bo hb)
    clear BK178
    clear HB
    have BK178 := n0_
    have HB := n1_
    clear n0_ n1_
    (try clear hb)
    (try clear hb2)
    (try clear hk)
    (try clear hi)
    refine hK.out _ _ ⟨(blk_cell BK178.out 0).trans rfl, (blk_cell BK178.out 1).trans rfl, (blk_cell BK178.out 2).trans rfl, (blk_cell BK178.out 3).trans rfl, (blk_cell BK178.out 4).trans rfl, (blk_cell BK178.out 5).trans rfl⟩ (fun hHeld => ?_)
    clear hK K
    refine norm_ (a' := ?_) ?_ ?_
    rotate_left
    ·show Act.put _ (some 33) _ = _
     simp only [Act.put, List.setIfInBounds_toArray, List.set_cons_zero, List.set_cons_succ, i64_w, i32_w]
     rfl
    refine pz (i := 17) (N := some 34) #[I,I,I,I,I,I,I,I,I,I,I,I,I,I,I,I,I,I,O,O] ?_
    refine pz (i := 18) (N := some 35) #[I,I,I,I,I,I,I,I,I,I,I,I,I,I,I,I,I,I,I,O] ?_
    refine pz (i := 19) (N := some 0) #[I,I,I,I,I,I,I,I,I,I,I,I,I,I,I,I,I,I,I,I] ?_
    refine done_ (done_of HT_.out (by kernel_rfl)) ?_
    try go_wp2
    go_ret
    exact ⟨er, bo⟩
   ·rw [if_neg c8] at H
    have c8b0 : (t176 == (t168.size : Int)) = false := beq_eq_false_iff_ne.mpr c8
    have c8b1 : (t176 != (t168.size : Int)) = true := bne_iff_ne.mpr c8
    obtain rfl := Option.some.inj H
    go_enter Try.func18, Try.ntmps18
    try go_wp2_with (first | ((with_reducible refine gate_callee (f := 67) rfl ?_); refine goesL_ (some 7) rfl rfl Try.func67 (by kernel_rfl) rfl #[.int .i64 1, .int .i64 2, .string (⟨#[107]⟩ : ByteArray), .string (⟨#[98]⟩ : ByteArray)] rfl aa ?_; (with_reducible refine (fairwaylaw10_R.calls 1 2 (⟨#[107]⟩ : ByteArray) (⟨#[98]⟩ : ByteArray) t162 t163 t164 t165 t166 t167 _ A1.out).mono ?_); rintro e w18 ⟨rfl, hb⟩; refine ⟨_, rfl, ?_⟩; replace HB := Aside0.mk (below_step bo hb); (try clear hb); (try clear hb2); (try clear hk); (try clear hi)) | ((with_reducible refine gate_callee (f := 14) rfl ?_); refine goesL_ (some 8) rfl rfl Try.func14 (by kernel_rfl) rfl #[.agg #[.int .i64 t162, .int .i64 t163, .string t164, .string t165, .int .i64 t166, .bool t167]] rfl aa ?_; (with_reducible refine (rec_Bytes.calls k t162 t163 t164 t165 t166 t167 t168 t169 _ A2.out).mono ?_); rintro e w19 ⟨rfl, hb⟩; refine ⟨_, rfl, ?_⟩; replace HB := Aside0.mk (below_step bo hb); (try clear hb); (try clear hb2); (try clear hk); (try clear hi)) | ((with_reducible refine gate_callee (f := 16) rfl ?_); refine goesL_ (some 13) rfl rfl Try.func16 (by kernel_rfl) rfl #[.string t168] rfl aa ?_; (with_reducible refine (rec_Take.calls k t168 t170 t171 t172 t173 t174 t175 t176 t177 _ A3.out).mono ?_); rintro e w20 ⟨rfl, hb⟩; refine ⟨_, rfl, ?_⟩; replace HB := Aside0.mk (below_step bo hb); (try clear hb); (try clear hb2); (try clear hk); (try clear hi)) | ((with_reducible refine gate_dst (N := 3) rfl ?_); (try (refine gate_guard (by rfl) ?_; dsimp only)); refine box_event ?hg (N := 3) ?hd (cs := #[.int .i64 0, .int .i64 0, .string (⟨#[]⟩ : ByteArray), .string (⟨#[]⟩ : ByteArray), .int .i64 0, .bool false]) (t := 25) ?hr ?_; (case hd => rfl); (case hg => rfl); (case hr => first | (go_simp; done) | (go_simp; rfl)); intro gb178 hg w21 hbox hb; have n0_ := Aside0.mk (below_step bo hb); have n1_ := Aside0.mk (hbox); have n2_ := Aside0.mk ((by rw [hg]; exact (below_size bo) : w.heap.size ≤ gb178)); have n3_ := Aside0.mk ((by rw [hg]; exact (below_size bo) : w.heap.size ≤ gb178)); clear HB; have HB := n0_; have BK178 := n1_; have GW178 := n2_; have GE178 := n3_; clear n0_ n1_ n2_ n3_; clear hb hbox hg; obtain ⟨hcz22_0, hcz22_1, hcz22_2, hcz22_3, hcz22_4, hcz22_5⟩ := cl6 BK178.out; obtain ⟨hfz22_0, hfz22_1, hfz22_2, hfz22_3, hfz22_4, hfz22_5⟩ := fz6 BK178.out))
    (try (rw [drewN_self w21]; generalize hq_ : World.drewN w21 _ = w21; have n0_ := Aside0.mk (blk_at hq_ BK178.out); have n1_ := Aside0.mk (below_at hq_ HB.out); clear hq_ BK178 HB; have BK178 := n0_; have HB := n1_; clear n0_ n1_))
    have n0_ : Aside0 (((((((w21.setCell ⟨gb178, 0, none⟩ (.int .i64 t170)).setCell ⟨gb178, 1, none⟩ (.int .i64 t171)).setCell ⟨gb178, 2, none⟩ (.string t172)).setCell ⟨gb178, 3, none⟩ (.string t173)).setCell ⟨gb178, 4, none⟩ (.int .i64 t174)).setCell ⟨gb178, 5, none⟩ (.bool t175)).heap[gb178]? = some (.cells #[.int .i64 t170, .int .i64 t171, .string t172, .string t173, .int .i64 t174, .bool t175] 25 (0, 0))) := ⟨by (with_reducible repeat (first | refine blk_drewN ?_ _ | refine blk_drew ?_ | refine blk_alloc ?_ _)); refine blk_put (cs := #[.int .i64 t170, .int .i64 t171, .string t172, .string t173, .int .i64 t174, .bool false]) ?_ 5 _ rfl; (with_reducible repeat (first | refine blk_drewN ?_ _ | refine blk_drew ?_ | refine blk_alloc ?_ _)); refine blk_put (cs := #[.int .i64 t170, .int .i64 t171, .string t172, .string t173, .int .i64 0, .bool false]) ?_ 4 _ rfl; (with_reducible repeat (first | refine blk_drewN ?_ _ | refine blk_drew ?_ | refine blk_alloc ?_ _)); refine blk_put (cs := #[.int .i64 t170, .int .i64 t171, .string t172, .string (⟨#[]⟩ : ByteArray), .int .i64 0, .bool false]) ?_ 3 _ rfl; (with_reducible repeat (first | refine blk_drewN ?_ _ | refine blk_drew ?_ | refine blk_alloc ?_ _)); refine blk_put (cs := #[.int .i64 t170, .int .i64 t171, .string (⟨#[]⟩ : ByteArray), .string (⟨#[]⟩ : ByteArray), .int .i64 0, .bool false]) ?_ 2 _ rfl; (with_reducible repeat (first | refine blk_drewN ?_ _ | refine blk_drew ?_ | refine blk_alloc ?_ _)); refine blk_put (cs := #[.int .i64 t170, .int .i64 0, .string (⟨#[]⟩ : ByteArray), .string (⟨#[]⟩ : ByteArray), .int .i64 0, .bool false]) ?_ 1 _ rfl; (with_reducible repeat (first | refine blk_drewN ?_ _ | refine blk_drew ?_ | refine blk_alloc ?_ _)); refine blk_put (cs := #[.int .i64 0, .int .i64 0, .string (⟨#[]⟩ : ByteArray), .string (⟨#[]⟩ : ByteArray), .int .i64 0, .bool false]) ?_ 0 _ rfl; (with_reducible repeat (first | refine blk_drewN ?_ _ | refine blk_drew ?_ | refine blk_alloc ?_ _)); exact BK178.out⟩
    have n1_ : Aside0 (Below w.heap.size w ((((((w21.setCell ⟨gb178, 0, none⟩ (.int .i64 t170)).setCell ⟨gb178, 1, none⟩ (.int .i64 t171)).setCell ⟨gb178, 2, none⟩ (.string t172)).setCell ⟨gb178, 3, none⟩ (.string t173)).setCell ⟨gb178, 4, none⟩ (.int .i64 t174)).setCell ⟨gb178, 5, none⟩ (.bool t175))) := ⟨bo⟩
    (try clear BK178)
    (try clear HB)
    generalize ((((((w21.setCell ⟨gb178, 0, none⟩ (.int .i64 t170)).setCell ⟨gb178, 1, none⟩ (.int .i64 t171)).setCell ⟨gb178, 2, none⟩ (.string t172)).setCell ⟨gb178, 3, none⟩ (.string t173)).setCell ⟨gb178, 4, none⟩ (.int .i64 t174)).setCell ⟨gb178, 5, none⟩ (.bool t175)) = w23 at n0_ n1_ ⊢
    have BK178 := n0_
    have HB := n1_
    clear n0_ n1_
    have n0_ := Aside0.mk (blk_drew BK178.out)
    have n1_ := Aside0.mk (below_drew1 HB.out)
    clear BK178
    clear HB
    have BK178 := n0_
    have HB := n1_
    clear n0_ n1_
    refine start_ (n := 20) (S := fun w' => True) (ds := []) #[O,O,O,O,O,O,O,O,O,O,O,O,O,O,O,O,O,O,O,O] (by kernel_rfl) rfl rfl trivial (fun hHeld => ?_); refine with_tabW fairwaylaw10_wakes.tab3 fairwaylaw10_wakes.bits3 (fun HT_ HW_ => ?_)
    generalize w23.drew = w24 at BK178 HB hHeld ⊢
    refine pz (i := 0) (N := some 17) #[I,O,O,O,O,O,O,O,O,O,O,O,O,O,O,O,O,O,O,O] ?_
    refine one_ (i := 1) (N := some 18) #[I,I,O,O,O,O,O,O,O,O,O,O,O,O,O,O,O,O,O,O] rfl rfl (one_of HT_.out (by kernel_rfl)) (by decide) (fun K hK => ?_)
    refine goes_ Try.func15 (by kernel_rfl) rfl #[.int .i64 t169] (by rfl) rfl rfl aa ?_
    with_reducible refine (fairwaylaw10_num.calls t169 t179 _ A4.out).mono ?_
    rintro e w' ⟨rfl, ⟨nd, rfl⟩⟩
    refine ⟨_, rfl, ?_⟩
    refine hK.out _ _ trivial (fun hHeld => ?_)
    clear hK K
    refine norm_ (a' := ?_) ?_ ?_
    rotate_left
    ·show Act.put _ (some 18) _ = _
     simp only [Act.put, List.setIfInBounds_toArray, List.set_cons_zero, List.set_cons_succ, i64_w, i32_w]
     rfl
    refine pz (i := 2) (N := some 19) #[I,I,I,O,O,O,O,O,O,O,O,O,O,O,O,O,O,O,O,O] ?_
    refine pz (i := 3) (N := some 20) #[I,I,I,I,O,O,O,O,O,O,O,O,O,O,O,O,O,O,O,O] ?_
    refine pz (i := 4) (N := some 21) #[I,I,I,I,I,O,O,O,O,O,O,O,O,O,O,O,O,O,O,O] ?_
    refine one_ (i := 5) (N := some 22) #[I,I,I,I,I,I,O,O,O,O,O,O,O,O,O,O,O,O,O,O] rfl rfl (one_of HT_.out (by kernel_rfl)) (by decide) (fun K hK => ?_)
    refine goes_ Try.func15 (by kernel_rfl) rfl #[.int .i64 t177] (by rfl) rfl rfl aa ?_
    with_reducible refine (fairwaylaw10_num.calls t177 t180 _ A6.out).mono ?_
    rintro e w' ⟨rfl, ⟨nd, rfl⟩⟩
    refine ⟨_, rfl, ?_⟩
    refine hK.out _ _ trivial (fun hHeld => ?_)
    clear hK K
    refine norm_ (a' := ?_) ?_ ?_
    rotate_left
    ·show Act.put _ (some 22) _ = _
     simp only [Act.put, List.setIfInBounds_toArray, List.set_cons_zero, List.set_cons_succ, i64_w, i32_w]
     rfl
    refine pz (i := 6) (N := some 23) #[I,I,I,I,I,I,I,O,O,O,O,O,O,O,O,O,O,O,O,O] ?_
    refine pz (i := 7) (N := some 24) #[I,I,I,I,I,I,I,I,O,O,O,O,O,O,O,O,O,O,O,O] ?_
    refine pz (i := 8) (N := some 25) #[I,I,I,I,I,I,I,I,I,O,O,O,O,O,O,O,O,O,O,O] ?_
    refine pz (i := 9) (N := some 26) #[I,I,I,I,I,I,I,I,I,I,O,O,O,O,O,O,O,O,O,O] ?_
    refine pz (i := 10) (N := some 27) #[I,I,I,I,I,I,I,I,I,I,I,O,O,O,O,O,O,O,O,O] ?_
    refine pz (i := 11) (N := some 28) #[I,I,I,I,I,I,I,I,I,I,I,I,O,O,O,O,O,O,O,O] ?_
    refine pz (i := 12) (N := some 29) #[I,I,I,I,I,I,I,I,I,I,I,I,I,O,O,O,O,O,O,O] ?_
    refine pz (i := 13) (N := some 30) #[I,I,I,I,I,I,I,I,I,I,I,I,I,I,O,O,O,O,O,O] ?_
    refine pz (i := 14) (N := some 31) #[I,I,I,I,I,I,I,I,I,I,I,I,I,I,I,O,O,O,O,O] ?_
    refine pu (i := 15) (N := some 32) #[I,I,I,I,I,I,I,I,I,I,I,I,I,I,I,I,O,O,O,O] ?_
    refine pu (i := 16) (N := some 33) #[I,I,I,I,I,I,I,I,I,I,I,I,I,I,I,I,I,O,O,O] ?_
    refine pu (i := 17) (N := some 34) #[I,I,I,I,I,I,I,I,I,I,I,I,I,I,I,I,I,I,O,O] ?_
    refine pz (i := 18) (N := some 35) #[I,I,I,I,I,I,I,I,I,I,I,I,I,I,I,I,I,I,I,O] ?_
    refine pz (i := 19) (N := some 0) #[I,I,I,I,I,I,I,I,I,I,I,I,I,I,I,I,I,I,I,I] ?_
    refine done_ (done_of HT_.out (by kernel_rfl)) ?_
    try go_wp2
    go_ret
    exact ⟨er, bo⟩
  ·rw [if_neg c7] at H
   have c7b0 : (t180 == 0) = false := beq_eq_false_iff_ne.mpr c7
   have c7b1 : (t180 != 0) = true := bne_iff_ne.mpr c7
   obtain rfl := Option.some.inj H
   go_enter Try.func18, Try.ntmps18
   try go_wp2_with (first | ((with_reducible refine gate_callee (f := 67) rfl ?_); refine goesL_ (some 7) rfl rfl Try.func67 (by kernel_rfl) rfl #[.int .i64 1, .int .i64 2, .string (⟨#[107]⟩ : ByteArray), .string (⟨#[98]⟩ : ByteArray)] rfl aa ?_; (with_reducible refine (fairwaylaw10_R.calls 1 2 (⟨#[107]⟩ : ByteArray) (⟨#[98]⟩ : ByteArray) t162 t163 t164 t165 t166 t167 _ A1.out).mono ?_); rintro e w25 ⟨rfl, hb⟩; refine ⟨_, rfl, ?_⟩; replace HB := Aside0.mk (below_step bo hb); (try clear hb); (try clear hb2); (try clear hk); (try clear hi)) | ((with_reducible refine gate_callee (f := 14) rfl ?_); refine goesL_ (some 8) rfl rfl Try.func14 (by kernel_rfl) rfl #[.agg #[.int .i64 t162, .int .i64 t163, .string t164, .string t165, .int .i64 t166, .bool t167]] rfl aa ?_; (with_reducible refine (rec_Bytes.calls k t162 t163 t164 t165 t166 t167 t168 t169 _ A2.out).mono ?_); rintro e w26 ⟨rfl, hb⟩; refine ⟨_, rfl, ?_⟩; replace HB := Aside0.mk (below_step bo hb); (try clear hb); (try clear hb2); (try clear hk); (try clear hi)) | ((with_reducible refine gate_callee (f := 16) rfl ?_); refine goesL_ (some 13) rfl rfl Try.func16 (by kernel_rfl) rfl #[.string t168] rfl aa ?_; (with_reducible refine (rec_Take.calls k t168 t170 t171 t172 t173 t174 t175 t176 t177 _ A3.out).mono ?_); rintro e w27 ⟨rfl, hb⟩; refine ⟨_, rfl, ?_⟩; replace HB := Aside0.mk (below_step bo hb); (try clear hb); (try clear hb2); (try clear hk); (try clear hi)) | ((with_reducible refine gate_dst (N := 3) rfl ?_); (try (refine gate_guard (by rfl) ?_; dsimp only)); refine box_event ?hg (N := 3) ?hd (cs := #[.int .i64 0, .int .i64 0, .string (⟨#[]⟩ : ByteArray), .string (⟨#[]⟩ : ByteArray), .int .i64 0, .bool false]) (t := 25) ?hr ?_; (case hd => rfl); (case hg => rfl); (case hr => first | (go_simp; done) | (go_simp; rfl)); intro gb178 hg w28 hbox hb; have n0_ := Aside0.mk (below_step bo hb); have n1_ := Aside0.mk (hbox); have n2_ := Aside0.mk ((by rw [hg]; exact (below_size bo) : w.heap.size ≤ gb178)); have n3_ := Aside0.mk ((by rw [hg]; exact (below_size bo) : w.heap.size ≤ gb178)); clear HB; have HB := n0_; have BK178 := n1_; have GW178 := n2_; have GE178 := n3_; clear n0_ n1_ n2_ n3_; clear hb hbox hg; obtain ⟨hcz29_0, hcz29_1, hcz29_2, hcz29_3, hcz29_4, hcz29_5⟩ := cl6 BK178.out; obtain ⟨hfz29_0, hfz29_1, hfz29_2, hfz29_3, hfz29_4, hfz29_5⟩ := fz6 BK178.out))
   (try (rw [drewN_self w28]; generalize hq_ : World.drewN w28 _ = w28; have n0_ := Aside0.mk (blk_at hq_ BK178.out); have n1_ := Aside0.mk (below_at hq_ HB.out); clear hq_ BK178 HB; have BK178 := n0_; have HB := n1_; clear n0_ n1_))
   have n0_ : Aside0 (((((((w28.setCell ⟨gb178, 0, none⟩ (.int .i64 t170)).setCell ⟨gb178, 1, none⟩ (.int .i64 t171)).setCell ⟨gb178, 2, none⟩ (.string t172)).setCell ⟨gb178, 3, none⟩ (.string t173)).setCell ⟨gb178, 4, none⟩ (.int .i64 t174)).setCell ⟨gb178, 5, none⟩ (.bool t175)).heap[gb178]? = some (.cells #[.int .i64 t170, .int .i64 t171, .string t172, .string t173, .int .i64 t174, .bool t175] 25 (0, 0))) := ⟨by (with_reducible repeat (first | refine blk_drewN ?_ _ | refine blk_drew ?_ | refine blk_alloc ?_ _)); refine blk_put (cs := #[.int .i64 t170, .int .i64 t171, .string t172, .string t173, .int .i64 t174, .bool false]) ?_ 5 _ rfl; (with_reducible repeat (first | refine blk_drewN ?_ _ | refine blk_drew ?_ | refine blk_alloc ?_ _)); refine blk_put (cs := #[.int .i64 t170, .int .i64 t171, .string t172, .string t173, .int .i64 0, .bool false]) ?_ 4 _ rfl; (with_reducible repeat (first | refine blk_drewN ?_ _ | refine blk_drew ?_ | refine blk_alloc ?_ _)); refine blk_put (cs := #[.int .i64 t170, .int .i64 t171, .string t172, .string (⟨#[]⟩ : ByteArray), .int .i64 0, .bool false]) ?_ 3 _ rfl; (with_reducible repeat (first | refine blk_drewN ?_ _ | refine blk_drew ?_ | refine blk_alloc ?_ _)); refine blk_put (cs := #[.int .i64 t170, .int .i64 t171, .string (⟨#[]⟩ : ByteArray), .string (⟨#[]⟩ : ByteArray), .int .i64 0, .bool false]) ?_ 2 _ rfl; (with_reducible repeat (first | refine blk_drewN ?_ _ | refine blk_drew ?_ | refine blk_alloc ?_ _)); refine blk_put (cs := #[.int .i64 t170, .int .i64 0, .string (⟨#[]⟩ : ByteArray), .string (⟨#[]⟩ : ByteArray), .int .i64 0, .bool false]) ?_ 1 _ rfl; (with_reducible repeat (first | refine blk_drewN ?_ _ | refine blk_drew ?_ | refine blk_alloc ?_ _)); refine blk_put (cs := #[.int .i64 0, .int .i64 0, .string (⟨#[]⟩ : ByteArray), .string (⟨#[]⟩ : ByteArray), .int .i64 0, .bool false]) ?_ 0 _ rfl; (with_reducible repeat (first | refine blk_drewN ?_ _ | refine blk_drew ?_ | refine blk_alloc ?_ _)); exact BK178.out⟩
   have n1_ : Aside0 (Below w.heap.size w ((((((w28.setCell ⟨gb178, 0, none⟩ (.int .i64 t170)).setCell ⟨gb178, 1, none⟩ (.int .i64 t171)).setCell ⟨gb178, 2, none⟩ (.string t172)).setCell ⟨gb178, 3, none⟩ (.string t173)).setCell ⟨gb178, 4, none⟩ (.int .i64 t174)).setCell ⟨gb178, 5, none⟩ (.bool t175))) := ⟨bo⟩
   (try clear BK178)
   (try clear HB)
   generalize ((((((w28.setCell ⟨gb178, 0, none⟩ (.int .i64 t170)).setCell ⟨gb178, 1, none⟩ (.int .i64 t171)).setCell ⟨gb178, 2, none⟩ (.string t172)).setCell ⟨gb178, 3, none⟩ (.string t173)).setCell ⟨gb178, 4, none⟩ (.int .i64 t174)).setCell ⟨gb178, 5, none⟩ (.bool t175)) = w30 at n0_ n1_ ⊢
   have BK178 := n0_
   have HB := n1_
   clear n0_ n1_
   have n0_ := Aside0.mk (blk_drew BK178.out)
   have n1_ := Aside0.mk (below_drew1 HB.out)
   clear BK178
   clear HB
   have BK178 := n0_
   have HB := n1_
   clear n0_ n1_
   refine start_ (n := 20) (S := fun w' => True) (ds := []) #[O,O,O,O,O,O,O,O,O,O,O,O,O,O,O,O,O,O,O,O] (by kernel_rfl) rfl rfl trivial (fun hHeld => ?_); refine with_tabW fairwaylaw10_wakes.tab3 fairwaylaw10_wakes.bits3 (fun HT_ HW_ => ?_)
   generalize w30.drew = w31 at BK178 HB hHeld ⊢
   refine pz (i := 0) (N := some 17) #[I,O,O,O,O,O,O,O,O,O,O,O,O,O,O,O,O,O,O,O] ?_
   refine one_ (i := 1) (N := some 18) #[I,I,O,O,O,O,O,O,O,O,O,O,O,O,O,O,O,O,O,O] rfl rfl (one_of HT_.out (by kernel_rfl)) (by decide) (fun K hK => ?_)
   refine goes_ Try.func15 (by kernel_rfl) rfl #[.int .i64 t169] (by rfl) rfl rfl aa ?_
   with_reducible refine (fairwaylaw10_num.calls t169 t179 _ A4.out).mono ?_
   rintro e w' ⟨rfl, ⟨nd, rfl⟩⟩
   refine ⟨_, rfl, ?_⟩
   refine hK.out _ _ trivial (fun hHeld => ?_)
   clear hK K
   refine norm_ (a' := ?_) ?_ ?_
   rotate_left
   ·show Act.put _ (some 18) _ = _
    simp only [Act.put, List.setIfInBounds_toArray, List.set_cons_zero, List.set_cons_succ, i64_w, i32_w]
    rfl
   refine pz (i := 2) (N := some 19) #[I,I,I,O,O,O,O,O,O,O,O,O,O,O,O,O,O,O,O,O] ?_
   refine pz (i := 3) (N := some 20) #[I,I,I,I,O,O,O,O,O,O,O,O,O,O,O,O,O,O,O,O] ?_
   refine pz (i := 4) (N := some 21) #[I,I,I,I,I,O,O,O,O,O,O,O,O,O,O,O,O,O,O,O] ?_
   refine one_ (i := 5) (N := some 22) #[I,I,I,I,I,I,O,O,O,O,O,O,O,O,O,O,O,O,O,O] rfl rfl (one_of HT_.out (by kernel_rfl)) (by decide) (fun K hK => ?_)
   refine goes_ Try.func15 (by kernel_rfl) rfl #[.int .i64 t177] (by rfl) rfl rfl aa ?_
   with_reducible refine (fairwaylaw10_num.calls t177 t180 _ A6.out).mono ?_
   rintro e w' ⟨rfl, ⟨nd, rfl⟩⟩
   refine ⟨_, rfl, ?_⟩
   refine hK.out _ _ trivial (fun hHeld => ?_)
   clear hK K
   refine norm_ (a' := ?_) ?_ ?_
   rotate_left
   ·show Act.put _ (some 22) _ = _
    simp only [Act.put, List.setIfInBounds_toArray, List.set_cons_zero, List.set_cons_succ, i64_w, i32_w]
    rfl
   refine pz (i := 6) (N := some 23) #[I,I,I,I,I,I,I,O,O,O,O,O,O,O,O,O,O,O,O,O] ?_
   refine pz (i := 7) (N := some 24) #[I,I,I,I,I,I,I,I,O,O,O,O,O,O,O,O,O,O,O,O] ?_
   refine pz (i := 8) (N := some 25) #[I,I,I,I,I,I,I,I,I,O,O,O,O,O,O,O,O,O,O,O] ?_
   refine pu (i := 9) (N := some 26) #[I,I,I,I,I,I,I,I,I,I,O,O,O,O,O,O,O,O,O,O] ?_
   refine pu (i := 10) (N := some 27) #[I,I,I,I,I,I,I,I,I,I,I,O,O,O,O,O,O,O,O,O] ?_
   refine pu (i := 11) (N := some 28) #[I,I,I,I,I,I,I,I,I,I,I,I,O,O,O,O,O,O,O,O] ?_
   refine pu (i := 12) (N := some 29) #[I,I,I,I,I,I,I,I,I,I,I,I,I,O,O,O,O,O,O,O] ?_
   refine pz (i := 13) (N := some 30) #[I,I,I,I,I,I,I,I,I,I,I,I,I,I,O,O,O,O,O,O] ?_
   refine pz (i := 14) (N := some 31) #[I,I,I,I,I,I,I,I,I,I,I,I,I,I,I,O,O,O,O,O] ?_
   refine pu (i := 15) (N := some 32) #[I,I,I,I,I,I,I,I,I,I,I,I,I,I,I,I,O,O,O,O] ?_
   refine pu (i := 16) (N := some 33) #[I,I,I,I,I,I,I,I,I,I,I,I,I,I,I,I,I,O,O,O] ?_
   refine pu (i := 17) (N := some 34) #[I,I,I,I,I,I,I,I,I,I,I,I,I,I,I,I,I,I,O,O] ?_
   refine pz (i := 18) (N := some 35) #[I,I,I,I,I,I,I,I,I,I,I,I,I,I,I,I,I,I,I,O] ?_
   refine pz (i := 19) (N := some 0) #[I,I,I,I,I,I,I,I,I,I,I,I,I,I,I,I,I,I,I,I] ?_
   refine done_ (done_of HT_.out (by kernel_rfl)) ?_
   try go_wp2
   go_ret
   exact ⟨er, bo⟩
 ·rw [if_neg c5] at H
  have c5b0 : (t179 == 0) = false := beq_eq_false_iff_ne.mpr c5
  have c5b1 : (t179 != 0) = true := bne_iff_ne.mpr c5
  obtain rfl := Option.some.inj H
  go_enter Try.func18, Try.ntmps18
  try go_wp2_with (first | ((with_reducible refine gate_callee (f := 67) rfl ?_); refine goesL_ (some 7) rfl rfl Try.func67 (by kernel_rfl) rfl #[.int .i64 1, .int .i64 2, .string (⟨#[107]⟩ : ByteArray), .string (⟨#[98]⟩ : ByteArray)] rfl aa ?_; (with_reducible refine (fairwaylaw10_R.calls 1 2 (⟨#[107]⟩ : ByteArray) (⟨#[98]⟩ : ByteArray) t162 t163 t164 t165 t166 t167 _ A1.out).mono ?_); rintro e w32 ⟨rfl, hb⟩; refine ⟨_, rfl, ?_⟩; replace HB := Aside0.mk (below_step bo hb); (try clear hb); (try clear hb2); (try clear hk); (try clear hi)) | ((with_reducible refine gate_callee (f := 14) rfl ?_); refine goesL_ (some 8) rfl rfl Try.func14 (by kernel_rfl) rfl #[.agg #[.int .i64 t162, .int .i64 t163, .string t164, .string t165, .int .i64 t166, .bool t167]] rfl aa ?_; (with_reducible refine (rec_Bytes.calls k t162 t163 t164 t165 t166 t167 t168 t169 _ A2.out).mono ?_); rintro e w33 ⟨rfl, hb⟩; refine ⟨_, rfl, ?_⟩; replace HB := Aside0.mk (below_step bo hb); (try clear hb); (try clear hb2); (try clear hk); (try clear hi)) | ((with_reducible refine gate_callee (f := 16) rfl ?_); refine goesL_ (some 13) rfl rfl Try.func16 (by kernel_rfl) rfl #[.string t168] rfl aa ?_; (with_reducible refine (rec_Take.calls k t168 t170 t171 t172 t173 t174 t175 t176 t177 _ A3.out).mono ?_); rintro e w34 ⟨rfl, hb⟩; refine ⟨_, rfl, ?_⟩; replace HB := Aside0.mk (below_step bo hb); (try clear hb); (try clear hb2); (try clear hk); (try clear hi)) | ((with_reducible refine gate_dst (N := 3) rfl ?_); (try (refine gate_guard (by rfl) ?_; dsimp only)); refine box_event ?hg (N := 3) ?hd (cs := #[.int .i64 0, .int .i64 0, .string (⟨#[]⟩ : ByteArray), .string (⟨#[]⟩ : ByteArray), .int .i64 0, .bool false]) (t := 25) ?hr ?_; (case hd => rfl); (case hg => rfl); (case hr => first | (go_simp; done) | (go_simp; rfl)); intro gb178 hg w35 hbox hb; have n0_ := Aside0.mk (below_step bo hb); have n1_ := Aside0.mk (hbox); have n2_ := Aside0.mk ((by rw [hg]; exact (below_size bo) : w.heap.size ≤ gb178)); have n3_ := Aside0.mk ((by rw [hg]; exact (below_size bo) : w.heap.size ≤ gb178)); clear HB; have HB := n0_; have BK178 := n1_; have GW178 := n2_; have GE178 := n3_; clear n0_ n1_ n2_ n3_; clear hb hbox hg; obtain ⟨hcz36_0, hcz36_1, hcz36_2, hcz36_3, hcz36_4, hcz36_5⟩ := cl6 BK178.out; obtain ⟨hfz36_0, hfz36_1, hfz36_2, hfz36_3, hfz36_4, hfz36_5⟩ := fz6 BK178.out))
  (try (rw [drewN_self w35]; generalize hq_ : World.drewN w35 _ = w35; have n0_ := Aside0.mk (blk_at hq_ BK178.out); have n1_ := Aside0.mk (below_at hq_ HB.out); clear hq_ BK178 HB; have BK178 := n0_; have HB := n1_; clear n0_ n1_))
  have n0_ : Aside0 (((((((w35.setCell ⟨gb178, 0, none⟩ (.int .i64 t170)).setCell ⟨gb178, 1, none⟩ (.int .i64 t171)).setCell ⟨gb178, 2, none⟩ (.string t172)).setCell ⟨gb178, 3, none⟩ (.string t173)).setCell ⟨gb178, 4, none⟩ (.int .i64 t174)).setCell ⟨gb178, 5, none⟩ (.bool t175)).heap[gb178]? = some (.cells #[.int .i64 t170, .int .i64 t171, .string t172, .string t173, .int .i64 t174, .bool t175] 25 (0, 0))) := ⟨by (with_reducible repeat (first | refine blk_drewN ?_ _ | refine blk_drew ?_ | refine blk_alloc ?_ _)); refine blk_put (cs := #[.int .i64 t170, .int .i64 t171, .string t172, .string t173, .int .i64 t174, .bool false]) ?_ 5 _ rfl; (with_reducible repeat (first | refine blk_drewN ?_ _ | refine blk_drew ?_ | refine blk_alloc ?_ _)); refine blk_put (cs := #[.int .i64 t170, .int .i64 t171, .string t172, .string t173, .int .i64 0, .bool false]) ?_ 4 _ rfl; (with_reducible repeat (first | refine blk_drewN ?_ _ | refine blk_drew ?_ | refine blk_alloc ?_ _)); refine blk_put (cs := #[.int .i64 t170, .int .i64 t171, .string t172, .string (⟨#[]⟩ : ByteArray), .int .i64 0, .bool false]) ?_ 3 _ rfl; (with_reducible repeat (first | refine blk_drewN ?_ _ | refine blk_drew ?_ | refine blk_alloc ?_ _)); refine blk_put (cs := #[.int .i64 t170, .int .i64 t171, .string (⟨#[]⟩ : ByteArray), .string (⟨#[]⟩ : ByteArray), .int .i64 0, .bool false]) ?_ 2 _ rfl; (with_reducible repeat (first | refine blk_drewN ?_ _ | refine blk_drew ?_ | refine blk_alloc ?_ _)); refine blk_put (cs := #[.int .i64 t170, .int .i64 0, .string (⟨#[]⟩ : ByteArray), .string (⟨#[]⟩ : ByteArray), .int .i64 0, .bool false]) ?_ 1 _ rfl; (with_reducible repeat (first | refine blk_drewN ?_ _ | refine blk_drew ?_ | refine blk_alloc ?_ _)); refine blk_put (cs := #[.int .i64 0, .int .i64 0, .string (⟨#[]⟩ : ByteArray), .string (⟨#[]⟩ : ByteArray), .int .i64 0, .bool false]) ?_ 0 _ rfl; (with_reducible repeat (first | refine blk_drewN ?_ _ | refine blk_drew ?_ | refine blk_alloc ?_ _)); exact BK178.out⟩
  have n1_ : Aside0 (Below w.heap.size w ((((((w35.setCell ⟨gb178, 0, none⟩ (.int .i64 t170)).setCell ⟨gb178, 1, none⟩ (.int .i64 t171)).setCell ⟨gb178, 2, none⟩ (.string t172)).setCell ⟨gb178, 3, none⟩ (.string t173)).setCell ⟨gb178, 4, none⟩ (.int .i64 t174)).setCell ⟨gb178, 5, none⟩ (.bool t175))) := ⟨bo⟩
  (try clear BK178)
  (try clear HB)
  generalize ((((((w35.setCell ⟨gb178, 0, none⟩ (.int .i64 t170)).setCell ⟨gb178, 1, none⟩ (.int .i64 t171)).setCell ⟨gb178, 2, none⟩ (.string t172)).setCell ⟨gb178, 3, none⟩ (.string t173)).setCell ⟨gb178, 4, none⟩ (.int .i64 t174)).setCell ⟨gb178, 5, none⟩ (.bool t175)) = w37 at n0_ n1_ ⊢
  have BK178 := n0_
  have HB := n1_
  clear n0_ n1_
  have n0_ := Aside0.mk (blk_drew BK178.out)
  have n1_ := Aside0.mk (below_drew1 HB.out)
  clear BK178
  clear HB
  have BK178 := n0_
  have HB := n1_
  clear n0_ n1_
  refine start_ (n := 20) (S := fun w' => True) (ds := []) #[O,O,O,O,O,O,O,O,O,O,O,O,O,O,O,O,O,O,O,O] (by kernel_rfl) rfl rfl trivial (fun hHeld => ?_); refine with_tabW fairwaylaw10_wakes.tab3 fairwaylaw10_wakes.bits3 (fun HT_ HW_ => ?_)
  generalize w37.drew = w38 at BK178 HB hHeld ⊢
  refine pz (i := 0) (N := some 17) #[I,O,O,O,O,O,O,O,O,O,O,O,O,O,O,O,O,O,O,O] ?_
  refine one_ (i := 1) (N := some 18) #[I,I,O,O,O,O,O,O,O,O,O,O,O,O,O,O,O,O,O,O] rfl rfl (one_of HT_.out (by kernel_rfl)) (by decide) (fun K hK => ?_)
  refine goes_ Try.func15 (by kernel_rfl) rfl #[.int .i64 t169] (by rfl) rfl rfl aa ?_
  with_reducible refine (fairwaylaw10_num.calls t169 t179 _ A4.out).mono ?_
  rintro e w' ⟨rfl, ⟨nd, rfl⟩⟩
  refine ⟨_, rfl, ?_⟩
  refine hK.out _ _ trivial (fun hHeld => ?_)
  clear hK K
  refine norm_ (a' := ?_) ?_ ?_
  rotate_left
  ·show Act.put _ (some 18) _ = _
   simp only [Act.put, List.setIfInBounds_toArray, List.set_cons_zero, List.set_cons_succ, i64_w, i32_w]
   rfl
  refine pz (i := 2) (N := some 19) #[I,I,I,O,O,O,O,O,O,O,O,O,O,O,O,O,O,O,O,O] ?_
  refine pz (i := 3) (N := some 20) #[I,I,I,I,O,O,O,O,O,O,O,O,O,O,O,O,O,O,O,O] ?_
  refine pu (i := 4) (N := some 21) #[I,I,I,I,I,O,O,O,O,O,O,O,O,O,O,O,O,O,O,O] ?_
  refine pu (i := 5) (N := some 22) #[I,I,I,I,I,I,O,O,O,O,O,O,O,O,O,O,O,O,O,O] ?_
  refine pu (i := 6) (N := some 23) #[I,I,I,I,I,I,I,O,O,O,O,O,O,O,O,O,O,O,O,O] ?_
  refine pz (i := 7) (N := some 24) #[I,I,I,I,I,I,I,I,O,O,O,O,O,O,O,O,O,O,O,O] ?_
  refine pz (i := 8) (N := some 25) #[I,I,I,I,I,I,I,I,I,O,O,O,O,O,O,O,O,O,O,O] ?_
  refine pu (i := 9) (N := some 26) #[I,I,I,I,I,I,I,I,I,I,O,O,O,O,O,O,O,O,O,O] ?_
  refine pu (i := 10) (N := some 27) #[I,I,I,I,I,I,I,I,I,I,I,O,O,O,O,O,O,O,O,O] ?_
  refine pu (i := 11) (N := some 28) #[I,I,I,I,I,I,I,I,I,I,I,I,O,O,O,O,O,O,O,O] ?_
  refine pu (i := 12) (N := some 29) #[I,I,I,I,I,I,I,I,I,I,I,I,I,O,O,O,O,O,O,O] ?_
  refine pz (i := 13) (N := some 30) #[I,I,I,I,I,I,I,I,I,I,I,I,I,I,O,O,O,O,O,O] ?_
  refine pz (i := 14) (N := some 31) #[I,I,I,I,I,I,I,I,I,I,I,I,I,I,I,O,O,O,O,O] ?_
  refine pu (i := 15) (N := some 32) #[I,I,I,I,I,I,I,I,I,I,I,I,I,I,I,I,O,O,O,O] ?_
  refine pu (i := 16) (N := some 33) #[I,I,I,I,I,I,I,I,I,I,I,I,I,I,I,I,I,O,O,O] ?_
  refine pu (i := 17) (N := some 34) #[I,I,I,I,I,I,I,I,I,I,I,I,I,I,I,I,I,I,O,O] ?_
  refine pz (i := 18) (N := some 35) #[I,I,I,I,I,I,I,I,I,I,I,I,I,I,I,I,I,I,I,O] ?_
  refine pz (i := 19) (N := some 0) #[I,I,I,I,I,I,I,I,I,I,I,I,I,I,I,I,I,I,I,I] ?_
  refine done_ (done_of HT_.out (by kernel_rfl)) ?_
  try go_wp2
  go_ret
  exact ⟨er, bo⟩

end Go.Proofs.Ytmabdfdmccbfnaa.P

-- written by a program of the proving session, out of the translation; Lean checks it
namespace Go.Proofs.Ytmabdfdmccbfnaa.P
open Go.RowKit Go.Proofs.Ytmabdfdmccbfnaa.Sq Go.Proofs.YtmabdfdmccbfnaaW.PrintWords Go.Proofs.YtmabdfdmccbfnaaW.PrintLast Go.Proofs.YtmabdfdmccbfnaaW.PrintMore
attribute [local go_sem] max2_int min2_int max_two min_two max_three min_three max_four min_four   -- for this text's walks alone
set_option linter.unusedVariables false
set_option linter.unusedSimpArgs false

/-! ### fairwaylaw0_RecsWeight: function 68 -/
def fairwaylaw0_RecsWeight.l0 : Nat → List (S25) → Int → Int → Option (Int)
 | 0, _, _, _ => none
 | k + 1, x0, x3, x4 => if x4 < (x0.length : Int) then (if x3 < 1048576 then (if 0 ≤ x4 then (fairwaylaw0_RecsWeight.l0 k x0 (wrap64 ((wrap64 (x3 + (((rd_T25 x0 x4).f2).size : Int))) + (((rd_T25 x0 x4).f3).size : Int))) (wrap64 (x4 + 1))) else (none)) else (some x3)) else (some x3)
def fairwaylaw0_RecsWeight.f (k : Nat) (l0 : List (S25)) : Option (Int) := fairwaylaw0_RecsWeight.l0 k l0 (l0.length : Int) 0
theorem fairwaylaw0_RecsWeight.mono_l : ∀ k, (∀ y0 y1 y2, LeO (fairwaylaw0_RecsWeight.l0 k y0 y1 y2) (fairwaylaw0_RecsWeight.l0 (k + 1) y0 y1 y2))
 | 0 => fun _ _ _ r h => by simp [fairwaylaw0_RecsWeight.l0] at h
 | k + 1 => by
  have ih0 := fairwaylaw0_RecsWeight.mono_l k
  ·intro y0 y1 y2
   unfold fairwaylaw0_RecsWeight.l0
   repeat' first
   | (with_reducible exact ih0 _ _ _)
   | (with_reducible exact LeO.refl _)
   | (with_reducible exact LeO.none _)
   | (with_reducible refine LeO.ite ?_ ?_)
   | (with_reducible refine LeO.bind ?_ (fun _ => ?_))
   | exact ih0 _ _ _
   | exact LeO.none _
   | refine LeO.ite ?_ ?_
   | refine LeO.bind ?_ (fun _ => ?_)
theorem fairwaylaw0_RecsWeight.mono : ∀ a0 k, LeO (fairwaylaw0_RecsWeight.f k a0) (fairwaylaw0_RecsWeight.f (k + 1) a0) := by
 intro a0 k
 have ih0 := fairwaylaw0_RecsWeight.mono_l k
 unfold fairwaylaw0_RecsWeight.f
 repeat' first
  | (with_reducible exact ih0 _ _ _)
  | (with_reducible exact LeO.refl _)
  | (with_reducible exact LeO.none _)
  | (with_reducible refine LeO.ite ?_ ?_)
  | (with_reducible refine LeO.bind ?_ (fun _ => ?_))
  | exact ih0 _ _ _
  | exact LeO.none _
  | refine LeO.ite ?_ ?_
  | refine LeO.bind ?_ (fun _ => ?_)
set_option maxHeartbeats 8000000 in
set_option maxRecDepth 100000 in
theorem fairwaylaw0_RecsWeight.calls (k : Nat) (A0 : Option Addr) (c0 : Nat) (l0 : List (S25)) (r : Int) (w : World) (hr0 : Kd.C k25 w A0 l0.length l0) (hc0 : l0.length ≤ c0) (h : fairwaylaw0_RecsWeight.f k l0 = some r) :
 Calls Try.prog 68 #[.slice A0 l0.length c0] w fun e w' => e = .returned (.int .i64 r) ∧ Drawn0 w w' := by
 have HR0 := Aside0.mk hr0
 have HC0 := Aside0.mk hc0
 clear hr0 hc0
 have H : (fairwaylaw0_RecsWeight.l0 k l0 (l0.length : Int) 0) = some r := h
 clear h
 have H' := Aside0.mk H
 clear H
 go_enter Try.func68, Try.ntmps68
 go_wp2
 repeat (go_quiet (fail); try go_wp2)
 go_loopg [3, 4] k (fun kq v3 v4 w' => ∃ (x3_1 : Int) (x4_1 : Int), v3 = .int .i64 x3_1 ∧ v4 = .int .i64 x4_1 ∧ Aside0 (fairwaylaw0_RecsWeight.l0 kq l0 x3_1 x4_1 = some r) ∧ Aside0 (kq ≤ k) ∧ Drawn0 w w')
 case atStart => exact ⟨((l0.length : Int)), (0), ap, ap, H', ⟨Nat.le_refl _⟩, dr⟩
 case round =>
  clear H'
  obtain ⟨x3_1, x4_1, rfl, rfl, HA, HK1, ⟨m1, rfl⟩⟩ := hrel
  cases gk with
  | zero => exact absurd HA.out (by simp [fairwaylaw0_RecsWeight.l0])
  | succ k1 =>
   have H := HA.out
   clear HA
   simp only [fairwaylaw0_RecsWeight.l0] at H
   by_cases c2 : x4_1 < (l0.length : Int)
   ·rw [if_pos c2] at H
    have c2b0 : decide (x4_1 < (l0.length : Int)) = true := decide_eq_true c2
    clear c2
    by_cases c3 : x3_1 < 1048576
    ·rw [if_pos c3] at H
     have c3b0 : decide (x3_1 < 1048576) = true := decide_eq_true c3
     clear c3
     by_cases c4 : 0 ≤ x4_1
     ·rw [if_pos c4] at H
      have c4b0 : decide (0 ≤ x4_1) = true := decide_eq_true c4
      clear c4
      have H' := Aside0.mk H
      clear H
      have p210 : 0 ≤ (x4_1 : Int) := od
      have q210 : x4_1 < (l0.length : Int) := od
      obtain ⟨ad210, e210, hx210_0, hx210_1, hx210_2, hx210_3, hx210_4, hx210_5⟩ := at_T25 HR0.out x4_1 p210 q210
      cases e210
      replace p210 := eq_true p210
      replace q210 := eq_true q210
      have p211 : 0 ≤ (x4_1 : Int) := od
      have q211 : x4_1 < (l0.length : Int) := od
      obtain ⟨ad211, e211, hx211_0, hx211_1, hx211_2, hx211_3, hx211_4, hx211_5⟩ := at_T25 HR0.out x4_1 p211 q211
      obtain rfl : ad210 = ad211 := (by injection e211)
      replace p211 := eq_true p211
      replace q211 := eq_true q211
      go_wp2
      repeat (go_quiet (fail); try go_wp2)
      go_roundg k1
      case measure => have := HK1.out; omega
      case rel => exact ⟨(wrap64 ((wrap64 (x3_1 + (((rd_T25 l0 x4_1).f2).size : Int))) + (((rd_T25 l0 x4_1).f3).size : Int))), (wrap64 (x4_1 + 1)), ap, ap, H', ⟨by have := HK1.out; omega⟩, dr⟩
     ·rw [if_neg c4] at H
      exact absurd H (by simp)
    ·rw [if_neg c3] at H
     have c3b0 : decide (x3_1 < 1048576) = false := decide_eq_false c3
     clear c3
     obtain rfl := Option.some.inj H
     go_wp2
     repeat (go_quiet (fail); try go_wp2)
     go_ret
     exact ⟨ap, dr⟩
   ·rw [if_neg c2] at H
    have c2b0 : decide (x4_1 < (l0.length : Int)) = false := decide_eq_false c2
    clear c2
    obtain rfl := Option.some.inj H
    go_wp2
    repeat (go_quiet (fail); try go_wp2)
    go_ret
    exact ⟨ap, dr⟩

end Go.Proofs.Ytmabdfdmccbfnaa.P

-- written by a program of the proving session, out of the translation; Lean checks it
namespace Go.Proofs.Ytmabdfdmccbfnaa.P
open Go.RowKit Go.Proofs.Ytmabdfdmccbfnaa.Sq Go.Proofs.YtmabdfdmccbfnaaW.PrintWords Go.Proofs.YtmabdfdmccbfnaaW.PrintLast Go.Proofs.YtmabdfdmccbfnaaW.PrintMore
attribute [local go_sem] max2_int min2_int max_two min_two max_three min_three max_four min_four   -- for this text's walks alone
set_option linter.unusedVariables false
set_option linter.unusedSimpArgs false

/-! ### fairwaylaw10_heavy: function 19 -/
def fairwaylaw10_heavy.f (k : Nat) (l0_0 : List (S25)) (a0_1 : ByteArray) : Option (Bool) := (fairwaylaw0_RecsWeight.f k l0_0).bind fun t213 => (if t213 > 8000 then (some true) else (some (decide ((a0_1.size : Int) > 8000))))
theorem fairwaylaw10_heavy.mono : ∀ a0 a1 k, LeO (fairwaylaw10_heavy.f k a0 a1) (fairwaylaw10_heavy.f (k + 1) a0 a1) := by
 intro a0 a1 k
 unfold fairwaylaw10_heavy.f
 repeat' first
  | (with_reducible exact fairwaylaw0_RecsWeight.mono _ _)
  | (with_reducible exact LeO.refl _)
  | (with_reducible exact LeO.none _)
  | (with_reducible refine LeO.ite ?_ ?_)
  | (with_reducible refine LeO.bind ?_ (fun _ => ?_))
  | exact fairwaylaw0_RecsWeight.mono _ _
  | exact LeO.none _
  | refine LeO.ite ?_ ?_
  | refine LeO.bind ?_ (fun _ => ?_)
set_option maxHeartbeats 8000000 in
set_option maxRecDepth 100000 in
theorem fairwaylaw10_heavy.calls (k : Nat) (A0_0 : Option Addr) (c0_0 : Nat) (l0_0 : List (S25)) (a0_1 : ByteArray) (r : Bool) (w : World) (hr0_0 : Kd.C k25 w A0_0 l0_0.length l0_0) (hc0_0 : l0_0.length ≤ c0_0) (h : fairwaylaw10_heavy.f k l0_0 a0_1 = some r) :
 Calls Try.prog 19 #[.agg #[.slice A0_0 l0_0.length c0_0, .string a0_1]] w fun e w' => e = .returned (.bool r) ∧ Below w.heap.size w w' := by
 have hu38 := Try.underlying38
 have HR0_0 := Aside0.mk hr0_0
 have HC0_0 := Aside0.mk hc0_0
 clear hr0_0 hc0_0
 have HB := Aside0.mk (Below.refl w.heap.size w)
 have H : ((fairwaylaw0_RecsWeight.f k l0_0).bind fun t213 => (if t213 > 8000 then (some true) else (some (decide ((a0_1.size : Int) > 8000))))) = some r := h
 clear h
 replace H := Option.bind_eq_some_iff.mp H
 obtain ⟨t213, A20, H⟩ := H
 replace H : (if t213 > 8000 then (some true) else (some (decide ((a0_1.size : Int) > 8000)))) = some r := H
 have A2 := Aside0.mk A20
 clear A20
 by_cases c3 : t213 > 8000
 ·rw [if_pos c3] at H
  have c3b0 : decide (8000 < t213) = true := decide_eq_true c3
  clear c3
  obtain rfl := Option.some.inj H
  go_enter Try.func19, Try.ntmps19
  go_wp2_with (first | ((with_reducible refine gate_dst (N := 1) rfl ?_); (try (refine gate_guard (by rfl) ?_; dsimp only)); refine box_event ?hg (N := 1) ?hd (cs := #[.slice A0_0 l0_0.length c0_0, .string a0_1]) (t := 38) ?hr ?_; (case hd => rfl); (case hg => rfl); (case hr => first | (go_simp; done) | (go_simp; rfl)); intro gb212 hg w4 hbox hb; have n0_ := Aside0.mk (below_step bo hb); have n1_ := Aside0.mk (hbox); have n2_ := Aside0.mk ((by rw [hg]; exact (below_size bo) : w.heap.size ≤ gb212)); have n3_ := Aside0.mk ((by rw [hg]; exact (below_size bo) : w.heap.size ≤ gb212)); clear HB; have HB := n0_; have BK212 := n1_; have GW212 := n2_; have GE212 := n3_; clear n0_ n1_ n2_ n3_; clear hb hbox hg; obtain ⟨hcz5_0, hcz5_1⟩ := cl2 BK212.out; obtain ⟨hfz5_0, hfz5_1⟩ := fz2 BK212.out) | ((with_reducible refine gate_callee (f := 68) rfl ?_); refine goesL_ (some 5) rfl rfl Try.func68 (by kernel_rfl) rfl #[.slice A0_0 l0_0.length c0_0] rfl aa ?_; (with_reducible refine (fairwaylaw0_RecsWeight.calls k _ _ l0_0 t213 _ ?side1 ?side2 A2.out).mono ?_); (case side1 => repeat (first | exact (Kd.C_below HR0_0.out HB.out) | (with_reducible refine Kd.C_alloc ?_ _) | (with_reducible refine Kd.C_drewN ?_ _) | (with_reducible refine Kd.C_drew ?_))); (case side2 => exact HC0_0.out); rintro e w' ⟨rfl, ⟨nd, rfl⟩⟩; refine ⟨_, rfl, ?_⟩))
  go_ret
  exact ⟨er, bo⟩
 ·rw [if_neg c3] at H
  have c3b0 : decide (8000 < t213) = false := decide_eq_false c3
  clear c3
  obtain rfl := Option.some.inj H
  go_enter Try.func19, Try.ntmps19
  go_wp2_with (first | ((with_reducible refine gate_dst (N := 1) rfl ?_); (try (refine gate_guard (by rfl) ?_; dsimp only)); refine box_event ?hg (N := 1) ?hd (cs := #[.slice A0_0 l0_0.length c0_0, .string a0_1]) (t := 38) ?hr ?_; (case hd => rfl); (case hg => rfl); (case hr => first | (go_simp; done) | (go_simp; rfl)); intro gb212 hg w6 hbox hb; have n0_ := Aside0.mk (below_step bo hb); have n1_ := Aside0.mk (hbox); have n2_ := Aside0.mk ((by rw [hg]; exact (below_size bo) : w.heap.size ≤ gb212)); have n3_ := Aside0.mk ((by rw [hg]; exact (below_size bo) : w.heap.size ≤ gb212)); clear HB; have HB := n0_; have BK212 := n1_; have GW212 := n2_; have GE212 := n3_; clear n0_ n1_ n2_ n3_; clear hb hbox hg; obtain ⟨hcz7_0, hcz7_1⟩ := cl2 BK212.out; obtain ⟨hfz7_0, hfz7_1⟩ := fz2 BK212.out) | ((with_reducible refine gate_callee (f := 68) rfl ?_); refine goesL_ (some 5) rfl rfl Try.func68 (by kernel_rfl) rfl #[.slice A0_0 l0_0.length c0_0] rfl aa ?_; (with_reducible refine (fairwaylaw0_RecsWeight.calls k _ _ l0_0 t213 _ ?side1 ?side2 A2.out).mono ?_); (case side1 => repeat (first | exact (Kd.C_below HR0_0.out HB.out) | (with_reducible refine Kd.C_alloc ?_ _) | (with_reducible refine Kd.C_drewN ?_ _) | (with_reducible refine Kd.C_drew ?_))); (case side2 => exact HC0_0.out); rintro e w' ⟨rfl, ⟨nd, rfl⟩⟩; refine ⟨_, rfl, ?_⟩))
  go_ret
  exact ⟨er, bo⟩

end Go.Proofs.Ytmabdfdmccbfnaa.P

-- written by a program of the proving session, out of the translation; Lean checks it
namespace Go.Proofs.Ytmabdfdmccbfnaa.P
open Go.RowKit Go.Proofs.Ytmabdfdmccbfnaa.Sq Go.Proofs.YtmabdfdmccbfnaaW.PrintWords Go.Proofs.YtmabdfdmccbfnaaW.PrintLast Go.Proofs.YtmabdfdmccbfnaaW.PrintMore
attribute [local go_sem] max2_int min2_int max_two min_two max_three min_three max_four min_four   -- for this text's walks alone
set_option linter.unusedVariables false
set_option linter.unusedSimpArgs false

/-! ### fairwayref1_Fixed: function 69 -/
def fairwayref1_Fixed.l0 : Nat → Int → List Int → Int → Option (ByteArray)
 | 0, _, _, _ => none
 | k + 1, x0, x5, x6 => if x6 ≥ 0 then (if 0 ≤ (wrap64 (8 * x6)) then (if x5.length < 140737488355328 then (fairwayref1_Fixed.l0 k x0 (x5 ++ [(shr .i64 x0 (wrap64 (8 * x6))) % 256]) (wrap64 (x6 - 1))) else (none)) else (none)) else (some (strOfNums x5))
def fairwayref1_Fixed.f (k : Nat) (a0 : Int) (a1 : Int) : Option (ByteArray) := fairwayref1_Fixed.l0 k a0 ([] : List Int) (wrap64 (a1 - 1))
theorem fairwayref1_Fixed.mono_l : ∀ k, (∀ y0 y1 y2, LeO (fairwayref1_Fixed.l0 k y0 y1 y2) (fairwayref1_Fixed.l0 (k + 1) y0 y1 y2))
 | 0 => fun _ _ _ r h => by simp [fairwayref1_Fixed.l0] at h
 | k + 1 => by
  have ih0 := fairwayref1_Fixed.mono_l k
  ·intro y0 y1 y2
   unfold fairwayref1_Fixed.l0
   repeat' first
   | (with_reducible exact ih0 _ _ _)
   | (with_reducible exact LeO.refl _)
   | (with_reducible exact LeO.none _)
   | (with_reducible refine LeO.ite ?_ ?_)
   | (with_reducible refine LeO.bind ?_ (fun _ => ?_))
   | exact ih0 _ _ _
   | exact LeO.none _
   | refine LeO.ite ?_ ?_
   | refine LeO.bind ?_ (fun _ => ?_)
theorem fairwayref1_Fixed.mono : ∀ a0 a1 k, LeO (fairwayref1_Fixed.f k a0 a1) (fairwayref1_Fixed.f (k + 1) a0 a1) := by
 intro a0 a1 k
 have ih0 := fairwayref1_Fixed.mono_l k
 unfold fairwayref1_Fixed.f
 repeat' first
  | (with_reducible exact ih0 _ _ _)
  | (with_reducible exact LeO.refl _)
  | (with_reducible exact LeO.none _)
  | (with_reducible refine LeO.ite ?_ ?_)
  | (with_reducible refine LeO.bind ?_ (fun _ => ?_))
  | exact ih0 _ _ _
  | exact LeO.none _
  | refine LeO.ite ?_ ?_
  | refine LeO.bind ?_ (fun _ => ?_)
set_option maxHeartbeats 8000000 in
set_option maxRecDepth 100000 in
theorem fairwayref1_Fixed.calls (k : Nat) (a0 : Int) (a1 : Int) (r : ByteArray) (w : World) (h : fairwayref1_Fixed.f k a0 a1 = some r) :
 Calls Try.prog 69 #[.int .i64 a0, .int .i64 a1] w fun e w' => e = .returned (.string r) ∧ Below w.heap.size w w' := by
 have HB := Aside0.mk (Below.refl w.heap.size w)
 have H : (fairwayref1_Fixed.l0 k a0 ([] : List Int) (wrap64 (a1 - 1))) = some r := h
 clear h
 have H' := Aside0.mk H
 clear H
 go_enter Try.func69, Try.ntmps69
 go_wp2
 go_loopg [5, 6] k (fun kq v5 v6 w' => ∃ (x5_1 : List Int) (x6_1 : Int), v6 = .int .i64 x6_1 ∧ Aside0 (fairwayref1_Fixed.l0 kq a0 x5_1 x6_1 = some r) ∧ Aside0 (kq ≤ k) ∧ Aside0 (Kd.R (Kd.int .u8) 5 w' w.heap.size (fun _ => True) v5 x5_1) ∧ Aside0 (Below w.heap.size w w'))
 case atStart => exact ⟨(([] : List Int)), (wrap64 (a1 - 1)), ap, H', ⟨Nat.le_refl _⟩, ⟨by first | exact Kd.R_nil _ _ _ _ _ | exact Kd.N_nil _ _ _ _ _ | exact Kd.V_nil _ _ _ _ _ | exact Kd.Q_nil _ _ _ _ _ | exact Kd.S_nil _ _ _ _ _⟩, ⟨bo⟩⟩
 case round =>
  clear H'
  try clear p2
  obtain ⟨x5_1, x6_1, rfl, HA, HK1, HO_5, HB⟩ := hrel
  cases gk with
  | zero => exact absurd HA.out (by simp [fairwayref1_Fixed.l0])
  | succ k1 =>
   have H := HA.out
   clear HA
   simp only [fairwayref1_Fixed.l0] at H
   by_cases c3 : x6_1 ≥ 0
   ·rw [if_pos c3] at H
    have c3b0 : decide (0 ≤ x6_1) = true := decide_eq_true c3
    clear c3
    obtain ⟨ji4, hji4⟩ : ∃ j_ : Int, (wrap64 (8 * x6_1)) = j_ := ⟨_, rfl⟩
    replace H : (if 0 ≤ (ji4) then (if x5_1.length < 140737488355328 then (fairwayref1_Fixed.l0 k1 a0 (x5_1 ++ [(shr .i64 a0 (ji4)) % 256]) (wrap64 (x6_1 - 1))) else (none)) else (none)) = some r := by first | (rw [hji4] at H; exact H) | (simp only [hji4] at H ⊢; exact H)
    have hji4w : (IntKind.i64.wrap (8 * x6_1)) = ji4 := (i64_w _).trans hji4
    by_cases c5 : 0 ≤ (ji4)
    ·rw [if_pos c5] at H
     have c5b0 := eq_true c5
     have c5b1 : decide (0 ≤ (ji4)) = true := decide_eq_true c5
     clear c5
     obtain ⟨ji6, hji6⟩ : ∃ j_ : Int, (shr .i64 a0 (ji4)) = j_ := ⟨_, rfl⟩
     replace H : (if x5_1.length < 140737488355328 then (fairwayref1_Fixed.l0 k1 a0 (x5_1 ++ [(ji6) % 256]) (wrap64 (x6_1 - 1))) else (none)) = some r := by first | (rw [hji6] at H; exact H) | (simp only [hji6] at H ⊢; exact H)
     have hji6_ : (a0 / 2 ^ min (ji4).toNat 64) = ji6 := hji6
     have hji6z : (ji4) ≤ 64 → (a0 / 2 ^ (ji4).toNat) = ji6 := shr_small hji6
     by_cases c7 : x5_1.length < 140737488355328
     ·rw [if_pos c7] at H
      have LMc7 := Aside0.mk c7
      clear c7
      obtain ⟨y214, hy214⟩ : ∃ y_ : List Int, y_ = (x5_1 ++ [(ji6) % 256]) := ⟨_, rfl⟩
      replace H : (fairwayref1_Fixed.l0 k1 a0 y214 (wrap64 (x6_1 - 1))) = some r := by first | (rw [hy214]; with_reducible exact H) | (have H2_ := (Option.bind_some _ _).symm.trans H; rw [hy214]; with_reducible exact H2_) | (have H2_ := (Option.bind_some _ _).symm.trans H; with_reducible exact H2_) | with_reducible exact H | (rw [hy214]; exact H) | exact H
      have Ny214 := Aside0.mk hy214
      clear hy214
      have H' := Aside0.mk H
      clear H
      go_wp2_with (first | ((with_reducible refine gate_builtin (b := .append) (xs := #[.tmp 13, .tmp 19]) rfl ?_); at_builtin; refine Kd.R_append (Kd.int .u8) (w0 := w) w.heap.size rfl (.tmp 13) (.tmp 19) 23 5 (.int .u8 0) 1 rfl Try.underlying23 info5 rfl (by decide) (by omega) u5 x5_1 ((ji6) % 256) [.int .u8 ((ji6) % 256)] (fun _ => True) (fun _ => False) rfl rfl ?aP (fun _ hk => hk.elim) ?aF ?aO ?aB ?aS ?aL ?_; (case aP => exact rfl); (case aB => exact bo); (case aF => exact (fun _ _ => trivial)); (case aO => exact (rk HO_5.out)); (case aS => exact (below_size bo)); (case aL => have := LMc7.out; omega); intro v215 w8 ho hb hg hat; rw [← Ny214.out] at ho; have n0_ := Aside0.mk (hb); have n1_ := Aside0.mk (ho); clear HB; clear HO_5; have HB := n0_; have HO216 := n1_; clear n0_ n1_; clear ho hb hg hat))
      go_roundg k1
      case measure => have := HK1.out; omega
      case rel => exact ⟨(y214), (wrap64 (x6_1 - 1)), ap, H', ⟨by have := HK1.out; omega⟩, ⟨by (with_reducible repeat (first | apply Kd.R_alloc | apply Kd.R_drewN | apply Kd.R_drew)); exact HO216.out⟩, ⟨bo⟩⟩
     ·rw [if_neg c7] at H
      exact absurd H (by simp)
    ·rw [if_neg c5] at H
     exact absurd H (by simp)
   ·rw [if_neg c3] at H
    have c3b0 : decide (0 ≤ x6_1) = false := decide_eq_false c3
    clear c3
    obtain rfl := Option.some.inj H
    have hcv9 := own_string (P := Try.prog) Try.underlying23 Try.underlying5 Try.underlying9 (Kd.own_of_R HO_5.out)
    go_wp2
    go_ret
    exact ⟨er, bo⟩

end Go.Proofs.Ytmabdfdmccbfnaa.P

-- written by a program of the proving session, out of the translation; Lean checks it
namespace Go.Proofs.Ytmabdfdmccbfnaa.P
open Go.RowKit Go.Proofs.Ytmabdfdmccbfnaa.Sq Go.Proofs.YtmabdfdmccbfnaaW.PrintWords Go.Proofs.YtmabdfdmccbfnaaW.PrintLast Go.Proofs.YtmabdfdmccbfnaaW.PrintMore
attribute [local go_sem] max2_int min2_int max_two min_two max_three min_three max_four min_four   -- for this text's walks alone
set_option linter.unusedVariables false
set_option linter.unusedSimpArgs false

/-! ### fairwayref1_Sum: function 70 -/
mutual
def fairwayref1_Sum.l0 : Nat → Int → ByteArray → Int → Option (Int)
 | 0, _, _, _ => none
 | k + 1, x0, x1, x5 => if x5 < (x1.size : Int) then (if 0 ≤ x5 then (fairwayref1_Sum.l1 k (Go.bits .xor .u32 x0 ((bt x1 x5) % 4294967296)) x1 x5 0) else (none)) else (some (Go.bits .xor .u32 4294967295 x0))
def fairwayref1_Sum.l1 : Nat → Int → ByteArray → Int → Int → Option (Int)
 | 0, _, _, _, _ => none
 | k + 1, x0, x1, x5, x6 => if x6 < 8 then (if (Go.bits .and .u32 x0 1) = 1 then (fairwayref1_Sum.l1 k (Go.bits .xor .u32 (x0 / 2) 2197175160) x1 x5 (wrap64 (x6 + 1))) else (fairwayref1_Sum.l1 k (x0 / 2) x1 x5 (wrap64 (x6 + 1)))) else (fairwayref1_Sum.l0 k x0 x1 (wrap64 (x5 + 1)))
end
def fairwayref1_Sum.f (k : Nat) (a0 : Int) (a1 : ByteArray) : Option (Int) := fairwayref1_Sum.l0 k (Go.bits .xor .u32 4294967295 a0) a1 0
theorem fairwayref1_Sum.mono_l : ∀ k, (∀ y0 y1 y2, LeO (fairwayref1_Sum.l0 k y0 y1 y2) (fairwayref1_Sum.l0 (k + 1) y0 y1 y2)) ∧ (∀ y0 y1 y2 y3, LeO (fairwayref1_Sum.l1 k y0 y1 y2 y3) (fairwayref1_Sum.l1 (k + 1) y0 y1 y2 y3))
 | 0 => ⟨fun _ _ _ r h => by simp [fairwayref1_Sum.l0] at h, fun _ _ _ _ r h => by simp [fairwayref1_Sum.l1] at h⟩
 | k + 1 => by
  obtain ⟨ih0, ih1⟩ := fairwayref1_Sum.mono_l k
  refine ⟨?_, ?_⟩
  ·intro y0 y1 y2
   unfold fairwayref1_Sum.l0
   repeat' first
   | (with_reducible exact ih0 _ _ _)
   | (with_reducible exact ih1 _ _ _ _)
   | (with_reducible exact LeO.refl _)
   | (with_reducible exact LeO.none _)
   | (with_reducible refine LeO.ite ?_ ?_)
   | (with_reducible refine LeO.bind ?_ (fun _ => ?_))
   | exact ih0 _ _ _
   | exact ih1 _ _ _ _
   | exact LeO.none _
   | refine LeO.ite ?_ ?_
   | refine LeO.bind ?_ (fun _ => ?_)
  ·intro y0 y1 y2 y3
   unfold fairwayref1_Sum.l1
   repeat' first
   | (with_reducible exact ih0 _ _ _)
   | (with_reducible exact ih1 _ _ _ _)
   | (with_reducible exact LeO.refl _)
   | (with_reducible exact LeO.none _)
   | (with_reducible refine LeO.ite ?_ ?_)
   | (with_reducible refine LeO.bind ?_ (fun _ => ?_))
   | exact ih0 _ _ _
   | exact ih1 _ _ _ _
   | exact LeO.none _
   | refine LeO.ite ?_ ?_
   | refine LeO.bind ?_ (fun _ => ?_)
theorem fairwayref1_Sum.mono : ∀ a0 a1 k, LeO (fairwayref1_Sum.f k a0 a1) (fairwayref1_Sum.f (k + 1) a0 a1) := by
 intro a0 a1 k
 obtain ⟨ih0, ih1⟩ := fairwayref1_Sum.mono_l k
 unfold fairwayref1_Sum.f
 repeat' first
  | (with_reducible exact ih0 _ _ _)
  | (with_reducible exact ih1 _ _ _ _)
  | (with_reducible exact LeO.refl _)
  | (with_reducible exact LeO.none _)
  | (with_reducible refine LeO.ite ?_ ?_)
  | (with_reducible refine LeO.bind ?_ (fun _ => ?_))
  | exact ih0 _ _ _
  | exact ih1 _ _ _ _
  | exact LeO.none _
  | refine LeO.ite ?_ ?_
  | refine LeO.bind ?_ (fun _ => ?_)
set_option maxHeartbeats 8000000 in
set_option maxRecDepth 100000 in
theorem fairwayref1_Sum.calls (k : Nat) (a0 : Int) (a1 : ByteArray) (r : Int) (w : World) (h : fairwayref1_Sum.f k a0 a1 = some r) :
 Calls Try.prog 70 #[.int .u32 a0, .string a1] w fun e w' => e = .returned (.int .u32 r) ∧ Drawn0 w w' := by
 have H : (fairwayref1_Sum.l0 k (Go.bits .xor .u32 4294967295 a0) a1 0) = some r := h
 clear h
 have H' := Aside0.mk H
 clear H
 go_enter Try.func70, Try.ntmps70
 go_wp2
 go_loopg [0, 5] k (fun kq v0 v5 w' => ∃ (x0_1 : Int) (x5_1 : Int), v0 = .int .u32 x0_1 ∧ v5 = .int .i64 x5_1 ∧ Aside0 (fairwayref1_Sum.l0 kq x0_1 a1 x5_1 = some r) ∧ Aside0 (kq ≤ k) ∧ Drawn0 w w')
 case atStart => exact ⟨(Go.bits .xor .u32 4294967295 a0), (0), ap, ap, H', ⟨Nat.le_refl _⟩, dr⟩
 case round =>
  clear H'
  try clear p2
  obtain ⟨x0_1, x5_1, rfl, rfl, HA, HK1, ⟨m1, rfl⟩⟩ := hrel
  cases gk with
  | zero => exact absurd HA.out (by simp [fairwayref1_Sum.l0])
  | succ k1 =>
   have H := HA.out
   clear HA
   simp only [fairwayref1_Sum.l0] at H
   by_cases c3 : x5_1 < (a1.size : Int)
   ·rw [if_pos c3] at H
    have c3b0 : decide (x5_1 < (a1.size : Int)) = true := decide_eq_true c3
    clear c3
    by_cases c4 : 0 ≤ x5_1
    ·rw [if_pos c4] at H
     have c4b0 : decide (0 ≤ x5_1) = true := decide_eq_true c4
     clear c4
     have H' := Aside0.mk H
     clear H
     have p5 : 0 ≤ (x5_1 : Int) := od
     have q5 : x5_1 < (a1.size : Int) := od
     have hx5 := bt_at a1 x5_1
     replace p5 := eq_true p5
     replace q5 := eq_true q5
     go_wp2
     go_loopg [0, 6] k1 (fun kq v0 v6 w' => ∃ (x0_2 : Int) (x6_2 : Int), v0 = .int .u32 x0_2 ∧ v6 = .int .i64 x6_2 ∧ Aside0 (fairwayref1_Sum.l1 kq x0_2 a1 x5_1 x6_2 = some r) ∧ Aside0 (kq ≤ k1) ∧ Drawn0 w w')
     case atStart => exact ⟨(Go.bits .xor .u32 x0_1 ((bt a1 x5_1) % 4294967296)), (0), ap, ap, H', ⟨Nat.le_refl _⟩, dr⟩
     case round =>
      clear H'
      try clear p2
      try clear c3
      try clear c3b0
      try clear c4
      try clear c4b0
      try clear p5
      try clear q5
      try clear hx5
      try clear p2
      try clear p5
      try clear q5
      obtain ⟨x0_2, x6_2, rfl, rfl, HA, HK2, ⟨m2, rfl⟩⟩ := hrel
      cases gk with
      | zero => exact absurd HA.out (by simp [fairwayref1_Sum.l1])
      | succ k2 =>
       have H := HA.out
       clear HA
       simp only [fairwayref1_Sum.l1] at H
       by_cases c6 : x6_2 < 8
       ·rw [if_pos c6] at H
        have c6b0 : decide (x6_2 < 8) = true := decide_eq_true c6
        clear c6
        by_cases c7 : (Go.bits .and .u32 x0_2 1) = 1
        ·rw [if_pos c7] at H
         have c7b0 : ((Go.bits .and .u32 x0_2 1) == 1) = true := beq_iff_eq.mpr c7
         have c7b1 : ((Go.bits .and .u32 x0_2 1) != 1) = false := bne_eq_false_iff_eq.mpr c7
         clear c7
         have H' := Aside0.mk H
         clear H
         go_wp2
         go_roundg k2
         case measure => have := HK1.out; have := HK2.out; omega
         case rel => exact ⟨(Go.bits .xor .u32 (x0_2 / 2) 2197175160), (wrap64 (x6_2 + 1)), ap, ap, H', ⟨by have := HK1.out; have := HK2.out; omega⟩, dr⟩
        ·rw [if_neg c7] at H
         have c7b0 : ((Go.bits .and .u32 x0_2 1) == 1) = false := beq_eq_false_iff_ne.mpr c7
         have c7b1 : ((Go.bits .and .u32 x0_2 1) != 1) = true := bne_iff_ne.mpr c7
         have H' := Aside0.mk H
         clear H
         go_wp2
         go_roundg k2
         case measure => have := HK1.out; have := HK2.out; omega
         case rel => exact ⟨(x0_2 / 2), (wrap64 (x6_2 + 1)), ap, ap, H', ⟨by have := HK1.out; have := HK2.out; omega⟩, dr⟩
       ·rw [if_neg c6] at H
        have c6b0 : decide (x6_2 < 8) = false := decide_eq_false c6
        clear c6
        have H' := Aside0.mk H
        clear H
        go_wp2
        go_roundg k2
        case measure => have := HK1.out; have := HK2.out; omega
        case rel => exact ⟨(x0_2), (wrap64 (x5_1 + 1)), ap, ap, H', ⟨by have := HK1.out; have := HK2.out; omega⟩, dr⟩
    ·rw [if_neg c4] at H
     exact absurd H (by simp)
   ·rw [if_neg c3] at H
    have c3b0 : decide (x5_1 < (a1.size : Int)) = false := decide_eq_false c3
    clear c3
    obtain rfl := Option.some.inj H
    go_wp2
    go_ret
    exact ⟨ap, dr⟩

end Go.Proofs.Ytmabdfdmccbfnaa.P

-- written by a program of the proving session, out of the translation; Lean checks it
namespace Go.Proofs.Ytmabdfdmccbfnaa.P
open Go.RowKit Go.Proofs.Ytmabdfdmccbfnaa.Sq Go.Proofs.YtmabdfdmccbfnaaW.PrintWords Go.Proofs.YtmabdfdmccbfnaaW.PrintLast Go.Proofs.YtmabdfdmccbfnaaW.PrintMore
attribute [local go_sem] max2_int min2_int max_two min_two max_three min_three max_four min_four   -- for this text's walks alone
set_option linter.unusedVariables false
set_option linter.unusedSimpArgs false

/-! ### fairwayref10_Bytes: function 20 -/
def fairwayref10_Bytes.j0 : Nat → Int → Int → Int → ByteArray → ByteArray → Int → Bool → Option (ByteArray)
 | 0, _, _, _, _, _, _, _ => none
 | k + 1, x3, x218000, x218001, x218002, x218003, x218004, x218005 => (fairwayref1_Fixed.f k x218000 8).bind fun t218 => ((fairwayref1_Fixed.f k x218001 8).bind fun t219 => (if t218.size + t219.size ≤ 9223372036854775807 then ((some (([(x3) % 256] : List Int) : List Int)).bind fun y220 => (if (t218 ++ t219).size + (strOfNums y220).size ≤ 9223372036854775807 then ((fairwayref1_Fixed.f k (x218002.size : Int) 2).bind fun t223 => (if ((t218 ++ t219) ++ (strOfNums y220)).size + t223.size ≤ 9223372036854775807 then (if (((t218 ++ t219) ++ (strOfNums y220)) ++ t223).size + x218002.size ≤ 9223372036854775807 then (if ((((t218 ++ t219) ++ (strOfNums y220)) ++ t223) ++ x218002).size + x218003.size ≤ 9223372036854775807 then ((fairwayref1_Fixed.f k ((((((t218 ++ t219) ++ (strOfNums y220)) ++ t223) ++ x218002) ++ x218003).size : Int) 2).bind fun t224 => (if t224.size + (((((t218 ++ t219) ++ (strOfNums y220)) ++ t223) ++ x218002) ++ x218003).size ≤ 9223372036854775807 then ((fairwayref1_Sum.f k 0 (t224 ++ (((((t218 ++ t219) ++ (strOfNums y220)) ++ t223) ++ x218002) ++ x218003))).bind fun t225 => ((fairwayref1_Fixed.f k (wrap64 (t225)) 4).bind fun t226 => (if t224.size + t226.size ≤ 9223372036854775807 then (if (t224 ++ t226).size + (((((t218 ++ t219) ++ (strOfNums y220)) ++ t223) ++ x218002) ++ x218003).size ≤ 9223372036854775807 then (some ((t224 ++ t226) ++ (((((t218 ++ t219) ++ (strOfNums y220)) ++ t223) ++ x218002) ++ x218003))) else (none)) else (none)))) else (none))) else (none)) else (none)) else (none))) else (none))) else (none)))
def fairwayref10_Bytes.f (k : Nat) (a0_0 : Int) (a0_1 : Int) (a0_2 : ByteArray) (a0_3 : ByteArray) (a0_4 : Int) (a0_5 : Bool) : Option (ByteArray) := if a0_5 = true then (fairwayref10_Bytes.j0 k (wrap64 (a0_4 + 4)) a0_0 a0_1 a0_2 a0_3 a0_4 a0_5) else (fairwayref10_Bytes.j0 k a0_4 a0_0 a0_1 a0_2 a0_3 a0_4 a0_5)
theorem fairwayref10_Bytes.mono_l : ∀ k, (∀ y0 y1 y2 y3 y4 y5 y6, LeO (fairwayref10_Bytes.j0 k y0 y1 y2 y3 y4 y5 y6) (fairwayref10_Bytes.j0 (k + 1) y0 y1 y2 y3 y4 y5 y6))
 | 0 => fun _ _ _ _ _ _ _ r h => by simp [fairwayref10_Bytes.j0] at h
 | k + 1 => by
  have ih0 := fairwayref10_Bytes.mono_l k
  ·intro y0 y1 y2 y3 y4 y5 y6
   unfold fairwayref10_Bytes.j0
   repeat' first
   | (with_reducible exact ih0 _ _ _ _ _ _ _)
   | (with_reducible exact fairwayref1_Fixed.mono _ _ _)
   | (with_reducible exact fairwayref1_Sum.mono _ _ _)
   | (with_reducible exact LeO.refl _)
   | (with_reducible exact LeO.none _)
   | (with_reducible refine LeO.ite ?_ ?_)
   | (with_reducible refine LeO.bind ?_ (fun _ => ?_))
   | exact ih0 _ _ _ _ _ _ _
   | exact fairwayref1_Fixed.mono _ _ _
   | exact fairwayref1_Sum.mono _ _ _
   | exact LeO.none _
   | refine LeO.ite ?_ ?_
   | refine LeO.bind ?_ (fun _ => ?_)
theorem fairwayref10_Bytes.mono : ∀ a0 a1 a2 a3 a4 a5 k, LeO (fairwayref10_Bytes.f k a0 a1 a2 a3 a4 a5) (fairwayref10_Bytes.f (k + 1) a0 a1 a2 a3 a4 a5) := by
 intro a0 a1 a2 a3 a4 a5 k
 have ih0 := fairwayref10_Bytes.mono_l k
 unfold fairwayref10_Bytes.f
 repeat' first
  | (with_reducible exact ih0 _ _ _ _ _ _ _)
  | (with_reducible exact fairwayref1_Fixed.mono _ _ _)
  | (with_reducible exact fairwayref1_Sum.mono _ _ _)
  | (with_reducible exact LeO.refl _)
  | (with_reducible exact LeO.none _)
  | (with_reducible refine LeO.ite ?_ ?_)
  | (with_reducible refine LeO.bind ?_ (fun _ => ?_))
  | exact ih0 _ _ _ _ _ _ _
  | exact fairwayref1_Fixed.mono _ _ _
  | exact fairwayref1_Sum.mono _ _ _
  | exact LeO.none _
  | refine LeO.ite ?_ ?_
  | refine LeO.bind ?_ (fun _ => ?_)
def fairwayref10_Bytes.T4 : Bool × List (List Nat × List Nat) := (true, [([], []), ([0], [0]), ([1], [1]), ([], []), ([3], [3]), ([4, 2], [4]), ([2, 5], [2, 5]), ([], []), ([7], [7]), ([8], [8]), ([9], [9]), ([6, 10], [6, 10]), ([], []), ([12], [12]), ([13], [13]), ([14, 5], [14]), ([11, 15], [11, 15]), ([], []), ([17], [17]), ([16, 18], [16, 18]), ([], []), ([20], [20]), ([19, 21], [19, 21]), ([22, 15, 0, 1, 2, 3, 4, 5, 6, 7, 8, 9, 10, 11, 12, 13, 14, 15, 16, 17, 18, 19, 20, 21, 22], [22])])
def fairwayref10_Bytes.B4 : List Nat := [0, 1, 3, 0, 8, 31, 63, 0, 128, 384, 896, 2047, 0, 4096, 12288, 28735, 65535, 0, 131072, 524287, 0, 1048576, 4194303, 8388607]
theorem fairwayref10_Bytes.tab4 : rtab .any (opsOf Try.f20 4) = fairwayref10_Bytes.T4 := by kernel_rfl
theorem fairwayref10_Bytes.bits4 : waitsOk fairwayref10_Bytes.T4.2 fairwayref10_Bytes.B4 = true := by kernel_rfl
set_option maxHeartbeats 8000000 in
set_option maxRecDepth 100000 in
theorem fairwayref10_Bytes.calls (k : Nat) (a0_0 : Int) (a0_1 : Int) (a0_2 : ByteArray) (a0_3 : ByteArray) (a0_4 : Int) (a0_5 : Bool) (r : ByteArray) (w : World) (h : fairwayref10_Bytes.f k a0_0 a0_1 a0_2 a0_3 a0_4 a0_5 = some r) :
 Calls Try.prog 20 #[.agg #[.int .i64 a0_0, .int .i64 a0_1, .string a0_2, .string a0_3, .int .i64 a0_4, .bool a0_5]] w fun e w' => e = .returned (.string r) ∧ Below w.heap.size w w' := by
 have hu25 := Try.underlying25
 have HB := Aside0.mk (Below.refl w.heap.size w)
 have H : (if a0_5 = true then (fairwayref10_Bytes.j0 k (wrap64 (a0_4 + 4)) a0_0 a0_1 a0_2 a0_3 a0_4 a0_5) else (fairwayref10_Bytes.j0 k a0_4 a0_0 a0_1 a0_2 a0_3 a0_4 a0_5)) = some r := h
 clear h
 have HC2 := Aside0.mk H
 clear H
 go_enter Try.func20, Try.ntmps20
 go_upto_if 9 with (first | ((with_reducible refine gate_dst (N := 1) rfl ?_); refine box_event ?hg (N := 1) ?hd (cs := #[.int .i64 a0_0, .int .i64 a0_1, .string a0_2, .string a0_3, .int .i64 a0_4, .bool a0_5]) (t := 25) ?hr ?_; (case hd => rfl); (case hg => rfl); (case hr => first | (go_simp; done) | (go_simp; rfl)); intro gb217 hg w3 hbox hb; have n0_ := Aside0.mk (below_step bo hb); have n1_ := Aside0.mk (hbox); have n2_ := Aside0.mk ((by rw [hg]; exact (below_size bo) : w.heap.size ≤ gb217)); have n3_ := Aside0.mk ((by rw [hg]; exact (below_size bo) : w.heap.size ≤ gb217)); clear HB; have HB := n0_; have BK217 := n1_; have GW217 := n2_; have GE217 := n3_; clear n0_ n1_ n2_ n3_; clear hb hbox hg; obtain ⟨hcz4_0, hcz4_1, hcz4_2, hcz4_3, hcz4_4, hcz4_5⟩ := cl6 BK217.out; obtain ⟨hfz4_0, hfz4_1, hfz4_2, hfz4_3, hfz4_4, hfz4_5⟩ := fz6 BK217.out))
 (try simp only [Act.put, List.setIfInBounds_toArray, List.set_cons_zero, List.set_cons_succ])
 go_cut [3] (fun v3 wc => ∃ (kq : Nat) (x3_1 : Int), v3 = .int .i64 x3_1 ∧ Aside0 (fairwayref10_Bytes.j0 kq x3_1 a0_0 a0_1 a0_2 a0_3 a0_4 a0_5 = some r) ∧ Aside0 (kq ≤ k) ∧ Aside0 (wc.heap[gb217]? = some (.cells #[.int .i64 a0_0, .int .i64 a0_1, .string a0_2, .string a0_3, .int .i64 a0_4, .bool a0_5] 25 (0, 0))) ∧ Aside0 (Below w.heap.size w wc))
 case first =>
  have H := HC2.out
  clear HC2
  by_cases c5 : a0_5 = true
  ·subst c5
   have H1 : (fairwayref10_Bytes.j0 k (wrap64 (a0_4 + 4)) a0_0 a0_1 a0_2 a0_3 a0_4 true) = some r := by rw [if_pos rfl] at H; exact H
   clear H
   have H := H1
   clear H1
   have H' := Aside0.mk H
   clear H
   go_wp2
   go_meet
   case rel => exact ⟨_, (wrap64 (a0_4 + 4)), ap, H', ⟨by first | omega | exact Nat.le_refl _⟩, ⟨by (with_reducible repeat (first | refine blk_drewN ?_ _ | refine blk_drew ?_ | refine blk_alloc ?_ _)); exact BK217.out⟩, ⟨bo⟩⟩
  ·replace c5 := Bool.eq_false_iff.mpr c5
   subst c5
   have H1 : (fairwayref10_Bytes.j0 k a0_4 a0_0 a0_1 a0_2 a0_3 a0_4 false) = some r := by rw [if_neg (show ¬ (false = true) by decide)] at H; exact H
   clear H
   have H := H1
   clear H1
   have H' := Aside0.mk H
   clear H
   go_wp2
   go_meet
   case rel => exact ⟨_, (a0_4), ap, H', ⟨by first | omega | exact Nat.le_refl _⟩, ⟨by (with_reducible repeat (first | refine blk_drewN ?_ _ | refine blk_drew ?_ | refine blk_alloc ?_ _)); exact BK217.out⟩, ⟨bo⟩⟩
 case rest =>
  clear HC2
  try clear c2
  try clear p2
  try clear c5
  try clear hcz4_0
  try clear hcz4_1
  try clear hcz4_2
  try clear hcz4_3
  try clear hcz4_4
  try clear hcz4_5
  try clear hfz4_0
  try clear hfz4_1
  try clear hfz4_2
  try clear hfz4_3
  try clear hfz4_4
  try clear hfz4_5
  obtain ⟨kq, x3_1, rfl, HA, HJ1, BK217, HB⟩ := hcut
  cases kq with
  | zero => exact absurd HA.out (by simp [fairwayref10_Bytes.j0])
  | succ kj1 =>
   have H := HA.out
   clear HA
   simp only [fairwayref10_Bytes.j0] at H
   replace H := Option.bind_eq_some_iff.mp H
   obtain ⟨t218, A60, H⟩ := H
   replace H : ((fairwayref1_Fixed.f kj1 a0_1 8).bind fun t219 => (if t218.size + t219.size ≤ 9223372036854775807 then ((some (([(x3_1) % 256] : List Int) : List Int)).bind fun y220 => (if (t218 ++ t219).size + (strOfNums y220).size ≤ 9223372036854775807 then ((fairwayref1_Fixed.f kj1 (a0_2.size : Int) 2).bind fun t223 => (if ((t218 ++ t219) ++ (strOfNums y220)).size + t223.size ≤ 9223372036854775807 then (if (((t218 ++ t219) ++ (strOfNums y220)) ++ t223).size + a0_2.size ≤ 9223372036854775807 then (if ((((t218 ++ t219) ++ (strOfNums y220)) ++ t223) ++ a0_2).size + a0_3.size ≤ 9223372036854775807 then ((fairwayref1_Fixed.f kj1 ((((((t218 ++ t219) ++ (strOfNums y220)) ++ t223) ++ a0_2) ++ a0_3).size : Int) 2).bind fun t224 => (if t224.size + (((((t218 ++ t219) ++ (strOfNums y220)) ++ t223) ++ a0_2) ++ a0_3).size ≤ 9223372036854775807 then ((fairwayref1_Sum.f kj1 0 (t224 ++ (((((t218 ++ t219) ++ (strOfNums y220)) ++ t223) ++ a0_2) ++ a0_3))).bind fun t225 => ((fairwayref1_Fixed.f kj1 (wrap64 (t225)) 4).bind fun t226 => (if t224.size + t226.size ≤ 9223372036854775807 then (if (t224 ++ t226).size + (((((t218 ++ t219) ++ (strOfNums y220)) ++ t223) ++ a0_2) ++ a0_3).size ≤ 9223372036854775807 then (some ((t224 ++ t226) ++ (((((t218 ++ t219) ++ (strOfNums y220)) ++ t223) ++ a0_2) ++ a0_3))) else (none)) else (none)))) else (none))) else (none)) else (none)) else (none))) else (none))) else (none))) = some r := H
   have A6 := Aside0.mk A60
   clear A60
   replace H := Option.bind_eq_some_iff.mp H
   obtain ⟨t219, A70, H⟩ := H
   replace H : (if t218.size + t219.size ≤ 9223372036854775807 then ((some (([(x3_1) % 256] : List Int) : List Int)).bind fun y220 => (if (t218 ++ t219).size + (strOfNums y220).size ≤ 9223372036854775807 then ((fairwayref1_Fixed.f kj1 (a0_2.size : Int) 2).bind fun t223 => (if ((t218 ++ t219) ++ (strOfNums y220)).size + t223.size ≤ 9223372036854775807 then (if (((t218 ++ t219) ++ (strOfNums y220)) ++ t223).size + a0_2.size ≤ 9223372036854775807 then (if ((((t218 ++ t219) ++ (strOfNums y220)) ++ t223) ++ a0_2).size + a0_3.size ≤ 9223372036854775807 then ((fairwayref1_Fixed.f kj1 ((((((t218 ++ t219) ++ (strOfNums y220)) ++ t223) ++ a0_2) ++ a0_3).size : Int) 2).bind fun t224 => (if t224.size + (((((t218 ++ t219) ++ (strOfNums y220)) ++ t223) ++ a0_2) ++ a0_3).size ≤ 9223372036854775807 then ((fairwayref1_Sum.f kj1 0 (t224 ++ (((((t218 ++ t219) ++ (strOfNums y220)) ++ t223) ++ a0_2) ++ a0_3))).bind fun t225 => ((fairwayref1_Fixed.f kj1 (wrap64 (t225)) 4).bind fun t226 => (if t224.size + t226.size ≤ 9223372036854775807 then (if (t224 ++ t226).size + (((((t218 ++ t219) ++ (strOfNums y220)) ++ t223) ++ a0_2) ++ a0_3).size ≤ 9223372036854775807 then (some ((t224 ++ t226) ++ (((((t218 ++ t219) ++ (strOfNums y220)) ++ t223) ++ a0_2) ++ a0_3))) else (none)) else (none)))) else (none))) else (none)) else (none)) else (none))) else (none))) else (none)) = some r := H
   have A7 := Aside0.mk A70
   clear A70
   by_cases c8 : t218.size + t219.size ≤ 9223372036854775807
   ·rw [if_pos c8] at H
    have c8b0 := eq_true c8
    have c8b1 : decide (t218.size + t219.size ≤ 9223372036854775807) = true := decide_eq_true c8
    try have c8b2 : (9223372036854775807 < t218.size + t219.size) = False := eq_false (Nat.not_lt.2 c8)
    obtain ⟨y220, hy220⟩ : ∃ y_ : List Int, y_ = (([(x3_1) % 256] : List Int)) := ⟨_, rfl⟩
    replace H : (if (t218 ++ t219).size + (strOfNums y220).size ≤ 9223372036854775807 then ((fairwayref1_Fixed.f kj1 (a0_2.size : Int) 2).bind fun t223 => (if ((t218 ++ t219) ++ (strOfNums y220)).size + t223.size ≤ 9223372036854775807 then (if (((t218 ++ t219) ++ (strOfNums y220)) ++ t223).size + a0_2.size ≤ 9223372036854775807 then (if ((((t218 ++ t219) ++ (strOfNums y220)) ++ t223) ++ a0_2).size + a0_3.size ≤ 9223372036854775807 then ((fairwayref1_Fixed.f kj1 ((((((t218 ++ t219) ++ (strOfNums y220)) ++ t223) ++ a0_2) ++ a0_3).size : Int) 2).bind fun t224 => (if t224.size + (((((t218 ++ t219) ++ (strOfNums y220)) ++ t223) ++ a0_2) ++ a0_3).size ≤ 9223372036854775807 then ((fairwayref1_Sum.f kj1 0 (t224 ++ (((((t218 ++ t219) ++ (strOfNums y220)) ++ t223) ++ a0_2) ++ a0_3))).bind fun t225 => ((fairwayref1_Fixed.f kj1 (wrap64 (t225)) 4).bind fun t226 => (if t224.size + t226.size ≤ 9223372036854775807 then (if (t224 ++ t226).size + (((((t218 ++ t219) ++ (strOfNums y220)) ++ t223) ++ a0_2) ++ a0_3).size ≤ 9223372036854775807 then (some ((t224 ++ t226) ++ (((((t218 ++ t219) ++ (strOfNums y220)) ++ t223) ++ a0_2) ++ a0_3))) else (none)) else (none)))) else (none))) else (none)) else (none)) else (none))) else (none)) = some r := by first | (rw [hy220]; with_reducible exact H) | (have H2_ := (Option.bind_some _ _).symm.trans H; rw [hy220]; with_reducible exact H2_) | (have H2_ := (Option.bind_some _ _).symm.trans H; with_reducible exact H2_) | with_reducible exact H | (rw [hy220]; exact H) | exact H
    have Ny220 := Aside0.mk hy220
    clear hy220
    by_cases c9 : (t218 ++ t219).size + (strOfNums y220).size ≤ 9223372036854775807
    ·rw [if_pos c9] at H
     have c9b0 := eq_true c9
     have c9b1 : decide ((t218 ++ t219).size + (strOfNums y220).size ≤ 9223372036854775807) = true := decide_eq_true c9
     try have c9b2 : (9223372036854775807 < (t218 ++ t219).size + (strOfNums y220).size) = False := eq_false (Nat.not_lt.2 c9)
     (try (have c9n2 := c9b2; simp only [ByteArray.size_append] at c9n2))
     (try (have c9n1 := c9b1; simp only [ByteArray.size_append] at c9n1))
     replace H := Option.bind_eq_some_iff.mp H
     obtain ⟨t223, A100, H⟩ := H
     replace H : (if ((t218 ++ t219) ++ (strOfNums y220)).size + t223.size ≤ 9223372036854775807 then (if (((t218 ++ t219) ++ (strOfNums y220)) ++ t223).size + a0_2.size ≤ 9223372036854775807 then (if ((((t218 ++ t219) ++ (strOfNums y220)) ++ t223) ++ a0_2).size + a0_3.size ≤ 9223372036854775807 then ((fairwayref1_Fixed.f kj1 ((((((t218 ++ t219) ++ (strOfNums y220)) ++ t223) ++ a0_2) ++ a0_3).size : Int) 2).bind fun t224 => (if t224.size + (((((t218 ++ t219) ++ (strOfNums y220)) ++ t223) ++ a0_2) ++ a0_3).size ≤ 9223372036854775807 then ((fairwayref1_Sum.f kj1 0 (t224 ++ (((((t218 ++ t219) ++ (strOfNums y220)) ++ t223) ++ a0_2) ++ a0_3))).bind fun t225 => ((fairwayref1_Fixed.f kj1 (wrap64 (t225)) 4).bind fun t226 => (if t224.size + t226.size ≤ 9223372036854775807 then (if (t224 ++ t226).size + (((((t218 ++ t219) ++ (strOfNums y220)) ++ t223) ++ a0_2) ++ a0_3).size ≤ 9223372036854775807 then (some ((t224 ++ t226) ++ (((((t218 ++ t219) ++ (strOfNums y220)) ++ t223) ++ a0_2) ++ a0_3))) else (none)) else (none)))) else (none))) else (none)) else (none)) else (none)) = some r := H
     have A10 := Aside0.mk A100
     clear A100
     by_cases c11 : ((t218 ++ t219) ++ (strOfNums y220)).size + t223.size ≤ 9223372036854775807
     ·rw [if_pos c11] at H
      have c11b0 := eq_true c11
      have c11b1 : decide (((t218 ++ t219) ++ (strOfNums y220)).size + t223.size ≤ 9223372036854775807) = true := decide_eq_true c11
      try have c11b2 : (9223372036854775807 < ((t218 ++ t219) ++ (strOfNums y220)).size + t223.size) = False := eq_false (Nat.not_lt.2 c11)
      (try (have c11n2 := c11b2; simp only [ByteArray.size_append] at c11n2))
      (try (have c11n1 := c11b1; simp only [ByteArray.size_append] at c11n1))
      by_cases c12 : (((t218 ++ t219) ++ (strOfNums y220)) ++ t223).size + a0_2.size ≤ 9223372036854775807
      ·rw [if_pos c12] at H
       have c12b0 := eq_true c12
       have c12b1 : decide ((((t218 ++ t219) ++ (strOfNums y220)) ++ t223).size + a0_2.size ≤ 9223372036854775807) = true := decide_eq_true c12
       try have c12b2 : (9223372036854775807 < (((t218 ++ t219) ++ (strOfNums y220)) ++ t223).size + a0_2.size) = False := eq_false (Nat.not_lt.2 c12)
       (try (have c12n2 := c12b2; simp only [ByteArray.size_append] at c12n2))
       (try (have c12n1 := c12b1; simp only [ByteArray.size_append] at c12n1))
       by_cases c13 : ((((t218 ++ t219) ++ (strOfNums y220)) ++ t223) ++ a0_2).size + a0_3.size ≤ 9223372036854775807
       ·rw [if_pos c13] at H
        have c13b0 := eq_true c13
        have c13b1 : decide (((((t218 ++ t219) ++ (strOfNums y220)) ++ t223) ++ a0_2).size + a0_3.size ≤ 9223372036854775807) = true := decide_eq_true c13
        try have c13b2 : (9223372036854775807 < ((((t218 ++ t219) ++ (strOfNums y220)) ++ t223) ++ a0_2).size + a0_3.size) = False := eq_false (Nat.not_lt.2 c13)
        (try (have c13n2 := c13b2; simp only [ByteArray.size_append] at c13n2))
        (try (have c13n1 := c13b1; simp only [ByteArray.size_append] at c13n1))
        replace H := Option.bind_eq_some_iff.mp H
        obtain ⟨t224, A140, H⟩ := H
        replace H : (if t224.size + (((((t218 ++ t219) ++ (strOfNums y220)) ++ t223) ++ a0_2) ++ a0_3).size ≤ 9223372036854775807 then ((fairwayref1_Sum.f kj1 0 (t224 ++ (((((t218 ++ t219) ++ (strOfNums y220)) ++ t223) ++ a0_2) ++ a0_3))).bind fun t225 => ((fairwayref1_Fixed.f kj1 (wrap64 (t225)) 4).bind fun t226 => (if t224.size + t226.size ≤ 9223372036854775807 then (if (t224 ++ t226).size + (((((t218 ++ t219) ++ (strOfNums y220)) ++ t223) ++ a0_2) ++ a0_3).size ≤ 9223372036854775807 then (some ((t224 ++ t226) ++ (((((t218 ++ t219) ++ (strOfNums y220)) ++ t223) ++ a0_2) ++ a0_3))) else (none)) else (none)))) else (none)) = some r := H
        have A14 := Aside0.mk A140
        clear A140
        by_cases c15 : t224.size + (((((t218 ++ t219) ++ (strOfNums y220)) ++ t223) ++ a0_2) ++ a0_3).size ≤ 9223372036854775807
        ·rw [if_pos c15] at H
         have c15b0 := eq_true c15
         have c15b1 : decide (t224.size + (((((t218 ++ t219) ++ (strOfNums y220)) ++ t223) ++ a0_2) ++ a0_3).size ≤ 9223372036854775807) = true := decide_eq_true c15
         try have c15b2 : (9223372036854775807 < t224.size + (((((t218 ++ t219) ++ (strOfNums y220)) ++ t223) ++ a0_2) ++ a0_3).size) = False := eq_false (Nat.not_lt.2 c15)
         (try (have c15n2 := c15b2; simp only [ByteArray.size_append] at c15n2))
         (try (have c15n1 := c15b1; simp only [ByteArray.size_append] at c15n1))
         replace H := Option.bind_eq_some_iff.mp H
         obtain ⟨t225, A160, H⟩ := H
         replace H : ((fairwayref1_Fixed.f kj1 (wrap64 (t225)) 4).bind fun t226 => (if t224.size + t226.size ≤ 9223372036854775807 then (if (t224 ++ t226).size + (((((t218 ++ t219) ++ (strOfNums y220)) ++ t223) ++ a0_2) ++ a0_3).size ≤ 9223372036854775807 then (some ((t224 ++ t226) ++ (((((t218 ++ t219) ++ (strOfNums y220)) ++ t223) ++ a0_2) ++ a0_3))) else (none)) else (none))) = some r := H
         have A16 := Aside0.mk A160
         clear A160
         replace H := Option.bind_eq_some_iff.mp H
         obtain ⟨t226, A170, H⟩ := H
         replace H : (if t224.size + t226.size ≤ 9223372036854775807 then (if (t224 ++ t226).size + (((((t218 ++ t219) ++ (strOfNums y220)) ++ t223) ++ a0_2) ++ a0_3).size ≤ 9223372036854775807 then (some ((t224 ++ t226) ++ (((((t218 ++ t219) ++ (strOfNums y220)) ++ t223) ++ a0_2) ++ a0_3))) else (none)) else (none)) = some r := H
         have A17 := Aside0.mk A170
         clear A170
         by_cases c18 : t224.size + t226.size ≤ 9223372036854775807
         ·rw [if_pos c18] at H
          have c18b0 := eq_true c18
          have c18b1 : decide (t224.size + t226.size ≤ 9223372036854775807) = true := decide_eq_true c18
          try have c18b2 : (9223372036854775807 < t224.size + t226.size) = False := eq_false (Nat.not_lt.2 c18)
          by_cases c19 : (t224 ++ t226).size + (((((t218 ++ t219) ++ (strOfNums y220)) ++ t223) ++ a0_2) ++ a0_3).size ≤ 9223372036854775807
          ·rw [if_pos c19] at H
           have c19b0 := eq_true c19
           have c19b1 : decide ((t224 ++ t226).size + (((((t218 ++ t219) ++ (strOfNums y220)) ++ t223) ++ a0_2) ++ a0_3).size ≤ 9223372036854775807) = true := decide_eq_true c19
           try have c19b2 : (9223372036854775807 < (t224 ++ t226).size + (((((t218 ++ t219) ++ (strOfNums y220)) ++ t223) ++ a0_2) ++ a0_3).size) = False := eq_false (Nat.not_lt.2 c19)
           (try (have c19n2 := c19b2; simp only [ByteArray.size_append] at c19n2))
           (try (have c19n1 := c19b1; simp only [ByteArray.size_append] at c19n1))
           obtain rfl := Option.some.inj H
           try go_wp2
           have n0_ := Aside0.mk (blk_drew BK217.out)
           have n1_ := Aside0.mk (below_drew1 HB.out)
           clear BK217
           clear HB
           have BK217 := n0_
           have HB := n1_
           clear n0_ n1_
           refine start_ (n := 24) (S := fun w' => w'.cell? ⟨gb217, 0, none⟩ = some (.int .i64 a0_0) ∧ w'.cell? ⟨gb217, 1, none⟩ = some (.int .i64 a0_1) ∧ w'.cell? ⟨gb217, 2, none⟩ = some (.string a0_2) ∧ w'.cell? ⟨gb217, 3, none⟩ = some (.string a0_3) ∧ w'.cell? ⟨gb217, 4, none⟩ = some (.int .i64 a0_4) ∧ w'.cell? ⟨gb217, 5, none⟩ = some (.bool a0_5)) (ds := []) #[O,O,O,O,O,O,O,O,O,O,O,O,O,O,O,O,O,O,O,O,O,O,O,O] (by kernel_rfl) rfl rfl ⟨(blk_cell BK217.out 0).trans rfl, (blk_cell BK217.out 1).trans rfl, (blk_cell BK217.out 2).trans rfl, (blk_cell BK217.out 3).trans rfl, (blk_cell BK217.out 4).trans rfl, (blk_cell BK217.out 5).trans rfl⟩ (fun hHeld => ?_); refine with_tabW fairwayref10_Bytes.tab4 fairwayref10_Bytes.bits4 (fun HT_ HW_ => ?_)
           generalize wc.drew = w20 at BK217 HB hHeld ⊢
           refine pz (i := 0) (N := some 12) #[I,O,O,O,O,O,O,O,O,O,O,O,O,O,O,O,O,O,O,O,O,O,O,O] ?_
           refine pz (i := 3) (N := some 15) #[I,O,O,I,O,O,O,O,O,O,O,O,O,O,O,O,O,O,O,O,O,O,O,O] ?_
           refine pz (i := 7) (N := some 19) #[I,O,O,I,O,O,O,I,O,O,O,O,O,O,O,O,O,O,O,O,O,O,O,O] ?_
           refine pz (i := 8) (N := some 20) #[I,O,O,I,O,O,O,I,I,O,O,O,O,O,O,O,O,O,O,O,O,O,O,O] ?_
           refine pz (i := 12) (N := some 24) #[I,O,O,I,O,O,O,I,I,O,O,O,I,O,O,O,O,O,O,O,O,O,O,O] ?_
           refine pz (i := 17) (N := some 29) #[I,O,O,I,O,O,O,I,I,O,O,O,I,O,O,O,O,I,O,O,O,O,O,O] ?_
           refine pz (i := 20) (N := some 32) #[I,O,O,I,O,O,O,I,I,O,O,O,I,O,O,O,O,I,O,O,I,O,O,O] ?_
           refine tz (i := 1) (N := some 13) #[I,I,O,I,O,O,O,I,I,O,O,O,I,O,O,O,O,I,O,O,I,O,O,O] ?_
           refine tz (i := 4) (N := some 16) #[I,I,O,I,I,O,O,I,I,O,O,O,I,O,O,O,O,I,O,O,I,O,O,O] ?_
           refine tz (i := 13) (N := some 25) #[I,I,O,I,I,O,O,I,I,O,O,O,I,I,O,O,O,I,O,O,I,O,O,O] ?_
           refine pz (i := 14) (N := some 26) #[I,I,O,I,I,O,O,I,I,O,O,O,I,I,I,O,O,I,O,O,I,O,O,O] ?_
           refine tz (i := 18) (N := some 30) #[I,I,O,I,I,O,O,I,I,O,O,O,I,I,I,O,O,I,I,O,I,O,O,O] ?_
           refine tz (i := 21) (N := some 33) #[I,I,O,I,I,O,O,I,I,O,O,O,I,I,I,O,O,I,I,O,I,I,O,O] ?_
           refine join_ (σ := Value) 4 #[I,I,I,I,I,I,I,I,I,I,I,I,I,I,I,I,O,I,I,O,I,I,O,O] (fun s_ => [(14, .string t218), (17, .string t219), (21, s_), (22, .string (strOfNums y220)), (27, .string t223), (18, .string (t218 ++ t219)), (23, .string ((t218 ++ t219) ++ (strOfNums y220)))]) (fun s_ w' => (w'.cell? ⟨gb217, 0, none⟩ = some (.int .i64 a0_0) ∧ w'.cell? ⟨gb217, 1, none⟩ = some (.int .i64 a0_1) ∧ w'.cell? ⟨gb217, 2, none⟩ = some (.string a0_2) ∧ w'.cell? ⟨gb217, 3, none⟩ = some (.string a0_3) ∧ w'.cell? ⟨gb217, 4, none⟩ = some (.int .i64 a0_4) ∧ w'.cell? ⟨gb217, 5, none⟩ = some (.bool a0_5)) ∧ (Kd.R (Kd.int .u8) 5 w' w.heap.size (fun _ => True) s_ y220) ∧ (w'.heap[gb217]? = some (.cells #[.int .i64 a0_0, .int .i64 a0_1, .string a0_2, .string a0_3, .int .i64 a0_4, .bool a0_5] 25 (0, 0))) ∧ (Below w.heap.size w w')) ?_ ?_
           rotate_left
           ·intro hJ2_5_9_10_15
            refine join_ (σ := Value) 5 #[I,I,I,I,I,I,I,I,I,I,I,I,I,I,I,O,O,I,I,O,I,I,O,O] (fun s_ => [(14, .string t218), (17, .string t219), (21, s_), (22, .string (strOfNums y220)), (18, .string (t218 ++ t219)), (23, .string ((t218 ++ t219) ++ (strOfNums y220)))]) (fun s_ w' => (w'.cell? ⟨gb217, 0, none⟩ = some (.int .i64 a0_0) ∧ w'.cell? ⟨gb217, 1, none⟩ = some (.int .i64 a0_1) ∧ w'.cell? ⟨gb217, 2, none⟩ = some (.string a0_2) ∧ w'.cell? ⟨gb217, 3, none⟩ = some (.string a0_3) ∧ w'.cell? ⟨gb217, 4, none⟩ = some (.int .i64 a0_4) ∧ w'.cell? ⟨gb217, 5, none⟩ = some (.bool a0_5)) ∧ (Kd.R (Kd.int .u8) 5 w' w.heap.size (fun _ => True) s_ y220) ∧ (w'.heap[gb217]? = some (.cells #[.int .i64 a0_0, .int .i64 a0_1, .string a0_2, .string a0_3, .int .i64 a0_4, .bool a0_5] 25 (0, 0))) ∧ (Below w.heap.size w w')) ?_ ?_
            rotate_left
            ·intro hJ2_5_9_10
             refine join_ (σ := Value) 6 #[I,I,I,I,I,I,I,I,I,I,O,O,I,I,I,I,O,I,I,O,I,I,O,O] (fun s_ => [(14, .string t218), (17, .string t219), (21, s_), (27, .string t223), (18, .string (t218 ++ t219))]) (fun s_ w' => (w'.cell? ⟨gb217, 0, none⟩ = some (.int .i64 a0_0) ∧ w'.cell? ⟨gb217, 1, none⟩ = some (.int .i64 a0_1) ∧ w'.cell? ⟨gb217, 2, none⟩ = some (.string a0_2) ∧ w'.cell? ⟨gb217, 3, none⟩ = some (.string a0_3) ∧ w'.cell? ⟨gb217, 4, none⟩ = some (.int .i64 a0_4) ∧ w'.cell? ⟨gb217, 5, none⟩ = some (.bool a0_5)) ∧ (Kd.R (Kd.int .u8) 5 w' w.heap.size (fun _ => True) s_ y220) ∧ (w'.heap[gb217]? = some (.cells #[.int .i64 a0_0, .int .i64 a0_1, .string a0_2, .string a0_3, .int .i64 a0_4, .bool a0_5] 25 (0, 0))) ∧ (Below w.heap.size w w')) ?_ ?_
             rotate_left
             ·intro hJ2_5_9_15
              refine join_ (σ := Value) 7 #[I,I,I,I,I,I,I,I,I,I,O,O,I,I,I,O,O,I,I,O,I,I,O,O] (fun s_ => [(14, .string t218), (17, .string t219), (21, s_), (18, .string (t218 ++ t219))]) (fun s_ w' => (w'.cell? ⟨gb217, 0, none⟩ = some (.int .i64 a0_0) ∧ w'.cell? ⟨gb217, 1, none⟩ = some (.int .i64 a0_1) ∧ w'.cell? ⟨gb217, 2, none⟩ = some (.string a0_2) ∧ w'.cell? ⟨gb217, 3, none⟩ = some (.string a0_3) ∧ w'.cell? ⟨gb217, 4, none⟩ = some (.int .i64 a0_4) ∧ w'.cell? ⟨gb217, 5, none⟩ = some (.bool a0_5)) ∧ (Kd.R (Kd.int .u8) 5 w' w.heap.size (fun _ => True) s_ y220) ∧ (w'.heap[gb217]? = some (.cells #[.int .i64 a0_0, .int .i64 a0_1, .string a0_2, .string a0_3, .int .i64 a0_4, .bool a0_5] 25 (0, 0))) ∧ (Below w.heap.size w w')) ?_ ?_
              rotate_left
              ·intro hJ2_5_9
               refine join_ (σ := Unit) 7 #[I,I,I,I,I,I,I,I,I,O,O,O,I,I,I,I,O,I,I,O,I,I,O,O] (fun s_ => [(14, .string t218), (17, .string t219), (27, .string t223), (18, .string (t218 ++ t219))]) (fun s_ w' => (w'.cell? ⟨gb217, 0, none⟩ = some (.int .i64 a0_0) ∧ w'.cell? ⟨gb217, 1, none⟩ = some (.int .i64 a0_1) ∧ w'.cell? ⟨gb217, 2, none⟩ = some (.string a0_2) ∧ w'.cell? ⟨gb217, 3, none⟩ = some (.string a0_3) ∧ w'.cell? ⟨gb217, 4, none⟩ = some (.int .i64 a0_4) ∧ w'.cell? ⟨gb217, 5, none⟩ = some (.bool a0_5)) ∧ (w'.heap[gb217]? = some (.cells #[.int .i64 a0_0, .int .i64 a0_1, .string a0_2, .string a0_3, .int .i64 a0_4, .bool a0_5] 25 (0, 0))) ∧ (Below w.heap.size w w')) ?_ ?_
               rotate_left
               ·intro hJ2_5_15
                refine join_ (σ := Value) 8 #[I,I,I,I,I,O,O,I,I,I,I,O,I,I,I,O,O,I,I,O,I,I,O,O] (fun s_ => [(14, .string t218), (21, s_), (22, .string (strOfNums y220))]) (fun s_ w' => (w'.cell? ⟨gb217, 0, none⟩ = some (.int .i64 a0_0) ∧ w'.cell? ⟨gb217, 1, none⟩ = some (.int .i64 a0_1) ∧ w'.cell? ⟨gb217, 2, none⟩ = some (.string a0_2) ∧ w'.cell? ⟨gb217, 3, none⟩ = some (.string a0_3) ∧ w'.cell? ⟨gb217, 4, none⟩ = some (.int .i64 a0_4) ∧ w'.cell? ⟨gb217, 5, none⟩ = some (.bool a0_5)) ∧ (Kd.R (Kd.int .u8) 5 w' w.heap.size (fun _ => True) s_ y220) ∧ (w'.heap[gb217]? = some (.cells #[.int .i64 a0_0, .int .i64 a0_1, .string a0_2, .string a0_3, .int .i64 a0_4, .bool a0_5] 25 (0, 0))) ∧ (Below w.heap.size w w')) ?_ ?_
                rotate_left
                ·intro hJ2_9_10
                 refine join_ (σ := Unit) 8 #[I,I,I,I,I,I,I,I,I,O,O,O,I,I,I,O,O,I,I,O,I,I,O,O] (fun s_ => [(14, .string t218), (17, .string t219), (18, .string (t218 ++ t219))]) (fun s_ w' => (w'.cell? ⟨gb217, 0, none⟩ = some (.int .i64 a0_0) ∧ w'.cell? ⟨gb217, 1, none⟩ = some (.int .i64 a0_1) ∧ w'.cell? ⟨gb217, 2, none⟩ = some (.string a0_2) ∧ w'.cell? ⟨gb217, 3, none⟩ = some (.string a0_3) ∧ w'.cell? ⟨gb217, 4, none⟩ = some (.int .i64 a0_4) ∧ w'.cell? ⟨gb217, 5, none⟩ = some (.bool a0_5)) ∧ (w'.heap[gb217]? = some (.cells #[.int .i64 a0_0, .int .i64 a0_1, .string a0_2, .string a0_3, .int .i64 a0_4, .bool a0_5] 25 (0, 0))) ∧ (Below w.heap.size w w')) ?_ ?_
                 rotate_left
                 ·intro hJ2_5
                  refine join_ (σ := Value) 9 #[I,I,I,I,I,O,O,I,I,I,O,O,I,I,I,O,O,I,I,O,I,I,O,O] (fun s_ => [(14, .string t218), (21, s_)]) (fun s_ w' => (w'.cell? ⟨gb217, 0, none⟩ = some (.int .i64 a0_0) ∧ w'.cell? ⟨gb217, 1, none⟩ = some (.int .i64 a0_1) ∧ w'.cell? ⟨gb217, 2, none⟩ = some (.string a0_2) ∧ w'.cell? ⟨gb217, 3, none⟩ = some (.string a0_3) ∧ w'.cell? ⟨gb217, 4, none⟩ = some (.int .i64 a0_4) ∧ w'.cell? ⟨gb217, 5, none⟩ = some (.bool a0_5)) ∧ (Kd.R (Kd.int .u8) 5 w' w.heap.size (fun _ => True) s_ y220) ∧ (w'.heap[gb217]? = some (.cells #[.int .i64 a0_0, .int .i64 a0_1, .string a0_2, .string a0_3, .int .i64 a0_4, .bool a0_5] 25 (0, 0))) ∧ (Below w.heap.size w w')) ?_ ?_
                  rotate_left
                  ·intro hJ2_9
                   refine join_ (σ := Value) 9 #[I,I,O,I,I,O,O,I,I,I,I,O,I,I,I,O,O,I,I,O,I,I,O,O] (fun s_ => [(21, s_), (22, .string (strOfNums y220))]) (fun s_ w' => (w'.cell? ⟨gb217, 0, none⟩ = some (.int .i64 a0_0) ∧ w'.cell? ⟨gb217, 1, none⟩ = some (.int .i64 a0_1) ∧ w'.cell? ⟨gb217, 2, none⟩ = some (.string a0_2) ∧ w'.cell? ⟨gb217, 3, none⟩ = some (.string a0_3) ∧ w'.cell? ⟨gb217, 4, none⟩ = some (.int .i64 a0_4) ∧ w'.cell? ⟨gb217, 5, none⟩ = some (.bool a0_5)) ∧ (Kd.R (Kd.int .u8) 5 w' w.heap.size (fun _ => True) s_ y220) ∧ (w'.heap[gb217]? = some (.cells #[.int .i64 a0_0, .int .i64 a0_1, .string a0_2, .string a0_3, .int .i64 a0_4, .bool a0_5] 25 (0, 0))) ∧ (Below w.heap.size w w')) ?_ ?_
                   rotate_left
                   ·intro hJ9_10
                    refine join_ (σ := Unit) 10 #[I,I,I,I,I,O,O,I,I,O,O,O,I,I,I,O,O,I,I,O,I,I,O,O] (fun s_ => [(14, .string t218)]) (fun s_ w' => (w'.cell? ⟨gb217, 0, none⟩ = some (.int .i64 a0_0) ∧ w'.cell? ⟨gb217, 1, none⟩ = some (.int .i64 a0_1) ∧ w'.cell? ⟨gb217, 2, none⟩ = some (.string a0_2) ∧ w'.cell? ⟨gb217, 3, none⟩ = some (.string a0_3) ∧ w'.cell? ⟨gb217, 4, none⟩ = some (.int .i64 a0_4) ∧ w'.cell? ⟨gb217, 5, none⟩ = some (.bool a0_5)) ∧ (w'.heap[gb217]? = some (.cells #[.int .i64 a0_0, .int .i64 a0_1, .string a0_2, .string a0_3, .int .i64 a0_4, .bool a0_5] 25 (0, 0))) ∧ (Below w.heap.size w w')) ?_ ?_
                    rotate_left
                    ·intro hJ2
                     refine join_ (σ := Value) 10 #[I,I,O,I,I,O,O,I,I,I,O,O,I,I,I,O,O,I,I,O,I,I,O,O] (fun s_ => [(21, s_)]) (fun s_ w' => (w'.cell? ⟨gb217, 0, none⟩ = some (.int .i64 a0_0) ∧ w'.cell? ⟨gb217, 1, none⟩ = some (.int .i64 a0_1) ∧ w'.cell? ⟨gb217, 2, none⟩ = some (.string a0_2) ∧ w'.cell? ⟨gb217, 3, none⟩ = some (.string a0_3) ∧ w'.cell? ⟨gb217, 4, none⟩ = some (.int .i64 a0_4) ∧ w'.cell? ⟨gb217, 5, none⟩ = some (.bool a0_5)) ∧ (Kd.R (Kd.int .u8) 5 w' w.heap.size (fun _ => True) s_ y220) ∧ (w'.heap[gb217]? = some (.cells #[.int .i64 a0_0, .int .i64 a0_1, .string a0_2, .string a0_3, .int .i64 a0_4, .bool a0_5] 25 (0, 0))) ∧ (Below w.heap.size w w')) ?_ ?_
                     rotate_left
                     ·intro hJ9
                      refine two_ (i := 2) (j := 9) (Ni := some 14) (Nj := some 21) #[I,I,I,I,I,O,O,I,I,O,O,O,I,I,I,O,O,I,I,O,I,I,O,O] #[I,I,O,I,I,O,O,I,I,I,O,O,I,I,I,O,O,I,I,O,I,I,O,O] rfl rfl rfl rfl (two_of HT_.out (by kernel_rfl)) (by decide) (by decide) (fun K hK => ?_) (fun K hK => ?_)
                      ·skip
                       refine goes_ Try.func69 (by kernel_rfl) rfl #[.int .i64 a0_0, .int .i64 8] (by rfl) rfl rfl aa ?_
                       with_reducible refine (fairwayref1_Fixed.calls kj1 a0_0 8 t218 _ A6.out).mono ?_
                       rintro e w21 ⟨rfl, hb⟩
                       refine ⟨_, rfl, ?_⟩
                       have n0_ := Aside0.mk (blk_below (g := gb217) (o := .cells #[.int .i64 a0_0, .int .i64 a0_1, .string a0_2, .string a0_3, .int .i64 a0_4, .bool a0_5] 25 (0, 0)) (bk BK217.out) hb)
                       have n1_ := Aside0.mk (below_step bo hb)
                       clear BK217
                       clear HB
                       have BK217 := n0_
                       have HB := n1_
                       clear n0_ n1_
                       (try clear hb)
                       (try clear hb2)
                       (try clear hk)
                       (try clear hi)
                       refine hK.out _ _ ⟨(blk_cell BK217.out 0).trans rfl, (blk_cell BK217.out 1).trans rfl, (blk_cell BK217.out 2).trans rfl, (blk_cell BK217.out 3).trans rfl, (blk_cell BK217.out 4).trans rfl, (blk_cell BK217.out 5).trans rfl⟩ (fun hHeld => ?_)
                       clear hK K
                       refine norm_ (a' := ?_) ?_ ?_
                       rotate_left
                       ·show Act.put _ (some 14) _ = _
                        simp only [Act.put, List.setIfInBounds_toArray, List.set_cons_zero, List.set_cons_succ, i64_w, i32_w]
                        rfl
                       exact norm_ (by first | (simp only [putAll, Act.put, List.setIfInBounds_toArray, List.set_cons_zero, List.set_cons_succ]; done) | (simp only [putAll, Act.put, List.setIfInBounds_toArray, List.set_cons_zero, List.set_cons_succ]; rfl)) (hJ2 () _ ⟨hHeld, (bk BK217.out), bo⟩)
                      ·skip
                       refine Kd.R_lit_step (Kd.int .u8) _ 5 ?hg (N := 21) ?hd (xs := ([(x3_1) % 256] : List Int)) (inner := [.int .u8 ((x3_1) % 256)]) (ok := fun _ => True) (okp := fun _ => True) ?hr ?hp (fun _ hk => hk) trivial (Below.refl _ _) (Nat.le_refl _) (by simp) ?_; (case hd => rfl); (case hg => rfl); (case hr => first | (go_simp; done) | (go_simp; rfl)); (case hp => exact (Reps.one (show Kd.M (Kd.int .u8) _ _ _ ((x3_1) % 256) [.int .u8 ((x3_1) % 256)] from rfl) (Reps.none _ _)))
                       intro v221 w21 ho22 hb hg_ hnew_
                       clear hg_ hnew_
                       (first | rw [← Ny220.out] at ho22 | (simp only [Int.reduceToNat] at ho22; rw [← Ny220.out] at ho22))
                       have n0_ := Aside0.mk (Kd.R_lower ho22 (below_size bo))
                       have n1_ := Aside0.mk (blk_below (g := gb217) (o := .cells #[.int .i64 a0_0, .int .i64 a0_1, .string a0_2, .string a0_3, .int .i64 a0_4, .bool a0_5] 25 (0, 0)) (bk BK217.out) hb)
                       have n2_ := Aside0.mk (below_step bo hb)
                       clear BK217
                       clear HB
                       have HO222 := n0_
                       have BK217 := n1_
                       have HB := n2_
                       clear n0_ n1_ n2_
                       clear hb ho22
                       refine hK.out _ _ ⟨(blk_cell BK217.out 0).trans rfl, (blk_cell BK217.out 1).trans rfl, (blk_cell BK217.out 2).trans rfl, (blk_cell BK217.out 3).trans rfl, (blk_cell BK217.out 4).trans rfl, (blk_cell BK217.out 5).trans rfl⟩ (fun hHeld => ?_)
                       clear hK K
                       refine norm_ (a' := ?_) ?_ ?_
                       rotate_left
                       ·show Act.put _ (some 21) _ = _
                        simp only [Act.put, List.setIfInBounds_toArray, List.set_cons_zero, List.set_cons_succ, i64_w, i32_w]
                        rfl
                       exact norm_ (by first | (simp only [putAll, Act.put, List.setIfInBounds_toArray, List.set_cons_zero, List.set_cons_succ]; done) | (simp only [putAll, Act.put, List.setIfInBounds_toArray, List.set_cons_zero, List.set_cons_succ]; rfl)) (hJ9 (v221) _ ⟨hHeld, (rk HO222.out), (bk BK217.out), bo⟩)
                     ·skip
                      rintro v221 w23 ⟨hS_, h0_, h1_, h2_⟩
                      have n0_ : Aside0 (Kd.R (Kd.int .u8) 5 w23 w.heap.size (fun _ => True) v221 y220) := ⟨h0_⟩
                      have n1_ : Aside0 (w23.heap[gb217]? = some (.cells #[.int .i64 a0_0, .int .i64 a0_1, .string a0_2, .string a0_3, .int .i64 a0_4, .bool a0_5] 25 (0, 0))) := ⟨h1_⟩
                      have n2_ : Aside0 (Below w.heap.size w w23) := ⟨h2_⟩
                      clear BK217
                      clear HB
                      clear h0_ h1_ h2_
                      have HO222 := n0_
                      have BK217 := n1_
                      have HB := n2_
                      clear n0_ n1_ n2_
                      have hHeld : w23.cell? ⟨gb217, 0, none⟩ = some (.int .i64 a0_0) ∧ w23.cell? ⟨gb217, 1, none⟩ = some (.int .i64 a0_1) ∧ w23.cell? ⟨gb217, 2, none⟩ = some (.string a0_2) ∧ w23.cell? ⟨gb217, 3, none⟩ = some (.string a0_3) ∧ w23.cell? ⟨gb217, 4, none⟩ = some (.int .i64 a0_4) ∧ w23.cell? ⟨gb217, 5, none⟩ = some (.bool a0_5) := hS_
                      refine norm_ (a' := ?_) ?_ ?_
                      rotate_left
                      ·simp only [putAll, Act.put, List.setIfInBounds_toArray, List.set_cons_zero, List.set_cons_succ]
                       rfl
                      refine two_ (i := 2) (j := 10) (Ni := some 14) (Nj := some 22) #[I,I,I,I,I,O,O,I,I,I,O,O,I,I,I,O,O,I,I,O,I,I,O,O] #[I,I,O,I,I,O,O,I,I,I,I,O,I,I,I,O,O,I,I,O,I,I,O,O] rfl rfl rfl rfl (two_of HT_.out (by kernel_rfl)) (by decide) (by decide) (fun K hK => ?_) (fun K hK => ?_)
                      ·skip
                       refine goes_ Try.func69 (by kernel_rfl) rfl #[.int .i64 a0_0, .int .i64 8] (by rfl) rfl rfl aa ?_
                       with_reducible refine (fairwayref1_Fixed.calls kj1 a0_0 8 t218 _ A6.out).mono ?_
                       rintro e w24 ⟨rfl, hb⟩
                       refine ⟨_, rfl, ?_⟩
                       have n0_ := Aside0.mk (Kd.R_below (rk HO222.out) hb)
                       have n1_ := Aside0.mk (blk_below (g := gb217) (o := .cells #[.int .i64 a0_0, .int .i64 a0_1, .string a0_2, .string a0_3, .int .i64 a0_4, .bool a0_5] 25 (0, 0)) (bk BK217.out) hb)
                       have n2_ := Aside0.mk (below_step bo hb)
                       clear HO222
                       clear BK217
                       clear HB
                       have HO222 := n0_
                       have BK217 := n1_
                       have HB := n2_
                       clear n0_ n1_ n2_
                       (try clear hb)
                       (try clear hb2)
                       (try clear hk)
                       (try clear hi)
                       refine hK.out _ _ ⟨(blk_cell BK217.out 0).trans rfl, (blk_cell BK217.out 1).trans rfl, (blk_cell BK217.out 2).trans rfl, (blk_cell BK217.out 3).trans rfl, (blk_cell BK217.out 4).trans rfl, (blk_cell BK217.out 5).trans rfl⟩ (fun hHeld => ?_)
                       clear hK K
                       refine norm_ (a' := ?_) ?_ ?_
                       rotate_left
                       ·show Act.put _ (some 14) _ = _
                        simp only [Act.put, List.setIfInBounds_toArray, List.set_cons_zero, List.set_cons_succ, i64_w, i32_w]
                        rfl
                       exact norm_ (by first | (simp only [putAll, Act.put, List.setIfInBounds_toArray, List.set_cons_zero, List.set_cons_succ]; done) | (simp only [putAll, Act.put, List.setIfInBounds_toArray, List.set_cons_zero, List.set_cons_succ]; rfl)) (hJ2_9 (v221) _ ⟨hHeld, (rk HO222.out), (bk BK217.out), bo⟩)
                      ·skip
                       have hcv24 := own_string (P := Try.prog) Try.underlying23 Try.underlying5 Try.underlying9 (Kd.own_of_R HO222.out)
                       refine value_ (w1 := ?_) (v := ?_) (by rfl) rfl ?_ ?_
                       rotate_left 2
                       ·go_simp
                        constructor
                        ·rfl
                        ·rfl
                       clear hcv24
                       refine hK.out _ _ ⟨(blk_cell BK217.out 0).trans rfl, (blk_cell BK217.out 1).trans rfl, (blk_cell BK217.out 2).trans rfl, (blk_cell BK217.out 3).trans rfl, (blk_cell BK217.out 4).trans rfl, (blk_cell BK217.out 5).trans rfl⟩ (fun hHeld => ?_)
                       clear hK K
                       refine norm_ (a' := ?_) ?_ ?_
                       rotate_left
                       ·show Act.put _ (some 22) _ = _
                        simp only [Act.put, List.setIfInBounds_toArray, List.set_cons_zero, List.set_cons_succ, i64_w, i32_w]
                        rfl
                       exact norm_ (by first | (simp only [putAll, Act.put, List.setIfInBounds_toArray, List.set_cons_zero, List.set_cons_succ]; done) | (simp only [putAll, Act.put, List.setIfInBounds_toArray, List.set_cons_zero, List.set_cons_succ]; rfl)) (hJ9_10 (v221) _ ⟨hHeld, (rk HO222.out), (bk BK217.out), bo⟩)
                    ·skip
                     rintro _ w22 ⟨hS_, h0_, h1_⟩
                     have n0_ : Aside0 (w22.heap[gb217]? = some (.cells #[.int .i64 a0_0, .int .i64 a0_1, .string a0_2, .string a0_3, .int .i64 a0_4, .bool a0_5] 25 (0, 0))) := ⟨h0_⟩
                     have n1_ : Aside0 (Below w.heap.size w w22) := ⟨h1_⟩
                     clear BK217
                     clear HB
                     clear h0_ h1_
                     have BK217 := n0_
                     have HB := n1_
                     clear n0_ n1_
                     have hHeld : w22.cell? ⟨gb217, 0, none⟩ = some (.int .i64 a0_0) ∧ w22.cell? ⟨gb217, 1, none⟩ = some (.int .i64 a0_1) ∧ w22.cell? ⟨gb217, 2, none⟩ = some (.string a0_2) ∧ w22.cell? ⟨gb217, 3, none⟩ = some (.string a0_3) ∧ w22.cell? ⟨gb217, 4, none⟩ = some (.int .i64 a0_4) ∧ w22.cell? ⟨gb217, 5, none⟩ = some (.bool a0_5) := hS_
                     refine norm_ (a' := ?_) ?_ ?_
                     rotate_left
                     ·simp only [putAll, Act.put, List.setIfInBounds_toArray, List.set_cons_zero, List.set_cons_succ]
                      rfl
                     refine two_ (i := 5) (j := 9) (Ni := some 17) (Nj := some 21) #[I,I,I,I,I,I,O,I,I,O,O,O,I,I,I,O,O,I,I,O,I,I,O,O] #[I,I,I,I,I,O,O,I,I,I,O,O,I,I,I,O,O,I,I,O,I,I,O,O] rfl rfl rfl rfl (two_of HT_.out (by kernel_rfl)) (by decide) (by decide) (fun K hK => ?_) (fun K hK => ?_)
                     ·skip
                      refine goes_ Try.func69 (by kernel_rfl) rfl #[.int .i64 a0_1, .int .i64 8] (by rfl) rfl rfl aa ?_
                      with_reducible refine (fairwayref1_Fixed.calls kj1 a0_1 8 t219 _ A7.out).mono ?_
                      rintro e w23 ⟨rfl, hb⟩
                      refine ⟨_, rfl, ?_⟩
                      have n0_ := Aside0.mk (blk_below (g := gb217) (o := .cells #[.int .i64 a0_0, .int .i64 a0_1, .string a0_2, .string a0_3, .int .i64 a0_4, .bool a0_5] 25 (0, 0)) (bk BK217.out) hb)
                      have n1_ := Aside0.mk (below_step bo hb)
                      clear BK217
                      clear HB
                      have BK217 := n0_
                      have HB := n1_
                      clear n0_ n1_
                      (try clear hb)
                      (try clear hb2)
                      (try clear hk)
                      (try clear hi)
                      refine hK.out _ _ ⟨(blk_cell BK217.out 0).trans rfl, (blk_cell BK217.out 1).trans rfl, (blk_cell BK217.out 2).trans rfl, (blk_cell BK217.out 3).trans rfl, (blk_cell BK217.out 4).trans rfl, (blk_cell BK217.out 5).trans rfl⟩ (fun hHeld => ?_)
                      clear hK K
                      refine norm_ (a' := ?_) ?_ ?_
                      rotate_left
                      ·show Act.put _ (some 17) _ = _
                       simp only [Act.put, List.setIfInBounds_toArray, List.set_cons_zero, List.set_cons_succ, i64_w, i32_w]
                       rfl
                      refine pz (i := 6) (N := some 18) #[I,I,I,I,I,I,I,I,I,O,O,O,I,I,I,O,O,I,I,O,I,I,O,O] ?_
                      exact norm_ (by first | (simp only [putAll, Act.put, List.setIfInBounds_toArray, List.set_cons_zero, List.set_cons_succ]; done) | (simp only [putAll, Act.put, List.setIfInBounds_toArray, List.set_cons_zero, List.set_cons_succ]; rfl)) (hJ2_5 () _ ⟨hHeld, (bk BK217.out), bo⟩)
                     ·skip
                      refine Kd.R_lit_step (Kd.int .u8) _ 5 ?hg (N := 21) ?hd (xs := ([(x3_1) % 256] : List Int)) (inner := [.int .u8 ((x3_1) % 256)]) (ok := fun _ => True) (okp := fun _ => True) ?hr ?hp (fun _ hk => hk) trivial (Below.refl _ _) (Nat.le_refl _) (by simp) ?_; (case hd => rfl); (case hg => rfl); (case hr => first | (go_simp; done) | (go_simp; rfl)); (case hp => exact (Reps.one (show Kd.M (Kd.int .u8) _ _ _ ((x3_1) % 256) [.int .u8 ((x3_1) % 256)] from rfl) (Reps.none _ _)))
                      intro v221 w23 ho24 hb hg_ hnew_
                      clear hg_ hnew_
                      (first | rw [← Ny220.out] at ho24 | (simp only [Int.reduceToNat] at ho24; rw [← Ny220.out] at ho24))
                      have n0_ := Aside0.mk (Kd.R_lower ho24 (below_size bo))
                      have n1_ := Aside0.mk (blk_below (g := gb217) (o := .cells #[.int .i64 a0_0, .int .i64 a0_1, .string a0_2, .string a0_3, .int .i64 a0_4, .bool a0_5] 25 (0, 0)) (bk BK217.out) hb)
                      have n2_ := Aside0.mk (below_step bo hb)
                      clear BK217
                      clear HB
                      have HO222 := n0_
                      have BK217 := n1_
                      have HB := n2_
                      clear n0_ n1_ n2_
                      clear hb ho24
                      refine hK.out _ _ ⟨(blk_cell BK217.out 0).trans rfl, (blk_cell BK217.out 1).trans rfl, (blk_cell BK217.out 2).trans rfl, (blk_cell BK217.out 3).trans rfl, (blk_cell BK217.out 4).trans rfl, (blk_cell BK217.out 5).trans rfl⟩ (fun hHeld => ?_)
                      clear hK K
                      refine norm_ (a' := ?_) ?_ ?_
                      rotate_left
                      ·show Act.put _ (some 21) _ = _
                       simp only [Act.put, List.setIfInBounds_toArray, List.set_cons_zero, List.set_cons_succ, i64_w, i32_w]
                       rfl
                      exact norm_ (by first | (simp only [putAll, Act.put, List.setIfInBounds_toArray, List.set_cons_zero, List.set_cons_succ]; done) | (simp only [putAll, Act.put, List.setIfInBounds_toArray, List.set_cons_zero, List.set_cons_succ]; rfl)) (hJ2_9 (v221) _ ⟨hHeld, (rk HO222.out), (bk BK217.out), bo⟩)
                   ·skip
                    rintro v221 w24 ⟨hS_, h0_, h1_, h2_⟩
                    have n0_ : Aside0 (Kd.R (Kd.int .u8) 5 w24 w.heap.size (fun _ => True) v221 y220) := ⟨h0_⟩
                    have n1_ : Aside0 (w24.heap[gb217]? = some (.cells #[.int .i64 a0_0, .int .i64 a0_1, .string a0_2, .string a0_3, .int .i64 a0_4, .bool a0_5] 25 (0, 0))) := ⟨h1_⟩
                    have n2_ : Aside0 (Below w.heap.size w w24) := ⟨h2_⟩
                    clear BK217
                    clear HB
                    clear h0_ h1_ h2_
                    have HO222 := n0_
                    have BK217 := n1_
                    have HB := n2_
                    clear n0_ n1_ n2_
                    have hHeld : w24.cell? ⟨gb217, 0, none⟩ = some (.int .i64 a0_0) ∧ w24.cell? ⟨gb217, 1, none⟩ = some (.int .i64 a0_1) ∧ w24.cell? ⟨gb217, 2, none⟩ = some (.string a0_2) ∧ w24.cell? ⟨gb217, 3, none⟩ = some (.string a0_3) ∧ w24.cell? ⟨gb217, 4, none⟩ = some (.int .i64 a0_4) ∧ w24.cell? ⟨gb217, 5, none⟩ = some (.bool a0_5) := hS_
                    refine norm_ (a' := ?_) ?_ ?_
                    rotate_left
                    ·simp only [putAll, Act.put, List.setIfInBounds_toArray, List.set_cons_zero, List.set_cons_succ]
                     rfl
                    refine one_ (i := 2) (N := some 14) #[I,I,I,I,I,O,O,I,I,I,I,O,I,I,I,O,O,I,I,O,I,I,O,O] rfl rfl (one_of HT_.out (by kernel_rfl)) (by decide) (fun K hK => ?_)
                    refine goes_ Try.func69 (by kernel_rfl) rfl #[.int .i64 a0_0, .int .i64 8] (by rfl) rfl rfl aa ?_
                    with_reducible refine (fairwayref1_Fixed.calls kj1 a0_0 8 t218 _ A6.out).mono ?_
                    rintro e w25 ⟨rfl, hb⟩
                    refine ⟨_, rfl, ?_⟩
                    have n0_ := Aside0.mk (Kd.R_below (rk HO222.out) hb)
                    have n1_ := Aside0.mk (blk_below (g := gb217) (o := .cells #[.int .i64 a0_0, .int .i64 a0_1, .string a0_2, .string a0_3, .int .i64 a0_4, .bool a0_5] 25 (0, 0)) (bk BK217.out) hb)
                    have n2_ := Aside0.mk (below_step bo hb)
                    clear HO222
                    clear BK217
                    clear HB
                    have HO222 := n0_
                    have BK217 := n1_
                    have HB := n2_
                    clear n0_ n1_ n2_
                    (try clear hb)
                    (try clear hb2)
                    (try clear hk)
                    (try clear hi)
                    refine hK.out _ _ ⟨(blk_cell BK217.out 0).trans rfl, (blk_cell BK217.out 1).trans rfl, (blk_cell BK217.out 2).trans rfl, (blk_cell BK217.out 3).trans rfl, (blk_cell BK217.out 4).trans rfl, (blk_cell BK217.out 5).trans rfl⟩ (fun hHeld => ?_)
                    clear hK K
                    refine norm_ (a' := ?_) ?_ ?_
                    rotate_left
                    ·show Act.put _ (some 14) _ = _
                     simp only [Act.put, List.setIfInBounds_toArray, List.set_cons_zero, List.set_cons_succ, i64_w, i32_w]
                     rfl
                    exact norm_ (by first | (simp only [putAll, Act.put, List.setIfInBounds_toArray, List.set_cons_zero, List.set_cons_succ]; done) | (simp only [putAll, Act.put, List.setIfInBounds_toArray, List.set_cons_zero, List.set_cons_succ]; rfl)) (hJ2_9_10 (v221) _ ⟨hHeld, (rk HO222.out), (bk BK217.out), bo⟩)
                  ·skip
                   rintro v221 w24 ⟨hS_, h0_, h1_, h2_⟩
                   have n0_ : Aside0 (Kd.R (Kd.int .u8) 5 w24 w.heap.size (fun _ => True) v221 y220) := ⟨h0_⟩
                   have n1_ : Aside0 (w24.heap[gb217]? = some (.cells #[.int .i64 a0_0, .int .i64 a0_1, .string a0_2, .string a0_3, .int .i64 a0_4, .bool a0_5] 25 (0, 0))) := ⟨h1_⟩
                   have n2_ : Aside0 (Below w.heap.size w w24) := ⟨h2_⟩
                   clear BK217
                   clear HB
                   clear h0_ h1_ h2_
                   have HO222 := n0_
                   have BK217 := n1_
                   have HB := n2_
                   clear n0_ n1_ n2_
                   have hHeld : w24.cell? ⟨gb217, 0, none⟩ = some (.int .i64 a0_0) ∧ w24.cell? ⟨gb217, 1, none⟩ = some (.int .i64 a0_1) ∧ w24.cell? ⟨gb217, 2, none⟩ = some (.string a0_2) ∧ w24.cell? ⟨gb217, 3, none⟩ = some (.string a0_3) ∧ w24.cell? ⟨gb217, 4, none⟩ = some (.int .i64 a0_4) ∧ w24.cell? ⟨gb217, 5, none⟩ = some (.bool a0_5) := hS_
                   refine norm_ (a' := ?_) ?_ ?_
                   rotate_left
                   ·simp only [putAll, Act.put, List.setIfInBounds_toArray, List.set_cons_zero, List.set_cons_succ]
                    rfl
                   refine two_ (i := 5) (j := 10) (Ni := some 17) (Nj := some 22) #[I,I,I,I,I,I,O,I,I,I,O,O,I,I,I,O,O,I,I,O,I,I,O,O] #[I,I,I,I,I,O,O,I,I,I,I,O,I,I,I,O,O,I,I,O,I,I,O,O] rfl rfl rfl rfl (two_of HT_.out (by kernel_rfl)) (by decide) (by decide) (fun K hK => ?_) (fun K hK => ?_)
                   ·skip
                    refine goes_ Try.func69 (by kernel_rfl) rfl #[.int .i64 a0_1, .int .i64 8] (by rfl) rfl rfl aa ?_
                    with_reducible refine (fairwayref1_Fixed.calls kj1 a0_1 8 t219 _ A7.out).mono ?_
                    rintro e w25 ⟨rfl, hb⟩
                    refine ⟨_, rfl, ?_⟩
                    have n0_ := Aside0.mk (Kd.R_below (rk HO222.out) hb)
                    have n1_ := Aside0.mk (blk_below (g := gb217) (o := .cells #[.int .i64 a0_0, .int .i64 a0_1, .string a0_2, .string a0_3, .int .i64 a0_4, .bool a0_5] 25 (0, 0)) (bk BK217.out) hb)
                    have n2_ := Aside0.mk (below_step bo hb)
                    clear HO222
                    clear BK217
                    clear HB
                    have HO222 := n0_
                    have BK217 := n1_
                    have HB := n2_
                    clear n0_ n1_ n2_
                    (try clear hb)
                    (try clear hb2)
                    (try clear hk)
                    (try clear hi)
                    refine hK.out _ _ ⟨(blk_cell BK217.out 0).trans rfl, (blk_cell BK217.out 1).trans rfl, (blk_cell BK217.out 2).trans rfl, (blk_cell BK217.out 3).trans rfl, (blk_cell BK217.out 4).trans rfl, (blk_cell BK217.out 5).trans rfl⟩ (fun hHeld => ?_)
                    clear hK K
                    refine norm_ (a' := ?_) ?_ ?_
                    rotate_left
                    ·show Act.put _ (some 17) _ = _
                     simp only [Act.put, List.setIfInBounds_toArray, List.set_cons_zero, List.set_cons_succ, i64_w, i32_w]
                     rfl
                    refine pz (i := 6) (N := some 18) #[I,I,I,I,I,I,I,I,I,I,O,O,I,I,I,O,O,I,I,O,I,I,O,O] ?_
                    exact norm_ (by first | (simp only [putAll, Act.put, List.setIfInBounds_toArray, List.set_cons_zero, List.set_cons_succ]; done) | (simp only [putAll, Act.put, List.setIfInBounds_toArray, List.set_cons_zero, List.set_cons_succ]; rfl)) (hJ2_5_9 (v221) _ ⟨hHeld, (rk HO222.out), (bk BK217.out), bo⟩)
                   ·skip
                    have hcv25 := own_string (P := Try.prog) Try.underlying23 Try.underlying5 Try.underlying9 (Kd.own_of_R HO222.out)
                    refine value_ (w1 := ?_) (v := ?_) (by rfl) rfl ?_ ?_
                    rotate_left 2
                    ·go_simp
                     constructor
                     ·rfl
                     ·rfl
                    clear hcv25
                    refine hK.out _ _ ⟨(blk_cell BK217.out 0).trans rfl, (blk_cell BK217.out 1).trans rfl, (blk_cell BK217.out 2).trans rfl, (blk_cell BK217.out 3).trans rfl, (blk_cell BK217.out 4).trans rfl, (blk_cell BK217.out 5).trans rfl⟩ (fun hHeld => ?_)
                    clear hK K
                    refine norm_ (a' := ?_) ?_ ?_
                    rotate_left
                    ·show Act.put _ (some 22) _ = _
                     simp only [Act.put, List.setIfInBounds_toArray, List.set_cons_zero, List.set_cons_succ, i64_w, i32_w]
                     rfl
                    exact norm_ (by first | (simp only [putAll, Act.put, List.setIfInBounds_toArray, List.set_cons_zero, List.set_cons_succ]; done) | (simp only [putAll, Act.put, List.setIfInBounds_toArray, List.set_cons_zero, List.set_cons_succ]; rfl)) (hJ2_9_10 (v221) _ ⟨hHeld, (rk HO222.out), (bk BK217.out), bo⟩)
                 ·skip
                  rintro _ w23 ⟨hS_, h0_, h1_⟩
                  have n0_ : Aside0 (w23.heap[gb217]? = some (.cells #[.int .i64 a0_0, .int .i64 a0_1, .string a0_2, .string a0_3, .int .i64 a0_4, .bool a0_5] 25 (0, 0))) := ⟨h0_⟩
                  have n1_ : Aside0 (Below w.heap.size w w23) := ⟨h1_⟩
                  clear BK217
                  clear HB
                  clear h0_ h1_
                  have BK217 := n0_
                  have HB := n1_
                  clear n0_ n1_
                  have hHeld : w23.cell? ⟨gb217, 0, none⟩ = some (.int .i64 a0_0) ∧ w23.cell? ⟨gb217, 1, none⟩ = some (.int .i64 a0_1) ∧ w23.cell? ⟨gb217, 2, none⟩ = some (.string a0_2) ∧ w23.cell? ⟨gb217, 3, none⟩ = some (.string a0_3) ∧ w23.cell? ⟨gb217, 4, none⟩ = some (.int .i64 a0_4) ∧ w23.cell? ⟨gb217, 5, none⟩ = some (.bool a0_5) := hS_
                  refine norm_ (a' := ?_) ?_ ?_
                  rotate_left
                  ·simp only [putAll, Act.put, List.setIfInBounds_toArray, List.set_cons_zero, List.set_cons_succ]
                   rfl
                  refine two_ (i := 9) (j := 15) (Ni := some 21) (Nj := some 27) #[I,I,I,I,I,I,I,I,I,I,O,O,I,I,I,O,O,I,I,O,I,I,O,O] #[I,I,I,I,I,I,I,I,I,O,O,O,I,I,I,I,O,I,I,O,I,I,O,O] rfl rfl rfl rfl (two_of HT_.out (by kernel_rfl)) (by decide) (by decide) (fun K hK => ?_) (fun K hK => ?_)
                  ·skip
                   refine Kd.R_lit_step (Kd.int .u8) _ 5 ?hg (N := 21) ?hd (xs := ([(x3_1) % 256] : List Int)) (inner := [.int .u8 ((x3_1) % 256)]) (ok := fun _ => True) (okp := fun _ => True) ?hr ?hp (fun _ hk => hk) trivial (Below.refl _ _) (Nat.le_refl _) (by simp) ?_; (case hd => rfl); (case hg => rfl); (case hr => first | (go_simp; done) | (go_simp; rfl)); (case hp => exact (Reps.one (show Kd.M (Kd.int .u8) _ _ _ ((x3_1) % 256) [.int .u8 ((x3_1) % 256)] from rfl) (Reps.none _ _)))
                   intro v221 w24 ho25 hb hg_ hnew_
                   clear hg_ hnew_
                   (first | rw [← Ny220.out] at ho25 | (simp only [Int.reduceToNat] at ho25; rw [← Ny220.out] at ho25))
                   have n0_ := Aside0.mk (Kd.R_lower ho25 (below_size bo))
                   have n1_ := Aside0.mk (blk_below (g := gb217) (o := .cells #[.int .i64 a0_0, .int .i64 a0_1, .string a0_2, .string a0_3, .int .i64 a0_4, .bool a0_5] 25 (0, 0)) (bk BK217.out) hb)
                   have n2_ := Aside0.mk (below_step bo hb)
                   clear BK217
                   clear HB
                   have HO222 := n0_
                   have BK217 := n1_
                   have HB := n2_
                   clear n0_ n1_ n2_
                   clear hb ho25
                   refine hK.out _ _ ⟨(blk_cell BK217.out 0).trans rfl, (blk_cell BK217.out 1).trans rfl, (blk_cell BK217.out 2).trans rfl, (blk_cell BK217.out 3).trans rfl, (blk_cell BK217.out 4).trans rfl, (blk_cell BK217.out 5).trans rfl⟩ (fun hHeld => ?_)
                   clear hK K
                   refine norm_ (a' := ?_) ?_ ?_
                   rotate_left
                   ·show Act.put _ (some 21) _ = _
                    simp only [Act.put, List.setIfInBounds_toArray, List.set_cons_zero, List.set_cons_succ, i64_w, i32_w]
                    rfl
                   exact norm_ (by first | (simp only [putAll, Act.put, List.setIfInBounds_toArray, List.set_cons_zero, List.set_cons_succ]; done) | (simp only [putAll, Act.put, List.setIfInBounds_toArray, List.set_cons_zero, List.set_cons_succ]; rfl)) (hJ2_5_9 (v221) _ ⟨hHeld, (rk HO222.out), (bk BK217.out), bo⟩)
                  ·skip
                   refine goes_ Try.func69 (by kernel_rfl) rfl #[.int .i64 (a0_2.size : Int), .int .i64 2] (by rfl) rfl rfl aa ?_
                   with_reducible refine (fairwayref1_Fixed.calls kj1 (a0_2.size : Int) 2 t223 _ A10.out).mono ?_
                   rintro e w24 ⟨rfl, hb⟩
                   refine ⟨_, rfl, ?_⟩
                   have n0_ := Aside0.mk (blk_below (g := gb217) (o := .cells #[.int .i64 a0_0, .int .i64 a0_1, .string a0_2, .string a0_3, .int .i64 a0_4, .bool a0_5] 25 (0, 0)) (bk BK217.out) hb)
                   have n1_ := Aside0.mk (below_step bo hb)
                   clear BK217
                   clear HB
                   have BK217 := n0_
                   have HB := n1_
                   clear n0_ n1_
                   (try clear hb)
                   (try clear hb2)
                   (try clear hk)
                   (try clear hi)
                   refine hK.out _ _ ⟨(blk_cell BK217.out 0).trans rfl, (blk_cell BK217.out 1).trans rfl, (blk_cell BK217.out 2).trans rfl, (blk_cell BK217.out 3).trans rfl, (blk_cell BK217.out 4).trans rfl, (blk_cell BK217.out 5).trans rfl⟩ (fun hHeld => ?_)
                   clear hK K
                   refine norm_ (a' := ?_) ?_ ?_
                   rotate_left
                   ·show Act.put _ (some 27) _ = _
                    simp only [Act.put, List.setIfInBounds_toArray, List.set_cons_zero, List.set_cons_succ, i64_w, i32_w]
                    rfl
                   exact norm_ (by first | (simp only [putAll, Act.put, List.setIfInBounds_toArray, List.set_cons_zero, List.set_cons_succ]; done) | (simp only [putAll, Act.put, List.setIfInBounds_toArray, List.set_cons_zero, List.set_cons_succ]; rfl)) (hJ2_5_15 () _ ⟨hHeld, (bk BK217.out), bo⟩)
                ·skip
                 rintro v221 w25 ⟨hS_, h0_, h1_, h2_⟩
                 have n0_ : Aside0 (Kd.R (Kd.int .u8) 5 w25 w.heap.size (fun _ => True) v221 y220) := ⟨h0_⟩
                 have n1_ : Aside0 (w25.heap[gb217]? = some (.cells #[.int .i64 a0_0, .int .i64 a0_1, .string a0_2, .string a0_3, .int .i64 a0_4, .bool a0_5] 25 (0, 0))) := ⟨h1_⟩
                 have n2_ : Aside0 (Below w.heap.size w w25) := ⟨h2_⟩
                 clear BK217
                 clear HB
                 clear h0_ h1_ h2_
                 have HO222 := n0_
                 have BK217 := n1_
                 have HB := n2_
                 clear n0_ n1_ n2_
                 have hHeld : w25.cell? ⟨gb217, 0, none⟩ = some (.int .i64 a0_0) ∧ w25.cell? ⟨gb217, 1, none⟩ = some (.int .i64 a0_1) ∧ w25.cell? ⟨gb217, 2, none⟩ = some (.string a0_2) ∧ w25.cell? ⟨gb217, 3, none⟩ = some (.string a0_3) ∧ w25.cell? ⟨gb217, 4, none⟩ = some (.int .i64 a0_4) ∧ w25.cell? ⟨gb217, 5, none⟩ = some (.bool a0_5) := hS_
                 refine norm_ (a' := ?_) ?_ ?_
                 rotate_left
                 ·simp only [putAll, Act.put, List.setIfInBounds_toArray, List.set_cons_zero, List.set_cons_succ]
                  rfl
                 refine one_ (i := 5) (N := some 17) #[I,I,I,I,I,I,O,I,I,I,I,O,I,I,I,O,O,I,I,O,I,I,O,O] rfl rfl (one_of HT_.out (by kernel_rfl)) (by decide) (fun K hK => ?_)
                 refine goes_ Try.func69 (by kernel_rfl) rfl #[.int .i64 a0_1, .int .i64 8] (by rfl) rfl rfl aa ?_
                 with_reducible refine (fairwayref1_Fixed.calls kj1 a0_1 8 t219 _ A7.out).mono ?_
                 rintro e w26 ⟨rfl, hb⟩
                 refine ⟨_, rfl, ?_⟩
                 have n0_ := Aside0.mk (Kd.R_below (rk HO222.out) hb)
                 have n1_ := Aside0.mk (blk_below (g := gb217) (o := .cells #[.int .i64 a0_0, .int .i64 a0_1, .string a0_2, .string a0_3, .int .i64 a0_4, .bool a0_5] 25 (0, 0)) (bk BK217.out) hb)
                 have n2_ := Aside0.mk (below_step bo hb)
                 clear HO222
                 clear BK217
                 clear HB
                 have HO222 := n0_
                 have BK217 := n1_
                 have HB := n2_
                 clear n0_ n1_ n2_
                 (try clear hb)
                 (try clear hb2)
                 (try clear hk)
                 (try clear hi)
                 refine hK.out _ _ ⟨(blk_cell BK217.out 0).trans rfl, (blk_cell BK217.out 1).trans rfl, (blk_cell BK217.out 2).trans rfl, (blk_cell BK217.out 3).trans rfl, (blk_cell BK217.out 4).trans rfl, (blk_cell BK217.out 5).trans rfl⟩ (fun hHeld => ?_)
                 clear hK K
                 refine norm_ (a' := ?_) ?_ ?_
                 rotate_left
                 ·show Act.put _ (some 17) _ = _
                  simp only [Act.put, List.setIfInBounds_toArray, List.set_cons_zero, List.set_cons_succ, i64_w, i32_w]
                  rfl
                 refine pz (i := 6) (N := some 18) #[I,I,I,I,I,I,I,I,I,I,I,O,I,I,I,O,O,I,I,O,I,I,O,O] ?_
                 refine pz (i := 11) (N := some 23) #[I,I,I,I,I,I,I,I,I,I,I,I,I,I,I,O,O,I,I,O,I,I,O,O] ?_
                 exact norm_ (by first | (simp only [putAll, Act.put, List.setIfInBounds_toArray, List.set_cons_zero, List.set_cons_succ]; done) | (simp only [putAll, Act.put, List.setIfInBounds_toArray, List.set_cons_zero, List.set_cons_succ]; rfl)) (hJ2_5_9_10 (v221) _ ⟨hHeld, (rk HO222.out), (bk BK217.out), bo⟩)
               ·skip
                rintro _ w24 ⟨hS_, h0_, h1_⟩
                have n0_ : Aside0 (w24.heap[gb217]? = some (.cells #[.int .i64 a0_0, .int .i64 a0_1, .string a0_2, .string a0_3, .int .i64 a0_4, .bool a0_5] 25 (0, 0))) := ⟨h0_⟩
                have n1_ : Aside0 (Below w.heap.size w w24) := ⟨h1_⟩
                clear BK217
                clear HB
                clear h0_ h1_
                have BK217 := n0_
                have HB := n1_
                clear n0_ n1_
                have hHeld : w24.cell? ⟨gb217, 0, none⟩ = some (.int .i64 a0_0) ∧ w24.cell? ⟨gb217, 1, none⟩ = some (.int .i64 a0_1) ∧ w24.cell? ⟨gb217, 2, none⟩ = some (.string a0_2) ∧ w24.cell? ⟨gb217, 3, none⟩ = some (.string a0_3) ∧ w24.cell? ⟨gb217, 4, none⟩ = some (.int .i64 a0_4) ∧ w24.cell? ⟨gb217, 5, none⟩ = some (.bool a0_5) := hS_
                refine norm_ (a' := ?_) ?_ ?_
                rotate_left
                ·simp only [putAll, Act.put, List.setIfInBounds_toArray, List.set_cons_zero, List.set_cons_succ]
                 rfl
                refine one_ (i := 9) (N := some 21) #[I,I,I,I,I,I,I,I,I,I,O,O,I,I,I,I,O,I,I,O,I,I,O,O] rfl rfl (one_of HT_.out (by kernel_rfl)) (by decide) (fun K hK => ?_)
                refine Kd.R_lit_step (Kd.int .u8) _ 5 ?hg (N := 21) ?hd (xs := ([(x3_1) % 256] : List Int)) (inner := [.int .u8 ((x3_1) % 256)]) (ok := fun _ => True) (okp := fun _ => True) ?hr ?hp (fun _ hk => hk) trivial (Below.refl _ _) (Nat.le_refl _) (by simp) ?_; (case hd => rfl); (case hg => rfl); (case hr => first | (go_simp; done) | (go_simp; rfl)); (case hp => exact (Reps.one (show Kd.M (Kd.int .u8) _ _ _ ((x3_1) % 256) [.int .u8 ((x3_1) % 256)] from rfl) (Reps.none _ _)))
                intro v221 w25 ho26 hb hg_ hnew_
                clear hg_ hnew_
                (first | rw [← Ny220.out] at ho26 | (simp only [Int.reduceToNat] at ho26; rw [← Ny220.out] at ho26))
                have n0_ := Aside0.mk (Kd.R_lower ho26 (below_size bo))
                have n1_ := Aside0.mk (blk_below (g := gb217) (o := .cells #[.int .i64 a0_0, .int .i64 a0_1, .string a0_2, .string a0_3, .int .i64 a0_4, .bool a0_5] 25 (0, 0)) (bk BK217.out) hb)
                have n2_ := Aside0.mk (below_step bo hb)
                clear BK217
                clear HB
                have HO222 := n0_
                have BK217 := n1_
                have HB := n2_
                clear n0_ n1_ n2_
                clear hb ho26
                refine hK.out _ _ ⟨(blk_cell BK217.out 0).trans rfl, (blk_cell BK217.out 1).trans rfl, (blk_cell BK217.out 2).trans rfl, (blk_cell BK217.out 3).trans rfl, (blk_cell BK217.out 4).trans rfl, (blk_cell BK217.out 5).trans rfl⟩ (fun hHeld => ?_)
                clear hK K
                refine norm_ (a' := ?_) ?_ ?_
                rotate_left
                ·show Act.put _ (some 21) _ = _
                 simp only [Act.put, List.setIfInBounds_toArray, List.set_cons_zero, List.set_cons_succ, i64_w, i32_w]
                 rfl
                exact norm_ (by first | (simp only [putAll, Act.put, List.setIfInBounds_toArray, List.set_cons_zero, List.set_cons_succ]; done) | (simp only [putAll, Act.put, List.setIfInBounds_toArray, List.set_cons_zero, List.set_cons_succ]; rfl)) (hJ2_5_9_15 (v221) _ ⟨hHeld, (rk HO222.out), (bk BK217.out), bo⟩)
              ·skip
               rintro v221 w25 ⟨hS_, h0_, h1_, h2_⟩
               have n0_ : Aside0 (Kd.R (Kd.int .u8) 5 w25 w.heap.size (fun _ => True) v221 y220) := ⟨h0_⟩
               have n1_ : Aside0 (w25.heap[gb217]? = some (.cells #[.int .i64 a0_0, .int .i64 a0_1, .string a0_2, .string a0_3, .int .i64 a0_4, .bool a0_5] 25 (0, 0))) := ⟨h1_⟩
               have n2_ : Aside0 (Below w.heap.size w w25) := ⟨h2_⟩
               clear BK217
               clear HB
               clear h0_ h1_ h2_
               have HO222 := n0_
               have BK217 := n1_
               have HB := n2_
               clear n0_ n1_ n2_
               have hHeld : w25.cell? ⟨gb217, 0, none⟩ = some (.int .i64 a0_0) ∧ w25.cell? ⟨gb217, 1, none⟩ = some (.int .i64 a0_1) ∧ w25.cell? ⟨gb217, 2, none⟩ = some (.string a0_2) ∧ w25.cell? ⟨gb217, 3, none⟩ = some (.string a0_3) ∧ w25.cell? ⟨gb217, 4, none⟩ = some (.int .i64 a0_4) ∧ w25.cell? ⟨gb217, 5, none⟩ = some (.bool a0_5) := hS_
               refine norm_ (a' := ?_) ?_ ?_
               rotate_left
               ·simp only [putAll, Act.put, List.setIfInBounds_toArray, List.set_cons_zero, List.set_cons_succ]
                rfl
               refine two_ (i := 10) (j := 15) (Ni := some 22) (Nj := some 27) #[I,I,I,I,I,I,I,I,I,I,I,O,I,I,I,O,O,I,I,O,I,I,O,O] #[I,I,I,I,I,I,I,I,I,I,O,O,I,I,I,I,O,I,I,O,I,I,O,O] rfl rfl rfl rfl (two_of HT_.out (by kernel_rfl)) (by decide) (by decide) (fun K hK => ?_) (fun K hK => ?_)
               ·skip
                have hcv26 := own_string (P := Try.prog) Try.underlying23 Try.underlying5 Try.underlying9 (Kd.own_of_R HO222.out)
                refine value_ (w1 := ?_) (v := ?_) (by rfl) rfl ?_ ?_
                rotate_left 2
                ·go_simp
                 constructor
                 ·rfl
                 ·rfl
                clear hcv26
                refine hK.out _ _ ⟨(blk_cell BK217.out 0).trans rfl, (blk_cell BK217.out 1).trans rfl, (blk_cell BK217.out 2).trans rfl, (blk_cell BK217.out 3).trans rfl, (blk_cell BK217.out 4).trans rfl, (blk_cell BK217.out 5).trans rfl⟩ (fun hHeld => ?_)
                clear hK K
                refine norm_ (a' := ?_) ?_ ?_
                rotate_left
                ·show Act.put _ (some 22) _ = _
                 simp only [Act.put, List.setIfInBounds_toArray, List.set_cons_zero, List.set_cons_succ, i64_w, i32_w]
                 rfl
                refine pz (i := 11) (N := some 23) #[I,I,I,I,I,I,I,I,I,I,I,I,I,I,I,O,O,I,I,O,I,I,O,O] ?_
                exact norm_ (by first | (simp only [putAll, Act.put, List.setIfInBounds_toArray, List.set_cons_zero, List.set_cons_succ]; done) | (simp only [putAll, Act.put, List.setIfInBounds_toArray, List.set_cons_zero, List.set_cons_succ]; rfl)) (hJ2_5_9_10 (v221) _ ⟨hHeld, (rk HO222.out), (bk BK217.out), bo⟩)
               ·skip
                refine goes_ Try.func69 (by kernel_rfl) rfl #[.int .i64 (a0_2.size : Int), .int .i64 2] (by rfl) rfl rfl aa ?_
                with_reducible refine (fairwayref1_Fixed.calls kj1 (a0_2.size : Int) 2 t223 _ A10.out).mono ?_
                rintro e w26 ⟨rfl, hb⟩
                refine ⟨_, rfl, ?_⟩
                have n0_ := Aside0.mk (Kd.R_below (rk HO222.out) hb)
                have n1_ := Aside0.mk (blk_below (g := gb217) (o := .cells #[.int .i64 a0_0, .int .i64 a0_1, .string a0_2, .string a0_3, .int .i64 a0_4, .bool a0_5] 25 (0, 0)) (bk BK217.out) hb)
                have n2_ := Aside0.mk (below_step bo hb)
                clear HO222
                clear BK217
                clear HB
                have HO222 := n0_
                have BK217 := n1_
                have HB := n2_
                clear n0_ n1_ n2_
                (try clear hb)
                (try clear hb2)
                (try clear hk)
                (try clear hi)
                refine hK.out _ _ ⟨(blk_cell BK217.out 0).trans rfl, (blk_cell BK217.out 1).trans rfl, (blk_cell BK217.out 2).trans rfl, (blk_cell BK217.out 3).trans rfl, (blk_cell BK217.out 4).trans rfl, (blk_cell BK217.out 5).trans rfl⟩ (fun hHeld => ?_)
                clear hK K
                refine norm_ (a' := ?_) ?_ ?_
                rotate_left
                ·show Act.put _ (some 27) _ = _
                 simp only [Act.put, List.setIfInBounds_toArray, List.set_cons_zero, List.set_cons_succ, i64_w, i32_w]
                 rfl
                exact norm_ (by first | (simp only [putAll, Act.put, List.setIfInBounds_toArray, List.set_cons_zero, List.set_cons_succ]; done) | (simp only [putAll, Act.put, List.setIfInBounds_toArray, List.set_cons_zero, List.set_cons_succ]; rfl)) (hJ2_5_9_15 (v221) _ ⟨hHeld, (rk HO222.out), (bk BK217.out), bo⟩)
             ·skip
              rintro v221 w26 ⟨hS_, h0_, h1_, h2_⟩
              have n0_ : Aside0 (Kd.R (Kd.int .u8) 5 w26 w.heap.size (fun _ => True) v221 y220) := ⟨h0_⟩
              have n1_ : Aside0 (w26.heap[gb217]? = some (.cells #[.int .i64 a0_0, .int .i64 a0_1, .string a0_2, .string a0_3, .int .i64 a0_4, .bool a0_5] 25 (0, 0))) := ⟨h1_⟩
              have n2_ : Aside0 (Below w.heap.size w w26) := ⟨h2_⟩
              clear BK217
              clear HB
              clear h0_ h1_ h2_
              have HO222 := n0_
              have BK217 := n1_
              have HB := n2_
              clear n0_ n1_ n2_
              have hHeld : w26.cell? ⟨gb217, 0, none⟩ = some (.int .i64 a0_0) ∧ w26.cell? ⟨gb217, 1, none⟩ = some (.int .i64 a0_1) ∧ w26.cell? ⟨gb217, 2, none⟩ = some (.string a0_2) ∧ w26.cell? ⟨gb217, 3, none⟩ = some (.string a0_3) ∧ w26.cell? ⟨gb217, 4, none⟩ = some (.int .i64 a0_4) ∧ w26.cell? ⟨gb217, 5, none⟩ = some (.bool a0_5) := hS_
              refine norm_ (a' := ?_) ?_ ?_
              rotate_left
              ·simp only [putAll, Act.put, List.setIfInBounds_toArray, List.set_cons_zero, List.set_cons_succ]
               rfl
              refine one_ (i := 10) (N := some 22) #[I,I,I,I,I,I,I,I,I,I,I,O,I,I,I,I,O,I,I,O,I,I,O,O] rfl rfl (one_of HT_.out (by kernel_rfl)) (by decide) (fun K hK => ?_)
              have hcv27 := own_string (P := Try.prog) Try.underlying23 Try.underlying5 Try.underlying9 (Kd.own_of_R HO222.out)
              refine value_ (w1 := ?_) (v := ?_) (by rfl) rfl ?_ ?_
              rotate_left 2
              ·go_simp
               constructor
               ·rfl
               ·rfl
              clear hcv27
              refine hK.out _ _ ⟨(blk_cell BK217.out 0).trans rfl, (blk_cell BK217.out 1).trans rfl, (blk_cell BK217.out 2).trans rfl, (blk_cell BK217.out 3).trans rfl, (blk_cell BK217.out 4).trans rfl, (blk_cell BK217.out 5).trans rfl⟩ (fun hHeld => ?_)
              clear hK K
              refine norm_ (a' := ?_) ?_ ?_
              rotate_left
              ·show Act.put _ (some 22) _ = _
               simp only [Act.put, List.setIfInBounds_toArray, List.set_cons_zero, List.set_cons_succ, i64_w, i32_w]
               rfl
              refine pz (i := 11) (N := some 23) #[I,I,I,I,I,I,I,I,I,I,I,I,I,I,I,I,O,I,I,O,I,I,O,O] ?_
              exact norm_ (by first | (simp only [putAll, Act.put, List.setIfInBounds_toArray, List.set_cons_zero, List.set_cons_succ]; done) | (simp only [putAll, Act.put, List.setIfInBounds_toArray, List.set_cons_zero, List.set_cons_succ]; rfl)) (hJ2_5_9_10_15 (v221) _ ⟨hHeld, (rk HO222.out), (bk BK217.out), bo⟩)
            ·skip
             rintro v221 w26 ⟨hS_, h0_, h1_, h2_⟩
             have n0_ : Aside0 (Kd.R (Kd.int .u8) 5 w26 w.heap.size (fun _ => True) v221 y220) := ⟨h0_⟩
             have n1_ : Aside0 (w26.heap[gb217]? = some (.cells #[.int .i64 a0_0, .int .i64 a0_1, .string a0_2, .string a0_3, .int .i64 a0_4, .bool a0_5] 25 (0, 0))) := ⟨h1_⟩
             have n2_ : Aside0 (Below w.heap.size w w26) := ⟨h2_⟩
             clear BK217
             clear HB
             clear h0_ h1_ h2_
             have HO222 := n0_
             have BK217 := n1_
             have HB := n2_
             clear n0_ n1_ n2_
             have hHeld : w26.cell? ⟨gb217, 0, none⟩ = some (.int .i64 a0_0) ∧ w26.cell? ⟨gb217, 1, none⟩ = some (.int .i64 a0_1) ∧ w26.cell? ⟨gb217, 2, none⟩ = some (.string a0_2) ∧ w26.cell? ⟨gb217, 3, none⟩ = some (.string a0_3) ∧ w26.cell? ⟨gb217, 4, none⟩ = some (.int .i64 a0_4) ∧ w26.cell? ⟨gb217, 5, none⟩ = some (.bool a0_5) := hS_
             refine norm_ (a' := ?_) ?_ ?_
             rotate_left
             ·simp only [putAll, Act.put, List.setIfInBounds_toArray, List.set_cons_zero, List.set_cons_succ]
              rfl
             refine one_ (i := 15) (N := some 27) #[I,I,I,I,I,I,I,I,I,I,I,I,I,I,I,I,O,I,I,O,I,I,O,O] rfl rfl (one_of HT_.out (by kernel_rfl)) (by decide) (fun K hK => ?_)
             refine goes_ Try.func69 (by kernel_rfl) rfl #[.int .i64 (a0_2.size : Int), .int .i64 2] (by rfl) rfl rfl aa ?_
             with_reducible refine (fairwayref1_Fixed.calls kj1 (a0_2.size : Int) 2 t223 _ A10.out).mono ?_
             rintro e w27 ⟨rfl, hb⟩
             refine ⟨_, rfl, ?_⟩
             have n0_ := Aside0.mk (Kd.R_below (rk HO222.out) hb)
             have n1_ := Aside0.mk (blk_below (g := gb217) (o := .cells #[.int .i64 a0_0, .int .i64 a0_1, .string a0_2, .string a0_3, .int .i64 a0_4, .bool a0_5] 25 (0, 0)) (bk BK217.out) hb)
             have n2_ := Aside0.mk (below_step bo hb)
             clear HO222
             clear BK217
             clear HB
             have HO222 := n0_
             have BK217 := n1_
             have HB := n2_
             clear n0_ n1_ n2_
             (try clear hb)
             (try clear hb2)
             (try clear hk)
             (try clear hi)
             refine hK.out _ _ ⟨(blk_cell BK217.out 0).trans rfl, (blk_cell BK217.out 1).trans rfl, (blk_cell BK217.out 2).trans rfl, (blk_cell BK217.out 3).trans rfl, (blk_cell BK217.out 4).trans rfl, (blk_cell BK217.out 5).trans rfl⟩ (fun hHeld => ?_)
             clear hK K
             refine norm_ (a' := ?_) ?_ ?_
             rotate_left
             ·show Act.put _ (some 27) _ = _
              simp only [Act.put, List.setIfInBounds_toArray, List.set_cons_zero, List.set_cons_succ, i64_w, i32_w]
              rfl
             exact norm_ (by first | (simp only [putAll, Act.put, List.setIfInBounds_toArray, List.set_cons_zero, List.set_cons_succ]; done) | (simp only [putAll, Act.put, List.setIfInBounds_toArray, List.set_cons_zero, List.set_cons_succ]; rfl)) (hJ2_5_9_10_15 (v221) _ ⟨hHeld, (rk HO222.out), (bk BK217.out), bo⟩)
           rintro v221 w27 ⟨hS_, h0_, h1_, h2_⟩
           have n0_ : Aside0 (Kd.R (Kd.int .u8) 5 w27 w.heap.size (fun _ => True) v221 y220) := ⟨h0_⟩
           have n1_ : Aside0 (w27.heap[gb217]? = some (.cells #[.int .i64 a0_0, .int .i64 a0_1, .string a0_2, .string a0_3, .int .i64 a0_4, .bool a0_5] 25 (0, 0))) := ⟨h1_⟩
           have n2_ : Aside0 (Below w.heap.size w w27) := ⟨h2_⟩
           clear BK217
           clear HB
           clear h0_ h1_ h2_
           have HO222 := n0_
           have BK217 := n1_
           have HB := n2_
           clear n0_ n1_ n2_
           have hHeld : w27.cell? ⟨gb217, 0, none⟩ = some (.int .i64 a0_0) ∧ w27.cell? ⟨gb217, 1, none⟩ = some (.int .i64 a0_1) ∧ w27.cell? ⟨gb217, 2, none⟩ = some (.string a0_2) ∧ w27.cell? ⟨gb217, 3, none⟩ = some (.string a0_3) ∧ w27.cell? ⟨gb217, 4, none⟩ = some (.int .i64 a0_4) ∧ w27.cell? ⟨gb217, 5, none⟩ = some (.bool a0_5) := hS_
           refine norm_ (a' := ?_) ?_ ?_
           rotate_left
           ·simp only [putAll, Act.put, List.setIfInBounds_toArray, List.set_cons_zero, List.set_cons_succ]
            rfl
           refine pz (i := 16) (N := some 28) #[I,I,I,I,I,I,I,I,I,I,I,I,I,I,I,I,I,I,I,O,I,I,O,O] ?_
           refine pz (i := 19) (N := some 31) #[I,I,I,I,I,I,I,I,I,I,I,I,I,I,I,I,I,I,I,I,I,I,O,O] ?_
           refine pz (i := 22) (N := some 34) #[I,I,I,I,I,I,I,I,I,I,I,I,I,I,I,I,I,I,I,I,I,I,I,O] ?_
           refine pz (i := 23) (N := some 4) #[I,I,I,I,I,I,I,I,I,I,I,I,I,I,I,I,I,I,I,I,I,I,I,I] ?_
           refine done_ (done_of HT_.out (by kernel_rfl)) ?_
           try go_wp2_with (first | ((with_reducible refine gate_callee (f := 69) rfl ?_); refine goesL_ (some 37) rfl rfl Try.func69 (by kernel_rfl) rfl #[.int .i64 ((((((t218 ++ t219) ++ (strOfNums y220)) ++ t223) ++ a0_2) ++ a0_3).size : Int), .int .i64 2] rfl aa ?_; (with_reducible refine (fairwayref1_Fixed.calls kj1 ((((((t218 ++ t219) ++ (strOfNums y220)) ++ t223) ++ a0_2) ++ a0_3).size : Int) 2 t224 _ A14.out).mono ?_); rintro e w28 ⟨rfl, hb⟩; refine ⟨_, rfl, ?_⟩; replace HO222 := Aside0.mk (Kd.R_below (rk HO222.out) hb); replace BK217 := Aside0.mk (blk_below (g := gb217) (o := .cells #[.int .i64 a0_0, .int .i64 a0_1, .string a0_2, .string a0_3, .int .i64 a0_4, .bool a0_5] 25 (0, 0)) (bk BK217.out) hb); replace HB := Aside0.mk (below_step bo hb); (try clear hb); (try clear hb2); (try clear hk); (try clear hi)) | ((with_reducible refine gate_callee (f := 70) rfl ?_); refine goesL_ (some 42) rfl rfl Try.func70 (by kernel_rfl) rfl #[.int .u32 0, .string (t224 ++ (((((t218 ++ t219) ++ (strOfNums y220)) ++ t223) ++ a0_2) ++ a0_3))] rfl aa ?_; (with_reducible refine (fairwayref1_Sum.calls kj1 0 (t224 ++ (((((t218 ++ t219) ++ (strOfNums y220)) ++ t223) ++ a0_2) ++ a0_3)) t225 _ A16.out).mono ?_); rintro e w' ⟨rfl, ⟨nd, rfl⟩⟩; refine ⟨_, rfl, ?_⟩) | ((with_reducible refine gate_callee (f := 69) rfl ?_); refine goesL_ (some 44) rfl rfl Try.func69 (by kernel_rfl) rfl #[.int .i64 (wrap64 (t225)), .int .i64 4] rfl aa ?_; (with_reducible refine (fairwayref1_Fixed.calls kj1 (wrap64 (t225)) 4 t226 _ A17.out).mono ?_); rintro e w29 ⟨rfl, hb⟩; refine ⟨_, rfl, ?_⟩; replace HO222 := Aside0.mk (Kd.R_below (rk HO222.out) hb); replace BK217 := Aside0.mk (blk_below (g := gb217) (o := .cells #[.int .i64 a0_0, .int .i64 a0_1, .string a0_2, .string a0_3, .int .i64 a0_4, .bool a0_5] 25 (0, 0)) (bk BK217.out) hb); replace HB := Aside0.mk (below_step bo hb); (try clear hb); (try clear hb2); (try clear hk); (try clear hi)))
           go_ret
           exact ⟨er, bo⟩
          ·rw [if_neg c19] at H
           exact absurd H (by simp)
         ·rw [if_neg c18] at H
          exact absurd H (by simp)
        ·rw [if_neg c15] at H
         exact absurd H (by simp)
       ·rw [if_neg c13] at H
        exact absurd H (by simp)
      ·rw [if_neg c12] at H
       exact absurd H (by simp)
     ·rw [if_neg c11] at H
      exact absurd H (by simp)
    ·rw [if_neg c9] at H
     exact absurd H (by simp)
   ·rw [if_neg c8] at H
    exact absurd H (by simp)

end Go.Proofs.Ytmabdfdmccbfnaa.P

-- written by a program of the proving session, out of the translation; Lean checks it
namespace Go.Proofs.Ytmabdfdmccbfnaa.P
open Go.RowKit Go.Proofs.Ytmabdfdmccbfnaa.Sq Go.Proofs.YtmabdfdmccbfnaaW.PrintWords Go.Proofs.YtmabdfdmccbfnaaW.PrintLast Go.Proofs.YtmabdfdmccbfnaaW.PrintMore
attribute [local go_sem] max2_int min2_int max_two min_two max_three min_three max_four min_four   -- for this text's walks alone
set_option linter.unusedVariables false
set_option linter.unusedSimpArgs false

/-! ### rec_Size: function 21 -/
def rec_Size.f (k : Nat) (a0_0 : Int) (a0_1 : Int) (a0_2 : ByteArray) (a0_3 : ByteArray) (a0_4 : Int) (a0_5 : Bool) : Option (Int × Int) := (rec_Check.f k a0_0 a0_1 a0_2 a0_3 a0_4 a0_5).bind fun t228 => (if t228 = 0 then (some (wrap64 ((wrap64 (25 + (a0_2.size : Int))) + (a0_3.size : Int)), 0)) else (some (0, t228)))
theorem rec_Size.mono : ∀ a0 a1 a2 a3 a4 a5 k, LeO (rec_Size.f k a0 a1 a2 a3 a4 a5) (rec_Size.f (k + 1) a0 a1 a2 a3 a4 a5) := by
 intro a0 a1 a2 a3 a4 a5 k
 unfold rec_Size.f
 repeat' first
  | (with_reducible exact rec_Check.mono _ _ _ _ _ _ _)
  | (with_reducible exact LeO.refl _)
  | (with_reducible exact LeO.none _)
  | (with_reducible refine LeO.ite ?_ ?_)
  | (with_reducible refine LeO.bind ?_ (fun _ => ?_))
  | exact rec_Check.mono _ _ _ _ _ _ _
  | exact LeO.none _
  | refine LeO.ite ?_ ?_
  | refine LeO.bind ?_ (fun _ => ?_)
set_option maxHeartbeats 8000000 in
set_option maxRecDepth 100000 in
theorem rec_Size.calls (k : Nat) (a0_0 : Int) (a0_1 : Int) (a0_2 : ByteArray) (a0_3 : ByteArray) (a0_4 : Int) (a0_5 : Bool) (r1 : Int) (r2 : Int) (w : World) (h : rec_Size.f k a0_0 a0_1 a0_2 a0_3 a0_4 a0_5 = some (r1, r2)) :
 Calls Try.prog 21 #[.agg #[.int .i64 a0_0, .int .i64 a0_1, .string a0_2, .string a0_3, .int .i64 a0_4, .bool a0_5]] w fun e w' => e = .returned (.tuple #[.int .i64 r1, .int .i64 r2]) ∧ Below w.heap.size w w' := by
 have hu25 := Try.underlying25
 have HB := Aside0.mk (Below.refl w.heap.size w)
 have H : ((rec_Check.f k a0_0 a0_1 a0_2 a0_3 a0_4 a0_5).bind fun t228 => (if t228 = 0 then (some (wrap64 ((wrap64 (25 + (a0_2.size : Int))) + (a0_3.size : Int)), 0)) else (some (0, t228)))) = some (r1, r2) := h
 clear h
 replace H := Option.bind_eq_some_iff.mp H
 obtain ⟨t228, A20, H⟩ := H
 replace H : (if t228 = 0 then (some (wrap64 ((wrap64 (25 + (a0_2.size : Int))) + (a0_3.size : Int)), 0)) else (some (0, t228))) = some (r1, r2) := H
 have A2 := Aside0.mk A20
 clear A20
 by_cases c3 : t228 = 0
 ·rw [if_pos c3] at H
  have c3b0 : (t228 == 0) = true := beq_iff_eq.mpr c3
  have c3b1 : (t228 != 0) = false := bne_eq_false_iff_eq.mpr c3
  clear c3
  simp only [Option.some.injEq, Prod.mk.injEq] at H
  obtain ⟨rfl, rfl⟩ := H
  go_enter Try.func21, Try.ntmps21
  go_wp2_with (first | ((with_reducible refine gate_dst (N := 1) rfl ?_); refine box_event ?hg (N := 1) ?hd (cs := #[.int .i64 a0_0, .int .i64 a0_1, .string a0_2, .string a0_3, .int .i64 a0_4, .bool a0_5]) (t := 25) ?hr ?_; (case hd => rfl); (case hg => rfl); (case hr => first | (go_simp; done) | (go_simp; rfl)); intro gb227 hg w4 hbox hb; have n0_ := Aside0.mk (below_step bo hb); have n1_ := Aside0.mk (hbox); have n2_ := Aside0.mk ((by rw [hg]; exact (below_size bo) : w.heap.size ≤ gb227)); have n3_ := Aside0.mk ((by rw [hg]; exact (below_size bo) : w.heap.size ≤ gb227)); clear HB; have HB := n0_; have BK227 := n1_; have GW227 := n2_; have GE227 := n3_; clear n0_ n1_ n2_ n3_; clear hb hbox hg; obtain ⟨hcz5_0, hcz5_1, hcz5_2, hcz5_3, hcz5_4, hcz5_5⟩ := cl6 BK227.out; obtain ⟨hfz5_0, hfz5_1, hfz5_2, hfz5_3, hfz5_4, hfz5_5⟩ := fz6 BK227.out) | ((with_reducible refine gate_callee (f := 22) rfl ?_); refine goesL_ (some 6) rfl rfl Try.func22 (by kernel_rfl) rfl #[.agg #[.int .i64 a0_0, .int .i64 a0_1, .string a0_2, .string a0_3, .int .i64 a0_4, .bool a0_5]] rfl aa ?_; (with_reducible refine (rec_Check.calls k a0_0 a0_1 a0_2 a0_3 a0_4 a0_5 t228 _ A2.out).mono ?_); rintro e w6 ⟨rfl, hb⟩; refine ⟨_, rfl, ?_⟩; replace BK227 := Aside0.mk (blk_below (g := gb227) (o := .cells #[.int .i64 a0_0, .int .i64 a0_1, .string a0_2, .string a0_3, .int .i64 a0_4, .bool a0_5] 25 (0, 0)) (bk BK227.out) hb); replace HB := Aside0.mk (below_step bo hb); (try clear hb); (try clear hb2); (try clear hk); (try clear hi); obtain ⟨hcz7_0, hcz7_1, hcz7_2, hcz7_3, hcz7_4, hcz7_5⟩ := cl6 BK227.out; obtain ⟨hfz7_0, hfz7_1, hfz7_2, hfz7_3, hfz7_4, hfz7_5⟩ := fz6 BK227.out))
  go_ret2
  exact ⟨er, bo⟩
 ·rw [if_neg c3] at H
  have c3b0 : (t228 == 0) = false := beq_eq_false_iff_ne.mpr c3
  have c3b1 : (t228 != 0) = true := bne_iff_ne.mpr c3
  simp only [Option.some.injEq, Prod.mk.injEq] at H
  obtain ⟨rfl, rfl⟩ := H
  go_enter Try.func21, Try.ntmps21
  go_wp2_with (first | ((with_reducible refine gate_dst (N := 1) rfl ?_); refine box_event ?hg (N := 1) ?hd (cs := #[.int .i64 a0_0, .int .i64 a0_1, .string a0_2, .string a0_3, .int .i64 a0_4, .bool a0_5]) (t := 25) ?hr ?_; (case hd => rfl); (case hg => rfl); (case hr => first | (go_simp; done) | (go_simp; rfl)); intro gb227 hg w8 hbox hb; have n0_ := Aside0.mk (below_step bo hb); have n1_ := Aside0.mk (hbox); have n2_ := Aside0.mk ((by rw [hg]; exact (below_size bo) : w.heap.size ≤ gb227)); have n3_ := Aside0.mk ((by rw [hg]; exact (below_size bo) : w.heap.size ≤ gb227)); clear HB; have HB := n0_; have BK227 := n1_; have GW227 := n2_; have GE227 := n3_; clear n0_ n1_ n2_ n3_; clear hb hbox hg; obtain ⟨hcz9_0, hcz9_1, hcz9_2, hcz9_3, hcz9_4, hcz9_5⟩ := cl6 BK227.out; obtain ⟨hfz9_0, hfz9_1, hfz9_2, hfz9_3, hfz9_4, hfz9_5⟩ := fz6 BK227.out) | ((with_reducible refine gate_callee (f := 22) rfl ?_); refine goesL_ (some 6) rfl rfl Try.func22 (by kernel_rfl) rfl #[.agg #[.int .i64 a0_0, .int .i64 a0_1, .string a0_2, .string a0_3, .int .i64 a0_4, .bool a0_5]] rfl aa ?_; (with_reducible refine (rec_Check.calls k a0_0 a0_1 a0_2 a0_3 a0_4 a0_5 t228 _ A2.out).mono ?_); rintro e w10 ⟨rfl, hb⟩; refine ⟨_, rfl, ?_⟩; replace BK227 := Aside0.mk (blk_below (g := gb227) (o := .cells #[.int .i64 a0_0, .int .i64 a0_1, .string a0_2, .string a0_3, .int .i64 a0_4, .bool a0_5] 25 (0, 0)) (bk BK227.out) hb); replace HB := Aside0.mk (below_step bo hb); (try clear hb); (try clear hb2); (try clear hk); (try clear hi)))
  go_ret2
  exact ⟨er, bo⟩

end Go.Proofs.Ytmabdfdmccbfnaa.P

-- written by a program of the proving session, out of the translation; Lean checks it
namespace Go.Proofs.Ytmabdfdmccbfnaa.P
open Go.RowKit Go.Proofs.Ytmabdfdmccbfnaa.Sq Go.Proofs.YtmabdfdmccbfnaaW.PrintWords Go.Proofs.YtmabdfdmccbfnaaW.PrintLast Go.Proofs.YtmabdfdmccbfnaaW.PrintMore
attribute [local go_sem] max2_int min2_int max_two min_two max_three min_three max_four min_four   -- for this text's walks alone
set_option linter.unusedVariables false
set_option linter.unusedSimpArgs false

/-! ### fairwaylaw10_RecBytes: function 4 -/
mutual
def fairwaylaw10_RecBytes.l0 : Nat → List (S38) → Int → Option (Bool)
 | 0, _, _ => none
 | k + 1, x0, x3 => if x3 < (x0.length : Int) then (fairwaylaw10_RecBytes.j1 k x0 x3 (decide (x3 < 10))) else (fairwaylaw10_RecBytes.j1 k x0 x3 false)
def fairwaylaw10_RecBytes.j1 : Nat → List (S38) → Int → Bool → Option (Bool)
 | 0, _, _, _ => none
 | k + 1, x0, x3, x19 => if x19 = true then (if 0 ≤ x3 then (if x3 < (x0.length : Int) then ((fairwaylaw10_heavy.f k ((rd_T38 x0 x3).f0) ((rd_T38 x0 x3).f1)).bind fun t231 => (if t231 = true then (some true) else (fairwaylaw10_RecBytes.l1 k x0 x3 0))) else (none)) else (none)) else ((fairwaylaw10_wakes.f k).bind fun t229 => (some t229))
def fairwaylaw10_RecBytes.l1 : Nat → List (S38) → Int → Int → Option (Bool)
 | 0, _, _, _ => none
 | k + 1, x0, x3, x4 => if 0 ≤ x3 then (if x3 < (x0.length : Int) then (if x4 < (((rd_T38 x0 x3).f0).length : Int) then (fairwaylaw10_RecBytes.j3 k x0 x3 x4 (decide (x4 < 10))) else (fairwaylaw10_RecBytes.j3 k x0 x3 x4 false)) else (none)) else (none)
def fairwaylaw10_RecBytes.j3 : Nat → List (S38) → Int → Int → Bool → Option (Bool)
 | 0, _, _, _, _ => none
 | k + 1, x0, x3, x4, x38 => if x38 = true then (if 0 ≤ x3 then (if x3 < (x0.length : Int) then (if 0 ≤ x4 then (if x4 < (((rd_T38 x0 x3).f0).length : Int) then ((fairwayref10_Rec.f ((rd_T25 ((rd_T38 x0 x3).f0) x4).f0) ((rd_T25 ((rd_T38 x0 x3).f0) x4).f1) ((rd_T25 ((rd_T38 x0 x3).f0) x4).f2) ((rd_T25 ((rd_T38 x0 x3).f0) x4).f3) ((rd_T25 ((rd_T38 x0 x3).f0) x4).f4) ((rd_T25 ((rd_T38 x0 x3).f0) x4).f5)).bind fun t236 => (if t236 = true then ((fairwayref10_Bytes.f k ((rd_T25 ((rd_T38 x0 x3).f0) x4).f0) ((rd_T25 ((rd_T38 x0 x3).f0) x4).f1) ((rd_T25 ((rd_T38 x0 x3).f0) x4).f2) ((rd_T25 ((rd_T38 x0 x3).f0) x4).f3) ((rd_T25 ((rd_T38 x0 x3).f0) x4).f4) ((rd_T25 ((rd_T38 x0 x3).f0) x4).f5)).bind fun t237 => (fairwaylaw10_RecBytes.j4 k x0 x3 x4 0 t237 ((rd_T25 ((rd_T38 x0 x3).f0) x4).f0) ((rd_T25 ((rd_T38 x0 x3).f0) x4).f1) ((rd_T25 ((rd_T38 x0 x3).f0) x4).f2) ((rd_T25 ((rd_T38 x0 x3).f0) x4).f3) ((rd_T25 ((rd_T38 x0 x3).f0) x4).f4) ((rd_T25 ((rd_T38 x0 x3).f0) x4).f5))) else (fairwaylaw10_RecBytes.j4 k x0 x3 x4 1 (⟨#[]⟩ : ByteArray) ((rd_T25 ((rd_T38 x0 x3).f0) x4).f0) ((rd_T25 ((rd_T38 x0 x3).f0) x4).f1) ((rd_T25 ((rd_T38 x0 x3).f0) x4).f2) ((rd_T25 ((rd_T38 x0 x3).f0) x4).f3) ((rd_T25 ((rd_T38 x0 x3).f0) x4).f4) ((rd_T25 ((rd_T38 x0 x3).f0) x4).f5)))) else (none)) else (none)) else (none)) else (none)) else (fairwaylaw10_RecBytes.l0 k x0 (wrap64 (x3 + 1)))
def fairwaylaw10_RecBytes.j4 : Nat → List (S38) → Int → Int → Int → ByteArray → Int → Int → ByteArray → ByteArray → Int → Bool → Option (Bool)
 | 0, _, _, _, _, _, _, _, _, _, _, _ => none
 | k + 1, x0, x3, x4, x6, x7, x236000, x236001, x236002, x236003, x236004, x236005 => (rec_Bytes.f k x236000 x236001 x236002 x236003 x236004 x236005).bind fun bt238 => ((rec_Size.f k x236000 x236001 x236002 x236003 x236004 x236005).bind fun bt240 => ((rec_Check.f k x236000 x236001 x236002 x236003 x236004 x236005).bind fun t242 => ((fairwaylaw10_num.f t242).bind fun t243 => (if t243 = x6 then ((fairwaylaw10_num.f bt238.2).bind fun t244 => (if t244 = x6 then ((fairwaylaw10_num.f bt240.2).bind fun t245 => (if t245 = x6 then (if bt238.1.toList = x7.toList then (if bt240.1 = (x7.size : Int) then (fairwaylaw10_RecBytes.l1 k x0 x3 (wrap64 (x4 + 1))) else (some false)) else (some false)) else (some false))) else (some false))) else (some false)))))
end
def fairwaylaw10_RecBytes.f (k : Nat) (l0 : List (S38)) : Option (Bool) := fairwaylaw10_RecBytes.l0 k l0 0
theorem fairwaylaw10_RecBytes.mono_l : ∀ k, (∀ y0 y1, LeO (fairwaylaw10_RecBytes.l0 k y0 y1) (fairwaylaw10_RecBytes.l0 (k + 1) y0 y1)) ∧ (∀ y0 y1 y2, LeO (fairwaylaw10_RecBytes.j1 k y0 y1 y2) (fairwaylaw10_RecBytes.j1 (k + 1) y0 y1 y2)) ∧ (∀ y0 y1 y2, LeO (fairwaylaw10_RecBytes.l1 k y0 y1 y2) (fairwaylaw10_RecBytes.l1 (k + 1) y0 y1 y2)) ∧ (∀ y0 y1 y2 y3, LeO (fairwaylaw10_RecBytes.j3 k y0 y1 y2 y3) (fairwaylaw10_RecBytes.j3 (k + 1) y0 y1 y2 y3)) ∧ (∀ y0 y1 y2 y3 y4 y5 y6 y7 y8 y9 y10, LeO (fairwaylaw10_RecBytes.j4 k y0 y1 y2 y3 y4 y5 y6 y7 y8 y9 y10) (fairwaylaw10_RecBytes.j4 (k + 1) y0 y1 y2 y3 y4 y5 y6 y7 y8 y9 y10))
 | 0 => ⟨fun _ _ r h => by simp [fairwaylaw10_RecBytes.l0] at h, fun _ _ _ r h => by simp [fairwaylaw10_RecBytes.j1] at h, fun _ _ _ r h => by simp [fairwaylaw10_RecBytes.l1] at h, fun _ _ _ _ r h => by simp [fairwaylaw10_RecBytes.j3] at h, fun _ _ _ _ _ _ _ _ _ _ _ r h => by simp [fairwaylaw10_RecBytes.j4] at h⟩
 | k + 1 => by
  obtain ⟨ih0, ih1, ih2, ih3, ih4⟩ := fairwaylaw10_RecBytes.mono_l k
  refine ⟨?_, ?_, ?_, ?_, ?_⟩
  ·intro y0 y1
   unfold fairwaylaw10_RecBytes.l0
   repeat' first
   | (with_reducible exact ih0 _ _)
   | (with_reducible exact ih1 _ _ _)
   | (with_reducible exact ih2 _ _ _)
   | (with_reducible exact ih3 _ _ _ _)
   | (with_reducible exact ih4 _ _ _ _ _ _ _ _ _ _ _)
   | (with_reducible exact fairwaylaw10_heavy.mono _ _ _)
   | (with_reducible exact fairwaylaw10_wakes.mono _)
   | (with_reducible exact fairwayref10_Bytes.mono _ _ _ _ _ _ _)
   | (with_reducible exact rec_Bytes.mono _ _ _ _ _ _ _)
   | (with_reducible exact rec_Check.mono _ _ _ _ _ _ _)
   | (with_reducible exact rec_Size.mono _ _ _ _ _ _ _)
   | (with_reducible exact LeO.refl _)
   | (with_reducible exact LeO.none _)
   | (with_reducible refine LeO.ite ?_ ?_)
   | (with_reducible refine LeO.bind ?_ (fun _ => ?_))
   | exact ih0 _ _
   | exact ih1 _ _ _
   | exact ih2 _ _ _
   | exact ih3 _ _ _ _
   | exact ih4 _ _ _ _ _ _ _ _ _ _ _
   | exact fairwaylaw10_heavy.mono _ _ _
   | exact fairwaylaw10_wakes.mono _
   | exact fairwayref10_Bytes.mono _ _ _ _ _ _ _
   | exact rec_Bytes.mono _ _ _ _ _ _ _
   | exact rec_Check.mono _ _ _ _ _ _ _
   | exact rec_Size.mono _ _ _ _ _ _ _
   | exact LeO.none _
   | refine LeO.ite ?_ ?_
   | refine LeO.bind ?_ (fun _ => ?_)
  ·intro y0 y1 y2
   unfold fairwaylaw10_RecBytes.j1
   repeat' first
   | (with_reducible exact ih0 _ _)
   | (with_reducible exact ih1 _ _ _)
   | (with_reducible exact ih2 _ _ _)
   | (with_reducible exact ih3 _ _ _ _)
   | (with_reducible exact ih4 _ _ _ _ _ _ _ _ _ _ _)
   | (with_reducible exact fairwaylaw10_heavy.mono _ _ _)
   | (with_reducible exact fairwaylaw10_wakes.mono _)
   | (with_reducible exact fairwayref10_Bytes.mono _ _ _ _ _ _ _)
   | (with_reducible exact rec_Bytes.mono _ _ _ _ _ _ _)
   | (with_reducible exact rec_Check.mono _ _ _ _ _ _ _)
   | (with_reducible exact rec_Size.mono _ _ _ _ _ _ _)
   | (with_reducible exact LeO.refl _)
   | (with_reducible exact LeO.none _)
   | (with_reducible refine LeO.ite ?_ ?_)
   | (with_reducible refine LeO.bind ?_ (fun _ => ?_))
   | exact ih0 _ _
   | exact ih1 _ _ _
   | exact ih2 _ _ _
   | exact ih3 _ _ _ _
   | exact ih4 _ _ _ _ _ _ _ _ _ _ _
   | exact fairwaylaw10_heavy.mono _ _ _
   | exact fairwaylaw10_wakes.mono _
   | exact fairwayref10_Bytes.mono _ _ _ _ _ _ _
   | exact rec_Bytes.mono _ _ _ _ _ _ _
   | exact rec_Check.mono _ _ _ _ _ _ _
   | exact rec_Size.mono _ _ _ _ _ _ _
   | exact LeO.none _
   | refine LeO.ite ?_ ?_
   | refine LeO.bind ?_ (fun _ => ?_)
  ·intro y0 y1 y2
   unfold fairwaylaw10_RecBytes.l1
   repeat' first
   | (with_reducible exact ih0 _ _)
   | (with_reducible exact ih1 _ _ _)
   | (with_reducible exact ih2 _ _ _)
   | (with_reducible exact ih3 _ _ _ _)
   | (with_reducible exact ih4 _ _ _ _ _ _ _ _ _ _ _)
   | (with_reducible exact fairwaylaw10_heavy.mono _ _ _)
   | (with_reducible exact fairwaylaw10_wakes.mono _)
   | (with_reducible exact fairwayref10_Bytes.mono _ _ _ _ _ _ _)
   | (with_reducible exact rec_Bytes.mono _ _ _ _ _ _ _)
   | (with_reducible exact rec_Check.mono _ _ _ _ _ _ _)
   | (with_reducible exact rec_Size.mono _ _ _ _ _ _ _)
   | (with_reducible exact LeO.refl _)
   | (with_reducible exact LeO.none _)
   | (with_reducible refine LeO.ite ?_ ?_)
   | (with_reducible refine LeO.bind ?_ (fun _ => ?_))
   | exact ih0 _ _
   | exact ih1 _ _ _
   | exact ih2 _ _ _
   | exact ih3 _ _ _ _
   | exact ih4 _ _ _ _ _ _ _ _ _ _ _
   | exact fairwaylaw10_heavy.mono _ _ _
   | exact fairwaylaw10_wakes.mono _
   | exact fairwayref10_Bytes.mono _ _ _ _ _ _ _
   | exact rec_Bytes.mono _ _ _ _ _ _ _
   | exact rec_Check.mono _ _ _ _ _ _ _
   | exact rec_Size.mono _ _ _ _ _ _ _
   | exact LeO.none _
   | refine LeO.ite ?_ ?_
   | refine LeO.bind ?_ (fun _ => ?_)
  ·intro y0 y1 y2 y3
   unfold fairwaylaw10_RecBytes.j3
   repeat' first
   | (with_reducible exact ih0 _ _)
   | (with_reducible exact ih1 _ _ _)
   | (with_reducible exact ih2 _ _ _)
   | (with_reducible exact ih3 _ _ _ _)
   | (with_reducible exact ih4 _ _ _ _ _ _ _ _ _ _ _)
   | (with_reducible exact fairwaylaw10_heavy.mono _ _ _)
   | (with_reducible exact fairwaylaw10_wakes.mono _)
   | (with_reducible exact fairwayref10_Bytes.mono _ _ _ _ _ _ _)
   | (with_reducible exact rec_Bytes.mono _ _ _ _ _ _ _)
   | (with_reducible exact rec_Check.mono _ _ _ _ _ _ _)
   | (with_reducible exact rec_Size.mono _ _ _ _ _ _ _)
   | (with_reducible exact LeO.refl _)
   | (with_reducible exact LeO.none _)
   | (with_reducible refine LeO.ite ?_ ?_)
   | (with_reducible refine LeO.bind ?_ (fun _ => ?_))
   | exact ih0 _ _
   | exact ih1 _ _ _
   | exact ih2 _ _ _
   | exact ih3 _ _ _ _
   | exact ih4 _ _ _ _ _ _ _ _ _ _ _
   | exact fairwaylaw10_heavy.mono _ _ _
   | exact fairwaylaw10_wakes.mono _
   | exact fairwayref10_Bytes.mono _ _ _ _ _ _ _
   | exact rec_Bytes.mono _ _ _ _ _ _ _
   | exact rec_Check.mono _ _ _ _ _ _ _
   | exact rec_Size.mono _ _ _ _ _ _ _
   | exact LeO.none _
   | refine LeO.ite ?_ ?_
   | refine LeO.bind ?_ (fun _ => ?_)
  ·intro y0 y1 y2 y3 y4 y5 y6 y7 y8 y9 y10
   unfold fairwaylaw10_RecBytes.j4
   repeat' first
   | (with_reducible exact ih0 _ _)
   | (with_reducible exact ih1 _ _ _)
   | (with_reducible exact ih2 _ _ _)
   | (with_reducible exact ih3 _ _ _ _)
   | (with_reducible exact ih4 _ _ _ _ _ _ _ _ _ _ _)
   | (with_reducible exact fairwaylaw10_heavy.mono _ _ _)
   | (with_reducible exact fairwaylaw10_wakes.mono _)
   | (with_reducible exact fairwayref10_Bytes.mono _ _ _ _ _ _ _)
   | (with_reducible exact rec_Bytes.mono _ _ _ _ _ _ _)
   | (with_reducible exact rec_Check.mono _ _ _ _ _ _ _)
   | (with_reducible exact rec_Size.mono _ _ _ _ _ _ _)
   | (with_reducible exact LeO.refl _)
   | (with_reducible exact LeO.none _)
   | (with_reducible refine LeO.ite ?_ ?_)
   | (with_reducible refine LeO.bind ?_ (fun _ => ?_))
   | exact ih0 _ _
   | exact ih1 _ _ _
   | exact ih2 _ _ _
   | exact ih3 _ _ _ _
   | exact ih4 _ _ _ _ _ _ _ _ _ _ _
   | exact fairwaylaw10_heavy.mono _ _ _
   | exact fairwaylaw10_wakes.mono _
   | exact fairwayref10_Bytes.mono _ _ _ _ _ _ _
   | exact rec_Bytes.mono _ _ _ _ _ _ _
   | exact rec_Check.mono _ _ _ _ _ _ _
   | exact rec_Size.mono _ _ _ _ _ _ _
   | exact LeO.none _
   | refine LeO.ite ?_ ?_
   | refine LeO.bind ?_ (fun _ => ?_)
theorem fairwaylaw10_RecBytes.mono : ∀ a0 k, LeO (fairwaylaw10_RecBytes.f k a0) (fairwaylaw10_RecBytes.f (k + 1) a0) := by
 intro a0 k
 obtain ⟨ih0, ih1, ih2, ih3, ih4⟩ := fairwaylaw10_RecBytes.mono_l k
 unfold fairwaylaw10_RecBytes.f
 repeat' first
  | (with_reducible exact ih0 _ _)
  | (with_reducible exact ih1 _ _ _)
  | (with_reducible exact ih2 _ _ _)
  | (with_reducible exact ih3 _ _ _ _)
  | (with_reducible exact ih4 _ _ _ _ _ _ _ _ _ _ _)
  | (with_reducible exact fairwaylaw10_heavy.mono _ _ _)
  | (with_reducible exact fairwaylaw10_wakes.mono _)
  | (with_reducible exact fairwayref10_Bytes.mono _ _ _ _ _ _ _)
  | (with_reducible exact rec_Bytes.mono _ _ _ _ _ _ _)
  | (with_reducible exact rec_Check.mono _ _ _ _ _ _ _)
  | (with_reducible exact rec_Size.mono _ _ _ _ _ _ _)
  | (with_reducible exact LeO.refl _)
  | (with_reducible exact LeO.none _)
  | (with_reducible refine LeO.ite ?_ ?_)
  | (with_reducible refine LeO.bind ?_ (fun _ => ?_))
  | exact ih0 _ _
  | exact ih1 _ _ _
  | exact ih2 _ _ _
  | exact ih3 _ _ _ _
  | exact ih4 _ _ _ _ _ _ _ _ _ _ _
  | exact fairwaylaw10_heavy.mono _ _ _
  | exact fairwaylaw10_wakes.mono _
  | exact fairwayref10_Bytes.mono _ _ _ _ _ _ _
  | exact rec_Bytes.mono _ _ _ _ _ _ _
  | exact rec_Check.mono _ _ _ _ _ _ _
  | exact rec_Size.mono _ _ _ _ _ _ _
  | exact LeO.none _
  | refine LeO.ite ?_ ?_
  | refine LeO.bind ?_ (fun _ => ?_)
set_option maxHeartbeats 8000000 in
set_option maxRecDepth 100000 in
theorem fairwaylaw10_RecBytes.calls (k : Nat) (A0 : Option Addr) (c0 : Nat) (l0 : List (S38)) (r : Bool) (w : World) (hr0 : Kd.C k38 w A0 l0.length l0) (hc0 : l0.length ≤ c0) (h : fairwaylaw10_RecBytes.f k l0 = some r) :
 Calls Try.prog 4 #[.slice A0 l0.length c0] w fun e w' => e = .returned (.bool r) ∧ Below w.heap.size w w' := by
 have hu38 := Try.underlying38
 have hu25 := Try.underlying25
 have HR0 := Aside0.mk hr0
 have HC0 := Aside0.mk hc0
 clear hr0 hc0
 have HB := Aside0.mk (Below.refl w.heap.size w)
 have H : (fairwaylaw10_RecBytes.l0 k l0 0) = some r := h
 clear h
 have H' := Aside0.mk H
 clear H
 go_enter Try.func4, Try.ntmps4
 go_wp2
 go_loopg [3] k (fun kq v3 w' => ∃ (x3_1 : Int), v3 = .int .i64 x3_1 ∧ Aside0 (fairwaylaw10_RecBytes.l0 kq l0 x3_1 = some r) ∧ Aside0 (kq ≤ k) ∧ Aside0 (Below w.heap.size w w'))
 case atStart => exact ⟨(0), ap, H', ⟨Nat.le_refl _⟩, ⟨bo⟩⟩
 case round =>
  clear H'
  obtain ⟨x3_1, rfl, HA, HK1, HB⟩ := hrel
  cases gk with
  | zero => exact absurd HA.out (by simp [fairwaylaw10_RecBytes.l0])
  | succ k1 =>
   have H := HA.out
   clear HA
   simp only [fairwaylaw10_RecBytes.l0] at H
   have HC2 := Aside0.mk H
   clear H
   go_upto_region 2 with (fail)
   go_cut [19] (fun v19 wc => ∃ (kq : Nat) (x19_1 : Bool), v19 = .bool x19_1 ∧ Aside0 (fairwaylaw10_RecBytes.j1 kq l0 x3_1 x19_1 = some r) ∧ Aside0 (kq ≤ k1) ∧ Aside0 (Below w.heap.size w wc))
   case first =>
    have H := HC2.out
    clear HC2
    by_cases c3 : x3_1 < (l0.length : Int)
    ·rw [if_pos c3] at H
     have c3b0 : decide (x3_1 < (l0.length : Int)) = true := decide_eq_true c3
     clear c3
     (first | rw [c3b0] | (simp only [i64_w, i32_w]; rw [c3b0]) | skip)
     have H' := Aside0.mk H
     clear H
     go_wp2
     go_meet
     case rel => exact ⟨_, (decide (x3_1 < 10)), ap, H', ⟨by have := HK1.out; first | omega | exact Nat.le_refl _⟩, ⟨bo⟩⟩
    ·rw [if_neg c3] at H
     have c3b0 : decide (x3_1 < (l0.length : Int)) = false := decide_eq_false c3
     clear c3
     (first | rw [c3b0] | (simp only [i64_w, i32_w]; rw [c3b0]) | skip)
     have H' := Aside0.mk H
     clear H
     go_wp2
     go_meet
     case rel => exact ⟨_, (false), ap, H', ⟨by have := HK1.out; first | omega | exact Nat.le_refl _⟩, ⟨bo⟩⟩
   case rest =>
    clear HC2
    try clear p2
    try clear c3
    try clear c3b0
    obtain ⟨kq, x19_1, rfl, HA, HJ1, HB⟩ := hcut
    cases kq with
    | zero => exact absurd HA.out (by simp [fairwaylaw10_RecBytes.j1])
    | succ kj1 =>
     have H := HA.out
     clear HA
     simp only [fairwaylaw10_RecBytes.j1] at H
     by_cases c4 : x19_1 = true
     ·subst c4
      have H1 : (if 0 ≤ x3_1 then (if x3_1 < (l0.length : Int) then ((fairwaylaw10_heavy.f kj1 ((rd_T38 l0 x3_1).f0) ((rd_T38 l0 x3_1).f1)).bind fun t231 => (if t231 = true then (some true) else (fairwaylaw10_RecBytes.l1 kj1 l0 x3_1 0))) else (none)) else (none)) = some r := by rw [if_pos rfl] at H; exact H
      clear H
      have H := H1
      clear H1
      by_cases c5 : 0 ≤ x3_1
      ·rw [if_pos c5] at H
       have c5b0 : decide (0 ≤ x3_1) = true := decide_eq_true c5
       clear c5
       by_cases c6 : x3_1 < (l0.length : Int)
       ·rw [if_pos c6] at H
        have c6b0 : decide (x3_1 < (l0.length : Int)) = true := decide_eq_true c6
        clear c6
        replace H := Option.bind_eq_some_iff.mp H
        obtain ⟨t231, A70, H⟩ := H
        replace H : (if t231 = true then (some true) else (fairwaylaw10_RecBytes.l1 kj1 l0 x3_1 0)) = some r := H
        have A7 := Aside0.mk A70
        clear A70
        by_cases c8 : t231 = true
        ·subst c8
         have H1 : (some true) = some r := by rw [if_pos rfl] at H; exact H
         clear H
         have H := H1
         clear H1
         obtain rfl := Option.some.inj H
         have p230 : 0 ≤ (x3_1 : Int) := od
         have q230 : x3_1 < (l0.length : Int) := od
         obtain ⟨ad230, A230_0, c230_0, e230, hx230_0, hx230_1, hl230_0, hi230_0⟩ := at_T38 HR0.out x3_1 p230 q230
         cases e230
         replace hx230_0 := cx HB.out hx230_0
         replace hx230_1 := cx HB.out hx230_1
         have HR230_0 := Aside0.mk hi230_0
         have HC230_0 := Aside0.mk hl230_0
         clear hi230_0 hl230_0
         replace p230 := eq_true p230
         replace q230 := eq_true q230
         go_wp2_with (first | ((with_reducible refine gate_callee (f := 19) rfl ?_); refine goesL_ (some 26) rfl rfl Try.func19 (by kernel_rfl) rfl #[.agg #[.slice A230_0 ((rd_T38 l0 x3_1).f0).length c230_0, .string ((rd_T38 l0 x3_1).f1)]] rfl aa ?_; (with_reducible refine (fairwaylaw10_heavy.calls kj1 _ _ ((rd_T38 l0 x3_1).f0) ((rd_T38 l0 x3_1).f1) true _ ?side1 ?side2 A7.out).mono ?_); (case side1 => repeat (first | exact (Kd.C_below HR230_0.out HB.out) | (with_reducible refine Kd.C_alloc ?_ _) | (with_reducible refine Kd.C_drewN ?_ _) | (with_reducible refine Kd.C_drew ?_))); (case side2 => exact HC230_0.out); rintro e w9 ⟨rfl, hb⟩; refine ⟨_, rfl, ?_⟩; replace HB := Aside0.mk (below_step bo hb); (try clear hb); (try clear hb2); (try clear hk); (try clear hi)))
         go_ret
         exact ⟨er, bo⟩
        ·replace c8 := Bool.eq_false_iff.mpr c8
         subst c8
         have H1 : (fairwaylaw10_RecBytes.l1 kj1 l0 x3_1 0) = some r := by rw [if_neg (show ¬ (false = true) by decide)] at H; exact H
         clear H
         have H := H1
         clear H1
         have H' := Aside0.mk H
         clear H
         have p230 : 0 ≤ (x3_1 : Int) := od
         have q230 : x3_1 < (l0.length : Int) := od
         obtain ⟨ad230, A230_0, c230_0, e230, hx230_0, hx230_1, hl230_0, hi230_0⟩ := at_T38 HR0.out x3_1 p230 q230
         cases e230
         replace hx230_0 := cx HB.out hx230_0
         replace hx230_1 := cx HB.out hx230_1
         have HR230_0 := Aside0.mk hi230_0
         have HC230_0 := Aside0.mk hl230_0
         clear hi230_0 hl230_0
         replace p230 := eq_true p230
         replace q230 := eq_true q230
         go_wp2_with (first | ((with_reducible refine gate_callee (f := 19) rfl ?_); refine goesL_ (some 26) rfl rfl Try.func19 (by kernel_rfl) rfl #[.agg #[.slice A230_0 ((rd_T38 l0 x3_1).f0).length c230_0, .string ((rd_T38 l0 x3_1).f1)]] rfl aa ?_; (with_reducible refine (fairwaylaw10_heavy.calls kj1 _ _ ((rd_T38 l0 x3_1).f0) ((rd_T38 l0 x3_1).f1) false _ ?side1 ?side2 A7.out).mono ?_); (case side1 => repeat (first | exact (Kd.C_below HR230_0.out HB.out) | (with_reducible refine Kd.C_alloc ?_ _) | (with_reducible refine Kd.C_drewN ?_ _) | (with_reducible refine Kd.C_drew ?_))); (case side2 => exact HC230_0.out); rintro e w10 ⟨rfl, hb⟩; refine ⟨_, rfl, ?_⟩; replace HB := Aside0.mk (below_step bo hb); (try clear hb); (try clear hb2); (try clear hk); (try clear hi)))
         go_loopg [4] kj1 (fun kq v4 w' => ∃ (x4_3 : Int), v4 = .int .i64 x4_3 ∧ Aside0 (fairwaylaw10_RecBytes.l1 kq l0 x3_1 x4_3 = some r) ∧ Aside0 (kq ≤ kj1) ∧ Aside0 (Below w.heap.size w w'))
         case atStart => exact ⟨(0), ap, H', ⟨Nat.le_refl _⟩, ⟨bo⟩⟩
         case round =>
          clear H'
          try clear c1
          try clear c2
          try clear p2
          try clear q2
          try clear hx2
          try clear c3
          try clear c3b0
          try clear c4
          try clear c5
          try clear c5b0
          try clear c6
          try clear c6b0
          try clear c8
          try clear hx230_0
          try clear hx230_1
          try clear p2
          try clear p230
          try clear q230
          obtain ⟨x4_3, rfl, HA, HK3, HB⟩ := hrel
          cases gk with
          | zero => exact absurd HA.out (by simp [fairwaylaw10_RecBytes.l1])
          | succ k3 =>
           have H := HA.out
           clear HA
           simp only [fairwaylaw10_RecBytes.l1] at H
           have HC11 := Aside0.mk H
           clear H
           go_upto_region 7 with (fail)
           go_cut [38] (fun v38 wc => ∃ (kq : Nat) (x38_10 : Bool), v38 = .bool x38_10 ∧ Aside0 (fairwaylaw10_RecBytes.j3 kq l0 x3_1 x4_3 x38_10 = some r) ∧ Aside0 (kq ≤ k3) ∧ Aside0 (Below w.heap.size w wc))
           case first =>
            have H := HC11.out
            clear HC11
            by_cases c12 : 0 ≤ x3_1
            ·rw [if_pos c12] at H
             have c12b0 : decide (0 ≤ x3_1) = true := decide_eq_true c12
             clear c12
             (first | rw [c12b0] | (simp only [i64_w, i32_w]; rw [c12b0]) | skip)
             by_cases c13 : x3_1 < (l0.length : Int)
             ·rw [if_pos c13] at H
              have c13b0 : decide (x3_1 < (l0.length : Int)) = true := decide_eq_true c13
              clear c13
              by_cases c14 : x4_3 < (((rd_T38 l0 x3_1).f0).length : Int)
              ·rw [if_pos c14] at H
               have c14b0 : decide (x4_3 < (((rd_T38 l0 x3_1).f0).length : Int)) = true := decide_eq_true c14
               clear c14
               have H' := Aside0.mk H
               clear H
               have p232 : 0 ≤ (x3_1 : Int) := od
               have q232 : x3_1 < (l0.length : Int) := od
               obtain ⟨ad232, A232_0, c232_0, e232, hx232_0, hx232_1, hl232_0, hi232_0⟩ := at_T38 HR0.out x3_1 p232 q232
               obtain rfl : ad230 = ad232 := (by injection e232)
               replace hx232_0 := cx HB.out hx232_0
               replace hx232_1 := cx HB.out hx232_1
               have HR232_0 := Aside0.mk hi232_0
               have HC232_0 := Aside0.mk hl232_0
               clear hi232_0 hl232_0
               replace p232 := eq_true p232
               replace q232 := eq_true q232
               go_wp2
               go_meet
               case rel => exact ⟨_, (decide (x4_3 < 10)), ap, H', ⟨by have := HK1.out; have := HJ1.out; have := HK3.out; first | omega | exact Nat.le_refl _⟩, ⟨bo⟩⟩
              ·rw [if_neg c14] at H
               have c14b0 : decide (x4_3 < (((rd_T38 l0 x3_1).f0).length : Int)) = false := decide_eq_false c14
               clear c14
               have H' := Aside0.mk H
               clear H
               have p232 : 0 ≤ (x3_1 : Int) := od
               have q232 : x3_1 < (l0.length : Int) := od
               obtain ⟨ad232, A232_0, c232_0, e232, hx232_0, hx232_1, hl232_0, hi232_0⟩ := at_T38 HR0.out x3_1 p232 q232
               obtain rfl : ad230 = ad232 := (by injection e232)
               replace hx232_0 := cx HB.out hx232_0
               replace hx232_1 := cx HB.out hx232_1
               have HR232_0 := Aside0.mk hi232_0
               have HC232_0 := Aside0.mk hl232_0
               clear hi232_0 hl232_0
               replace p232 := eq_true p232
               replace q232 := eq_true q232
               go_wp2
               go_meet
               case rel => exact ⟨_, (false), ap, H', ⟨by have := HK1.out; have := HJ1.out; have := HK3.out; first | omega | exact Nat.le_refl _⟩, ⟨bo⟩⟩
             ·rw [if_neg c13] at H
              exact absurd H (by simp)
            ·rw [if_neg c12] at H
             exact absurd H (by simp)
           case rest =>
            clear HC11
            try clear c1
            try clear c2
            try clear p2
            try clear q2
            try clear hx2
            try clear c3
            try clear c3b0
            try clear c4
            try clear c5
            try clear c5b0
            try clear c6
            try clear c6b0
            try clear c8
            try clear c12
            try clear c12b0
            try clear c13
            try clear c13b0
            try clear c14
            try clear c14b0
            try clear hx230_0
            try clear hx230_1
            try clear hx232_0
            try clear hx232_1
            try clear p2
            try clear p230
            try clear p232
            try clear q2
            try clear q230
            try clear q232
            obtain ⟨kq, x38_10, rfl, HA, HJ10, HB⟩ := hcut
            cases kq with
            | zero => exact absurd HA.out (by simp [fairwaylaw10_RecBytes.j3])
            | succ kj10 =>
             have H := HA.out
             clear HA
             simp only [fairwaylaw10_RecBytes.j3] at H
             by_cases c15 : x38_10 = true
             ·subst c15
              have H1 : (if 0 ≤ x3_1 then (if x3_1 < (l0.length : Int) then (if 0 ≤ x4_3 then (if x4_3 < (((rd_T38 l0 x3_1).f0).length : Int) then ((fairwayref10_Rec.f ((rd_T25 ((rd_T38 l0 x3_1).f0) x4_3).f0) ((rd_T25 ((rd_T38 l0 x3_1).f0) x4_3).f1) ((rd_T25 ((rd_T38 l0 x3_1).f0) x4_3).f2) ((rd_T25 ((rd_T38 l0 x3_1).f0) x4_3).f3) ((rd_T25 ((rd_T38 l0 x3_1).f0) x4_3).f4) ((rd_T25 ((rd_T38 l0 x3_1).f0) x4_3).f5)).bind fun t236 => (if t236 = true then ((fairwayref10_Bytes.f kj10 ((rd_T25 ((rd_T38 l0 x3_1).f0) x4_3).f0) ((rd_T25 ((rd_T38 l0 x3_1).f0) x4_3).f1) ((rd_T25 ((rd_T38 l0 x3_1).f0) x4_3).f2) ((rd_T25 ((rd_T38 l0 x3_1).f0) x4_3).f3) ((rd_T25 ((rd_T38 l0 x3_1).f0) x4_3).f4) ((rd_T25 ((rd_T38 l0 x3_1).f0) x4_3).f5)).bind fun t237 => (fairwaylaw10_RecBytes.j4 kj10 l0 x3_1 x4_3 0 t237 ((rd_T25 ((rd_T38 l0 x3_1).f0) x4_3).f0) ((rd_T25 ((rd_T38 l0 x3_1).f0) x4_3).f1) ((rd_T25 ((rd_T38 l0 x3_1).f0) x4_3).f2) ((rd_T25 ((rd_T38 l0 x3_1).f0) x4_3).f3) ((rd_T25 ((rd_T38 l0 x3_1).f0) x4_3).f4) ((rd_T25 ((rd_T38 l0 x3_1).f0) x4_3).f5))) else (fairwaylaw10_RecBytes.j4 kj10 l0 x3_1 x4_3 1 (⟨#[]⟩ : ByteArray) ((rd_T25 ((rd_T38 l0 x3_1).f0) x4_3).f0) ((rd_T25 ((rd_T38 l0 x3_1).f0) x4_3).f1) ((rd_T25 ((rd_T38 l0 x3_1).f0) x4_3).f2) ((rd_T25 ((rd_T38 l0 x3_1).f0) x4_3).f3) ((rd_T25 ((rd_T38 l0 x3_1).f0) x4_3).f4) ((rd_T25 ((rd_T38 l0 x3_1).f0) x4_3).f5)))) else (none)) else (none)) else (none)) else (none)) = some r := by rw [if_pos rfl] at H; exact H
              clear H
              have H := H1
              clear H1
              by_cases c16 : 0 ≤ x3_1
              ·rw [if_pos c16] at H
               have c16b0 : decide (0 ≤ x3_1) = true := decide_eq_true c16
               clear c16
               by_cases c17 : x3_1 < (l0.length : Int)
               ·rw [if_pos c17] at H
                have c17b0 : decide (x3_1 < (l0.length : Int)) = true := decide_eq_true c17
                clear c17
                by_cases c18 : 0 ≤ x4_3
                ·rw [if_pos c18] at H
                 have c18b0 : decide (0 ≤ x4_3) = true := decide_eq_true c18
                 clear c18
                 by_cases c19 : x4_3 < (((rd_T38 l0 x3_1).f0).length : Int)
                 ·rw [if_pos c19] at H
                  have c19b0 : decide (x4_3 < (((rd_T38 l0 x3_1).f0).length : Int)) = true := decide_eq_true c19
                  clear c19
                  replace H := Option.bind_eq_some_iff.mp H
                  obtain ⟨t236, A200, H⟩ := H
                  replace H : (if t236 = true then ((fairwayref10_Bytes.f kj10 ((rd_T25 ((rd_T38 l0 x3_1).f0) x4_3).f0) ((rd_T25 ((rd_T38 l0 x3_1).f0) x4_3).f1) ((rd_T25 ((rd_T38 l0 x3_1).f0) x4_3).f2) ((rd_T25 ((rd_T38 l0 x3_1).f0) x4_3).f3) ((rd_T25 ((rd_T38 l0 x3_1).f0) x4_3).f4) ((rd_T25 ((rd_T38 l0 x3_1).f0) x4_3).f5)).bind fun t237 => (fairwaylaw10_RecBytes.j4 kj10 l0 x3_1 x4_3 0 t237 ((rd_T25 ((rd_T38 l0 x3_1).f0) x4_3).f0) ((rd_T25 ((rd_T38 l0 x3_1).f0) x4_3).f1) ((rd_T25 ((rd_T38 l0 x3_1).f0) x4_3).f2) ((rd_T25 ((rd_T38 l0 x3_1).f0) x4_3).f3) ((rd_T25 ((rd_T38 l0 x3_1).f0) x4_3).f4) ((rd_T25 ((rd_T38 l0 x3_1).f0) x4_3).f5))) else (fairwaylaw10_RecBytes.j4 kj10 l0 x3_1 x4_3 1 (⟨#[]⟩ : ByteArray) ((rd_T25 ((rd_T38 l0 x3_1).f0) x4_3).f0) ((rd_T25 ((rd_T38 l0 x3_1).f0) x4_3).f1) ((rd_T25 ((rd_T38 l0 x3_1).f0) x4_3).f2) ((rd_T25 ((rd_T38 l0 x3_1).f0) x4_3).f3) ((rd_T25 ((rd_T38 l0 x3_1).f0) x4_3).f4) ((rd_T25 ((rd_T38 l0 x3_1).f0) x4_3).f5))) = some r := H
                  have A20 := Aside0.mk A200
                  clear A200
                  have HC21 := Aside0.mk H
                  clear H
                  have p233 : 0 ≤ (x3_1 : Int) := od
                  have q233 : x3_1 < (l0.length : Int) := od
                  obtain ⟨ad233, A233_0, c233_0, e233, hx233_0, hx233_1, hl233_0, hi233_0⟩ := at_T38 HR0.out x3_1 p233 q233
                  obtain rfl : ad230 = ad233 := (by injection e233)
                  replace hx233_0 := cx HB.out hx233_0
                  replace hx233_1 := cx HB.out hx233_1
                  have HR233_0 := Aside0.mk hi233_0
                  have HC233_0 := Aside0.mk hl233_0
                  clear hi233_0 hl233_0
                  replace p233 := eq_true p233
                  replace q233 := eq_true q233
                  have p234 : 0 ≤ (x4_3 : Int) := od
                  have q234 : x4_3 < (((rd_T38 l0 x3_1).f0).length : Int) := od
                  obtain ⟨ad234, e234, hx234_0, hx234_1, hx234_2, hx234_3, hx234_4, hx234_5⟩ := at_T25 HR233_0.out x4_3 p234 q234
                  cases e234
                  replace hx234_0 := cx HB.out hx234_0
                  replace hx234_1 := cx HB.out hx234_1
                  replace hx234_2 := cx HB.out hx234_2
                  replace hx234_3 := cx HB.out hx234_3
                  replace hx234_4 := cx HB.out hx234_4
                  replace hx234_5 := cx HB.out hx234_5
                  replace p234 := eq_true p234
                  replace q234 := eq_true q234
                  go_upto_if 50 with (first | ((with_reducible refine gate_dst (N := 5) rfl ?_); (try (refine gate_guard (by rfl) ?_; dsimp only)); refine box_event ?hg (N := 5) ?hd (cs := #[.int .i64 0, .int .i64 0, .string (⟨#[]⟩ : ByteArray), .string (⟨#[]⟩ : ByteArray), .int .i64 0, .bool false]) (t := 25) ?hr ?_; (case hd => rfl); (case hg => rfl); (case hr => first | (go_simp; done) | (go_simp; rfl)); intro gb235 hg w22 hbox hb; have n0_ := Aside0.mk (below_step bo hb); have n1_ := Aside0.mk (hbox); have n2_ := Aside0.mk ((by rw [hg]; exact (below_size bo) : w.heap.size ≤ gb235)); have n3_ := Aside0.mk ((by rw [hg]; exact (below_size bo) : w.heap.size ≤ gb235)); clear HB; have HB := n0_; have BK235 := n1_; have GW235 := n2_; have GE235 := n3_; clear n0_ n1_ n2_ n3_; clear hb hbox hg; obtain ⟨hcz23_0, hcz23_1, hcz23_2, hcz23_3, hcz23_4, hcz23_5⟩ := cl6 BK235.out; obtain ⟨hfz23_0, hfz23_1, hfz23_2, hfz23_3, hfz23_4, hfz23_5⟩ := fz6 BK235.out) | ((with_reducible refine gate_callee (f := 17) rfl ?_); refine goesL_ (some 50) rfl rfl Try.func17 (by kernel_rfl) rfl #[.agg #[.int .i64 ((rd_T25 ((rd_T38 l0 x3_1).f0) x4_3).f0), .int .i64 ((rd_T25 ((rd_T38 l0 x3_1).f0) x4_3).f1), .string ((rd_T25 ((rd_T38 l0 x3_1).f0) x4_3).f2), .string ((rd_T25 ((rd_T38 l0 x3_1).f0) x4_3).f3), .int .i64 ((rd_T25 ((rd_T38 l0 x3_1).f0) x4_3).f4), .bool ((rd_T25 ((rd_T38 l0 x3_1).f0) x4_3).f5)]] rfl aa ?_; (with_reducible refine (fairwayref10_Rec.calls ((rd_T25 ((rd_T38 l0 x3_1).f0) x4_3).f0) ((rd_T25 ((rd_T38 l0 x3_1).f0) x4_3).f1) ((rd_T25 ((rd_T38 l0 x3_1).f0) x4_3).f2) ((rd_T25 ((rd_T38 l0 x3_1).f0) x4_3).f3) ((rd_T25 ((rd_T38 l0 x3_1).f0) x4_3).f4) ((rd_T25 ((rd_T38 l0 x3_1).f0) x4_3).f5) t236 _ A20.out).mono ?_); rintro e w24 ⟨rfl, hb⟩; refine ⟨_, rfl, ?_⟩; replace BK235 := Aside0.mk (blk_below (g := gb235) (o := .cells #[.int .i64 ((rd_T25 ((rd_T38 l0 x3_1).f0) x4_3).f0), .int .i64 ((rd_T25 ((rd_T38 l0 x3_1).f0) x4_3).f1), .string ((rd_T25 ((rd_T38 l0 x3_1).f0) x4_3).f2), .string ((rd_T25 ((rd_T38 l0 x3_1).f0) x4_3).f3), .int .i64 ((rd_T25 ((rd_T38 l0 x3_1).f0) x4_3).f4), .bool ((rd_T25 ((rd_T38 l0 x3_1).f0) x4_3).f5)] 25 (0, 0)) (by (with_reducible repeat (first | refine blk_drewN ?_ _ | refine blk_drew ?_ | refine blk_alloc ?_ _)); refine blk_put (cs := #[.int .i64 ((rd_T25 ((rd_T38 l0 x3_1).f0) x4_3).f0), .int .i64 ((rd_T25 ((rd_T38 l0 x3_1).f0) x4_3).f1), .string ((rd_T25 ((rd_T38 l0 x3_1).f0) x4_3).f2), .string ((rd_T25 ((rd_T38 l0 x3_1).f0) x4_3).f3), .int .i64 ((rd_T25 ((rd_T38 l0 x3_1).f0) x4_3).f4), .bool false]) ?_ 5 _ rfl; (with_reducible repeat (first | refine blk_drewN ?_ _ | refine blk_drew ?_ | refine blk_alloc ?_ _)); refine blk_put (cs := #[.int .i64 ((rd_T25 ((rd_T38 l0 x3_1).f0) x4_3).f0), .int .i64 ((rd_T25 ((rd_T38 l0 x3_1).f0) x4_3).f1), .string ((rd_T25 ((rd_T38 l0 x3_1).f0) x4_3).f2), .string ((rd_T25 ((rd_T38 l0 x3_1).f0) x4_3).f3), .int .i64 0, .bool false]) ?_ 4 _ rfl; (with_reducible repeat (first | refine blk_drewN ?_ _ | refine blk_drew ?_ | refine blk_alloc ?_ _)); refine blk_put (cs := #[.int .i64 ((rd_T25 ((rd_T38 l0 x3_1).f0) x4_3).f0), .int .i64 ((rd_T25 ((rd_T38 l0 x3_1).f0) x4_3).f1), .string ((rd_T25 ((rd_T38 l0 x3_1).f0) x4_3).f2), .string (⟨#[]⟩ : ByteArray), .int .i64 0, .bool false]) ?_ 3 _ rfl; (with_reducible repeat (first | refine blk_drewN ?_ _ | refine blk_drew ?_ | refine blk_alloc ?_ _)); refine blk_put (cs := #[.int .i64 ((rd_T25 ((rd_T38 l0 x3_1).f0) x4_3).f0), .int .i64 ((rd_T25 ((rd_T38 l0 x3_1).f0) x4_3).f1), .string (⟨#[]⟩ : ByteArray), .string (⟨#[]⟩ : ByteArray), .int .i64 0, .bool false]) ?_ 2 _ rfl; (with_reducible repeat (first | refine blk_drewN ?_ _ | refine blk_drew ?_ | refine blk_alloc ?_ _)); refine blk_put (cs := #[.int .i64 ((rd_T25 ((rd_T38 l0 x3_1).f0) x4_3).f0), .int .i64 0, .string (⟨#[]⟩ : ByteArray), .string (⟨#[]⟩ : ByteArray), .int .i64 0, .bool false]) ?_ 1 _ rfl; (with_reducible repeat (first | refine blk_drewN ?_ _ | refine blk_drew ?_ | refine blk_alloc ?_ _)); refine blk_put (cs := #[.int .i64 0, .int .i64 0, .string (⟨#[]⟩ : ByteArray), .string (⟨#[]⟩ : ByteArray), .int .i64 0, .bool false]) ?_ 0 _ rfl; (with_reducible repeat (first | refine blk_drewN ?_ _ | refine blk_drew ?_ | refine blk_alloc ?_ _)); exact BK235.out) hb); replace HB := Aside0.mk (below_step bo hb); (try clear hb); (try clear hb2); (try clear hk); (try clear hi)))
                  (try simp only [Act.put, List.setIfInBounds_toArray, List.set_cons_zero, List.set_cons_succ])
                  go_cut [6, 7] (fun v6 v7 wc => ∃ (kq : Nat) (x6_20 : Int) (x7_20 : ByteArray), v6 = .int .i64 x6_20 ∧ v7 = .string x7_20 ∧ Aside0 (fairwaylaw10_RecBytes.j4 kq l0 x3_1 x4_3 x6_20 x7_20 ((rd_T25 ((rd_T38 l0 x3_1).f0) x4_3).f0) ((rd_T25 ((rd_T38 l0 x3_1).f0) x4_3).f1) ((rd_T25 ((rd_T38 l0 x3_1).f0) x4_3).f2) ((rd_T25 ((rd_T38 l0 x3_1).f0) x4_3).f3) ((rd_T25 ((rd_T38 l0 x3_1).f0) x4_3).f4) ((rd_T25 ((rd_T38 l0 x3_1).f0) x4_3).f5) = some r) ∧ Aside0 (kq ≤ kj10) ∧ Aside0 (wc.heap[gb235]? = some (.cells #[.int .i64 ((rd_T25 ((rd_T38 l0 x3_1).f0) x4_3).f0), .int .i64 ((rd_T25 ((rd_T38 l0 x3_1).f0) x4_3).f1), .string ((rd_T25 ((rd_T38 l0 x3_1).f0) x4_3).f2), .string ((rd_T25 ((rd_T38 l0 x3_1).f0) x4_3).f3), .int .i64 ((rd_T25 ((rd_T38 l0 x3_1).f0) x4_3).f4), .bool ((rd_T25 ((rd_T38 l0 x3_1).f0) x4_3).f5)] 25 (0, 0))) ∧ Aside0 (Below w.heap.size w wc))
                  case first =>
                   have H := HC21.out
                   clear HC21
                   by_cases c25 : t236 = true
                   ·subst c25
                    have H1 : ((fairwayref10_Bytes.f kj10 ((rd_T25 ((rd_T38 l0 x3_1).f0) x4_3).f0) ((rd_T25 ((rd_T38 l0 x3_1).f0) x4_3).f1) ((rd_T25 ((rd_T38 l0 x3_1).f0) x4_3).f2) ((rd_T25 ((rd_T38 l0 x3_1).f0) x4_3).f3) ((rd_T25 ((rd_T38 l0 x3_1).f0) x4_3).f4) ((rd_T25 ((rd_T38 l0 x3_1).f0) x4_3).f5)).bind fun t237 => (fairwaylaw10_RecBytes.j4 kj10 l0 x3_1 x4_3 0 t237 ((rd_T25 ((rd_T38 l0 x3_1).f0) x4_3).f0) ((rd_T25 ((rd_T38 l0 x3_1).f0) x4_3).f1) ((rd_T25 ((rd_T38 l0 x3_1).f0) x4_3).f2) ((rd_T25 ((rd_T38 l0 x3_1).f0) x4_3).f3) ((rd_T25 ((rd_T38 l0 x3_1).f0) x4_3).f4) ((rd_T25 ((rd_T38 l0 x3_1).f0) x4_3).f5))) = some r := by rw [if_pos rfl] at H; exact H
                    clear H
                    have H := H1
                    clear H1
                    replace H := Option.bind_eq_some_iff.mp H
                    obtain ⟨t237, A260, H⟩ := H
                    replace H : (fairwaylaw10_RecBytes.j4 kj10 l0 x3_1 x4_3 0 t237 ((rd_T25 ((rd_T38 l0 x3_1).f0) x4_3).f0) ((rd_T25 ((rd_T38 l0 x3_1).f0) x4_3).f1) ((rd_T25 ((rd_T38 l0 x3_1).f0) x4_3).f2) ((rd_T25 ((rd_T38 l0 x3_1).f0) x4_3).f3) ((rd_T25 ((rd_T38 l0 x3_1).f0) x4_3).f4) ((rd_T25 ((rd_T38 l0 x3_1).f0) x4_3).f5)) = some r := H
                    have A26 := Aside0.mk A260
                    clear A260
                    have H' := Aside0.mk H
                    clear H
                    have hcz27_0 : w24.cell? ⟨gb235, 0, none⟩ = some (.int .i64 ((rd_T25 ((rd_T38 l0 x3_1).f0) x4_3).f0)) := (blk_cell BK235.out 0).trans rfl
                    have hcz27_1 : w24.cell? ⟨gb235, 1, none⟩ = some (.int .i64 ((rd_T25 ((rd_T38 l0 x3_1).f0) x4_3).f1)) := (blk_cell BK235.out 1).trans rfl
                    have hcz27_2 : w24.cell? ⟨gb235, 2, none⟩ = some (.string ((rd_T25 ((rd_T38 l0 x3_1).f0) x4_3).f2)) := (blk_cell BK235.out 2).trans rfl
                    have hcz27_3 : w24.cell? ⟨gb235, 3, none⟩ = some (.string ((rd_T25 ((rd_T38 l0 x3_1).f0) x4_3).f3)) := (blk_cell BK235.out 3).trans rfl
                    have hcz27_4 : w24.cell? ⟨gb235, 4, none⟩ = some (.int .i64 ((rd_T25 ((rd_T38 l0 x3_1).f0) x4_3).f4)) := (blk_cell BK235.out 4).trans rfl
                    have hcz27_5 : w24.cell? ⟨gb235, 5, none⟩ = some (.bool ((rd_T25 ((rd_T38 l0 x3_1).f0) x4_3).f5)) := (blk_cell BK235.out 5).trans rfl
                    have hfz27_0 := blk_frozen BK235.out 0
                    have hfz27_1 := blk_frozen BK235.out 1
                    have hfz27_2 := blk_frozen BK235.out 2
                    have hfz27_3 := blk_frozen BK235.out 3
                    have hfz27_4 := blk_frozen BK235.out 4
                    have hfz27_5 := blk_frozen BK235.out 5
                    go_wp2_with (first | ((with_reducible refine gate_callee (f := 20) rfl ?_); refine goesL_ (some 52) rfl rfl Try.func20 (by kernel_rfl) rfl #[.agg #[.int .i64 ((rd_T25 ((rd_T38 l0 x3_1).f0) x4_3).f0), .int .i64 ((rd_T25 ((rd_T38 l0 x3_1).f0) x4_3).f1), .string ((rd_T25 ((rd_T38 l0 x3_1).f0) x4_3).f2), .string ((rd_T25 ((rd_T38 l0 x3_1).f0) x4_3).f3), .int .i64 ((rd_T25 ((rd_T38 l0 x3_1).f0) x4_3).f4), .bool ((rd_T25 ((rd_T38 l0 x3_1).f0) x4_3).f5)]] rfl aa ?_; (with_reducible refine (fairwayref10_Bytes.calls kj10 ((rd_T25 ((rd_T38 l0 x3_1).f0) x4_3).f0) ((rd_T25 ((rd_T38 l0 x3_1).f0) x4_3).f1) ((rd_T25 ((rd_T38 l0 x3_1).f0) x4_3).f2) ((rd_T25 ((rd_T38 l0 x3_1).f0) x4_3).f3) ((rd_T25 ((rd_T38 l0 x3_1).f0) x4_3).f4) ((rd_T25 ((rd_T38 l0 x3_1).f0) x4_3).f5) t237 _ A26.out).mono ?_); rintro e w28 ⟨rfl, hb⟩; refine ⟨_, rfl, ?_⟩; replace BK235 := Aside0.mk (blk_below (g := gb235) (o := .cells #[.int .i64 ((rd_T25 ((rd_T38 l0 x3_1).f0) x4_3).f0), .int .i64 ((rd_T25 ((rd_T38 l0 x3_1).f0) x4_3).f1), .string ((rd_T25 ((rd_T38 l0 x3_1).f0) x4_3).f2), .string ((rd_T25 ((rd_T38 l0 x3_1).f0) x4_3).f3), .int .i64 ((rd_T25 ((rd_T38 l0 x3_1).f0) x4_3).f4), .bool ((rd_T25 ((rd_T38 l0 x3_1).f0) x4_3).f5)] 25 (0, 0)) (bk BK235.out) hb); replace HB := Aside0.mk (below_step bo hb); (try clear hb); (try clear hb2); (try clear hk); (try clear hi)))
                    go_meet
                    case rel => exact ⟨_, (0), (t237), ap, ap, H', ⟨by have := HK1.out; have := HJ1.out; have := HK3.out; have := HJ10.out; first | omega | exact Nat.le_refl _⟩, ⟨by (with_reducible repeat (first | refine blk_drewN ?_ _ | refine blk_drew ?_ | refine blk_alloc ?_ _)); exact BK235.out⟩, ⟨bo⟩⟩
                   ·replace c25 := Bool.eq_false_iff.mpr c25
                    subst c25
                    have H1 : (fairwaylaw10_RecBytes.j4 kj10 l0 x3_1 x4_3 1 (⟨#[]⟩ : ByteArray) ((rd_T25 ((rd_T38 l0 x3_1).f0) x4_3).f0) ((rd_T25 ((rd_T38 l0 x3_1).f0) x4_3).f1) ((rd_T25 ((rd_T38 l0 x3_1).f0) x4_3).f2) ((rd_T25 ((rd_T38 l0 x3_1).f0) x4_3).f3) ((rd_T25 ((rd_T38 l0 x3_1).f0) x4_3).f4) ((rd_T25 ((rd_T38 l0 x3_1).f0) x4_3).f5)) = some r := by rw [if_neg (show ¬ (false = true) by decide)] at H; exact H
                    clear H
                    have H := H1
                    clear H1
                    have H' := Aside0.mk H
                    clear H
                    go_wp2
                    go_meet
                    case rel => exact ⟨_, (1), ((⟨#[]⟩ : ByteArray)), ap, ap, H', ⟨by have := HK1.out; have := HJ1.out; have := HK3.out; have := HJ10.out; first | omega | exact Nat.le_refl _⟩, ⟨by (with_reducible repeat (first | refine blk_drewN ?_ _ | refine blk_drew ?_ | refine blk_alloc ?_ _)); exact BK235.out⟩, ⟨bo⟩⟩
                  case rest =>
                   clear HC21
                   try clear c1
                   try clear c2
                   try clear p2
                   try clear q2
                   try clear hx2
                   try clear c3
                   try clear c3b0
                   try clear c4
                   try clear c5
                   try clear c5b0
                   try clear c6
                   try clear c6b0
                   try clear c8
                   try clear c12
                   try clear c12b0
                   try clear c13
                   try clear c13b0
                   try clear c14
                   try clear c14b0
                   try clear c15
                   try clear c16
                   try clear c16b0
                   try clear c17
                   try clear c17b0
                   try clear c18
                   try clear c18b0
                   try clear c19
                   try clear c19b0
                   try clear c20
                   try clear c23
                   try clear p23
                   try clear q23
                   try clear hx23
                   try clear c25
                   try clear hcz23_0
                   try clear hcz23_1
                   try clear hcz23_2
                   try clear hcz23_3
                   try clear hcz23_4
                   try clear hcz23_5
                   try clear hcz27_0
                   try clear hcz27_1
                   try clear hcz27_2
                   try clear hcz27_3
                   try clear hcz27_4
                   try clear hcz27_5
                   try clear hfz23_0
                   try clear hfz23_1
                   try clear hfz23_2
                   try clear hfz23_3
                   try clear hfz23_4
                   try clear hfz23_5
                   try clear hfz27_0
                   try clear hfz27_1
                   try clear hfz27_2
                   try clear hfz27_3
                   try clear hfz27_4
                   try clear hfz27_5
                   try clear hx230_0
                   try clear hx230_1
                   try clear hx232_0
                   try clear hx232_1
                   try clear hx233_0
                   try clear hx233_1
                   try clear hx234_0
                   try clear hx234_1
                   try clear hx234_2
                   try clear hx234_3
                   try clear hx234_4
                   try clear hx234_5
                   try clear p2
                   try clear p230
                   try clear p232
                   try clear p233
                   try clear p234
                   try clear q2
                   try clear q230
                   try clear q232
                   try clear q233
                   try clear q234
                   obtain ⟨kq, x6_20, x7_20, rfl, rfl, HA, HJ20, BK235, HB⟩ := hcut
                   cases kq with
                   | zero => exact absurd HA.out (by simp [fairwaylaw10_RecBytes.j4])
                   | succ kj20 =>
                    have H := HA.out
                    clear HA
                    simp only [fairwaylaw10_RecBytes.j4] at H
                    replace H := Option.bind_eq_some_iff.mp H
                    obtain ⟨⟨t238, t239⟩, A290, H⟩ := H
                    replace H : ((rec_Size.f kj20 ((rd_T25 ((rd_T38 l0 x3_1).f0) x4_3).f0) ((rd_T25 ((rd_T38 l0 x3_1).f0) x4_3).f1) ((rd_T25 ((rd_T38 l0 x3_1).f0) x4_3).f2) ((rd_T25 ((rd_T38 l0 x3_1).f0) x4_3).f3) ((rd_T25 ((rd_T38 l0 x3_1).f0) x4_3).f4) ((rd_T25 ((rd_T38 l0 x3_1).f0) x4_3).f5)).bind fun bt240 => ((rec_Check.f kj20 ((rd_T25 ((rd_T38 l0 x3_1).f0) x4_3).f0) ((rd_T25 ((rd_T38 l0 x3_1).f0) x4_3).f1) ((rd_T25 ((rd_T38 l0 x3_1).f0) x4_3).f2) ((rd_T25 ((rd_T38 l0 x3_1).f0) x4_3).f3) ((rd_T25 ((rd_T38 l0 x3_1).f0) x4_3).f4) ((rd_T25 ((rd_T38 l0 x3_1).f0) x4_3).f5)).bind fun t242 => ((fairwaylaw10_num.f t242).bind fun t243 => (if t243 = x6_20 then ((fairwaylaw10_num.f t239).bind fun t244 => (if t244 = x6_20 then ((fairwaylaw10_num.f bt240.2).bind fun t245 => (if t245 = x6_20 then (if t238.toList = x7_20.toList then (if bt240.1 = (x7_20.size : Int) then (fairwaylaw10_RecBytes.l1 kj20 l0 x3_1 (wrap64 (x4_3 + 1))) else (some false)) else (some false)) else (some false))) else (some false))) else (some false))))) = some r := H
                    have A29 := Aside0.mk A290
                    clear A290
                    replace H := Option.bind_eq_some_iff.mp H
                    obtain ⟨⟨t240, t241⟩, A300, H⟩ := H
                    replace H : ((rec_Check.f kj20 ((rd_T25 ((rd_T38 l0 x3_1).f0) x4_3).f0) ((rd_T25 ((rd_T38 l0 x3_1).f0) x4_3).f1) ((rd_T25 ((rd_T38 l0 x3_1).f0) x4_3).f2) ((rd_T25 ((rd_T38 l0 x3_1).f0) x4_3).f3) ((rd_T25 ((rd_T38 l0 x3_1).f0) x4_3).f4) ((rd_T25 ((rd_T38 l0 x3_1).f0) x4_3).f5)).bind fun t242 => ((fairwaylaw10_num.f t242).bind fun t243 => (if t243 = x6_20 then ((fairwaylaw10_num.f t239).bind fun t244 => (if t244 = x6_20 then ((fairwaylaw10_num.f t241).bind fun t245 => (if t245 = x6_20 then (if t238.toList = x7_20.toList then (if t240 = (x7_20.size : Int) then (fairwaylaw10_RecBytes.l1 kj20 l0 x3_1 (wrap64 (x4_3 + 1))) else (some false)) else (some false)) else (some false))) else (some false))) else (some false)))) = some r := H
                    have A30 := Aside0.mk A300
                    clear A300
                    replace H := Option.bind_eq_some_iff.mp H
                    obtain ⟨t242, A310, H⟩ := H
                    replace H : ((fairwaylaw10_num.f t242).bind fun t243 => (if t243 = x6_20 then ((fairwaylaw10_num.f t239).bind fun t244 => (if t244 = x6_20 then ((fairwaylaw10_num.f t241).bind fun t245 => (if t245 = x6_20 then (if t238.toList = x7_20.toList then (if t240 = (x7_20.size : Int) then (fairwaylaw10_RecBytes.l1 kj20 l0 x3_1 (wrap64 (x4_3 + 1))) else (some false)) else (some false)) else (some false))) else (some false))) else (some false))) = some r := H
                    have A31 := Aside0.mk A310
                    clear A310
                    replace H := Option.bind_eq_some_iff.mp H
                    obtain ⟨t243, A320, H⟩ := H
                    replace H : (if t243 = x6_20 then ((fairwaylaw10_num.f t239).bind fun t244 => (if t244 = x6_20 then ((fairwaylaw10_num.f t241).bind fun t245 => (if t245 = x6_20 then (if t238.toList = x7_20.toList then (if t240 = (x7_20.size : Int) then (fairwaylaw10_RecBytes.l1 kj20 l0 x3_1 (wrap64 (x4_3 + 1))) else (some false)) else (some false)) else (some false))) else (some false))) else (some false)) = some r := H
                    have A32 := Aside0.mk A320
                    clear A320
                    by_cases c33 : t243 = x6_20
                    ·rw [if_pos c33] at H
                     have c33b0 : (t243 == x6_20) = true := beq_iff_eq.mpr c33
                     have c33b1 : (t243 != x6_20) = false := bne_eq_false_iff_eq.mpr c33
                     clear c33
                     replace H := Option.bind_eq_some_iff.mp H
                     obtain ⟨t244, A340, H⟩ := H
                     replace H : (if t244 = x6_20 then ((fairwaylaw10_num.f t241).bind fun t245 => (if t245 = x6_20 then (if t238.toList = x7_20.toList then (if t240 = (x7_20.size : Int) then (fairwaylaw10_RecBytes.l1 kj20 l0 x3_1 (wrap64 (x4_3 + 1))) else (some false)) else (some false)) else (some false))) else (some false)) = some r := H
                     have A34 := Aside0.mk A340
                     clear A340
                     by_cases c35 : t244 = x6_20
                     ·rw [if_pos c35] at H
                      have c35b0 : (t244 == x6_20) = true := beq_iff_eq.mpr c35
                      have c35b1 : (t244 != x6_20) = false := bne_eq_false_iff_eq.mpr c35
                      clear c35
                      replace H := Option.bind_eq_some_iff.mp H
                      obtain ⟨t245, A360, H⟩ := H
                      replace H : (if t245 = x6_20 then (if t238.toList = x7_20.toList then (if t240 = (x7_20.size : Int) then (fairwaylaw10_RecBytes.l1 kj20 l0 x3_1 (wrap64 (x4_3 + 1))) else (some false)) else (some false)) else (some false)) = some r := H
                      have A36 := Aside0.mk A360
                      clear A360
                      by_cases c37 : t245 = x6_20
                      ·rw [if_pos c37] at H
                       have c37b0 : (t245 == x6_20) = true := beq_iff_eq.mpr c37
                       have c37b1 : (t245 != x6_20) = false := bne_eq_false_iff_eq.mpr c37
                       clear c37
                       by_cases c38 : t238.toList = x7_20.toList
                       ·rw [if_pos c38] at H
                        have c38b0 : (t238.toList == x7_20.toList) = true := beq_iff_eq.mpr c38
                        have c38b1 : (t238.toList != x7_20.toList) = false := bne_eq_false_iff_eq.mpr c38
                        clear c38
                        by_cases c39 : t240 = (x7_20.size : Int)
                        ·rw [if_pos c39] at H
                         have c39b0 : (t240 == (x7_20.size : Int)) = true := beq_iff_eq.mpr c39
                         have c39b1 : (t240 != (x7_20.size : Int)) = false := bne_eq_false_iff_eq.mpr c39
                         clear c39
                         have H' := Aside0.mk H
                         clear H
                         have hcz40_0 : wc.cell? ⟨gb235, 0, none⟩ = some (.int .i64 ((rd_T25 ((rd_T38 l0 x3_1).f0) x4_3).f0)) := (blk_cell BK235.out 0).trans rfl
                         have hcz40_1 : wc.cell? ⟨gb235, 1, none⟩ = some (.int .i64 ((rd_T25 ((rd_T38 l0 x3_1).f0) x4_3).f1)) := (blk_cell BK235.out 1).trans rfl
                         have hcz40_2 : wc.cell? ⟨gb235, 2, none⟩ = some (.string ((rd_T25 ((rd_T38 l0 x3_1).f0) x4_3).f2)) := (blk_cell BK235.out 2).trans rfl
                         have hcz40_3 : wc.cell? ⟨gb235, 3, none⟩ = some (.string ((rd_T25 ((rd_T38 l0 x3_1).f0) x4_3).f3)) := (blk_cell BK235.out 3).trans rfl
                         have hcz40_4 : wc.cell? ⟨gb235, 4, none⟩ = some (.int .i64 ((rd_T25 ((rd_T38 l0 x3_1).f0) x4_3).f4)) := (blk_cell BK235.out 4).trans rfl
                         have hcz40_5 : wc.cell? ⟨gb235, 5, none⟩ = some (.bool ((rd_T25 ((rd_T38 l0 x3_1).f0) x4_3).f5)) := (blk_cell BK235.out 5).trans rfl
                         have hfz40_0 := blk_frozen BK235.out 0
                         have hfz40_1 := blk_frozen BK235.out 1
                         have hfz40_2 := blk_frozen BK235.out 2
                         have hfz40_3 := blk_frozen BK235.out 3
                         have hfz40_4 := blk_frozen BK235.out 4
                         have hfz40_5 := blk_frozen BK235.out 5
                         go_wp2_with (first | ((with_reducible refine gate_callee (f := 14) rfl ?_); refine goesL_ (some 55) rfl rfl Try.func14 (by kernel_rfl) rfl #[.agg #[.int .i64 ((rd_T25 ((rd_T38 l0 x3_1).f0) x4_3).f0), .int .i64 ((rd_T25 ((rd_T38 l0 x3_1).f0) x4_3).f1), .string ((rd_T25 ((rd_T38 l0 x3_1).f0) x4_3).f2), .string ((rd_T25 ((rd_T38 l0 x3_1).f0) x4_3).f3), .int .i64 ((rd_T25 ((rd_T38 l0 x3_1).f0) x4_3).f4), .bool ((rd_T25 ((rd_T38 l0 x3_1).f0) x4_3).f5)]] rfl aa ?_; (with_reducible refine (rec_Bytes.calls kj20 ((rd_T25 ((rd_T38 l0 x3_1).f0) x4_3).f0) ((rd_T25 ((rd_T38 l0 x3_1).f0) x4_3).f1) ((rd_T25 ((rd_T38 l0 x3_1).f0) x4_3).f2) ((rd_T25 ((rd_T38 l0 x3_1).f0) x4_3).f3) ((rd_T25 ((rd_T38 l0 x3_1).f0) x4_3).f4) ((rd_T25 ((rd_T38 l0 x3_1).f0) x4_3).f5) t238 t239 _ A29.out).mono ?_); rintro e w41 ⟨rfl, hb⟩; refine ⟨_, rfl, ?_⟩; replace BK235 := Aside0.mk (blk_below (g := gb235) (o := .cells #[.int .i64 ((rd_T25 ((rd_T38 l0 x3_1).f0) x4_3).f0), .int .i64 ((rd_T25 ((rd_T38 l0 x3_1).f0) x4_3).f1), .string ((rd_T25 ((rd_T38 l0 x3_1).f0) x4_3).f2), .string ((rd_T25 ((rd_T38 l0 x3_1).f0) x4_3).f3), .int .i64 ((rd_T25 ((rd_T38 l0 x3_1).f0) x4_3).f4), .bool ((rd_T25 ((rd_T38 l0 x3_1).f0) x4_3).f5)] 25 (0, 0)) (bk BK235.out) hb); replace HB := Aside0.mk (below_step bo hb); (try clear hb); (try clear hb2); (try clear hk); (try clear hi); obtain ⟨hcz42_0, hcz42_1, hcz42_2, hcz42_3, hcz42_4, hcz42_5⟩ := cl6 BK235.out; obtain ⟨hfz42_0, hfz42_1, hfz42_2, hfz42_3, hfz42_4, hfz42_5⟩ := fz6 BK235.out) | ((with_reducible refine gate_callee (f := 21) rfl ?_); refine goesL_ (some 60) rfl rfl Try.func21 (by kernel_rfl) rfl #[.agg #[.int .i64 ((rd_T25 ((rd_T38 l0 x3_1).f0) x4_3).f0), .int .i64 ((rd_T25 ((rd_T38 l0 x3_1).f0) x4_3).f1), .string ((rd_T25 ((rd_T38 l0 x3_1).f0) x4_3).f2), .string ((rd_T25 ((rd_T38 l0 x3_1).f0) x4_3).f3), .int .i64 ((rd_T25 ((rd_T38 l0 x3_1).f0) x4_3).f4), .bool ((rd_T25 ((rd_T38 l0 x3_1).f0) x4_3).f5)]] rfl aa ?_; (with_reducible refine (rec_Size.calls kj20 ((rd_T25 ((rd_T38 l0 x3_1).f0) x4_3).f0) ((rd_T25 ((rd_T38 l0 x3_1).f0) x4_3).f1) ((rd_T25 ((rd_T38 l0 x3_1).f0) x4_3).f2) ((rd_T25 ((rd_T38 l0 x3_1).f0) x4_3).f3) ((rd_T25 ((rd_T38 l0 x3_1).f0) x4_3).f4) ((rd_T25 ((rd_T38 l0 x3_1).f0) x4_3).f5) t240 t241 _ A30.out).mono ?_); rintro e w43 ⟨rfl, hb⟩; refine ⟨_, rfl, ?_⟩; replace BK235 := Aside0.mk (blk_below (g := gb235) (o := .cells #[.int .i64 ((rd_T25 ((rd_T38 l0 x3_1).f0) x4_3).f0), .int .i64 ((rd_T25 ((rd_T38 l0 x3_1).f0) x4_3).f1), .string ((rd_T25 ((rd_T38 l0 x3_1).f0) x4_3).f2), .string ((rd_T25 ((rd_T38 l0 x3_1).f0) x4_3).f3), .int .i64 ((rd_T25 ((rd_T38 l0 x3_1).f0) x4_3).f4), .bool ((rd_T25 ((rd_T38 l0 x3_1).f0) x4_3).f5)] 25 (0, 0)) (bk BK235.out) hb); replace HB := Aside0.mk (below_step bo hb); (try clear hb); (try clear hb2); (try clear hk); (try clear hi); obtain ⟨hcz44_0, hcz44_1, hcz44_2, hcz44_3, hcz44_4, hcz44_5⟩ := cl6 BK235.out; obtain ⟨hfz44_0, hfz44_1, hfz44_2, hfz44_3, hfz44_4, hfz44_5⟩ := fz6 BK235.out) | ((with_reducible refine gate_callee (f := 22) rfl ?_); refine goesL_ (some 64) rfl rfl Try.func22 (by kernel_rfl) rfl #[.agg #[.int .i64 ((rd_T25 ((rd_T38 l0 x3_1).f0) x4_3).f0), .int .i64 ((rd_T25 ((rd_T38 l0 x3_1).f0) x4_3).f1), .string ((rd_T25 ((rd_T38 l0 x3_1).f0) x4_3).f2), .string ((rd_T25 ((rd_T38 l0 x3_1).f0) x4_3).f3), .int .i64 ((rd_T25 ((rd_T38 l0 x3_1).f0) x4_3).f4), .bool ((rd_T25 ((rd_T38 l0 x3_1).f0) x4_3).f5)]] rfl aa ?_; (with_reducible refine (rec_Check.calls kj20 ((rd_T25 ((rd_T38 l0 x3_1).f0) x4_3).f0) ((rd_T25 ((rd_T38 l0 x3_1).f0) x4_3).f1) ((rd_T25 ((rd_T38 l0 x3_1).f0) x4_3).f2) ((rd_T25 ((rd_T38 l0 x3_1).f0) x4_3).f3) ((rd_T25 ((rd_T38 l0 x3_1).f0) x4_3).f4) ((rd_T25 ((rd_T38 l0 x3_1).f0) x4_3).f5) t242 _ A31.out).mono ?_); rintro e w45 ⟨rfl, hb⟩; refine ⟨_, rfl, ?_⟩; replace BK235 := Aside0.mk (blk_below (g := gb235) (o := .cells #[.int .i64 ((rd_T25 ((rd_T38 l0 x3_1).f0) x4_3).f0), .int .i64 ((rd_T25 ((rd_T38 l0 x3_1).f0) x4_3).f1), .string ((rd_T25 ((rd_T38 l0 x3_1).f0) x4_3).f2), .string ((rd_T25 ((rd_T38 l0 x3_1).f0) x4_3).f3), .int .i64 ((rd_T25 ((rd_T38 l0 x3_1).f0) x4_3).f4), .bool ((rd_T25 ((rd_T38 l0 x3_1).f0) x4_3).f5)] 25 (0, 0)) (bk BK235.out) hb); replace HB := Aside0.mk (below_step bo hb); (try clear hb); (try clear hb2); (try clear hk); (try clear hi)) | ((with_reducible refine gate_callee (f := 15) rfl ?_); refine goesL_ (some 65) rfl rfl Try.func15 (by kernel_rfl) rfl #[.int .i64 t242] rfl aa ?_; (with_reducible refine (fairwaylaw10_num.calls t242 t243 _ A32.out).mono ?_); rintro e w' ⟨rfl, ⟨nd, rfl⟩⟩; refine ⟨_, rfl, ?_⟩) | (go_at_call 15; (with_reducible refine (fairwaylaw10_num.calls t239 t244 _ A34.out).mono ?_); rintro e w' ⟨rfl, ⟨nd, rfl⟩⟩) | (go_at_call 15; (with_reducible refine (fairwaylaw10_num.calls t241 t245 _ A36.out).mono ?_); rintro e w' ⟨rfl, ⟨nd, rfl⟩⟩))
                         go_roundg kj20
                         case measure => have := HK1.out; have := HJ1.out; have := HK3.out; have := HJ10.out; have := HJ20.out; omega
                         case rel => exact ⟨(wrap64 (x4_3 + 1)), ap, H', ⟨by have := HK1.out; have := HJ1.out; have := HK3.out; have := HJ10.out; have := HJ20.out; omega⟩, ⟨bo⟩⟩
                        ·rw [if_neg c39] at H
                         have c39b0 : (t240 == (x7_20.size : Int)) = false := beq_eq_false_iff_ne.mpr c39
                         have c39b1 : (t240 != (x7_20.size : Int)) = true := bne_iff_ne.mpr c39
                         obtain rfl := Option.some.inj H
                         have hcz46_0 : wc.cell? ⟨gb235, 0, none⟩ = some (.int .i64 ((rd_T25 ((rd_T38 l0 x3_1).f0) x4_3).f0)) := (blk_cell BK235.out 0).trans rfl
                         have hcz46_1 : wc.cell? ⟨gb235, 1, none⟩ = some (.int .i64 ((rd_T25 ((rd_T38 l0 x3_1).f0) x4_3).f1)) := (blk_cell BK235.out 1).trans rfl
                         have hcz46_2 : wc.cell? ⟨gb235, 2, none⟩ = some (.string ((rd_T25 ((rd_T38 l0 x3_1).f0) x4_3).f2)) := (blk_cell BK235.out 2).trans rfl
                         have hcz46_3 : wc.cell? ⟨gb235, 3, none⟩ = some (.string ((rd_T25 ((rd_T38 l0 x3_1).f0) x4_3).f3)) := (blk_cell BK235.out 3).trans rfl
                         have hcz46_4 : wc.cell? ⟨gb235, 4, none⟩ = some (.int .i64 ((rd_T25 ((rd_T38 l0 x3_1).f0) x4_3).f4)) := (blk_cell BK235.out 4).trans rfl
                         have hcz46_5 : wc.cell? ⟨gb235, 5, none⟩ = some (.bool ((rd_T25 ((rd_T38 l0 x3_1).f0) x4_3).f5)) := (blk_cell BK235.out 5).trans rfl
                         have hfz46_0 := blk_frozen BK235.out 0
                         have hfz46_1 := blk_frozen BK235.out 1
                         have hfz46_2 := blk_frozen BK235.out 2
                         have hfz46_3 := blk_frozen BK235.out 3
                         have hfz46_4 := blk_frozen BK235.out 4
                         have hfz46_5 := blk_frozen BK235.out 5
                         go_wp2_with (first | ((with_reducible refine gate_callee (f := 14) rfl ?_); refine goesL_ (some 55) rfl rfl Try.func14 (by kernel_rfl) rfl #[.agg #[.int .i64 ((rd_T25 ((rd_T38 l0 x3_1).f0) x4_3).f0), .int .i64 ((rd_T25 ((rd_T38 l0 x3_1).f0) x4_3).f1), .string ((rd_T25 ((rd_T38 l0 x3_1).f0) x4_3).f2), .string ((rd_T25 ((rd_T38 l0 x3_1).f0) x4_3).f3), .int .i64 ((rd_T25 ((rd_T38 l0 x3_1).f0) x4_3).f4), .bool ((rd_T25 ((rd_T38 l0 x3_1).f0) x4_3).f5)]] rfl aa ?_; (with_reducible refine (rec_Bytes.calls kj20 ((rd_T25 ((rd_T38 l0 x3_1).f0) x4_3).f0) ((rd_T25 ((rd_T38 l0 x3_1).f0) x4_3).f1) ((rd_T25 ((rd_T38 l0 x3_1).f0) x4_3).f2) ((rd_T25 ((rd_T38 l0 x3_1).f0) x4_3).f3) ((rd_T25 ((rd_T38 l0 x3_1).f0) x4_3).f4) ((rd_T25 ((rd_T38 l0 x3_1).f0) x4_3).f5) t238 t239 _ A29.out).mono ?_); rintro e w47 ⟨rfl, hb⟩; refine ⟨_, rfl, ?_⟩; replace BK235 := Aside0.mk (blk_below (g := gb235) (o := .cells #[.int .i64 ((rd_T25 ((rd_T38 l0 x3_1).f0) x4_3).f0), .int .i64 ((rd_T25 ((rd_T38 l0 x3_1).f0) x4_3).f1), .string ((rd_T25 ((rd_T38 l0 x3_1).f0) x4_3).f2), .string ((rd_T25 ((rd_T38 l0 x3_1).f0) x4_3).f3), .int .i64 ((rd_T25 ((rd_T38 l0 x3_1).f0) x4_3).f4), .bool ((rd_T25 ((rd_T38 l0 x3_1).f0) x4_3).f5)] 25 (0, 0)) (bk BK235.out) hb); replace HB := Aside0.mk (below_step bo hb); (try clear hb); (try clear hb2); (try clear hk); (try clear hi); obtain ⟨hcz48_0, hcz48_1, hcz48_2, hcz48_3, hcz48_4, hcz48_5⟩ := cl6 BK235.out; obtain ⟨hfz48_0, hfz48_1, hfz48_2, hfz48_3, hfz48_4, hfz48_5⟩ := fz6 BK235.out) | ((with_reducible refine gate_callee (f := 21) rfl ?_); refine goesL_ (some 60) rfl rfl Try.func21 (by kernel_rfl) rfl #[.agg #[.int .i64 ((rd_T25 ((rd_T38 l0 x3_1).f0) x4_3).f0), .int .i64 ((rd_T25 ((rd_T38 l0 x3_1).f0) x4_3).f1), .string ((rd_T25 ((rd_T38 l0 x3_1).f0) x4_3).f2), .string ((rd_T25 ((rd_T38 l0 x3_1).f0) x4_3).f3), .int .i64 ((rd_T25 ((rd_T38 l0 x3_1).f0) x4_3).f4), .bool ((rd_T25 ((rd_T38 l0 x3_1).f0) x4_3).f5)]] rfl aa ?_; (with_reducible refine (rec_Size.calls kj20 ((rd_T25 ((rd_T38 l0 x3_1).f0) x4_3).f0) ((rd_T25 ((rd_T38 l0 x3_1).f0) x4_3).f1) ((rd_T25 ((rd_T38 l0 x3_1).f0) x4_3).f2) ((rd_T25 ((rd_T38 l0 x3_1).f0) x4_3).f3) ((rd_T25 ((rd_T38 l0 x3_1).f0) x4_3).f4) ((rd_T25 ((rd_T38 l0 x3_1).f0) x4_3).f5) t240 t241 _ A30.out).mono ?_); rintro e w49 ⟨rfl, hb⟩; refine ⟨_, rfl, ?_⟩; replace BK235 := Aside0.mk (blk_below (g := gb235) (o := .cells #[.int .i64 ((rd_T25 ((rd_T38 l0 x3_1).f0) x4_3).f0), .int .i64 ((rd_T25 ((rd_T38 l0 x3_1).f0) x4_3).f1), .string ((rd_T25 ((rd_T38 l0 x3_1).f0) x4_3).f2), .string ((rd_T25 ((rd_T38 l0 x3_1).f0) x4_3).f3), .int .i64 ((rd_T25 ((rd_T38 l0 x3_1).f0) x4_3).f4), .bool ((rd_T25 ((rd_T38 l0 x3_1).f0) x4_3).f5)] 25 (0, 0)) (bk BK235.out) hb); replace HB := Aside0.mk (below_step bo hb); (try clear hb); (try clear hb2); (try clear hk); (try clear hi); obtain ⟨hcz50_0, hcz50_1, hcz50_2, hcz50_3, hcz50_4, hcz50_5⟩ := cl6 BK235.out; obtain ⟨hfz50_0, hfz50_1, hfz50_2, hfz50_3, hfz50_4, hfz50_5⟩ := fz6 BK235.out) | ((with_reducible refine gate_callee (f := 22) rfl ?_); refine goesL_ (some 64) rfl rfl Try.func22 (by kernel_rfl) rfl #[.agg #[.int .i64 ((rd_T25 ((rd_T38 l0 x3_1).f0) x4_3).f0), .int .i64 ((rd_T25 ((rd_T38 l0 x3_1).f0) x4_3).f1), .string ((rd_T25 ((rd_T38 l0 x3_1).f0) x4_3).f2), .string ((rd_T25 ((rd_T38 l0 x3_1).f0) x4_3).f3), .int .i64 ((rd_T25 ((rd_T38 l0 x3_1).f0) x4_3).f4), .bool ((rd_T25 ((rd_T38 l0 x3_1).f0) x4_3).f5)]] rfl aa ?_; (with_reducible refine (rec_Check.calls kj20 ((rd_T25 ((rd_T38 l0 x3_1).f0) x4_3).f0) ((rd_T25 ((rd_T38 l0 x3_1).f0) x4_3).f1) ((rd_T25 ((rd_T38 l0 x3_1).f0) x4_3).f2) ((rd_T25 ((rd_T38 l0 x3_1).f0) x4_3).f3) ((rd_T25 ((rd_T38 l0 x3_1).f0) x4_3).f4) ((rd_T25 ((rd_T38 l0 x3_1).f0) x4_3).f5) t242 _ A31.out).mono ?_); rintro e w51 ⟨rfl, hb⟩; refine ⟨_, rfl, ?_⟩; replace BK235 := Aside0.mk (blk_below (g := gb235) (o := .cells #[.int .i64 ((rd_T25 ((rd_T38 l0 x3_1).f0) x4_3).f0), .int .i64 ((rd_T25 ((rd_T38 l0 x3_1).f0) x4_3).f1), .string ((rd_T25 ((rd_T38 l0 x3_1).f0) x4_3).f2), .string ((rd_T25 ((rd_T38 l0 x3_1).f0) x4_3).f3), .int .i64 ((rd_T25 ((rd_T38 l0 x3_1).f0) x4_3).f4), .bool ((rd_T25 ((rd_T38 l0 x3_1).f0) x4_3).f5)] 25 (0, 0)) (bk BK235.out) hb); replace HB := Aside0.mk (below_step bo hb); (try clear hb); (try clear hb2); (try clear hk); (try clear hi)) | ((with_reducible refine gate_callee (f := 15) rfl ?_); refine goesL_ (some 65) rfl rfl Try.func15 (by kernel_rfl) rfl #[.int .i64 t242] rfl aa ?_; (with_reducible refine (fairwaylaw10_num.calls t242 t243 _ A32.out).mono ?_); rintro e w' ⟨rfl, ⟨nd, rfl⟩⟩; refine ⟨_, rfl, ?_⟩) | (go_at_call 15; (with_reducible refine (fairwaylaw10_num.calls t239 t244 _ A34.out).mono ?_); rintro e w' ⟨rfl, ⟨nd, rfl⟩⟩) | (go_at_call 15; (with_reducible refine (fairwaylaw10_num.calls t241 t245 _ A36.out).mono ?_); rintro e w' ⟨rfl, ⟨nd, rfl⟩⟩))
                         go_ret
                         exact ⟨er, bo⟩
                       ·rw [if_neg c38] at H
                        have c38b0 : (t238.toList == x7_20.toList) = false := beq_eq_false_iff_ne.mpr c38
                        have c38b1 : (t238.toList != x7_20.toList) = true := bne_iff_ne.mpr c38
                        obtain rfl := Option.some.inj H
                        have hcz52_0 : wc.cell? ⟨gb235, 0, none⟩ = some (.int .i64 ((rd_T25 ((rd_T38 l0 x3_1).f0) x4_3).f0)) := (blk_cell BK235.out 0).trans rfl
                        have hcz52_1 : wc.cell? ⟨gb235, 1, none⟩ = some (.int .i64 ((rd_T25 ((rd_T38 l0 x3_1).f0) x4_3).f1)) := (blk_cell BK235.out 1).trans rfl
                        have hcz52_2 : wc.cell? ⟨gb235, 2, none⟩ = some (.string ((rd_T25 ((rd_T38 l0 x3_1).f0) x4_3).f2)) := (blk_cell BK235.out 2).trans rfl
                        have hcz52_3 : wc.cell? ⟨gb235, 3, none⟩ = some (.string ((rd_T25 ((rd_T38 l0 x3_1).f0) x4_3).f3)) := (blk_cell BK235.out 3).trans rfl
                        have hcz52_4 : wc.cell? ⟨gb235, 4, none⟩ = some (.int .i64 ((rd_T25 ((rd_T38 l0 x3_1).f0) x4_3).f4)) := (blk_cell BK235.out 4).trans rfl
                        have hcz52_5 : wc.cell? ⟨gb235, 5, none⟩ = some (.bool ((rd_T25 ((rd_T38 l0 x3_1).f0) x4_3).f5)) := (blk_cell BK235.out 5).trans rfl
                        have hfz52_0 := blk_frozen BK235.out 0
                        have hfz52_1 := blk_frozen BK235.out 1
                        have hfz52_2 := blk_frozen BK235.out 2
                        have hfz52_3 := blk_frozen BK235.out 3
                        have hfz52_4 := blk_frozen BK235.out 4
                        have hfz52_5 := blk_frozen BK235.out 5
                        go_wp2_with (first | ((with_reducible refine gate_callee (f := 14) rfl ?_); refine goesL_ (some 55) rfl rfl Try.func14 (by kernel_rfl) rfl #[.agg #[.int .i64 ((rd_T25 ((rd_T38 l0 x3_1).f0) x4_3).f0), .int .i64 ((rd_T25 ((rd_T38 l0 x3_1).f0) x4_3).f1), .string ((rd_T25 ((rd_T38 l0 x3_1).f0) x4_3).f2), .string ((rd_T25 ((rd_T38 l0 x3_1).f0) x4_3).f3), .int .i64 ((rd_T25 ((rd_T38 l0 x3_1).f0) x4_3).f4), .bool ((rd_T25 ((rd_T38 l0 x3_1).f0) x4_3).f5)]] rfl aa ?_; (with_reducible refine (rec_Bytes.calls kj20 ((rd_T25 ((rd_T38 l0 x3_1).f0) x4_3).f0) ((rd_T25 ((rd_T38 l0 x3_1).f0) x4_3).f1) ((rd_T25 ((rd_T38 l0 x3_1).f0) x4_3).f2) ((rd_T25 ((rd_T38 l0 x3_1).f0) x4_3).f3) ((rd_T25 ((rd_T38 l0 x3_1).f0) x4_3).f4) ((rd_T25 ((rd_T38 l0 x3_1).f0) x4_3).f5) t238 t239 _ A29.out).mono ?_); rintro e w53 ⟨rfl, hb⟩; refine ⟨_, rfl, ?_⟩; replace BK235 := Aside0.mk (blk_below (g := gb235) (o := .cells #[.int .i64 ((rd_T25 ((rd_T38 l0 x3_1).f0) x4_3).f0), .int .i64 ((rd_T25 ((rd_T38 l0 x3_1).f0) x4_3).f1), .string ((rd_T25 ((rd_T38 l0 x3_1).f0) x4_3).f2), .string ((rd_T25 ((rd_T38 l0 x3_1).f0) x4_3).f3), .int .i64 ((rd_T25 ((rd_T38 l0 x3_1).f0) x4_3).f4), .bool ((rd_T25 ((rd_T38 l0 x3_1).f0) x4_3).f5)] 25 (0, 0)) (bk BK235.out) hb); replace HB := Aside0.mk (below_step bo hb); (try clear hb); (try clear hb2); (try clear hk); (try clear hi); obtain ⟨hcz54_0, hcz54_1, hcz54_2, hcz54_3, hcz54_4, hcz54_5⟩ := cl6 BK235.out; obtain ⟨hfz54_0, hfz54_1, hfz54_2, hfz54_3, hfz54_4, hfz54_5⟩ := fz6 BK235.out) | ((with_reducible refine gate_callee (f := 21) rfl ?_); refine goesL_ (some 60) rfl rfl Try.func21 (by kernel_rfl) rfl #[.agg #[.int .i64 ((rd_T25 ((rd_T38 l0 x3_1).f0) x4_3).f0), .int .i64 ((rd_T25 ((rd_T38 l0 x3_1).f0) x4_3).f1), .string ((rd_T25 ((rd_T38 l0 x3_1).f0) x4_3).f2), .string ((rd_T25 ((rd_T38 l0 x3_1).f0) x4_3).f3), .int .i64 ((rd_T25 ((rd_T38 l0 x3_1).f0) x4_3).f4), .bool ((rd_T25 ((rd_T38 l0 x3_1).f0) x4_3).f5)]] rfl aa ?_; (with_reducible refine (rec_Size.calls kj20 ((rd_T25 ((rd_T38 l0 x3_1).f0) x4_3).f0) ((rd_T25 ((rd_T38 l0 x3_1).f0) x4_3).f1) ((rd_T25 ((rd_T38 l0 x3_1).f0) x4_3).f2) ((rd_T25 ((rd_T38 l0 x3_1).f0) x4_3).f3) ((rd_T25 ((rd_T38 l0 x3_1).f0) x4_3).f4) ((rd_T25 ((rd_T38 l0 x3_1).f0) x4_3).f5) t240 t241 _ A30.out).mono ?_); rintro e w55 ⟨rfl, hb⟩; refine ⟨_, rfl, ?_⟩; replace BK235 := Aside0.mk (blk_below (g := gb235) (o := .cells #[.int .i64 ((rd_T25 ((rd_T38 l0 x3_1).f0) x4_3).f0), .int .i64 ((rd_T25 ((rd_T38 l0 x3_1).f0) x4_3).f1), .string ((rd_T25 ((rd_T38 l0 x3_1).f0) x4_3).f2), .string ((rd_T25 ((rd_T38 l0 x3_1).f0) x4_3).f3), .int .i64 ((rd_T25 ((rd_T38 l0 x3_1).f0) x4_3).f4), .bool ((rd_T25 ((rd_T38 l0 x3_1).f0) x4_3).f5)] 25 (0, 0)) (bk BK235.out) hb); replace HB := Aside0.mk (below_step bo hb); (try clear hb); (try clear hb2); (try clear hk); (try clear hi); obtain ⟨hcz56_0, hcz56_1, hcz56_2, hcz56_3, hcz56_4, hcz56_5⟩ := cl6 BK235.out; obtain ⟨hfz56_0, hfz56_1, hfz56_2, hfz56_3, hfz56_4, hfz56_5⟩ := fz6 BK235.out) | ((with_reducible refine gate_callee (f := 22) rfl ?_); refine goesL_ (some 64) rfl rfl Try.func22 (by kernel_rfl) rfl #[.agg #[.int .i64 ((rd_T25 ((rd_T38 l0 x3_1).f0) x4_3).f0), .int .i64 ((rd_T25 ((rd_T38 l0 x3_1).f0) x4_3).f1), .string ((rd_T25 ((rd_T38 l0 x3_1).f0) x4_3).f2), .string ((rd_T25 ((rd_T38 l0 x3_1).f0) x4_3).f3), .int .i64 ((rd_T25 ((rd_T38 l0 x3_1).f0) x4_3).f4), .bool ((rd_T25 ((rd_T38 l0 x3_1).f0) x4_3).f5)]] rfl aa ?_; (with_reducible refine (rec_Check.calls kj20 ((rd_T25 ((rd_T38 l0 x3_1).f0) x4_3).f0) ((rd_T25 ((rd_T38 l0 x3_1).f0) x4_3).f1) ((rd_T25 ((rd_T38 l0 x3_1).f0) x4_3).f2) ((rd_T25 ((rd_T38 l0 x3_1).f0) x4_3).f3) ((rd_T25 ((rd_T38 l0 x3_1).f0) x4_3).f4) ((rd_T25 ((rd_T38 l0 x3_1).f0) x4_3).f5) t242 _ A31.out).mono ?_); rintro e w57 ⟨rfl, hb⟩; refine ⟨_, rfl, ?_⟩; replace BK235 := Aside0.mk (blk_below (g := gb235) (o := .cells #[.int .i64 ((rd_T25 ((rd_T38 l0 x3_1).f0) x4_3).f0), .int .i64 ((rd_T25 ((rd_T38 l0 x3_1).f0) x4_3).f1), .string ((rd_T25 ((rd_T38 l0 x3_1).f0) x4_3).f2), .string ((rd_T25 ((rd_T38 l0 x3_1).f0) x4_3).f3), .int .i64 ((rd_T25 ((rd_T38 l0 x3_1).f0) x4_3).f4), .bool ((rd_T25 ((rd_T38 l0 x3_1).f0) x4_3).f5)] 25 (0, 0)) (bk BK235.out) hb); replace HB := Aside0.mk (below_step bo hb); (try clear hb); (try clear hb2); (try clear hk); (try clear hi)) | ((with_reducible refine gate_callee (f := 15) rfl ?_); refine goesL_ (some 65) rfl rfl Try.func15 (by kernel_rfl) rfl #[.int .i64 t242] rfl aa ?_; (with_reducible refine (fairwaylaw10_num.calls t242 t243 _ A32.out).mono ?_); rintro e w' ⟨rfl, ⟨nd, rfl⟩⟩; refine ⟨_, rfl, ?_⟩) | (go_at_call 15; (with_reducible refine (fairwaylaw10_num.calls t239 t244 _ A34.out).mono ?_); rintro e w' ⟨rfl, ⟨nd, rfl⟩⟩) | (go_at_call 15; (with_reducible refine (fairwaylaw10_num.calls t241 t245 _ A36.out).mono ?_); rintro e w' ⟨rfl, ⟨nd, rfl⟩⟩))
                        go_ret
                        exact ⟨er, bo⟩
                      ·rw [if_neg c37] at H
                       have c37b0 : (t245 == x6_20) = false := beq_eq_false_iff_ne.mpr c37
                       have c37b1 : (t245 != x6_20) = true := bne_iff_ne.mpr c37
                       obtain rfl := Option.some.inj H
                       have hcz58_0 : wc.cell? ⟨gb235, 0, none⟩ = some (.int .i64 ((rd_T25 ((rd_T38 l0 x3_1).f0) x4_3).f0)) := (blk_cell BK235.out 0).trans rfl
                       have hcz58_1 : wc.cell? ⟨gb235, 1, none⟩ = some (.int .i64 ((rd_T25 ((rd_T38 l0 x3_1).f0) x4_3).f1)) := (blk_cell BK235.out 1).trans rfl
                       have hcz58_2 : wc.cell? ⟨gb235, 2, none⟩ = some (.string ((rd_T25 ((rd_T38 l0 x3_1).f0) x4_3).f2)) := (blk_cell BK235.out 2).trans rfl
                       have hcz58_3 : wc.cell? ⟨gb235, 3, none⟩ = some (.string ((rd_T25 ((rd_T38 l0 x3_1).f0) x4_3).f3)) := (blk_cell BK235.out 3).trans rfl
                       have hcz58_4 : wc.cell? ⟨gb235, 4, none⟩ = some (.int .i64 ((rd_T25 ((rd_T38 l0 x3_1).f0) x4_3).f4)) := (blk_cell BK235.out 4).trans rfl
                       have hcz58_5 : wc.cell? ⟨gb235, 5, none⟩ = some (.bool ((rd_T25 ((rd_T38 l0 x3_1).f0) x4_3).f5)) := (blk_cell BK235.out 5).trans rfl
                       have hfz58_0 := blk_frozen BK235.out 0
                       have hfz58_1 := blk_frozen BK235.out 1
                       have hfz58_2 := blk_frozen BK235.out 2
                       have hfz58_3 := blk_frozen BK235.out 3
                       have hfz58_4 := blk_frozen BK235.out 4
                       have hfz58_5 := blk_frozen BK235.out 5
                       go_wp2_with (first | ((with_reducible refine gate_callee (f := 14) rfl ?_); refine goesL_ (some 55) rfl rfl Try.func14 (by kernel_rfl) rfl #[.agg #[.int .i64 ((rd_T25 ((rd_T38 l0 x3_1).f0) x4_3).f0), .int .i64 ((rd_T25 ((rd_T38 l0 x3_1).f0) x4_3).f1), .string ((rd_T25 ((rd_T38 l0 x3_1).f0) x4_3).f2), .string ((rd_T25 ((rd_T38 l0 x3_1).f0) x4_3).f3), .int .i64 ((rd_T25 ((rd_T38 l0 x3_1).f0) x4_3).f4), .bool ((rd_T25 ((rd_T38 l0 x3_1).f0) x4_3).f5)]] rfl aa ?_; (with_reducible refine (rec_Bytes.calls kj20 ((rd_T25 ((rd_T38 l0 x3_1).f0) x4_3).f0) ((rd_T25 ((rd_T38 l0 x3_1).f0) x4_3).f1) ((rd_T25 ((rd_T38 l0 x3_1).f0) x4_3).f2) ((rd_T25 ((rd_T38 l0 x3_1).f0) x4_3).f3) ((rd_T25 ((rd_T38 l0 x3_1).f0) x4_3).f4) ((rd_T25 ((rd_T38 l0 x3_1).f0) x4_3).f5) t238 t239 _ A29.out).mono ?_); rintro e w59 ⟨rfl, hb⟩; refine ⟨_, rfl, ?_⟩; replace BK235 := Aside0.mk (blk_below (g := gb235) (o := .cells #[.int .i64 ((rd_T25 ((rd_T38 l0 x3_1).f0) x4_3).f0), .int .i64 ((rd_T25 ((rd_T38 l0 x3_1).f0) x4_3).f1), .string ((rd_T25 ((rd_T38 l0 x3_1).f0) x4_3).f2), .string ((rd_T25 ((rd_T38 l0 x3_1).f0) x4_3).f3), .int .i64 ((rd_T25 ((rd_T38 l0 x3_1).f0) x4_3).f4), .bool ((rd_T25 ((rd_T38 l0 x3_1).f0) x4_3).f5)] 25 (0, 0)) (bk BK235.out) hb); replace HB := Aside0.mk (below_step bo hb); (try clear hb); (try clear hb2); (try clear hk); (try clear hi); obtain ⟨hcz60_0, hcz60_1, hcz60_2, hcz60_3, hcz60_4, hcz60_5⟩ := cl6 BK235.out; obtain ⟨hfz60_0, hfz60_1, hfz60_2, hfz60_3, hfz60_4, hfz60_5⟩ := fz6 BK235.out) | ((with_reducible refine gate_callee (f := 21) rfl ?_); refine goesL_ (some 60) rfl rfl Try.func21 (by kernel_rfl) rfl #[.agg #[.int .i64 ((rd_T25 ((rd_T38 l0 x3_1).f0) x4_3).f0), .int .i64 ((rd_T25 ((rd_T38 l0 x3_1).f0) x4_3).f1), .string ((rd_T25 ((rd_T38 l0 x3_1).f0) x4_3).f2), .string ((rd_T25 ((rd_T38 l0 x3_1).f0) x4_3).f3), .int .i64 ((rd_T25 ((rd_T38 l0 x3_1).f0) x4_3).f4), .bool ((rd_T25 ((rd_T38 l0 x3_1).f0) x4_3).f5)]] rfl aa ?_; (with_reducible refine (rec_Size.calls kj20 ((rd_T25 ((rd_T38 l0 x3_1).f0) x4_3).f0) ((rd_T25 ((rd_T38 l0 x3_1).f0) x4_3).f1) ((rd_T25 ((rd_T38 l0 x3_1).f0) x4_3).f2) ((rd_T25 ((rd_T38 l0 x3_1).f0) x4_3).f3) ((rd_T25 ((rd_T38 l0 x3_1).f0) x4_3).f4) ((rd_T25 ((rd_T38 l0 x3_1).f0) x4_3).f5) t240 t241 _ A30.out).mono ?_); rintro e w61 ⟨rfl, hb⟩; refine ⟨_, rfl, ?_⟩; replace BK235 := Aside0.mk (blk_below (g := gb235) (o := .cells #[.int .i64 ((rd_T25 ((rd_T38 l0 x3_1).f0) x4_3).f0), .int .i64 ((rd_T25 ((rd_T38 l0 x3_1).f0) x4_3).f1), .string ((rd_T25 ((rd_T38 l0 x3_1).f0) x4_3).f2), .string ((rd_T25 ((rd_T38 l0 x3_1).f0) x4_3).f3), .int .i64 ((rd_T25 ((rd_T38 l0 x3_1).f0) x4_3).f4), .bool ((rd_T25 ((rd_T38 l0 x3_1).f0) x4_3).f5)] 25 (0, 0)) (bk BK235.out) hb); replace HB := Aside0.mk (below_step bo hb); (try clear hb); (try clear hb2); (try clear hk); (try clear hi); obtain ⟨hcz62_0, hcz62_1, hcz62_2, hcz62_3, hcz62_4, hcz62_5⟩ := cl6 BK235.out; obtain ⟨hfz62_0, hfz62_1, hfz62_2, hfz62_3, hfz62_4, hfz62_5⟩ := fz6 BK235.out) | ((with_reducible refine gate_callee (f := 22) rfl ?_); refine goesL_ (some 64) rfl rfl Try.func22 (by kernel_rfl) rfl #[.agg #[.int .i64 ((rd_T25 ((rd_T38 l0 x3_1).f0) x4_3).f0), .int .i64 ((rd_T25 ((rd_T38 l0 x3_1).f0) x4_3).f1), .string ((rd_T25 ((rd_T38 l0 x3_1).f0) x4_3).f2), .string ((rd_T25 ((rd_T38 l0 x3_1).f0) x4_3).f3), .int .i64 ((rd_T25 ((rd_T38 l0 x3_1).f0) x4_3).f4), .bool ((rd_T25 ((rd_T38 l0 x3_1).f0) x4_3).f5)]] rfl aa ?_; (with_reducible refine (rec_Check.calls kj20 ((rd_T25 ((rd_T38 l0 x3_1).f0) x4_3).f0) ((rd_T25 ((rd_T38 l0 x3_1).f0) x4_3).f1) ((rd_T25 ((rd_T38 l0 x3_1).f0) x4_3).f2) ((rd_T25 ((rd_T38 l0 x3_1).f0) x4_3).f3) ((rd_T25 ((rd_T38 l0 x3_1).f0) x4_3).f4) ((rd_T25 ((rd_T38 l0 x3_1).f0) x4_3).f5) t242 _ A31.out).mono ?_); rintro e w63 ⟨rfl, hb⟩; refine ⟨_, rfl, ?_⟩; replace BK235 := Aside0.mk (blk_below (g := gb235) (o := .cells #[.int .i64 ((rd_T25 ((rd_T38 l0 x3_1).f0) x4_3).f0), .int .i64 ((rd_T25 ((rd_T38 l0 x3_1).f0) x4_3).f1), .string ((rd_T25 ((rd_T38 l0 x3_1).f0) x4_3).f2), .string ((rd_T25 ((rd_T38 l0 x3_1).f0) x4_3).f3), .int .i64 ((rd_T25 ((rd_T38 l0 x3_1).f0) x4_3).f4), .bool ((rd_T25 ((rd_T38 l0 x3_1).f0) x4_3).f5)] 25 (0, 0)) (bk BK235.out) hb); replace HB := Aside0.mk (below_step bo hb); (try clear hb); (try clear hb2); (try clear hk); (try clear hi)) | ((with_reducible refine gate_callee (f := 15) rfl ?_); refine goesL_ (some 65) rfl rfl Try.func15 (by kernel_rfl) rfl #[.int .i64 t242] rfl aa ?_; (with_reducible refine (fairwaylaw10_num.calls t242 t243 _ A32.out).mono ?_); rintro e w' ⟨rfl, ⟨nd, rfl⟩⟩; refine ⟨_, rfl, ?_⟩) | (go_at_call 15; (with_reducible refine (fairwaylaw10_num.calls t239 t244 _ A34.out).mono ?_); rintro e w' ⟨rfl, ⟨nd, rfl⟩⟩) | (go_at_call 15; (with_reducible refine (fairwaylaw10_num.calls t241 t245 _ A36.out).mono ?_); rintro e w' ⟨rfl, ⟨nd, rfl⟩⟩))
                       go_ret
                       exact ⟨er, bo⟩
                     ·rw [if_neg c35] at H
                      have c35b0 : (t244 == x6_20) = false := beq_eq_false_iff_ne.mpr c35
                      have c35b1 : (t244 != x6_20) = true := bne_iff_ne.mpr c35
                      obtain rfl := Option.some.inj H
                      have hcz64_0 : wc.cell? ⟨gb235, 0, none⟩ = some (.int .i64 ((rd_T25 ((rd_T38 l0 x3_1).f0) x4_3).f0)) := (blk_cell BK235.out 0).trans rfl
                      have hcz64_1 : wc.cell? ⟨gb235, 1, none⟩ = some (.int .i64 ((rd_T25 ((rd_T38 l0 x3_1).f0) x4_3).f1)) := (blk_cell BK235.out 1).trans rfl
                      have hcz64_2 : wc.cell? ⟨gb235, 2, none⟩ = some (.string ((rd_T25 ((rd_T38 l0 x3_1).f0) x4_3).f2)) := (blk_cell BK235.out 2).trans rfl
                      have hcz64_3 : wc.cell? ⟨gb235, 3, none⟩ = some (.string ((rd_T25 ((rd_T38 l0 x3_1).f0) x4_3).f3)) := (blk_cell BK235.out 3).trans rfl
                      have hcz64_4 : wc.cell? ⟨gb235, 4, none⟩ = some (.int .i64 ((rd_T25 ((rd_T38 l0 x3_1).f0) x4_3).f4)) := (blk_cell BK235.out 4).trans rfl
                      have hcz64_5 : wc.cell? ⟨gb235, 5, none⟩ = some (.bool ((rd_T25 ((rd_T38 l0 x3_1).f0) x4_3).f5)) := (blk_cell BK235.out 5).trans rfl
                      have hfz64_0 := blk_frozen BK235.out 0
                      have hfz64_1 := blk_frozen BK235.out 1
                      have hfz64_2 := blk_frozen BK235.out 2
                      have hfz64_3 := blk_frozen BK235.out 3
                      have hfz64_4 := blk_frozen BK235.out 4
                      have hfz64_5 := blk_frozen BK235.out 5
                      go_wp2_with (first | ((with_reducible refine gate_callee (f := 14) rfl ?_); refine goesL_ (some 55) rfl rfl Try.func14 (by kernel_rfl) rfl #[.agg #[.int .i64 ((rd_T25 ((rd_T38 l0 x3_1).f0) x4_3).f0), .int .i64 ((rd_T25 ((rd_T38 l0 x3_1).f0) x4_3).f1), .string ((rd_T25 ((rd_T38 l0 x3_1).f0) x4_3).f2), .string ((rd_T25 ((rd_T38 l0 x3_1).f0) x4_3).f3), .int .i64 ((rd_T25 ((rd_T38 l0 x3_1).f0) x4_3).f4), .bool ((rd_T25 ((rd_T38 l0 x3_1).f0) x4_3).f5)]] rfl aa ?_; (with_reducible refine (rec_Bytes.calls kj20 ((rd_T25 ((rd_T38 l0 x3_1).f0) x4_3).f0) ((rd_T25 ((rd_T38 l0 x3_1).f0) x4_3).f1) ((rd_T25 ((rd_T38 l0 x3_1).f0) x4_3).f2) ((rd_T25 ((rd_T38 l0 x3_1).f0) x4_3).f3) ((rd_T25 ((rd_T38 l0 x3_1).f0) x4_3).f4) ((rd_T25 ((rd_T38 l0 x3_1).f0) x4_3).f5) t238 t239 _ A29.out).mono ?_); rintro e w65 ⟨rfl, hb⟩; refine ⟨_, rfl, ?_⟩; replace BK235 := Aside0.mk (blk_below (g := gb235) (o := .cells #[.int .i64 ((rd_T25 ((rd_T38 l0 x3_1).f0) x4_3).f0), .int .i64 ((rd_T25 ((rd_T38 l0 x3_1).f0) x4_3).f1), .string ((rd_T25 ((rd_T38 l0 x3_1).f0) x4_3).f2), .string ((rd_T25 ((rd_T38 l0 x3_1).f0) x4_3).f3), .int .i64 ((rd_T25 ((rd_T38 l0 x3_1).f0) x4_3).f4), .bool ((rd_T25 ((rd_T38 l0 x3_1).f0) x4_3).f5)] 25 (0, 0)) (bk BK235.out) hb); replace HB := Aside0.mk (below_step bo hb); (try clear hb); (try clear hb2); (try clear hk); (try clear hi); obtain ⟨hcz66_0, hcz66_1, hcz66_2, hcz66_3, hcz66_4, hcz66_5⟩ := cl6 BK235.out; obtain ⟨hfz66_0, hfz66_1, hfz66_2, hfz66_3, hfz66_4, hfz66_5⟩ := fz6 BK235.out) | ((with_reducible refine gate_callee (f := 21) rfl ?_); refine goesL_ (some 60) rfl rfl Try.func21 (by kernel_rfl) rfl #[.agg #[.int .i64 ((rd_T25 ((rd_T38 l0 x3_1).f0) x4_3).f0), .int .i64 ((rd_T25 ((rd_T38 l0 x3_1).f0) x4_3).f1), .string ((rd_T25 ((rd_T38 l0 x3_1).f0) x4_3).f2), .string ((rd_T25 ((rd_T38 l0 x3_1).f0) x4_3).f3), .int .i64 ((rd_T25 ((rd_T38 l0 x3_1).f0) x4_3).f4), .bool ((rd_T25 ((rd_T38 l0 x3_1).f0) x4_3).f5)]] rfl aa ?_; (with_reducible refine (rec_Size.calls kj20 ((rd_T25 ((rd_T38 l0 x3_1).f0) x4_3).f0) ((rd_T25 ((rd_T38 l0 x3_1).f0) x4_3).f1) ((rd_T25 ((rd_T38 l0 x3_1).f0) x4_3).f2) ((rd_T25 ((rd_T38 l0 x3_1).f0) x4_3).f3) ((rd_T25 ((rd_T38 l0 x3_1).f0) x4_3).f4) ((rd_T25 ((rd_T38 l0 x3_1).f0) x4_3).f5) t240 t241 _ A30.out).mono ?_); rintro e w67 ⟨rfl, hb⟩; refine ⟨_, rfl, ?_⟩; replace BK235 := Aside0.mk (blk_below (g := gb235) (o := .cells #[.int .i64 ((rd_T25 ((rd_T38 l0 x3_1).f0) x4_3).f0), .int .i64 ((rd_T25 ((rd_T38 l0 x3_1).f0) x4_3).f1), .string ((rd_T25 ((rd_T38 l0 x3_1).f0) x4_3).f2), .string ((rd_T25 ((rd_T38 l0 x3_1).f0) x4_3).f3), .int .i64 ((rd_T25 ((rd_T38 l0 x3_1).f0) x4_3).f4), .bool ((rd_T25 ((rd_T38 l0 x3_1).f0) x4_3).f5)] 25 (0, 0)) (bk BK235.out) hb); replace HB := Aside0.mk (below_step bo hb); (try clear hb); (try clear hb2); (try clear hk); (try clear hi); obtain ⟨hcz68_0, hcz68_1, hcz68_2, hcz68_3, hcz68_4, hcz68_5⟩ := cl6 BK235.out; obtain ⟨hfz68_0, hfz68_1, hfz68_2, hfz68_3, hfz68_4, hfz68_5⟩ := fz6 BK235.out) | ((with_reducible refine gate_callee (f := 22) rfl ?_); refine goesL_ (some 64) rfl rfl Try.func22 (by kernel_rfl) rfl #[.agg #[.int .i64 ((rd_T25 ((rd_T38 l0 x3_1).f0) x4_3).f0), .int .i64 ((rd_T25 ((rd_T38 l0 x3_1).f0) x4_3).f1), .string ((rd_T25 ((rd_T38 l0 x3_1).f0) x4_3).f2), .string ((rd_T25 ((rd_T38 l0 x3_1).f0) x4_3).f3), .int .i64 ((rd_T25 ((rd_T38 l0 x3_1).f0) x4_3).f4), .bool ((rd_T25 ((rd_T38 l0 x3_1).f0) x4_3).f5)]] rfl aa ?_; (with_reducible refine (rec_Check.calls kj20 ((rd_T25 ((rd_T38 l0 x3_1).f0) x4_3).f0) ((rd_T25 ((rd_T38 l0 x3_1).f0) x4_3).f1) ((rd_T25 ((rd_T38 l0 x3_1).f0) x4_3).f2) ((rd_T25 ((rd_T38 l0 x3_1).f0) x4_3).f3) ((rd_T25 ((rd_T38 l0 x3_1).f0) x4_3).f4) ((rd_T25 ((rd_T38 l0 x3_1).f0) x4_3).f5) t242 _ A31.out).mono ?_); rintro e w69 ⟨rfl, hb⟩; refine ⟨_, rfl, ?_⟩; replace BK235 := Aside0.mk (blk_below (g := gb235) (o := .cells #[.int .i64 ((rd_T25 ((rd_T38 l0 x3_1).f0) x4_3).f0), .int .i64 ((rd_T25 ((rd_T38 l0 x3_1).f0) x4_3).f1), .string ((rd_T25 ((rd_T38 l0 x3_1).f0) x4_3).f2), .string ((rd_T25 ((rd_T38 l0 x3_1).f0) x4_3).f3), .int .i64 ((rd_T25 ((rd_T38 l0 x3_1).f0) x4_3).f4), .bool ((rd_T25 ((rd_T38 l0 x3_1).f0) x4_3).f5)] 25 (0, 0)) (bk BK235.out) hb); replace HB := Aside0.mk (below_step bo hb); (try clear hb); (try clear hb2); (try clear hk); (try clear hi)) | ((with_reducible refine gate_callee (f := 15) rfl ?_); refine goesL_ (some 65) rfl rfl Try.func15 (by kernel_rfl) rfl #[.int .i64 t242] rfl aa ?_; (with_reducible refine (fairwaylaw10_num.calls t242 t243 _ A32.out).mono ?_); rintro e w' ⟨rfl, ⟨nd, rfl⟩⟩; refine ⟨_, rfl, ?_⟩) | (go_at_call 15; (with_reducible refine (fairwaylaw10_num.calls t239 t244 _ A34.out).mono ?_); rintro e w' ⟨rfl, ⟨nd, rfl⟩⟩))
                      go_ret
                      exact ⟨er, bo⟩
                    ·rw [if_neg c33] at H
                     have c33b0 : (t243 == x6_20) = false := beq_eq_false_iff_ne.mpr c33
                     have c33b1 : (t243 != x6_20) = true := bne_iff_ne.mpr c33
                     obtain rfl := Option.some.inj H
                     have hcz70_0 : wc.cell? ⟨gb235, 0, none⟩ = some (.int .i64 ((rd_T25 ((rd_T38 l0 x3_1).f0) x4_3).f0)) := (blk_cell BK235.out 0).trans rfl
                     have hcz70_1 : wc.cell? ⟨gb235, 1, none⟩ = some (.int .i64 ((rd_T25 ((rd_T38 l0 x3_1).f0) x4_3).f1)) := (blk_cell BK235.out 1).trans rfl
                     have hcz70_2 : wc.cell? ⟨gb235, 2, none⟩ = some (.string ((rd_T25 ((rd_T38 l0 x3_1).f0) x4_3).f2)) := (blk_cell BK235.out 2).trans rfl
                     have hcz70_3 : wc.cell? ⟨gb235, 3, none⟩ = some (.string ((rd_T25 ((rd_T38 l0 x3_1).f0) x4_3).f3)) := (blk_cell BK235.out 3).trans rfl
                     have hcz70_4 : wc.cell? ⟨gb235, 4, none⟩ = some (.int .i64 ((rd_T25 ((rd_T38 l0 x3_1).f0) x4_3).f4)) := (blk_cell BK235.out 4).trans rfl
                     have hcz70_5 : wc.cell? ⟨gb235, 5, none⟩ = some (.bool ((rd_T25 ((rd_T38 l0 x3_1).f0) x4_3).f5)) := (blk_cell BK235.out 5).trans rfl
                     have hfz70_0 := blk_frozen BK235.out 0
                     have hfz70_1 := blk_frozen BK235.out 1
                     have hfz70_2 := blk_frozen BK235.out 2
                     have hfz70_3 := blk_frozen BK235.out 3
                     have hfz70_4 := blk_frozen BK235.out 4
                     have hfz70_5 := blk_frozen BK235.out 5
                     go_wp2_with (first | ((with_reducible refine gate_callee (f := 14) rfl ?_); refine goesL_ (some 55) rfl rfl Try.func14 (by kernel_rfl) rfl #[.agg #[.int .i64 ((rd_T25 ((rd_T38 l0 x3_1).f0) x4_3).f0), .int .i64 ((rd_T25 ((rd_T38 l0 x3_1).f0) x4_3).f1), .string ((rd_T25 ((rd_T38 l0 x3_1).f0) x4_3).f2), .string ((rd_T25 ((rd_T38 l0 x3_1).f0) x4_3).f3), .int .i64 ((rd_T25 ((rd_T38 l0 x3_1).f0) x4_3).f4), .bool ((rd_T25 ((rd_T38 l0 x3_1).f0) x4_3).f5)]] rfl aa ?_; (with_reducible refine (rec_Bytes.calls kj20 ((rd_T25 ((rd_T38 l0 x3_1).f0) x4_3).f0) ((rd_T25 ((rd_T38 l0 x3_1).f0) x4_3).f1) ((rd_T25 ((rd_T38 l0 x3_1).f0) x4_3).f2) ((rd_T25 ((rd_T38 l0 x3_1).f0) x4_3).f3) ((rd_T25 ((rd_T38 l0 x3_1).f0) x4_3).f4) ((rd_T25 ((rd_T38 l0 x3_1).f0) x4_3).f5) t238 t239 _ A29.out).mono ?_); rintro e w71 ⟨rfl, hb⟩; refine ⟨_, rfl, ?_⟩; replace BK235 := Aside0.mk (blk_below (g := gb235) (o := .cells #[.int .i64 ((rd_T25 ((rd_T38 l0 x3_1).f0) x4_3).f0), .int .i64 ((rd_T25 ((rd_T38 l0 x3_1).f0) x4_3).f1), .string ((rd_T25 ((rd_T38 l0 x3_1).f0) x4_3).f2), .string ((rd_T25 ((rd_T38 l0 x3_1).f0) x4_3).f3), .int .i64 ((rd_T25 ((rd_T38 l0 x3_1).f0) x4_3).f4), .bool ((rd_T25 ((rd_T38 l0 x3_1).f0) x4_3).f5)] 25 (0, 0)) (bk BK235.out) hb); replace HB := Aside0.mk (below_step bo hb); (try clear hb); (try clear hb2); (try clear hk); (try clear hi); obtain ⟨hcz72_0, hcz72_1, hcz72_2, hcz72_3, hcz72_4, hcz72_5⟩ := cl6 BK235.out; obtain ⟨hfz72_0, hfz72_1, hfz72_2, hfz72_3, hfz72_4, hfz72_5⟩ := fz6 BK235.out) | ((with_reducible refine gate_callee (f := 21) rfl ?_); refine goesL_ (some 60) rfl rfl Try.func21 (by kernel_rfl) rfl #[.agg #[.int .i64 ((rd_T25 ((rd_T38 l0 x3_1).f0) x4_3).f0), .int .i64 ((rd_T25 ((rd_T38 l0 x3_1).f0) x4_3).f1), .string ((rd_T25 ((rd_T38 l0 x3_1).f0) x4_3).f2), .string ((rd_T25 ((rd_T38 l0 x3_1).f0) x4_3).f3), .int .i64 ((rd_T25 ((rd_T38 l0 x3_1).f0) x4_3).f4), .bool ((rd_T25 ((rd_T38 l0 x3_1).f0) x4_3).f5)]] rfl aa ?_; (with_reducible refine (rec_Size.calls kj20 ((rd_T25 ((rd_T38 l0 x3_1).f0) x4_3).f0) ((rd_T25 ((rd_T38 l0 x3_1).f0) x4_3).f1) ((rd_T25 ((rd_T38 l0 x3_1).f0) x4_3).f2) ((rd_T25 ((rd_T38 l0 x3_1).f0) x4_3).f3) ((rd_T25 ((rd_T38 l0 x3_1).f0) x4_3).f4) ((rd_T25 ((rd_T38 l0 x3_1).f0) x4_3).f5) t240 t241 _ A30.out).mono ?_); rintro e w73 ⟨rfl, hb⟩; refine ⟨_, rfl, ?_⟩; replace BK235 := Aside0.mk (blk_below (g := gb235) (o := .cells #[.int .i64 ((rd_T25 ((rd_T38 l0 x3_1).f0) x4_3).f0), .int .i64 ((rd_T25 ((rd_T38 l0 x3_1).f0) x4_3).f1), .string ((rd_T25 ((rd_T38 l0 x3_1).f0) x4_3).f2), .string ((rd_T25 ((rd_T38 l0 x3_1).f0) x4_3).f3), .int .i64 ((rd_T25 ((rd_T38 l0 x3_1).f0) x4_3).f4), .bool ((rd_T25 ((rd_T38 l0 x3_1).f0) x4_3).f5)] 25 (0, 0)) (bk BK235.out) hb); replace HB := Aside0.mk (below_step bo hb); (try clear hb); (try clear hb2); (try clear hk); (try clear hi); obtain ⟨hcz74_0, hcz74_1, hcz74_2, hcz74_3, hcz74_4, hcz74_5⟩ := cl6 BK235.out; obtain ⟨hfz74_0, hfz74_1, hfz74_2, hfz74_3, hfz74_4, hfz74_5⟩ := fz6 BK235.out) | ((with_reducible refine gate_callee (f := 22) rfl ?_); refine goesL_ (some 64) rfl rfl Try.func22 (by kernel_rfl) rfl #[.agg #[.int .i64 ((rd_T25 ((rd_T38 l0 x3_1).f0) x4_3).f0), .int .i64 ((rd_T25 ((rd_T38 l0 x3_1).f0) x4_3).f1), .string ((rd_T25 ((rd_T38 l0 x3_1).f0) x4_3).f2), .string ((rd_T25 ((rd_T38 l0 x3_1).f0) x4_3).f3), .int .i64 ((rd_T25 ((rd_T38 l0 x3_1).f0) x4_3).f4), .bool ((rd_T25 ((rd_T38 l0 x3_1).f0) x4_3).f5)]] rfl aa ?_; (with_reducible refine (rec_Check.calls kj20 ((rd_T25 ((rd_T38 l0 x3_1).f0) x4_3).f0) ((rd_T25 ((rd_T38 l0 x3_1).f0) x4_3).f1) ((rd_T25 ((rd_T38 l0 x3_1).f0) x4_3).f2) ((rd_T25 ((rd_T38 l0 x3_1).f0) x4_3).f3) ((rd_T25 ((rd_T38 l0 x3_1).f0) x4_3).f4) ((rd_T25 ((rd_T38 l0 x3_1).f0) x4_3).f5) t242 _ A31.out).mono ?_); rintro e w75 ⟨rfl, hb⟩; refine ⟨_, rfl, ?_⟩; replace BK235 := Aside0.mk (blk_below (g := gb235) (o := .cells #[.int .i64 ((rd_T25 ((rd_T38 l0 x3_1).f0) x4_3).f0), .int .i64 ((rd_T25 ((rd_T38 l0 x3_1).f0) x4_3).f1), .string ((rd_T25 ((rd_T38 l0 x3_1).f0) x4_3).f2), .string ((rd_T25 ((rd_T38 l0 x3_1).f0) x4_3).f3), .int .i64 ((rd_T25 ((rd_T38 l0 x3_1).f0) x4_3).f4), .bool ((rd_T25 ((rd_T38 l0 x3_1).f0) x4_3).f5)] 25 (0, 0)) (bk BK235.out) hb); replace HB := Aside0.mk (below_step bo hb); (try clear hb); (try clear hb2); (try clear hk); (try clear hi)) | ((with_reducible refine gate_callee (f := 15) rfl ?_); refine goesL_ (some 65) rfl rfl Try.func15 (by kernel_rfl) rfl #[.int .i64 t242] rfl aa ?_; (with_reducible refine (fairwaylaw10_num.calls t242 t243 _ A32.out).mono ?_); rintro e w' ⟨rfl, ⟨nd, rfl⟩⟩; refine ⟨_, rfl, ?_⟩))
                     go_ret
                     exact ⟨er, bo⟩
                 ·rw [if_neg c19] at H
                  exact absurd H (by simp)
                ·rw [if_neg c18] at H
                 exact absurd H (by simp)
               ·rw [if_neg c17] at H
                exact absurd H (by simp)
              ·rw [if_neg c16] at H
               exact absurd H (by simp)
             ·replace c15 := Bool.eq_false_iff.mpr c15
              subst c15
              have H1 : (fairwaylaw10_RecBytes.l0 kj10 l0 (wrap64 (x3_1 + 1))) = some r := by rw [if_neg (show ¬ (false = true) by decide)] at H; exact H
              clear H
              have H := H1
              clear H1
              have H' := Aside0.mk H
              clear H
              go_wp2
              go_roundg kj10
              case measure => have := HK1.out; have := HJ1.out; have := HK3.out; have := HJ10.out; omega
              case rel => exact ⟨(wrap64 (x3_1 + 1)), ap, H', ⟨by have := HK1.out; have := HJ1.out; have := HK3.out; have := HJ10.out; omega⟩, ⟨bo⟩⟩
       ·rw [if_neg c6] at H
        exact absurd H (by simp)
      ·rw [if_neg c5] at H
       exact absurd H (by simp)
     ·replace c4 := Bool.eq_false_iff.mpr c4
      subst c4
      have H1 : ((fairwaylaw10_wakes.f kj1).bind fun t229 => (some t229)) = some r := by rw [if_neg (show ¬ (false = true) by decide)] at H; exact H
      clear H
      have H := H1
      clear H1
      replace H := Option.bind_eq_some_iff.mp H
      obtain ⟨t229, A760, H⟩ := H
      replace H : (some t229) = some r := H
      have A76 := Aside0.mk A760
      clear A760
      obtain rfl := Option.some.inj H
      go_wp2_with (first | ((with_reducible refine gate_callee (f := 18) rfl ?_); refine goesL_ (some 91) rfl rfl Try.func18 (by kernel_rfl) rfl #[] rfl aa ?_; (with_reducible refine (fairwaylaw10_wakes.calls kj1  t229 _ A76.out).mono ?_); rintro e w77 ⟨rfl, hb⟩; refine ⟨_, rfl, ?_⟩; replace HB := Aside0.mk (below_step bo hb); (try clear hb); (try clear hb2); (try clear hk); (try clear hi)))
      go_ret
      exact ⟨er, bo⟩

end Go.Proofs.Ytmabdfdmccbfnaa.P

/- From data to typed values: whatever the claim's reader reads at a type is told by the print's kinds, with the bounds of the reach. -/
namespace Go.Proofs.Ytmabdfdmccbfnaa.Open
open Go.RowKit Go.Proofs.YtmabdfdmccbfnaaW.PrintWords Go.Proofs.YtmabdfdmccbfnaaW.PrintLast
set_option linter.unusedVariables false

/-- What is read at type t is told by kind k, and is good. -/
structure Rd {α : Type} (P : Program) (t : TypeId) (k : Kd α) (good : α → Prop) : Prop where
  sz : P.cellsOf t = k.sz
  rd : ∀ {H : Type} (enc : TypeId × Value → H) (w : World) (fuel : Nat) (cs : List Value) (d : DataW H) (ps : List MemPlace),
    DataW.trod enc P w 0 (fun _ => true) true fuel t cs = some (d, ps) → (∀ n ∈ d.weights P t, n ≤ reachBytes) → ∃ x, k.K w x cs ∧ good x

theorem rd_int {P : Program} {t : TypeId} {k : IntKind} (hu : P.underlying t = some (.int k)) (hc : P.cellsOf t = 1) : Rd P t (Kd.int k) (fun n => (Lit.int k n).wf = true) where
  sz := hc
  rd := by
    intro H enc w fuel cs d ps h _
    obtain ⟨n, rfl, _, hw⟩ := DataW.trod_int hu h
    exact ⟨n, rfl, hw⟩

theorem rd_bool {P : Program} {t : TypeId} (hu : P.underlying t = some .bool) (hc : P.cellsOf t = 1) : Rd P t Kd.bool (fun _ => True) where
  sz := hc
  rd := by
    intro H enc w fuel cs d ps h _
    obtain ⟨b, rfl, _⟩ := DataW.trod_bool hu h
    exact ⟨b, rfl, trivial⟩

theorem rd_string {P : Program} {t : TypeId} (hu : P.underlying t = some .string) (hc : P.cellsOf t = 1) : Rd P t Kd.string (fun s => s.size ≤ 140737488351232) where
  sz := hc
  rd := by
    intro H enc w fuel cs d ps h hw
    obtain ⟨s, rfl, hx, _⟩ := DataW.trod_string hu h
    obtain ⟨rfl, rfl⟩ := Prod.mk.inj hx
    refine ⟨s, rfl, ?_⟩
    have := hw s.data.toList.length (by simp [DataW.weights])
    simpa [reachBytes] using this

/-- A struct's fields, from one on: their cells in line. -/
structure Fs {α : Type} (P : Program) (fs : List Field) (off : Nat) (k : Kd α) (good : α → Prop) : Prop where
  rd : ∀ {H : Type} (enc : TypeId × Value → H) (w : World) (fuel : Nat) (cs : List Value) (ds : List (DataW H × List MemPlace)),
    ds.length = fs.length → (∀ (i : Nat) f, fs[i]? = some f → DataW.trod enc P w 0 (fun _ => true) true fuel f.type ((cs.drop f.offset).take (P.cellsOf f.type)) = ds[i]?) →
    (∀ n ∈ DataW.weightsEach P (fs.map (·.type)) (ds.map (·.1)), n ≤ reachBytes) → cs.length = off + k.sz → ∃ x, k.K w x (cs.drop off) ∧ good x

theorem fs_last {α : Type} {P : Program} {f : Field} {k : Kd α} {good : α → Prop} (h : Rd P f.type k good) : Fs P [f] f.offset k good where
  rd := by
    intro H enc w fuel cs ds hl hd hw hc
    match ds, hl with
    | [y], _ =>
      have h0 := hd 0 f rfl
      simp only [List.getElem?_cons_zero] at h0
      obtain ⟨x, hk, hg⟩ := h.rd enc w fuel _ y.1 y.2 h0 (fun n hn => hw n (by simp [DataW.weightsEach]; exact hn))
      rw [h.sz, List.take_of_length_le (by rw [List.length_drop]; omega)] at hk
      exact ⟨x, hk, hg⟩

theorem fs_cons {α β : Type} {P : Program} {f : Field} {fs : List Field} {off : Nat} {k : Kd α} {k' : Kd β} {good : α → Prop} {good' : β → Prop} (h : Rd P f.type k good) (hs : Fs P fs off k' good')
    (ho : f.offset + k.sz = off) : Fs P (f :: fs) f.offset (Kd.pair k k') (fun x => good x.1 ∧ good' x.2) where
  rd := by
    intro H enc w fuel cs ds hl hd hw hc
    match ds, hl with
    | y :: ys, hl =>
      have hsz : (Kd.pair k k').sz = k.sz + k'.sz := rfl
      rw [hsz] at hc
      have h0 := hd 0 f rfl
      simp only [List.getElem?_cons_zero] at h0
      obtain ⟨x, hk, hg⟩ := h.rd enc w fuel _ y.1 y.2 h0 (fun n hn => hw n (by simp only [List.map_cons, DataW.weightsEach, List.mem_append]; exact .inl hn))
      obtain ⟨x', hk', hg'⟩ := hs.rd enc w fuel cs ys (by simpa using hl) (fun i g hi => by simpa using hd (i + 1) g (by simpa using hi))
        (fun n hn => hw n (by simp only [List.map_cons, DataW.weightsEach, List.mem_append]; exact .inr hn)) (by omega)
      rw [h.sz] at hk
      refine ⟨(x, x'), ⟨_, _, ?_, hk, hk'⟩, hg, hg'⟩
      rw [← ho, ← List.drop_drop, List.take_append_drop]

theorem rd_struct {α β : Type} {P : Program} {t : TypeId} {fs : Array Field} {k : Kd β} {good : β → Prop} {fw : α → β} {back : β → α} (hu : P.underlying t = some (.struct fs)) (h : Fs P fs.toList 0 k good)
    (hc : P.cellsOf t = k.sz) (hb : ∀ y, fw (back y) = y) : Rd P t (Kd.iso k fw) (fun x => good (fw x)) where
  sz := hc
  rd := by
    intro H enc w fuel cs d ps hr hw
    obtain ⟨xs, n, _, hx, hl, hlen, hf⟩ := DataW.trod_struct hu hr
    obtain ⟨rfl, rfl⟩ := Prod.mk.inj hx
    obtain ⟨x, hk, hg⟩ := h.rd enc w n cs xs (by simpa using hlen) (fun i f hi => by simpa using hf i f (by simpa using hi))
      (fun m hm => hw m (by simp only [DataW.weights, hu]; exact hm)) (by rw [hl, hc]; omega)
    refine ⟨back x, ?_, ?_⟩
    · show k.K w (fw (back x)) cs
      rw [hb]
      simpa using hk
    · show good (fw (back x))
      rw [hb]; exact hg

theorem list_of {α : Type} {p : Nat → α → Prop} : ∀ n, (∀ i, i < n → ∃ x, p i x) → ∃ xs : List α, xs.length = n ∧ ∀ i x, xs[i]? = some x → p i x
  | 0, _ => ⟨[], rfl, fun i x h => by simp at h⟩
  | n + 1, h => by
    obtain ⟨xs, hl, hx⟩ := list_of n (fun i hi => h i (by omega))
    obtain ⟨y, hy⟩ := h n (by omega)
    refine ⟨xs ++ [y], by simp [hl], fun i x hi => ?_⟩
    by_cases hin : i < xs.length
    · rw [List.getElem?_append_left hin] at hi
      exact hx i x hi
    · rw [List.getElem?_append_right (by omega)] at hi
      have : i = xs.length := by
        by_cases e : i - xs.length = 0
        · omega
        · rw [List.getElem?_eq_none (by simp; omega)] at hi
          exact absurd hi (by simp)
      subst this
      simp at hi
      rw [hl, ← hi]
      exact hy

theorem weights_all {H : Type} {P : Program} {e : TypeId} : ∀ {l : List (DataW H)} {d : DataW H}, d ∈ l → ∀ n ∈ d.weights P e, n ∈ DataW.weightsAll P e l
  | [], _, h, _, _ => by simp at h
  | x :: l, d, h, n, hn => by
    simp only [DataW.weightsAll, List.mem_append]
    rcases List.mem_cons.1 h with rfl | h
    · exact .inl hn
    · exact .inr (weights_all h n hn)

theorem rd_slice {α : Type} {P : Program} {t e : TypeId} {k : Kd α} {good : α → Prop} (B : Nat) (hu : P.underlying t = some (.slice e)) (hc : P.cellsOf t = 1) (hB : P.bytesOf e = B) (h : Rd P e k good) :
    Rd P t (Kd.slice e k) (fun xs => (∀ x ∈ xs, good x) ∧ xs.length * B ≤ 140737488351232) where
  sz := hc
  rd := by
    intro H enc w fuel cs d ps hr hw
    rcases DataW.trod_slice hu hr with ⟨rfl, hx⟩ | ⟨a, len, cap, elems, rest, n, _, rfl, hx, _, hl, hm, hlen, hel, _, _⟩
    · exact ⟨[], ⟨none, 0, rfl, Nat.le_refl 0, Kd.C_nil k w⟩, by simp, by simp⟩
    · obtain ⟨rfl, rfl⟩ := Prod.mk.inj hx
      have hw1 : ∀ x ∈ elems, ∀ n ∈ x.1.weights P e, n ≤ reachBytes := fun x hx n hn =>
        hw n (by simp only [DataW.weights, hu, List.mem_cons, List.mem_append]; exact .inr (.inl (weights_all (List.mem_map_of_mem hx) n hn)))
      have hw2 : (elems.length + rest.length) * P.bytesOf e ≤ reachBytes := hw _ (by simp only [DataW.weights, hu, List.mem_cons, List.length_map]; simp)
      have key : ∀ i, i < len → ∃ x, good x ∧ ∃ c, c.length = k.sz ∧ k.K w x c ∧ ∀ j u, c[j]? = some u → w.cell? (a.add (i * k.sz + j)) = some u := by
        intro i hi
        have h1 := hel i hi
        rw [List.getElem?_eq_getElem (by omega)] at h1
        obtain ⟨c, hcs, htr⟩ := Option.bind_eq_some_iff.1 h1
        obtain ⟨x, hk, hg⟩ := h.rd enc w n c _ _ htr (hw1 _ (List.getElem_mem _))
        obtain ⟨_, hcl, hcell⟩ := World.cells?_some hcs
        rw [h.sz] at hcl hcell
        refine ⟨x, hg, c, hcl, hk, fun j u hu => ?_⟩
        have hj : j < k.sz := by
          rw [← hcl]
          exact (List.getElem?_eq_some_iff.1 hu).1
        rw [← Go.Deep.add_add, hcell j hj, hu]
      obtain ⟨xs, hxl, hxs⟩ := list_of (α := α) len key
      subst hxl
      refine ⟨xs, ⟨some a, cap, rfl, hl, rfl, by unfold maxLen at hm; omega, fun _ => ⟨a, rfl, fun j p hp => ?_⟩⟩, fun x hx => ?_, ?_⟩
      · obtain ⟨_, c, h1, h2, h3⟩ := hxs j p hp
        exact ⟨c, h1, h2, h3⟩
      · obtain ⟨i, hi, rfl⟩ := List.mem_iff_getElem.1 hx
        exact (hxs i _ (List.getElem?_eq_getElem hi)).1
      · have : xs.length * P.bytesOf e ≤ (elems.length + rest.length) * P.bytesOf e := Nat.mul_le_mul_right _ (by omega)
        unfold reachBytes at hw2
        rw [hB] at hw2 this
        omega
end Go.Proofs.Ytmabdfdmccbfnaa.Open

/- Readers of the types that this seat's laws take. -/
namespace Go.Proofs.Ytmabdfdmccbfnaa.P
open Go.RowKit Go.Proofs.YtmabdfdmccbfnaaW.PrintWords Go.Proofs.YtmabdfdmccbfnaaW.PrintLast Go.Proofs.Ytmabdfdmccbfnaa.Open
set_option linter.unusedVariables false
def good25 (x : S25) : Prop := (Lit.int .i64 x.f0).wf = true ∧ (Lit.int .i64 x.f1).wf = true ∧ x.f2.size ≤ 140737488351232 ∧ x.f3.size ≤ 140737488351232 ∧ (Lit.int .i64 x.f4).wf = true ∧ True
theorem rd25 : Rd Try.prog 25 k25 good25 := rd_struct (back := fun y => ⟨y.1, y.2.1, y.2.2.1, y.2.2.2.1, y.2.2.2.2.1, y.2.2.2.2.2⟩) Try.underlying25 (fs_cons (rd_int Try.underlying3 (by kernel_rfl)) (fs_cons (rd_int Try.underlying3 (by kernel_rfl)) (fs_cons (rd_string Try.underlying9 (by kernel_rfl)) (fs_cons (rd_string Try.underlying9 (by kernel_rfl)) (fs_cons (rd_int Try.underlying3 (by kernel_rfl)) (fs_last (rd_bool Try.underlying4 (by kernel_rfl))) rfl) rfl) rfl) rfl) rfl) (by kernel_rfl) (fun _ => rfl)
def good38 (x : S38) : Prop := ((∀ z ∈ x.f0, good25 z) ∧ x.f0.length * 64 ≤ 140737488351232) ∧ x.f1.size ≤ 140737488351232
theorem rd38 : Rd Try.prog 38 k38 good38 := rd_struct (back := fun y => ⟨y.1, y.2⟩) Try.underlying38 (fs_cons (rd_slice 64 Try.underlying36 (by kernel_rfl) (by kernel_rfl) rd25) (fs_last (rd_string Try.underlying9 (by kernel_rfl))) rfl) (by kernel_rfl) (fun _ => rfl)
structure S53 where
  f0 : Int
  f1 : List (S25)
def k53 : Kd S53 := Kd.iso (Kd.pair (Kd.int .i64) (Kd.slice 25 k25)) (fun x : S53 => (x.f0, x.f1))
def good53 (x : S53) : Prop := (Lit.int .i64 x.f0).wf = true ∧ ((∀ z ∈ x.f1, good25 z) ∧ x.f1.length * 64 ≤ 140737488351232)
theorem rd53 : Rd Try.prog 53 k53 good53 := rd_struct (back := fun y => ⟨y.1, y.2⟩) Try.underlying53 (fs_cons (rd_int Try.underlying3 (by kernel_rfl)) (fs_last (rd_slice 64 Try.underlying36 (by kernel_rfl) (by kernel_rfl) rd25)) rfl) (by kernel_rfl) (fun _ => rfl)
structure S55 where
  f0 : S53
  f1 : List (S25)
  f2 : List (Int)
  f3 : ByteArray
def k55 : Kd S55 := Kd.iso (Kd.pair k53 (Kd.pair (Kd.slice 25 k25) (Kd.pair (Kd.slice 3 (Kd.int .i64)) Kd.string))) (fun x : S55 => (x.f0, x.f1, x.f2, x.f3))
def good55 (x : S55) : Prop := good53 x.f0 ∧ ((∀ z ∈ x.f1, good25 z) ∧ x.f1.length * 64 ≤ 140737488351232) ∧ ((∀ z ∈ x.f2, (Lit.int .i64 z).wf = true) ∧ x.f2.length * 8 ≤ 140737488351232) ∧ x.f3.size ≤ 140737488351232
theorem rd55 : Rd Try.prog 55 k55 good55 := rd_struct (back := fun y => ⟨y.1, y.2.1, y.2.2.1, y.2.2.2⟩) Try.underlying55 (fs_cons rd53 (fs_cons (rd_slice 64 Try.underlying36 (by kernel_rfl) (by kernel_rfl) rd25) (fs_cons (rd_slice 8 Try.underlying50 (by kernel_rfl) (by kernel_rfl) (rd_int Try.underlying3 (by kernel_rfl))) (fs_last (rd_string Try.underlying9 (by kernel_rfl))) rfl) rfl) rfl) (by kernel_rfl) (fun _ => rfl)
end Go.Proofs.Ytmabdfdmccbfnaa.P

