/- The law RecBack: printed functions, their contracts, the plain laws and the row, part 5. -/
import Derived.Test.YtmabdfdmccbfnaaKRecBack4
import Derived.Laws.IdiomStrings
import Derived.Test.YtmabdfdmccbfnaaKRecBack2
import Derived.Test.YtmabdfdmccbfnaaKRecBack3
import Derived.Test.YtmabdfdmccbfnaaKRecBack0
import Derived.Test.YtmabdfdmccbfnaaKRecBack1
import Derived.ProofKit
import Derived.OpenShut
import Derived.SizedLaws
import Derived.Deep.Slices
-- written by a program of the proving session, out of the translation; Lean checks it
namespace Go.Proofs.Ytmabdfdmccbfnaa.P
open Go.RowKit Go.Proofs.Ytmabdfdmccbfnaa.Sq Go.Proofs.YtmabdfdmccbfnaaW.PrintWords Go.Proofs.YtmabdfdmccbfnaaW.PrintLast Go.Proofs.YtmabdfdmccbfnaaW.PrintMore
attribute [local go_sem] max2_int min2_int max_two min_two max_three min_three max_four min_four   -- for this text's walks alone
set_option linter.unusedVariables false
set_option linter.unusedSimpArgs false

attribute [local go_sem high] eqA25
/-! ### fairwaylaw10_wakes: function 18 -/
def fairwaylaw10_wakes.f (k : Nat)  : Option (Bool) := (fairwaylaw10_R.f 1 2 (⟨#[107]⟩ : ByteArray) (⟨#[98]⟩ : ByteArray)).bind fun bt162 => ((rec_Bytes.f k bt162.1 bt162.2.1 bt162.2.2.1 bt162.2.2.2.1 bt162.2.2.2.2.1 bt162.2.2.2.2.2).bind fun bt168 => ((rec_Take.f k bt168.1).bind fun bt170 => ((fairwaylaw10_num.f bt168.2).bind fun t179 => (if t179 = 0 then ((fairwaylaw10_num.f bt170.2.2.2.2.2.2.2).bind fun t180 => (if t180 = 0 then (if bt170.2.2.2.2.2.2.1 = (bt168.1.size : Int) then ((fairwaylaw10_R.f 1 2 (⟨#[107]⟩ : ByteArray) (⟨#[98]⟩ : ByteArray)).bind fun bt181 => (some (bt170.1 == bt181.1 && (bt170.2.1 == bt181.2.1 && (bt170.2.2.1.toList == bt181.2.2.1.toList && (bt170.2.2.2.1.toList == bt181.2.2.2.1.toList && (bt170.2.2.2.2.1 == bt181.2.2.2.2.1 && (bt170.2.2.2.2.2.1 == bt181.2.2.2.2.2)))))))) else (some false)) else (some false))) else (some false)))))
theorem fairwaylaw10_wakes.mono : ∀ k, LeO (fairwaylaw10_wakes.f k ) (fairwaylaw10_wakes.f (k + 1) ) := by
 intro  k
 unfold fairwaylaw10_wakes.f
 repeat' first
  | (with_reducible exact rec_Bytes.mono _ _ _ _ _ _ _)
  | (with_reducible exact rec_Take.mono _ _)
  | (with_reducible exact LeO.refl _)
  | (with_reducible exact LeO.none _)
  | (with_reducible refine LeO.ite ?_ ?_)
  | (with_reducible refine LeO.bind ?_ (fun _ => ?_))
  | exact rec_Bytes.mono _ _ _ _ _ _ _
  | exact rec_Take.mono _ _
  | exact LeO.none _
  | refine LeO.ite ?_ ?_
  | refine LeO.bind ?_ (fun _ => ?_)
def fairwaylaw10_wakes.T3 : Bool × List (List Nat × List Nat) := (true, [([], []), ([0], [0]), ([1], [1]), ([2, 1], [2]), ([3], [3]), ([4, 3, 3], [3, 4]), ([5, 3], [3, 5]), ([3, 6], [3, 6]), ([7, 5], [7]), ([8], [8]), ([8], [8]), ([10, 8], [8, 10]), ([9, 11, 8], [8, 9, 11]), ([8, 12], [8, 12]), ([13, 8], [13]), ([14], [14]), ([14, 14], [14]), ([15, 16, 14], [14, 15, 16]), ([14, 17], [14, 17]), ([18, 16, 0, 1, 2, 3, 4, 5, 6, 7, 8, 9, 10, 11, 12, 13, 14, 15, 16, 17, 18], [18])])
def fairwaylaw10_wakes.B3 : List Nat := [0, 1, 3, 7, 15, 31, 63, 127, 255, 511, 511, 1535, 4095, 8191, 16383, 32767, 32767, 131071, 262143, 524287]
theorem fairwaylaw10_wakes.tab3 : rtab .any (opsOf Try.f18 3) = fairwaylaw10_wakes.T3 := by kernel_rfl
theorem fairwaylaw10_wakes.bits3 : waitsOk fairwaylaw10_wakes.T3.2 fairwaylaw10_wakes.B3 = true := by kernel_rfl
set_option maxHeartbeats 8000000 in
set_option maxRecDepth 100000 in
theorem fairwaylaw10_wakes.calls (k : Nat)  (r : Bool) (w : World) (h : fairwaylaw10_wakes.f k  = some r) :
 Calls Try.prog 18 #[] w fun e w' => e = .returned (.bool r) ∧ Below w.heap.size w w' := by
 have hu25 := Try.underlying25
 have HB := Aside0.mk (Below.refl w.heap.size w)
 have H : ((fairwaylaw10_R.f 1 2 (⟨#[107]⟩ : ByteArray) (⟨#[98]⟩ : ByteArray)).bind fun bt162 => ((rec_Bytes.f k bt162.1 bt162.2.1 bt162.2.2.1 bt162.2.2.2.1 bt162.2.2.2.2.1 bt162.2.2.2.2.2).bind fun bt168 => ((rec_Take.f k bt168.1).bind fun bt170 => ((fairwaylaw10_num.f bt168.2).bind fun t179 => (if t179 = 0 then ((fairwaylaw10_num.f bt170.2.2.2.2.2.2.2).bind fun t180 => (if t180 = 0 then (if bt170.2.2.2.2.2.2.1 = (bt168.1.size : Int) then ((fairwaylaw10_R.f 1 2 (⟨#[107]⟩ : ByteArray) (⟨#[98]⟩ : ByteArray)).bind fun bt181 => (some (bt170.1 == bt181.1 && (bt170.2.1 == bt181.2.1 && (bt170.2.2.1.toList == bt181.2.2.1.toList && (bt170.2.2.2.1.toList == bt181.2.2.2.1.toList && (bt170.2.2.2.2.1 == bt181.2.2.2.2.1 && (bt170.2.2.2.2.2.1 == bt181.2.2.2.2.2)))))))) else (some false)) else (some false))) else (some false)))))) = some r := h
 clear h
 replace H := Option.bind_eq_some_iff.mp H
 obtain ⟨⟨t162, t163, t164, t165, t166, t167⟩, A10, H⟩ := H
 replace H : ((rec_Bytes.f k t162 t163 t164 t165 t166 t167).bind fun bt168 => ((rec_Take.f k bt168.1).bind fun bt170 => ((fairwaylaw10_num.f bt168.2).bind fun t179 => (if t179 = 0 then ((fairwaylaw10_num.f bt170.2.2.2.2.2.2.2).bind fun t180 => (if t180 = 0 then (if bt170.2.2.2.2.2.2.1 = (bt168.1.size : Int) then ((fairwaylaw10_R.f 1 2 (⟨#[107]⟩ : ByteArray) (⟨#[98]⟩ : ByteArray)).bind fun bt181 => (some (bt170.1 == bt181.1 && (bt170.2.1 == bt181.2.1 && (bt170.2.2.1.toList == bt181.2.2.1.toList && (bt170.2.2.2.1.toList == bt181.2.2.2.1.toList && (bt170.2.2.2.2.1 == bt181.2.2.2.2.1 && (bt170.2.2.2.2.2.1 == bt181.2.2.2.2.2)))))))) else (some false)) else (some false))) else (some false))))) = some r := H
 have A1 := Aside0.mk A10
 clear A10
 replace H := Option.bind_eq_some_iff.mp H
 obtain ⟨⟨t168, t169⟩, A20, H⟩ := H
 replace H : ((rec_Take.f k t168).bind fun bt170 => ((fairwaylaw10_num.f t169).bind fun t179 => (if t179 = 0 then ((fairwaylaw10_num.f bt170.2.2.2.2.2.2.2).bind fun t180 => (if t180 = 0 then (if bt170.2.2.2.2.2.2.1 = (t168.size : Int) then ((fairwaylaw10_R.f 1 2 (⟨#[107]⟩ : ByteArray) (⟨#[98]⟩ : ByteArray)).bind fun bt181 => (some (bt170.1 == bt181.1 && (bt170.2.1 == bt181.2.1 && (bt170.2.2.1.toList == bt181.2.2.1.toList && (bt170.2.2.2.1.toList == bt181.2.2.2.1.toList && (bt170.2.2.2.2.1 == bt181.2.2.2.2.1 && (bt170.2.2.2.2.2.1 == bt181.2.2.2.2.2)))))))) else (some false)) else (some false))) else (some false)))) = some r := H
 have A2 := Aside0.mk A20
 clear A20
 replace H := Option.bind_eq_some_iff.mp H
 obtain ⟨⟨t170, t171, t172, t173, t174, t175, t176, t177⟩, A30, H⟩ := H
 replace H : ((fairwaylaw10_num.f t169).bind fun t179 => (if t179 = 0 then ((fairwaylaw10_num.f t177).bind fun t180 => (if t180 = 0 then (if t176 = (t168.size : Int) then ((fairwaylaw10_R.f 1 2 (⟨#[107]⟩ : ByteArray) (⟨#[98]⟩ : ByteArray)).bind fun bt181 => (some (t170 == bt181.1 && (t171 == bt181.2.1 && (t172.toList == bt181.2.2.1.toList && (t173.toList == bt181.2.2.2.1.toList && (t174 == bt181.2.2.2.2.1 && (t175 == bt181.2.2.2.2.2)))))))) else (some false)) else (some false))) else (some false))) = some r := H
 have A3 := Aside0.mk A30
 clear A30
 replace H := Option.bind_eq_some_iff.mp H
 obtain ⟨t179, A40, H⟩ := H
 replace H : (if t179 = 0 then ((fairwaylaw10_num.f t177).bind fun t180 => (if t180 = 0 then (if t176 = (t168.size : Int) then ((fairwaylaw10_R.f 1 2 (⟨#[107]⟩ : ByteArray) (⟨#[98]⟩ : ByteArray)).bind fun bt181 => (some (t170 == bt181.1 && (t171 == bt181.2.1 && (t172.toList == bt181.2.2.1.toList && (t173.toList == bt181.2.2.2.1.toList && (t174 == bt181.2.2.2.2.1 && (t175 == bt181.2.2.2.2.2)))))))) else (some false)) else (some false))) else (some false)) = some r := H
 have A4 := Aside0.mk A40
 clear A40
 by_cases c5 : t179 = 0
 ·rw [if_pos c5] at H
  have c5b0 : (t179 == 0) = true := beq_iff_eq.mpr c5
  have c5b1 : (t179 != 0) = false := bne_eq_false_iff_eq.mpr c5
  clear c5
  replace H := Option.bind_eq_some_iff.mp H
  obtain ⟨t180, A60, H⟩ := H
  replace H : (if t180 = 0 then (if t176 = (t168.size : Int) then ((fairwaylaw10_R.f 1 2 (⟨#[107]⟩ : ByteArray) (⟨#[98]⟩ : ByteArray)).bind fun bt181 => (some (t170 == bt181.1 && (t171 == bt181.2.1 && (t172.toList == bt181.2.2.1.toList && (t173.toList == bt181.2.2.2.1.toList && (t174 == bt181.2.2.2.2.1 && (t175 == bt181.2.2.2.2.2)))))))) else (some false)) else (some false)) = some r := H
  have A6 := Aside0.mk A60
  clear A60
  by_cases c7 : t180 = 0
  ·rw [if_pos c7] at H
   have c7b0 : (t180 == 0) = true := beq_iff_eq.mpr c7
   have c7b1 : (t180 != 0) = false := bne_eq_false_iff_eq.mpr c7
   clear c7
   by_cases c8 : t176 = (t168.size : Int)
   ·rw [if_pos c8] at H
    have c8b0 : (t176 == (t168.size : Int)) = true := beq_iff_eq.mpr c8
    have c8b1 : (t176 != (t168.size : Int)) = false := bne_eq_false_iff_eq.mpr c8
    clear c8
    replace H := Option.bind_eq_some_iff.mp H
    obtain ⟨⟨t181, t182, t183, t184, t185, t186⟩, A90, H⟩ := H
    replace H : (some (t170 == t181 && (t171 == t182 && (t172.toList == t183.toList && (t173.toList == t184.toList && (t174 == t185 && (t175 == t186))))))) = some r := H
    have A9 := Aside0.mk A90
    clear A90
    obtain rfl := Option.some.inj H
    go_enter Try.func18, Try.ntmps18
    try go_wp2_with (first | ((with_reducible refine gate_callee (f := 67) rfl ?_); refine goesL_ (some 7) rfl rfl Try.func67 (by kernel_rfl) rfl #[.int .i64 1, .int .i64 2, .string (⟨#[107]⟩ : ByteArray), .string (⟨#[98]⟩ : ByteArray)] rfl aa ?_; (with_reducible refine (fairwaylaw10_R.calls 1 2 (⟨#[107]⟩ : ByteArray) (⟨#[98]⟩ : ByteArray) t162 t163 t164 t165 t166 t167 _ A1.out).mono ?_); rintro e w10 ⟨rfl, hb⟩; refine ⟨_, rfl, ?_⟩; replace HB := Aside0.mk (below_step bo hb); (try clear hb); (try clear hb2); (try clear hk); (try clear hi)) | ((with_reducible refine gate_callee (f := 14) rfl ?_); refine goesL_ (some 8) rfl rfl Try.func14 (by kernel_rfl) rfl #[.agg #[.int .i64 t162, .int .i64 t163, .string t164, .string t165, .int .i64 t166, .bool t167]] rfl aa ?_; (with_reducible refine (rec_Bytes.calls k t162 t163 t164 t165 t166 t167 t168 t169 _ A2.out).mono ?_); rintro e w11 ⟨rfl, hb⟩; refine ⟨_, rfl, ?_⟩; replace HB := Aside0.mk (below_step bo hb); (try clear hb); (try clear hb2); (try clear hk); (try clear hi)) | ((with_reducible refine gate_callee (f := 16) rfl ?_); refine goesL_ (some 13) rfl rfl Try.func16 (by kernel_rfl) rfl #[.string t168] rfl aa ?_; (with_reducible refine (rec_Take.calls k t168 t170 t171 t172 t173 t174 t175 t176 t177 _ A3.out).mono ?_); rintro e w12 ⟨rfl, hb⟩; refine ⟨_, rfl, ?_⟩; replace HB := Aside0.mk (below_step bo hb); (try clear hb); (try clear hb2); (try clear hk); (try clear hi)) | ((with_reducible refine gate_dst (N := 3) rfl ?_); (try (refine gate_guard (by rfl) ?_; dsimp only)); refine box_event ?hg (N := 3) ?hd (cs := #[.int .i64 0, .int .i64 0, .string (⟨#[]⟩ : ByteArray), .string (⟨#[]⟩ : ByteArray), .int .i64 0, .bool false]) (t := 25) ?hr ?_; (case hd => rfl); (case hg => rfl); (case hr => first | (go_simp; done) | (go_simp; rfl)); intro gb178 hg w13 hbox hb; have BK178 := Aside0.mk (hbox); have GW178 := Aside0.mk ((by rw [hg]; exact (below_size bo) : w.heap.size ≤ gb178)); have GE178 := Aside0.mk ((by rw [hg]; exact (below_size bo) : w.heap.size ≤ gb178)); replace HB := Aside0.mk (below_step bo hb); clear hb hbox hg; obtain ⟨hcz14_0, hcz14_1, hcz14_2, hcz14_3, hcz14_4, hcz14_5⟩ := cl6 BK178.out; obtain ⟨hfz14_0, hfz14_1, hfz14_2, hfz14_3, hfz14_4, hfz14_5⟩ := fz6 BK178.out))
    (try (rw [drewN_self w13]; generalize hq_ : World.drewN w13 _ = w13; have n0_ := Aside0.mk (blk_at hq_ BK178.out); have n1_ := Aside0.mk (below_at hq_ HB.out); clear hq_ BK178 HB; have BK178 := n0_; have HB := n1_; clear n0_ n1_))
    have n0_ : Aside0 (((((((w13.setCell ⟨gb178, 0, none⟩ (.int .i64 t170)).setCell ⟨gb178, 1, none⟩ (.int .i64 t171)).setCell ⟨gb178, 2, none⟩ (.string t172)).setCell ⟨gb178, 3, none⟩ (.string t173)).setCell ⟨gb178, 4, none⟩ (.int .i64 t174)).setCell ⟨gb178, 5, none⟩ (.bool t175)).heap[gb178]? = some (.cells #[.int .i64 t170, .int .i64 t171, .string t172, .string t173, .int .i64 t174, .bool t175] 25 (0, 0))) := ⟨by (with_reducible repeat (first | refine blk_drewN ?_ _ | refine blk_drew ?_ | refine blk_alloc ?_ _)); refine blk_put (cs := #[.int .i64 t170, .int .i64 t171, .string t172, .string t173, .int .i64 t174, .bool false]) ?_ 5 _ rfl; (with_reducible repeat (first | refine blk_drewN ?_ _ | refine blk_drew ?_ | refine blk_alloc ?_ _)); refine blk_put (cs := #[.int .i64 t170, .int .i64 t171, .string t172, .string t173, .int .i64 0, .bool false]) ?_ 4 _ rfl; (with_reducible repeat (first | refine blk_drewN ?_ _ | refine blk_drew ?_ | refine blk_alloc ?_ _)); refine blk_put (cs := #[.int .i64 t170, .int .i64 t171, .string t172, .string (⟨#[]⟩ : ByteArray), .int .i64 0, .bool false]) ?_ 3 _ rfl; (with_reducible repeat (first | refine blk_drewN ?_ _ | refine blk_drew ?_ | refine blk_alloc ?_ _)); refine blk_put (cs := #[.int .i64 t170, .int .i64 t171, .string (⟨#[]⟩ : ByteArray), .string (⟨#[]⟩ : ByteArray), .int .i64 0, .bool false]) ?_ 2 _ rfl; (with_reducible repeat (first | refine blk_drewN ?_ _ | refine blk_drew ?_ | refine blk_alloc ?_ _)); refine blk_put (cs := #[.int .i64 t170, .int .i64 0, .string (⟨#[]⟩ : ByteArray), .string (⟨#[]⟩ : ByteArray), .int .i64 0, .bool false]) ?_ 1 _ rfl; (with_reducible repeat (first | refine blk_drewN ?_ _ | refine blk_drew ?_ | refine blk_alloc ?_ _)); refine blk_put (cs := #[.int .i64 0, .int .i64 0, .string (⟨#[]⟩ : ByteArray), .string (⟨#[]⟩ : ByteArray), .int .i64 0, .bool false]) ?_ 0 _ rfl; (with_reducible repeat (first | refine blk_drewN ?_ _ | refine blk_drew ?_ | refine blk_alloc ?_ _)); exact BK178.out⟩
    have n1_ : Aside0 (Below w.heap.size w ((((((w13.setCell ⟨gb178, 0, none⟩ (.int .i64 t170)).setCell ⟨gb178, 1, none⟩ (.int .i64 t171)).setCell ⟨gb178, 2, none⟩ (.string t172)).setCell ⟨gb178, 3, none⟩ (.string t173)).setCell ⟨gb178, 4, none⟩ (.int .i64 t174)).setCell ⟨gb178, 5, none⟩ (.bool t175))) := ⟨bo⟩
    (try clear BK178)
    (try clear HB)
    generalize ((((((w13.setCell ⟨gb178, 0, none⟩ (.int .i64 t170)).setCell ⟨gb178, 1, none⟩ (.int .i64 t171)).setCell ⟨gb178, 2, none⟩ (.string t172)).setCell ⟨gb178, 3, none⟩ (.string t173)).setCell ⟨gb178, 4, none⟩ (.int .i64 t174)).setCell ⟨gb178, 5, none⟩ (.bool t175)) = w15 at n0_ n1_ ⊢
    have BK178 := n0_
    have HB := n1_
    clear n0_ n1_
    replace BK178 := Aside0.mk (blk_drew BK178.out)
    replace HB := Aside0.mk (below_drew1 HB.out)
    refine start_ (n := 20) (S := fun w' => w'.cell? ⟨gb178, 0, none⟩ = some (.int .i64 t170) ∧ w'.cell? ⟨gb178, 1, none⟩ = some (.int .i64 t171) ∧ w'.cell? ⟨gb178, 2, none⟩ = some (.string t172) ∧ w'.cell? ⟨gb178, 3, none⟩ = some (.string t173) ∧ w'.cell? ⟨gb178, 4, none⟩ = some (.int .i64 t174) ∧ w'.cell? ⟨gb178, 5, none⟩ = some (.bool t175)) (ds := []) #[O,O,O,O,O,O,O,O,O,O,O,O,O,O,O,O,O,O,O,O] (by kernel_rfl) rfl rfl ⟨(blk_cell BK178.out 0).trans rfl, (blk_cell BK178.out 1).trans rfl, (blk_cell BK178.out 2).trans rfl, (blk_cell BK178.out 3).trans rfl, (blk_cell BK178.out 4).trans rfl, (blk_cell BK178.out 5).trans rfl⟩ (fun hHeld => ?_); refine with_tabW fairwaylaw10_wakes.tab3 fairwaylaw10_wakes.bits3 (fun HT_ HW_ => ?_)
    generalize w15.drew = w16 at BK178 HB hHeld ⊢
    refine pz (i := 0) (N := some 17) #[I,O,O,O,O,O,O,O,O,O,O,O,O,O,O,O,O,O,O,O] ?_
    refine one_ (i := 1) (N := some 18) #[I,I,O,O,O,O,O,O,O,O,O,O,O,O,O,O,O,O,O,O] rfl rfl (one_of HT_.out (by kernel_rfl)) (by decide) (fun K hK => ?_)
    refine goes_ Try.func15 (by kernel_rfl) rfl #[.int .i64 t169] (by rfl) rfl rfl aa ?_
    with_reducible refine (fairwaylaw10_num.calls t169 t179 _ A4.out).mono ?_
    rintro e w' ⟨rfl, ⟨nd, rfl⟩⟩
    refine ⟨_, rfl, ?_⟩
    refine hK.out _ _ ⟨(blk_cell BK178.out 0).trans rfl, (blk_cell BK178.out 1).trans rfl, (blk_cell BK178.out 2).trans rfl, (blk_cell BK178.out 3).trans rfl, (blk_cell BK178.out 4).trans rfl, (blk_cell BK178.out 5).trans rfl⟩ (fun hHeld => ?_)
    clear hK K
    refine norm_ (a' := ?_) ?_ ?_
    rotate_left
    ·show Act.put _ (some 18) _ = _
     simp only [Act.put, List.setIfInBounds_toArray, List.set_cons_zero, List.set_cons_succ, i64_w, i32_w]
     rfl
    refine pz (i := 2) (N := some 19) #[I,I,I,O,O,O,O,O,O,O,O,O,O,O,O,O,O,O,O,O] ?_
    refine pz (i := 3) (N := some 20) #[I,I,I,I,O,O,O,O,O,O,O,O,O,O,O,O,O,O,O,O] ?_
    refine pz (i := 4) (N := some 21) #[I,I,I,I,I,O,O,O,O,O,O,O,O,O,O,O,O,O,O,O] ?_
    refine one_ (i := 5) (N := some 22) #[I,I,I,I,I,I,O,O,O,O,O,O,O,O,O,O,O,O,O,O] rfl rfl (one_of HT_.out (by kernel_rfl)) (by decide) (fun K hK => ?_)
    refine goes_ Try.func15 (by kernel_rfl) rfl #[.int .i64 t177] (by rfl) rfl rfl aa ?_
    with_reducible refine (fairwaylaw10_num.calls t177 t180 _ A6.out).mono ?_
    rintro e w' ⟨rfl, ⟨nd, rfl⟩⟩
    refine ⟨_, rfl, ?_⟩
    refine hK.out _ _ ⟨(blk_cell BK178.out 0).trans rfl, (blk_cell BK178.out 1).trans rfl, (blk_cell BK178.out 2).trans rfl, (blk_cell BK178.out 3).trans rfl, (blk_cell BK178.out 4).trans rfl, (blk_cell BK178.out 5).trans rfl⟩ (fun hHeld => ?_)
    clear hK K
    refine norm_ (a' := ?_) ?_ ?_
    rotate_left
    ·show Act.put _ (some 22) _ = _
     simp only [Act.put, List.setIfInBounds_toArray, List.set_cons_zero, List.set_cons_succ, i64_w, i32_w]
     rfl
    refine pz (i := 6) (N := some 23) #[I,I,I,I,I,I,I,O,O,O,O,O,O,O,O,O,O,O,O,O] ?_
    refine pz (i := 7) (N := some 24) #[I,I,I,I,I,I,I,I,O,O,O,O,O,O,O,O,O,O,O,O] ?_
    refine pz (i := 8) (N := some 25) #[I,I,I,I,I,I,I,I,I,O,O,O,O,O,O,O,O,O,O,O] ?_
    refine pz (i := 9) (N := some 26) #[I,I,I,I,I,I,I,I,I,I,O,O,O,O,O,O,O,O,O,O] ?_
    refine pz (i := 10) (N := some 27) #[I,I,I,I,I,I,I,I,I,I,I,O,O,O,O,O,O,O,O,O] ?_
    refine pz (i := 11) (N := some 28) #[I,I,I,I,I,I,I,I,I,I,I,I,O,O,O,O,O,O,O,O] ?_
    refine pz (i := 12) (N := some 29) #[I,I,I,I,I,I,I,I,I,I,I,I,I,O,O,O,O,O,O,O] ?_
    refine pz (i := 13) (N := some 30) #[I,I,I,I,I,I,I,I,I,I,I,I,I,I,O,O,O,O,O,O] ?_
    refine pz (i := 14) (N := some 31) #[I,I,I,I,I,I,I,I,I,I,I,I,I,I,I,O,O,O,O,O] ?_
    refine tz (i := 15) (N := some 32) #[I,I,I,I,I,I,I,I,I,I,I,I,I,I,I,I,O,O,O,O] ?_
    refine one_ (i := 16) (N := some 33) #[I,I,I,I,I,I,I,I,I,I,I,I,I,I,I,I,I,O,O,O] rfl rfl (one_of HT_.out (by kernel_rfl)) (by decide) (fun K hK => ?_)
    refine goes_ Try.func67 (by kernel_rfl) rfl #[.int .i64 1, .int .i64 2, .string (⟨#[107]⟩ : ByteArray), .string (⟨#[98]⟩ : ByteArray)] (by rfl) rfl rfl aa ?_
    with_reducible refine (fairwaylaw10_R.calls 1 2 (⟨#[107]⟩ : ByteArray) (⟨#[98]⟩ : ByteArray) t181 t182 t183 t184 t185 t186 _ A9.out).mono ?_
    rintro e w17 ⟨rfl, hb⟩
    refine ⟨_, rfl, ?_⟩
    replace BK178 := Aside0.mk (blk_below (g := gb178) (o := .cells #[.int .i64 t170, .int .i64 t171, .string t172, .string t173, .int .i64 t174, .bool t175] 25 (0, 0)) (bk BK178.out) hb)
    replace HB := Aside0.mk (below_step bo hb)
    (try clear hb)
    (try clear hb2)
    (try clear hk)
    (try clear hi)
    refine hK.out _ _ ⟨(blk_cell BK178.out 0).trans rfl, (blk_cell BK178.out 1).trans rfl, (blk_cell BK178.out 2).trans rfl, (blk_cell BK178.out 3).trans rfl, (blk_cell BK178.out 4).trans rfl, (blk_cell BK178.out 5).trans rfl⟩ (fun hHeld => ?_)
    clear hK K
    refine norm_ (a' := ?_) ?_ ?_
    rotate_left
    ·show Act.put _ (some 33) _ = _
     simp only [Act.put, List.setIfInBounds_toArray, List.set_cons_zero, List.set_cons_succ, i64_w, i32_w]
     rfl
    refine pz (i := 17) (N := some 34) #[I,I,I,I,I,I,I,I,I,I,I,I,I,I,I,I,I,I,O,O] ?_
    refine pz (i := 18) (N := some 35) #[I,I,I,I,I,I,I,I,I,I,I,I,I,I,I,I,I,I,I,O] ?_
    refine pz (i := 19) (N := some 0) #[I,I,I,I,I,I,I,I,I,I,I,I,I,I,I,I,I,I,I,I] ?_
    refine done_ (done_of HT_.out (by kernel_rfl)) ?_
    try go_wp2
    go_ret
    exact ⟨er, bo⟩
   ·rw [if_neg c8] at H
    have c8b0 : (t176 == (t168.size : Int)) = false := beq_eq_false_iff_ne.mpr c8
    have c8b1 : (t176 != (t168.size : Int)) = true := bne_iff_ne.mpr c8
    obtain rfl := Option.some.inj H
    go_enter Try.func18, Try.ntmps18
    try go_wp2_with (first | ((with_reducible refine gate_callee (f := 67) rfl ?_); refine goesL_ (some 7) rfl rfl Try.func67 (by kernel_rfl) rfl #[.int .i64 1, .int .i64 2, .string (⟨#[107]⟩ : ByteArray), .string (⟨#[98]⟩ : ByteArray)] rfl aa ?_; (with_reducible refine (fairwaylaw10_R.calls 1 2 (⟨#[107]⟩ : ByteArray) (⟨#[98]⟩ : ByteArray) t162 t163 t164 t165 t166 t167 _ A1.out).mono ?_); rintro e w18 ⟨rfl, hb⟩; refine ⟨_, rfl, ?_⟩; replace HB := Aside0.mk (below_step bo hb); (try clear hb); (try clear hb2); (try clear hk); (try clear hi)) | ((with_reducible refine gate_callee (f := 14) rfl ?_); refine goesL_ (some 8) rfl rfl Try.func14 (by kernel_rfl) rfl #[.agg #[.int .i64 t162, .int .i64 t163, .string t164, .string t165, .int .i64 t166, .bool t167]] rfl aa ?_; (with_reducible refine (rec_Bytes.calls k t162 t163 t164 t165 t166 t167 t168 t169 _ A2.out).mono ?_); rintro e w19 ⟨rfl, hb⟩; refine ⟨_, rfl, ?_⟩; replace HB := Aside0.mk (below_step bo hb); (try clear hb); (try clear hb2); (try clear hk); (try clear hi)) | ((with_reducible refine gate_callee (f := 16) rfl ?_); refine goesL_ (some 13) rfl rfl Try.func16 (by kernel_rfl) rfl #[.string t168] rfl aa ?_; (with_reducible refine (rec_Take.calls k t168 t170 t171 t172 t173 t174 t175 t176 t177 _ A3.out).mono ?_); rintro e w20 ⟨rfl, hb⟩; refine ⟨_, rfl, ?_⟩; replace HB := Aside0.mk (below_step bo hb); (try clear hb); (try clear hb2); (try clear hk); (try clear hi)) | ((with_reducible refine gate_dst (N := 3) rfl ?_); (try (refine gate_guard (by rfl) ?_; dsimp only)); refine box_event ?hg (N := 3) ?hd (cs := #[.int .i64 0, .int .i64 0, .string (⟨#[]⟩ : ByteArray), .string (⟨#[]⟩ : ByteArray), .int .i64 0, .bool false]) (t := 25) ?hr ?_; (case hd => rfl); (case hg => rfl); (case hr => first | (go_simp; done) | (go_simp; rfl)); intro gb178 hg w21 hbox hb; have BK178 := Aside0.mk (hbox); have GW178 := Aside0.mk ((by rw [hg]; exact (below_size bo) : w.heap.size ≤ gb178)); have GE178 := Aside0.mk ((by rw [hg]; exact (below_size bo) : w.heap.size ≤ gb178)); replace HB := Aside0.mk (below_step bo hb); clear hb hbox hg; obtain ⟨hcz22_0, hcz22_1, hcz22_2, hcz22_3, hcz22_4, hcz22_5⟩ := cl6 BK178.out; obtain ⟨hfz22_0, hfz22_1, hfz22_2, hfz22_3, hfz22_4, hfz22_5⟩ := fz6 BK178.out))
    (try (rw [drewN_self w21]; generalize hq_ : World.drewN w21 _ = w21; have n0_ := Aside0.mk (blk_at hq_ BK178.out); have n1_ := Aside0.mk (below_at hq_ HB.out); clear hq_ BK178 HB; have BK178 := n0_; have HB := n1_; clear n0_ n1_))
    have n0_ : Aside0 (((((((w21.setCell ⟨gb178, 0, none⟩ (.int .i64 t170)).setCell ⟨gb178, 1, none⟩ (.int .i64 t171)).setCell ⟨gb178, 2, none⟩ (.string t172)).setCell ⟨gb178, 3, none⟩ (.string t173)).setCell ⟨gb178, 4, none⟩ (.int .i64 t174)).setCell ⟨gb178, 5, none⟩ (.bool t175)).heap[gb178]? = some (.cells #[.int .i64 t170, .int .i64 t171, .string t172, .string t173, .int .i64 t174, .bool t175] 25 (0, 0))) := ⟨by (with_reducible repeat (first | refine blk_drewN ?_ _ | refine blk_drew ?_ | refine blk_alloc ?_ _)); refine blk_put (cs := #[.int .i64 t170, .int .i64 t171, .string t172, .string t173, .int .i64 t174, .bool false]) ?_ 5 _ rfl; (with_reducible repeat (first | refine blk_drewN ?_ _ | refine blk_drew ?_ | refine blk_alloc ?_ _)); refine blk_put (cs := #[.int .i64 t170, .int .i64 t171, .string t172, .string t173, .int .i64 0, .bool false]) ?_ 4 _ rfl; (with_reducible repeat (first | refine blk_drewN ?_ _ | refine blk_drew ?_ | refine blk_alloc ?_ _)); refine blk_put (cs := #[.int .i64 t170, .int .i64 t171, .string t172, .string (⟨#[]⟩ : ByteArray), .int .i64 0, .bool false]) ?_ 3 _ rfl; (with_reducible repeat (first | refine blk_drewN ?_ _ | refine blk_drew ?_ | refine blk_alloc ?_ _)); refine blk_put (cs := #[.int .i64 t170, .int .i64 t171, .string (⟨#[]⟩ : ByteArray), .string (⟨#[]⟩ : ByteArray), .int .i64 0, .bool false]) ?_ 2 _ rfl; (with_reducible repeat (first | refine blk_drewN ?_ _ | refine blk_drew ?_ | refine blk_alloc ?_ _)); refine blk_put (cs := #[.int .i64 t170, .int .i64 0, .string (⟨#[]⟩ : ByteArray), .string (⟨#[]⟩ : ByteArray), .int .i64 0, .bool false]) ?_ 1 _ rfl; (with_reducible repeat (first | refine blk_drewN ?_ _ | refine blk_drew ?_ | refine blk_alloc ?_ _)); refine blk_put (cs := #[.int .i64 0, .int .i64 0, .string (⟨#[]⟩ : ByteArray), .string (⟨#[]⟩ : ByteArray), .int .i64 0, .bool false]) ?_ 0 _ rfl; (with_reducible repeat (first | refine blk_drewN ?_ _ | refine blk_drew ?_ | refine blk_alloc ?_ _)); exact BK178.out⟩
    have n1_ : Aside0 (Below w.heap.size w ((((((w21.setCell ⟨gb178, 0, none⟩ (.int .i64 t170)).setCell ⟨gb178, 1, none⟩ (.int .i64 t171)).setCell ⟨gb178, 2, none⟩ (.string t172)).setCell ⟨gb178, 3, none⟩ (.string t173)).setCell ⟨gb178, 4, none⟩ (.int .i64 t174)).setCell ⟨gb178, 5, none⟩ (.bool t175))) := ⟨bo⟩
    (try clear BK178)
    (try clear HB)
    generalize ((((((w21.setCell ⟨gb178, 0, none⟩ (.int .i64 t170)).setCell ⟨gb178, 1, none⟩ (.int .i64 t171)).setCell ⟨gb178, 2, none⟩ (.string t172)).setCell ⟨gb178, 3, none⟩ (.string t173)).setCell ⟨gb178, 4, none⟩ (.int .i64 t174)).setCell ⟨gb178, 5, none⟩ (.bool t175)) = w23 at n0_ n1_ ⊢
    have BK178 := n0_
    have HB := n1_
    clear n0_ n1_
    replace BK178 := Aside0.mk (blk_drew BK178.out)
    replace HB := Aside0.mk (below_drew1 HB.out)
    refine start_ (n := 20) (S := fun w' => True) (ds := []) #[O,O,O,O,O,O,O,O,O,O,O,O,O,O,O,O,O,O,O,O] (by kernel_rfl) rfl rfl trivial (fun hHeld => ?_); refine with_tabW fairwaylaw10_wakes.tab3 fairwaylaw10_wakes.bits3 (fun HT_ HW_ => ?_)
    generalize w23.drew = w24 at BK178 HB hHeld ⊢
    refine pz (i := 0) (N := some 17) #[I,O,O,O,O,O,O,O,O,O,O,O,O,O,O,O,O,O,O,O] ?_
    refine one_ (i := 1) (N := some 18) #[I,I,O,O,O,O,O,O,O,O,O,O,O,O,O,O,O,O,O,O] rfl rfl (one_of HT_.out (by kernel_rfl)) (by decide) (fun K hK => ?_)
    refine goes_ Try.func15 (by kernel_rfl) rfl #[.int .i64 t169] (by rfl) rfl rfl aa ?_
    with_reducible refine (fairwaylaw10_num.calls t169 t179 _ A4.out).mono ?_
    rintro e w' ⟨rfl, ⟨nd, rfl⟩⟩
    refine ⟨_, rfl, ?_⟩
    refine hK.out _ _ trivial (fun hHeld => ?_)
    clear hK K
    refine norm_ (a' := ?_) ?_ ?_
    rotate_left
    ·show Act.put _ (some 18) _ = _
     simp only [Act.put, List.setIfInBounds_toArray, List.set_cons_zero, List.set_cons_succ, i64_w, i32_w]
     rfl
    refine pz (i := 2) (N := some 19) #[I,I,I,O,O,O,O,O,O,O,O,O,O,O,O,O,O,O,O,O] ?_
    refine pz (i := 3) (N := some 20) #[I,I,I,I,O,O,O,O,O,O,O,O,O,O,O,O,O,O,O,O] ?_
    refine pz (i := 4) (N := some 21) #[I,I,I,I,I,O,O,O,O,O,O,O,O,O,O,O,O,O,O,O] ?_
    refine one_ (i := 5) (N := some 22) #[I,I,I,I,I,I,O,O,O,O,O,O,O,O,O,O,O,O,O,O] rfl rfl (one_of HT_.out (by kernel_rfl)) (by decide) (fun K hK => ?_)
    refine goes_ Try.func15 (by kernel_rfl) rfl #[.int .i64 t177] (by rfl) rfl rfl aa ?_
    with_reducible refine (fairwaylaw10_num.calls t177 t180 _ A6.out).mono ?_
    rintro e w' ⟨rfl, ⟨nd, rfl⟩⟩
    refine ⟨_, rfl, ?_⟩
    refine hK.out _ _ trivial (fun hHeld => ?_)
    clear hK K
    refine norm_ (a' := ?_) ?_ ?_
    rotate_left
    ·show Act.put _ (some 22) _ = _
     simp only [Act.put, List.setIfInBounds_toArray, List.set_cons_zero, List.set_cons_succ, i64_w, i32_w]
     rfl
    refine pz (i := 6) (N := some 23) #[I,I,I,I,I,I,I,O,O,O,O,O,O,O,O,O,O,O,O,O] ?_
    refine pz (i := 7) (N := some 24) #[I,I,I,I,I,I,I,I,O,O,O,O,O,O,O,O,O,O,O,O] ?_
    refine pz (i := 8) (N := some 25) #[I,I,I,I,I,I,I,I,I,O,O,O,O,O,O,O,O,O,O,O] ?_
    refine pz (i := 9) (N := some 26) #[I,I,I,I,I,I,I,I,I,I,O,O,O,O,O,O,O,O,O,O] ?_
    refine pz (i := 10) (N := some 27) #[I,I,I,I,I,I,I,I,I,I,I,O,O,O,O,O,O,O,O,O] ?_
    refine pz (i := 11) (N := some 28) #[I,I,I,I,I,I,I,I,I,I,I,I,O,O,O,O,O,O,O,O] ?_
    refine pz (i := 12) (N := some 29) #[I,I,I,I,I,I,I,I,I,I,I,I,I,O,O,O,O,O,O,O] ?_
    refine pz (i := 13) (N := some 30) #[I,I,I,I,I,I,I,I,I,I,I,I,I,I,O,O,O,O,O,O] ?_
    refine pz (i := 14) (N := some 31) #[I,I,I,I,I,I,I,I,I,I,I,I,I,I,I,O,O,O,O,O] ?_
    refine pu (i := 15) (N := some 32) #[I,I,I,I,I,I,I,I,I,I,I,I,I,I,I,I,O,O,O,O] ?_
    refine pu (i := 16) (N := some 33) #[I,I,I,I,I,I,I,I,I,I,I,I,I,I,I,I,I,O,O,O] ?_
    refine pu (i := 17) (N := some 34) #[I,I,I,I,I,I,I,I,I,I,I,I,I,I,I,I,I,I,O,O] ?_
    refine pz (i := 18) (N := some 35) #[I,I,I,I,I,I,I,I,I,I,I,I,I,I,I,I,I,I,I,O] ?_
    refine pz (i := 19) (N := some 0) #[I,I,I,I,I,I,I,I,I,I,I,I,I,I,I,I,I,I,I,I] ?_
    refine done_ (done_of HT_.out (by kernel_rfl)) ?_
    try go_wp2
    go_ret
    exact ⟨er, bo⟩
  ·rw [if_neg c7] at H
   have c7b0 : (t180 == 0) = false := beq_eq_false_iff_ne.mpr c7
   have c7b1 : (t180 != 0) = true := bne_iff_ne.mpr c7
   obtain rfl := Option.some.inj H
   go_enter Try.func18, Try.ntmps18
   try go_wp2_with (first | ((with_reducible refine gate_callee (f := 67) rfl ?_); refine goesL_ (some 7) rfl rfl Try.func67 (by kernel_rfl) rfl #[.int .i64 1, .int .i64 2, .string (⟨#[107]⟩ : ByteArray), .string (⟨#[98]⟩ : ByteArray)] rfl aa ?_; (with_reducible refine (fairwaylaw10_R.calls 1 2 (⟨#[107]⟩ : ByteArray) (⟨#[98]⟩ : ByteArray) t162 t163 t164 t165 t166 t167 _ A1.out).mono ?_); rintro e w25 ⟨rfl, hb⟩; refine ⟨_, rfl, ?_⟩; replace HB := Aside0.mk (below_step bo hb); (try clear hb); (try clear hb2); (try clear hk); (try clear hi)) | ((with_reducible refine gate_callee (f := 14) rfl ?_); refine goesL_ (some 8) rfl rfl Try.func14 (by kernel_rfl) rfl #[.agg #[.int .i64 t162, .int .i64 t163, .string t164, .string t165, .int .i64 t166, .bool t167]] rfl aa ?_; (with_reducible refine (rec_Bytes.calls k t162 t163 t164 t165 t166 t167 t168 t169 _ A2.out).mono ?_); rintro e w26 ⟨rfl, hb⟩; refine ⟨_, rfl, ?_⟩; replace HB := Aside0.mk (below_step bo hb); (try clear hb); (try clear hb2); (try clear hk); (try clear hi)) | ((with_reducible refine gate_callee (f := 16) rfl ?_); refine goesL_ (some 13) rfl rfl Try.func16 (by kernel_rfl) rfl #[.string t168] rfl aa ?_; (with_reducible refine (rec_Take.calls k t168 t170 t171 t172 t173 t174 t175 t176 t177 _ A3.out).mono ?_); rintro e w27 ⟨rfl, hb⟩; refine ⟨_, rfl, ?_⟩; replace HB := Aside0.mk (below_step bo hb); (try clear hb); (try clear hb2); (try clear hk); (try clear hi)) | ((with_reducible refine gate_dst (N := 3) rfl ?_); (try (refine gate_guard (by rfl) ?_; dsimp only)); refine box_event ?hg (N := 3) ?hd (cs := #[.int .i64 0, .int .i64 0, .string (⟨#[]⟩ : ByteArray), .string (⟨#[]⟩ : ByteArray), .int .i64 0, .bool false]) (t := 25) ?hr ?_; (case hd => rfl); (case hg => rfl); (case hr => first | (go_simp; done) | (go_simp; rfl)); intro gb178 hg w28 hbox hb; have BK178 := Aside0.mk (hbox); have GW178 := Aside0.mk ((by rw [hg]; exact (below_size bo) : w.heap.size ≤ gb178)); have GE178 := Aside0.mk ((by rw [hg]; exact (below_size bo) : w.heap.size ≤ gb178)); replace HB := Aside0.mk (below_step bo hb); clear hb hbox hg; obtain ⟨hcz29_0, hcz29_1, hcz29_2, hcz29_3, hcz29_4, hcz29_5⟩ := cl6 BK178.out; obtain ⟨hfz29_0, hfz29_1, hfz29_2, hfz29_3, hfz29_4, hfz29_5⟩ := fz6 BK178.out))
   (try (rw [drewN_self w28]; generalize hq_ : World.drewN w28 _ = w28; have n0_ := Aside0.mk (blk_at hq_ BK178.out); have n1_ := Aside0.mk (below_at hq_ HB.out); clear hq_ BK178 HB; have BK178 := n0_; have HB := n1_; clear n0_ n1_))
   have n0_ : Aside0 (((((((w28.setCell ⟨gb178, 0, none⟩ (.int .i64 t170)).setCell ⟨gb178, 1, none⟩ (.int .i64 t171)).setCell ⟨gb178, 2, none⟩ (.string t172)).setCell ⟨gb178, 3, none⟩ (.string t173)).setCell ⟨gb178, 4, none⟩ (.int .i64 t174)).setCell ⟨gb178, 5, none⟩ (.bool t175)).heap[gb178]? = some (.cells #[.int .i64 t170, .int .i64 t171, .string t172, .string t173, .int .i64 t174, .bool t175] 25 (0, 0))) := ⟨by (with_reducible repeat (first | refine blk_drewN ?_ _ | refine blk_drew ?_ | refine blk_alloc ?_ _)); refine blk_put (cs := #[.int .i64 t170, .int .i64 t171, .string t172, .string t173, .int .i64 t174, .bool false]) ?_ 5 _ rfl; (with_reducible repeat (first | refine blk_drewN ?_ _ | refine blk_drew ?_ | refine blk_alloc ?_ _)); refine blk_put (cs := #[.int .i64 t170, .int .i64 t171, .string t172, .string t173, .int .i64 0, .bool false]) ?_ 4 _ rfl; (with_reducible repeat (first | refine blk_drewN ?_ _ | refine blk_drew ?_ | refine blk_alloc ?_ _)); refine blk_put (cs := #[.int .i64 t170, .int .i64 t171, .string t172, .string (⟨#[]⟩ : ByteArray), .int .i64 0, .bool false]) ?_ 3 _ rfl; (with_reducible repeat (first | refine blk_drewN ?_ _ | refine blk_drew ?_ | refine blk_alloc ?_ _)); refine blk_put (cs := #[.int .i64 t170, .int .i64 t171, .string (⟨#[]⟩ : ByteArray), .string (⟨#[]⟩ : ByteArray), .int .i64 0, .bool false]) ?_ 2 _ rfl; (with_reducible repeat (first | refine blk_drewN ?_ _ | refine blk_drew ?_ | refine blk_alloc ?_ _)); refine blk_put (cs := #[.int .i64 t170, .int .i64 0, .string (⟨#[]⟩ : ByteArray), .string (⟨#[]⟩ : ByteArray), .int .i64 0, .bool false]) ?_ 1 _ rfl; (with_reducible repeat (first | refine blk_drewN ?_ _ | refine blk_drew ?_ | refine blk_alloc ?_ _)); refine blk_put (cs := #[.int .i64 0, .int .i64 0, .string (⟨#[]⟩ : ByteArray), .string (⟨#[]⟩ : ByteArray), .int .i64 0, .bool false]) ?_ 0 _ rfl; (with_reducible repeat (first | refine blk_drewN ?_ _ | refine blk_drew ?_ | refine blk_alloc ?_ _)); exact BK178.out⟩
   have n1_ : Aside0 (Below w.heap.size w ((((((w28.setCell ⟨gb178, 0, none⟩ (.int .i64 t170)).setCell ⟨gb178, 1, none⟩ (.int .i64 t171)).setCell ⟨gb178, 2, none⟩ (.string t172)).setCell ⟨gb178, 3, none⟩ (.string t173)).setCell ⟨gb178, 4, none⟩ (.int .i64 t174)).setCell ⟨gb178, 5, none⟩ (.bool t175))) := ⟨bo⟩
   (try clear BK178)
   (try clear HB)
   generalize ((((((w28.setCell ⟨gb178, 0, none⟩ (.int .i64 t170)).setCell ⟨gb178, 1, none⟩ (.int .i64 t171)).setCell ⟨gb178, 2, none⟩ (.string t172)).setCell ⟨gb178, 3, none⟩ (.string t173)).setCell ⟨gb178, 4, none⟩ (.int .i64 t174)).setCell ⟨gb178, 5, none⟩ (.bool t175)) = w30 at n0_ n1_ ⊢
   have BK178 := n0_
   have HB := n1_
   clear n0_ n1_
   replace BK178 := Aside0.mk (blk_drew BK178.out)
   replace HB := Aside0.mk (below_drew1 HB.out)
   refine start_ (n := 20) (S := fun w' => True) (ds := []) #[O,O,O,O,O,O,O,O,O,O,O,O,O,O,O,O,O,O,O,O] (by kernel_rfl) rfl rfl trivial (fun hHeld => ?_); refine with_tabW fairwaylaw10_wakes.tab3 fairwaylaw10_wakes.bits3 (fun HT_ HW_ => ?_)
   generalize w30.drew = w31 at BK178 HB hHeld ⊢
   refine pz (i := 0) (N := some 17) #[I,O,O,O,O,O,O,O,O,O,O,O,O,O,O,O,O,O,O,O] ?_
   refine one_ (i := 1) (N := some 18) #[I,I,O,O,O,O,O,O,O,O,O,O,O,O,O,O,O,O,O,O] rfl rfl (one_of HT_.out (by kernel_rfl)) (by decide) (fun K hK => ?_)
   refine goes_ Try.func15 (by kernel_rfl) rfl #[.int .i64 t169] (by rfl) rfl rfl aa ?_
   with_reducible refine (fairwaylaw10_num.calls t169 t179 _ A4.out).mono ?_
   rintro e w' ⟨rfl, ⟨nd, rfl⟩⟩
   refine ⟨_, rfl, ?_⟩
   refine hK.out _ _ trivial (fun hHeld => ?_)
   clear hK K
   refine norm_ (a' := ?_) ?_ ?_
   rotate_left
   ·show Act.put _ (some 18) _ = _
    simp only [Act.put, List.setIfInBounds_toArray, List.set_cons_zero, List.set_cons_succ, i64_w, i32_w]
    rfl
   refine pz (i := 2) (N := some 19) #[I,I,I,O,O,O,O,O,O,O,O,O,O,O,O,O,O,O,O,O] ?_
   refine pz (i := 3) (N := some 20) #[I,I,I,I,O,O,O,O,O,O,O,O,O,O,O,O,O,O,O,O] ?_
   refine pz (i := 4) (N := some 21) #[I,I,I,I,I,O,O,O,O,O,O,O,O,O,O,O,O,O,O,O] ?_
   refine one_ (i := 5) (N := some 22) #[I,I,I,I,I,I,O,O,O,O,O,O,O,O,O,O,O,O,O,O] rfl rfl (one_of HT_.out (by kernel_rfl)) (by decide) (fun K hK => ?_)
   refine goes_ Try.func15 (by kernel_rfl) rfl #[.int .i64 t177] (by rfl) rfl rfl aa ?_
   with_reducible refine (fairwaylaw10_num.calls t177 t180 _ A6.out).mono ?_
   rintro e w' ⟨rfl, ⟨nd, rfl⟩⟩
   refine ⟨_, rfl, ?_⟩
   refine hK.out _ _ trivial (fun hHeld => ?_)
   clear hK K
   refine norm_ (a' := ?_) ?_ ?_
   rotate_left
   ·show Act.put _ (some 22) _ = _
    simp only [Act.put, List.setIfInBounds_toArray, List.set_cons_zero, List.set_cons_succ, i64_w, i32_w]
    rfl
   refine pz (i := 6) (N := some 23) #[I,I,I,I,I,I,I,O,O,O,O,O,O,O,O,O,O,O,O,O] ?_
   refine pz (i := 7) (N := some 24) #[I,I,I,I,I,I,I,I,O,O,O,O,O,O,O,O,O,O,O,O] ?_
   refine pz (i := 8) (N := some 25) #[I,I,I,I,I,I,I,I,I,O,O,O,O,O,O,O,O,O,O,O] ?_
   refine pu (i := 9) (N := some 26) #[I,I,I,I,I,I,I,I,I,I,O,O,O,O,O,O,O,O,O,O] ?_
   refine pu (i := 10) (N := some 27) #[I,I,I,I,I,I,I,I,I,I,I,O,O,O,O,O,O,O,O,O] ?_
   refine pu (i := 11) (N := some 28) #[I,I,I,I,I,I,I,I,I,I,I,I,O,O,O,O,O,O,O,O] ?_
   refine pu (i := 12) (N := some 29) #[I,I,I,I,I,I,I,I,I,I,I,I,I,O,O,O,O,O,O,O] ?_
   refine pz (i := 13) (N := some 30) #[I,I,I,I,I,I,I,I,I,I,I,I,I,I,O,O,O,O,O,O] ?_
   refine pz (i := 14) (N := some 31) #[I,I,I,I,I,I,I,I,I,I,I,I,I,I,I,O,O,O,O,O] ?_
   refine pu (i := 15) (N := some 32) #[I,I,I,I,I,I,I,I,I,I,I,I,I,I,I,I,O,O,O,O] ?_
   refine pu (i := 16) (N := some 33) #[I,I,I,I,I,I,I,I,I,I,I,I,I,I,I,I,I,O,O,O] ?_
   refine pu (i := 17) (N := some 34) #[I,I,I,I,I,I,I,I,I,I,I,I,I,I,I,I,I,I,O,O] ?_
   refine pz (i := 18) (N := some 35) #[I,I,I,I,I,I,I,I,I,I,I,I,I,I,I,I,I,I,I,O] ?_
   refine pz (i := 19) (N := some 0) #[I,I,I,I,I,I,I,I,I,I,I,I,I,I,I,I,I,I,I,I] ?_
   refine done_ (done_of HT_.out (by kernel_rfl)) ?_
   try go_wp2
   go_ret
   exact ⟨er, bo⟩
 ·rw [if_neg c5] at H
  have c5b0 : (t179 == 0) = false := beq_eq_false_iff_ne.mpr c5
  have c5b1 : (t179 != 0) = true := bne_iff_ne.mpr c5
  obtain rfl := Option.some.inj H
  go_enter Try.func18, Try.ntmps18
  try go_wp2_with (first | ((with_reducible refine gate_callee (f := 67) rfl ?_); refine goesL_ (some 7) rfl rfl Try.func67 (by kernel_rfl) rfl #[.int .i64 1, .int .i64 2, .string (⟨#[107]⟩ : ByteArray), .string (⟨#[98]⟩ : ByteArray)] rfl aa ?_; (with_reducible refine (fairwaylaw10_R.calls 1 2 (⟨#[107]⟩ : ByteArray) (⟨#[98]⟩ : ByteArray) t162 t163 t164 t165 t166 t167 _ A1.out).mono ?_); rintro e w32 ⟨rfl, hb⟩; refine ⟨_, rfl, ?_⟩; replace HB := Aside0.mk (below_step bo hb); (try clear hb); (try clear hb2); (try clear hk); (try clear hi)) | ((with_reducible refine gate_callee (f := 14) rfl ?_); refine goesL_ (some 8) rfl rfl Try.func14 (by kernel_rfl) rfl #[.agg #[.int .i64 t162, .int .i64 t163, .string t164, .string t165, .int .i64 t166, .bool t167]] rfl aa ?_; (with_reducible refine (rec_Bytes.calls k t162 t163 t164 t165 t166 t167 t168 t169 _ A2.out).mono ?_); rintro e w33 ⟨rfl, hb⟩; refine ⟨_, rfl, ?_⟩; replace HB := Aside0.mk (below_step bo hb); (try clear hb); (try clear hb2); (try clear hk); (try clear hi)) | ((with_reducible refine gate_callee (f := 16) rfl ?_); refine goesL_ (some 13) rfl rfl Try.func16 (by kernel_rfl) rfl #[.string t168] rfl aa ?_; (with_reducible refine (rec_Take.calls k t168 t170 t171 t172 t173 t174 t175 t176 t177 _ A3.out).mono ?_); rintro e w34 ⟨rfl, hb⟩; refine ⟨_, rfl, ?_⟩; replace HB := Aside0.mk (below_step bo hb); (try clear hb); (try clear hb2); (try clear hk); (try clear hi)) | ((with_reducible refine gate_dst (N := 3) rfl ?_); (try (refine gate_guard (by rfl) ?_; dsimp only)); refine box_event ?hg (N := 3) ?hd (cs := #[.int .i64 0, .int .i64 0, .string (⟨#[]⟩ : ByteArray), .string (⟨#[]⟩ : ByteArray), .int .i64 0, .bool false]) (t := 25) ?hr ?_; (case hd => rfl); (case hg => rfl); (case hr => first | (go_simp; done) | (go_simp; rfl)); intro gb178 hg w35 hbox hb; have BK178 := Aside0.mk (hbox); have GW178 := Aside0.mk ((by rw [hg]; exact (below_size bo) : w.heap.size ≤ gb178)); have GE178 := Aside0.mk ((by rw [hg]; exact (below_size bo) : w.heap.size ≤ gb178)); replace HB := Aside0.mk (below_step bo hb); clear hb hbox hg; obtain ⟨hcz36_0, hcz36_1, hcz36_2, hcz36_3, hcz36_4, hcz36_5⟩ := cl6 BK178.out; obtain ⟨hfz36_0, hfz36_1, hfz36_2, hfz36_3, hfz36_4, hfz36_5⟩ := fz6 BK178.out))
  (try (rw [drewN_self w35]; generalize hq_ : World.drewN w35 _ = w35; have n0_ := Aside0.mk (blk_at hq_ BK178.out); have n1_ := Aside0.mk (below_at hq_ HB.out); clear hq_ BK178 HB; have BK178 := n0_; have HB := n1_; clear n0_ n1_))
  have n0_ : Aside0 (((((((w35.setCell ⟨gb178, 0, none⟩ (.int .i64 t170)).setCell ⟨gb178, 1, none⟩ (.int .i64 t171)).setCell ⟨gb178, 2, none⟩ (.string t172)).setCell ⟨gb178, 3, none⟩ (.string t173)).setCell ⟨gb178, 4, none⟩ (.int .i64 t174)).setCell ⟨gb178, 5, none⟩ (.bool t175)).heap[gb178]? = some (.cells #[.int .i64 t170, .int .i64 t171, .string t172, .string t173, .int .i64 t174, .bool t175] 25 (0, 0))) := ⟨by (with_reducible repeat (first | refine blk_drewN ?_ _ | refine blk_drew ?_ | refine blk_alloc ?_ _)); refine blk_put (cs := #[.int .i64 t170, .int .i64 t171, .string t172, .string t173, .int .i64 t174, .bool false]) ?_ 5 _ rfl; (with_reducible repeat (first | refine blk_drewN ?_ _ | refine blk_drew ?_ | refine blk_alloc ?_ _)); refine blk_put (cs := #[.int .i64 t170, .int .i64 t171, .string t172, .string t173, .int .i64 0, .bool false]) ?_ 4 _ rfl; (with_reducible repeat (first | refine blk_drewN ?_ _ | refine blk_drew ?_ | refine blk_alloc ?_ _)); refine blk_put (cs := #[.int .i64 t170, .int .i64 t171, .string t172, .string (⟨#[]⟩ : ByteArray), .int .i64 0, .bool false]) ?_ 3 _ rfl; (with_reducible repeat (first | refine blk_drewN ?_ _ | refine blk_drew ?_ | refine blk_alloc ?_ _)); refine blk_put (cs := #[.int .i64 t170, .int .i64 t171, .string (⟨#[]⟩ : ByteArray), .string (⟨#[]⟩ : ByteArray), .int .i64 0, .bool false]) ?_ 2 _ rfl; (with_reducible repeat (first | refine blk_drewN ?_ _ | refine blk_drew ?_ | refine blk_alloc ?_ _)); refine blk_put (cs := #[.int .i64 t170, .int .i64 0, .string (⟨#[]⟩ : ByteArray), .string (⟨#[]⟩ : ByteArray), .int .i64 0, .bool false]) ?_ 1 _ rfl; (with_reducible repeat (first | refine blk_drewN ?_ _ | refine blk_drew ?_ | refine blk_alloc ?_ _)); refine blk_put (cs := #[.int .i64 0, .int .i64 0, .string (⟨#[]⟩ : ByteArray), .string (⟨#[]⟩ : ByteArray), .int .i64 0, .bool false]) ?_ 0 _ rfl; (with_reducible repeat (first | refine blk_drewN ?_ _ | refine blk_drew ?_ | refine blk_alloc ?_ _)); exact BK178.out⟩
  have n1_ : Aside0 (Below w.heap.size w ((((((w35.setCell ⟨gb178, 0, none⟩ (.int .i64 t170)).setCell ⟨gb178, 1, none⟩ (.int .i64 t171)).setCell ⟨gb178, 2, none⟩ (.string t172)).setCell ⟨gb178, 3, none⟩ (.string t173)).setCell ⟨gb178, 4, none⟩ (.int .i64 t174)).setCell ⟨gb178, 5, none⟩ (.bool t175))) := ⟨bo⟩
  (try clear BK178)
  (try clear HB)
  generalize ((((((w35.setCell ⟨gb178, 0, none⟩ (.int .i64 t170)).setCell ⟨gb178, 1, none⟩ (.int .i64 t171)).setCell ⟨gb178, 2, none⟩ (.string t172)).setCell ⟨gb178, 3, none⟩ (.string t173)).setCell ⟨gb178, 4, none⟩ (.int .i64 t174)).setCell ⟨gb178, 5, none⟩ (.bool t175)) = w37 at n0_ n1_ ⊢
  have BK178 := n0_
  have HB := n1_
  clear n0_ n1_
  replace BK178 := Aside0.mk (blk_drew BK178.out)
  replace HB := Aside0.mk (below_drew1 HB.out)
  refine start_ (n := 20) (S := fun w' => True) (ds := []) #[O,O,O,O,O,O,O,O,O,O,O,O,O,O,O,O,O,O,O,O] (by kernel_rfl) rfl rfl trivial (fun hHeld => ?_); refine with_tabW fairwaylaw10_wakes.tab3 fairwaylaw10_wakes.bits3 (fun HT_ HW_ => ?_)
  generalize w37.drew = w38 at BK178 HB hHeld ⊢
  refine pz (i := 0) (N := some 17) #[I,O,O,O,O,O,O,O,O,O,O,O,O,O,O,O,O,O,O,O] ?_
  refine one_ (i := 1) (N := some 18) #[I,I,O,O,O,O,O,O,O,O,O,O,O,O,O,O,O,O,O,O] rfl rfl (one_of HT_.out (by kernel_rfl)) (by decide) (fun K hK => ?_)
  refine goes_ Try.func15 (by kernel_rfl) rfl #[.int .i64 t169] (by rfl) rfl rfl aa ?_
  with_reducible refine (fairwaylaw10_num.calls t169 t179 _ A4.out).mono ?_
  rintro e w' ⟨rfl, ⟨nd, rfl⟩⟩
  refine ⟨_, rfl, ?_⟩
  refine hK.out _ _ trivial (fun hHeld => ?_)
  clear hK K
  refine norm_ (a' := ?_) ?_ ?_
  rotate_left
  ·show Act.put _ (some 18) _ = _
   simp only [Act.put, List.setIfInBounds_toArray, List.set_cons_zero, List.set_cons_succ, i64_w, i32_w]
   rfl
  refine pz (i := 2) (N := some 19) #[I,I,I,O,O,O,O,O,O,O,O,O,O,O,O,O,O,O,O,O] ?_
  refine pz (i := 3) (N := some 20) #[I,I,I,I,O,O,O,O,O,O,O,O,O,O,O,O,O,O,O,O] ?_
  refine pu (i := 4) (N := some 21) #[I,I,I,I,I,O,O,O,O,O,O,O,O,O,O,O,O,O,O,O] ?_
  refine pu (i := 5) (N := some 22) #[I,I,I,I,I,I,O,O,O,O,O,O,O,O,O,O,O,O,O,O] ?_
  refine pu (i := 6) (N := some 23) #[I,I,I,I,I,I,I,O,O,O,O,O,O,O,O,O,O,O,O,O] ?_
  refine pz (i := 7) (N := some 24) #[I,I,I,I,I,I,I,I,O,O,O,O,O,O,O,O,O,O,O,O] ?_
  refine pz (i := 8) (N := some 25) #[I,I,I,I,I,I,I,I,I,O,O,O,O,O,O,O,O,O,O,O] ?_
  refine pu (i := 9) (N := some 26) #[I,I,I,I,I,I,I,I,I,I,O,O,O,O,O,O,O,O,O,O] ?_
  refine pu (i := 10) (N := some 27) #[I,I,I,I,I,I,I,I,I,I,I,O,O,O,O,O,O,O,O,O] ?_
  refine pu (i := 11) (N := some 28) #[I,I,I,I,I,I,I,I,I,I,I,I,O,O,O,O,O,O,O,O] ?_
  refine pu (i := 12) (N := some 29) #[I,I,I,I,I,I,I,I,I,I,I,I,I,O,O,O,O,O,O,O] ?_
  refine pz (i := 13) (N := some 30) #[I,I,I,I,I,I,I,I,I,I,I,I,I,I,O,O,O,O,O,O] ?_
  refine pz (i := 14) (N := some 31) #[I,I,I,I,I,I,I,I,I,I,I,I,I,I,I,O,O,O,O,O] ?_
  refine pu (i := 15) (N := some 32) #[I,I,I,I,I,I,I,I,I,I,I,I,I,I,I,I,O,O,O,O] ?_
  refine pu (i := 16) (N := some 33) #[I,I,I,I,I,I,I,I,I,I,I,I,I,I,I,I,I,O,O,O] ?_
  refine pu (i := 17) (N := some 34) #[I,I,I,I,I,I,I,I,I,I,I,I,I,I,I,I,I,I,O,O] ?_
  refine pz (i := 18) (N := some 35) #[I,I,I,I,I,I,I,I,I,I,I,I,I,I,I,I,I,I,I,O] ?_
  refine pz (i := 19) (N := some 0) #[I,I,I,I,I,I,I,I,I,I,I,I,I,I,I,I,I,I,I,I] ?_
  refine done_ (done_of HT_.out (by kernel_rfl)) ?_
  try go_wp2
  go_ret
  exact ⟨er, bo⟩

end Go.Proofs.Ytmabdfdmccbfnaa.P

-- written by a program of the proving session, out of the translation; Lean checks it
namespace Go.Proofs.Ytmabdfdmccbfnaa.P
open Go.RowKit Go.Proofs.Ytmabdfdmccbfnaa.Sq Go.Proofs.YtmabdfdmccbfnaaW.PrintWords Go.Proofs.YtmabdfdmccbfnaaW.PrintLast Go.Proofs.YtmabdfdmccbfnaaW.PrintMore
attribute [local go_sem] max2_int min2_int max_two min_two max_three min_three max_four min_four   -- for this text's walks alone
set_option linter.unusedVariables false
set_option linter.unusedSimpArgs false

/-! ### fairwaylaw0_RecsWeight: function 68 -/
def fairwaylaw0_RecsWeight.l0 : Nat → List (S25) → Int → Int → Option (Int)
 | 0, _, _, _ => none
 | k + 1, x0, x3, x4 => if x4 < (x0.length : Int) then (if x3 < 1048576 then (if 0 ≤ x4 then (fairwaylaw0_RecsWeight.l0 k x0 (wrap64 ((wrap64 (x3 + (((rd_T25 x0 x4).f2).size : Int))) + (((rd_T25 x0 x4).f3).size : Int))) (wrap64 (x4 + 1))) else (none)) else (some x3)) else (some x3)
def fairwaylaw0_RecsWeight.f (k : Nat) (l0 : List (S25)) : Option (Int) := fairwaylaw0_RecsWeight.l0 k l0 (l0.length : Int) 0
theorem fairwaylaw0_RecsWeight.mono_l : ∀ k, (∀ y0 y1 y2, LeO (fairwaylaw0_RecsWeight.l0 k y0 y1 y2) (fairwaylaw0_RecsWeight.l0 (k + 1) y0 y1 y2))
 | 0 => fun _ _ _ r h => by simp [fairwaylaw0_RecsWeight.l0] at h
 | k + 1 => by
  have ih0 := fairwaylaw0_RecsWeight.mono_l k
  ·intro y0 y1 y2
   unfold fairwaylaw0_RecsWeight.l0
   repeat' first
   | (with_reducible exact ih0 _ _ _)
   | (with_reducible exact LeO.refl _)
   | (with_reducible exact LeO.none _)
   | (with_reducible refine LeO.ite ?_ ?_)
   | (with_reducible refine LeO.bind ?_ (fun _ => ?_))
   | exact ih0 _ _ _
   | exact LeO.none _
   | refine LeO.ite ?_ ?_
   | refine LeO.bind ?_ (fun _ => ?_)
theorem fairwaylaw0_RecsWeight.mono : ∀ a0 k, LeO (fairwaylaw0_RecsWeight.f k a0) (fairwaylaw0_RecsWeight.f (k + 1) a0) := by
 intro a0 k
 have ih0 := fairwaylaw0_RecsWeight.mono_l k
 unfold fairwaylaw0_RecsWeight.f
 repeat' first
  | (with_reducible exact ih0 _ _ _)
  | (with_reducible exact LeO.refl _)
  | (with_reducible exact LeO.none _)
  | (with_reducible refine LeO.ite ?_ ?_)
  | (with_reducible refine LeO.bind ?_ (fun _ => ?_))
  | exact ih0 _ _ _
  | exact LeO.none _
  | refine LeO.ite ?_ ?_
  | refine LeO.bind ?_ (fun _ => ?_)
set_option maxHeartbeats 8000000 in
set_option maxRecDepth 100000 in
theorem fairwaylaw0_RecsWeight.calls (k : Nat) (A0 : Option Addr) (c0 : Nat) (l0 : List (S25)) (r : Int) (w : World) (hr0 : Kd.C k25 w A0 l0.length l0) (hc0 : l0.length ≤ c0) (h : fairwaylaw0_RecsWeight.f k l0 = some r) :
 Calls Try.prog 68 #[.slice A0 l0.length c0] w fun e w' => e = .returned (.int .i64 r) ∧ Drawn0 w w' := by
 have HR0 := Aside0.mk hr0
 have HC0 := Aside0.mk hc0
 clear hr0 hc0
 have H : (fairwaylaw0_RecsWeight.l0 k l0 (l0.length : Int) 0) = some r := h
 clear h
 have H' := Aside0.mk H
 clear H
 go_enter Try.func68, Try.ntmps68
 go_wp2
 repeat (go_quiet (fail); try go_wp2)
 go_loopg [3, 4] k (fun kq v3 v4 w' => ∃ (x3_1 : Int) (x4_1 : Int), v3 = .int .i64 x3_1 ∧ v4 = .int .i64 x4_1 ∧ Aside0 (fairwaylaw0_RecsWeight.l0 kq l0 x3_1 x4_1 = some r) ∧ Aside0 (kq ≤ k) ∧ Drawn0 w w')
 case atStart => exact ⟨((l0.length : Int)), (0), ap, ap, H', ⟨Nat.le_refl _⟩, dr⟩
 case round =>
  clear H'
  obtain ⟨x3_1, x4_1, rfl, rfl, HA, HK1, ⟨m1, rfl⟩⟩ := hrel
  cases gk with
  | zero => exact absurd HA.out (by simp [fairwaylaw0_RecsWeight.l0])
  | succ k1 =>
   have H := HA.out
   clear HA
   simp only [fairwaylaw0_RecsWeight.l0] at H
   by_cases c2 : x4_1 < (l0.length : Int)
   ·rw [if_pos c2] at H
    have c2b0 : decide (x4_1 < (l0.length : Int)) = true := decide_eq_true c2
    clear c2
    by_cases c3 : x3_1 < 1048576
    ·rw [if_pos c3] at H
     have c3b0 : decide (x3_1 < 1048576) = true := decide_eq_true c3
     clear c3
     by_cases c4 : 0 ≤ x4_1
     ·rw [if_pos c4] at H
      have c4b0 : decide (0 ≤ x4_1) = true := decide_eq_true c4
      clear c4
      have H' := Aside0.mk H
      clear H
      have p210 : 0 ≤ (x4_1 : Int) := od
      have q210 : x4_1 < (l0.length : Int) := od
      obtain ⟨ad210, e210, hx210_0, hx210_1, hx210_2, hx210_3, hx210_4, hx210_5⟩ := at_T25 HR0.out x4_1 p210 q210
      cases e210
      replace p210 := eq_true p210
      replace q210 := eq_true q210
      have p211 : 0 ≤ (x4_1 : Int) := od
      have q211 : x4_1 < (l0.length : Int) := od
      obtain ⟨ad211, e211, hx211_0, hx211_1, hx211_2, hx211_3, hx211_4, hx211_5⟩ := at_T25 HR0.out x4_1 p211 q211
      obtain rfl : ad210 = ad211 := (by injection e211)
      replace p211 := eq_true p211
      replace q211 := eq_true q211
      go_wp2
      repeat (go_quiet (fail); try go_wp2)
      go_roundg k1
      case measure => have := HK1.out; omega
      case rel => exact ⟨(wrap64 ((wrap64 (x3_1 + (((rd_T25 l0 x4_1).f2).size : Int))) + (((rd_T25 l0 x4_1).f3).size : Int))), (wrap64 (x4_1 + 1)), ap, ap, H', ⟨by have := HK1.out; omega⟩, dr⟩
     ·rw [if_neg c4] at H
      exact absurd H (by simp)
    ·rw [if_neg c3] at H
     have c3b0 : decide (x3_1 < 1048576) = false := decide_eq_false c3
     clear c3
     obtain rfl := Option.some.inj H
     go_wp2
     repeat (go_quiet (fail); try go_wp2)
     go_ret
     exact ⟨ap, dr⟩
   ·rw [if_neg c2] at H
    have c2b0 : decide (x4_1 < (l0.length : Int)) = false := decide_eq_false c2
    clear c2
    obtain rfl := Option.some.inj H
    go_wp2
    repeat (go_quiet (fail); try go_wp2)
    go_ret
    exact ⟨ap, dr⟩

end Go.Proofs.Ytmabdfdmccbfnaa.P

-- written by a program of the proving session, out of the translation; Lean checks it
namespace Go.Proofs.Ytmabdfdmccbfnaa.P
open Go.RowKit Go.Proofs.Ytmabdfdmccbfnaa.Sq Go.Proofs.YtmabdfdmccbfnaaW.PrintWords Go.Proofs.YtmabdfdmccbfnaaW.PrintLast Go.Proofs.YtmabdfdmccbfnaaW.PrintMore
attribute [local go_sem] max2_int min2_int max_two min_two max_three min_three max_four min_four   -- for this text's walks alone
set_option linter.unusedVariables false
set_option linter.unusedSimpArgs false

/-! ### fairwaylaw10_heavy: function 19 -/
def fairwaylaw10_heavy.f (k : Nat) (l0_0 : List (S25)) (a0_1 : ByteArray) : Option (Bool) := (fairwaylaw0_RecsWeight.f k l0_0).bind fun t213 => (if t213 > 8000 then (some true) else (some (decide ((a0_1.size : Int) > 8000))))
theorem fairwaylaw10_heavy.mono : ∀ a0 a1 k, LeO (fairwaylaw10_heavy.f k a0 a1) (fairwaylaw10_heavy.f (k + 1) a0 a1) := by
 intro a0 a1 k
 unfold fairwaylaw10_heavy.f
 repeat' first
  | (with_reducible exact fairwaylaw0_RecsWeight.mono _ _)
  | (with_reducible exact LeO.refl _)
  | (with_reducible exact LeO.none _)
  | (with_reducible refine LeO.ite ?_ ?_)
  | (with_reducible refine LeO.bind ?_ (fun _ => ?_))
  | exact fairwaylaw0_RecsWeight.mono _ _
  | exact LeO.none _
  | refine LeO.ite ?_ ?_
  | refine LeO.bind ?_ (fun _ => ?_)
set_option maxHeartbeats 8000000 in
set_option maxRecDepth 100000 in
theorem fairwaylaw10_heavy.calls (k : Nat) (A0_0 : Option Addr) (c0_0 : Nat) (l0_0 : List (S25)) (a0_1 : ByteArray) (r : Bool) (w : World) (hr0_0 : Kd.C k25 w A0_0 l0_0.length l0_0) (hc0_0 : l0_0.length ≤ c0_0) (h : fairwaylaw10_heavy.f k l0_0 a0_1 = some r) :
 Calls Try.prog 19 #[.agg #[.slice A0_0 l0_0.length c0_0, .string a0_1]] w fun e w' => e = .returned (.bool r) ∧ Below w.heap.size w w' := by
 have hu38 := Try.underlying38
 have HR0_0 := Aside0.mk hr0_0
 have HC0_0 := Aside0.mk hc0_0
 clear hr0_0 hc0_0
 have HB := Aside0.mk (Below.refl w.heap.size w)
 have H : ((fairwaylaw0_RecsWeight.f k l0_0).bind fun t213 => (if t213 > 8000 then (some true) else (some (decide ((a0_1.size : Int) > 8000))))) = some r := h
 clear h
 replace H := Option.bind_eq_some_iff.mp H
 obtain ⟨t213, A20, H⟩ := H
 replace H : (if t213 > 8000 then (some true) else (some (decide ((a0_1.size : Int) > 8000)))) = some r := H
 have A2 := Aside0.mk A20
 clear A20
 by_cases c3 : t213 > 8000
 ·rw [if_pos c3] at H
  have c3b0 : decide (8000 < t213) = true := decide_eq_true c3
  clear c3
  obtain rfl := Option.some.inj H
  go_enter Try.func19, Try.ntmps19
  go_wp2_with (first | ((with_reducible refine gate_dst (N := 1) rfl ?_); (try (refine gate_guard (by rfl) ?_; dsimp only)); refine box_event ?hg (N := 1) ?hd (cs := #[.slice A0_0 l0_0.length c0_0, .string a0_1]) (t := 38) ?hr ?_; (case hd => rfl); (case hg => rfl); (case hr => first | (go_simp; done) | (go_simp; rfl)); intro gb212 hg w4 hbox hb; have BK212 := Aside0.mk (hbox); have GW212 := Aside0.mk ((by rw [hg]; exact (below_size bo) : w.heap.size ≤ gb212)); have GE212 := Aside0.mk ((by rw [hg]; exact (below_size bo) : w.heap.size ≤ gb212)); replace HB := Aside0.mk (below_step bo hb); clear hb hbox hg; obtain ⟨hcz5_0, hcz5_1⟩ := cl2 BK212.out; obtain ⟨hfz5_0, hfz5_1⟩ := fz2 BK212.out) | ((with_reducible refine gate_callee (f := 68) rfl ?_); refine goesL_ (some 5) rfl rfl Try.func68 (by kernel_rfl) rfl #[.slice A0_0 l0_0.length c0_0] rfl aa ?_; (with_reducible refine (fairwaylaw0_RecsWeight.calls k _ _ l0_0 t213 _ ?side1 ?side2 A2.out).mono ?_); (case side1 => repeat (first | exact (Kd.C_below HR0_0.out HB.out) | (with_reducible refine Kd.C_alloc ?_ _) | (with_reducible refine Kd.C_drewN ?_ _) | (with_reducible refine Kd.C_drew ?_))); (case side2 => exact HC0_0.out); rintro e w' ⟨rfl, ⟨nd, rfl⟩⟩; refine ⟨_, rfl, ?_⟩))
  go_ret
  exact ⟨er, bo⟩
 ·rw [if_neg c3] at H
  have c3b0 : decide (8000 < t213) = false := decide_eq_false c3
  clear c3
  obtain rfl := Option.some.inj H
  go_enter Try.func19, Try.ntmps19
  go_wp2_with (first | ((with_reducible refine gate_dst (N := 1) rfl ?_); (try (refine gate_guard (by rfl) ?_; dsimp only)); refine box_event ?hg (N := 1) ?hd (cs := #[.slice A0_0 l0_0.length c0_0, .string a0_1]) (t := 38) ?hr ?_; (case hd => rfl); (case hg => rfl); (case hr => first | (go_simp; done) | (go_simp; rfl)); intro gb212 hg w6 hbox hb; have BK212 := Aside0.mk (hbox); have GW212 := Aside0.mk ((by rw [hg]; exact (below_size bo) : w.heap.size ≤ gb212)); have GE212 := Aside0.mk ((by rw [hg]; exact (below_size bo) : w.heap.size ≤ gb212)); replace HB := Aside0.mk (below_step bo hb); clear hb hbox hg; obtain ⟨hcz7_0, hcz7_1⟩ := cl2 BK212.out; obtain ⟨hfz7_0, hfz7_1⟩ := fz2 BK212.out) | ((with_reducible refine gate_callee (f := 68) rfl ?_); refine goesL_ (some 5) rfl rfl Try.func68 (by kernel_rfl) rfl #[.slice A0_0 l0_0.length c0_0] rfl aa ?_; (with_reducible refine (fairwaylaw0_RecsWeight.calls k _ _ l0_0 t213 _ ?side1 ?side2 A2.out).mono ?_); (case side1 => repeat (first | exact (Kd.C_below HR0_0.out HB.out) | (with_reducible refine Kd.C_alloc ?_ _) | (with_reducible refine Kd.C_drewN ?_ _) | (with_reducible refine Kd.C_drew ?_))); (case side2 => exact HC0_0.out); rintro e w' ⟨rfl, ⟨nd, rfl⟩⟩; refine ⟨_, rfl, ?_⟩))
  go_ret
  exact ⟨er, bo⟩

end Go.Proofs.Ytmabdfdmccbfnaa.P

-- written by a program of the proving session, out of the translation; Lean checks it
namespace Go.Proofs.Ytmabdfdmccbfnaa.P
open Go.RowKit Go.Proofs.Ytmabdfdmccbfnaa.Sq Go.Proofs.YtmabdfdmccbfnaaW.PrintWords Go.Proofs.YtmabdfdmccbfnaaW.PrintLast Go.Proofs.YtmabdfdmccbfnaaW.PrintMore
attribute [local go_sem] max2_int min2_int max_two min_two max_three min_three max_four min_four   -- for this text's walks alone
set_option linter.unusedVariables false
set_option linter.unusedSimpArgs false

/-! ### rec_Scan: function 25 -/
def rec_Scan.l0 : Nat → ByteArray → List (S25) → Int → Option ((List (S25)) × Int × Bool)
 | 0, _, _, _ => none
 | k + 1, x0, x2, x3 => if x3 < (x0.size : Int) then (if 0 ≤ x3 then (if x3 ≤ (x0.size : Int) then ((rec_Take.f k (x0.extract (x3 : Int).toNat x0.size)).bind fun bt265 => (if bt265.2.2.2.2.2.2.2 = 0 then (if x2.length < 2199023255552 then (rec_Scan.l0 k x0 (x2 ++ [(⟨bt265.1, bt265.2.1, bt265.2.2.1, bt265.2.2.2.1, bt265.2.2.2.2.1, bt265.2.2.2.2.2.1⟩ : S25)]) (wrap64 (x3 + bt265.2.2.2.2.2.2.1))) else (none)) else (some (x2, x3, false)))) else (none)) else (none)) else (some (x2, x3, true))
def rec_Scan.f (k : Nat) (a0 : ByteArray) : Option ((List (S25)) × Int × Bool) := rec_Scan.l0 k a0 ([] : List (S25)) 0
theorem rec_Scan.mono_l : ∀ k, (∀ y0 y1 y2, LeO (rec_Scan.l0 k y0 y1 y2) (rec_Scan.l0 (k + 1) y0 y1 y2))
 | 0 => fun _ _ _ r h => by simp [rec_Scan.l0] at h
 | k + 1 => by
  have ih0 := rec_Scan.mono_l k
  ·intro y0 y1 y2
   unfold rec_Scan.l0
   repeat' first
   | (with_reducible exact ih0 _ _ _)
   | (with_reducible exact rec_Take.mono _ _)
   | (with_reducible exact LeO.refl _)
   | (with_reducible exact LeO.none _)
   | (with_reducible refine LeO.ite ?_ ?_)
   | (with_reducible refine LeO.bind ?_ (fun _ => ?_))
   | exact ih0 _ _ _
   | exact rec_Take.mono _ _
   | exact LeO.none _
   | refine LeO.ite ?_ ?_
   | refine LeO.bind ?_ (fun _ => ?_)
theorem rec_Scan.mono : ∀ a0 k, LeO (rec_Scan.f k a0) (rec_Scan.f (k + 1) a0) := by
 intro a0 k
 have ih0 := rec_Scan.mono_l k
 unfold rec_Scan.f
 repeat' first
  | (with_reducible exact ih0 _ _ _)
  | (with_reducible exact rec_Take.mono _ _)
  | (with_reducible exact LeO.refl _)
  | (with_reducible exact LeO.none _)
  | (with_reducible refine LeO.ite ?_ ?_)
  | (with_reducible refine LeO.bind ?_ (fun _ => ?_))
  | exact ih0 _ _ _
  | exact rec_Take.mono _ _
  | exact LeO.none _
  | refine LeO.ite ?_ ?_
  | refine LeO.bind ?_ (fun _ => ?_)
set_option maxHeartbeats 8000000 in
set_option maxRecDepth 100000 in
theorem rec_Scan.calls (k : Nat) (a0 : ByteArray) (r1 : List (S25)) (r2 : Int) (r3 : Bool) (w : World) (h : rec_Scan.f k a0 = some (r1, r2, r3)) :
 Calls Try.prog 25 #[.string a0] w fun e w' => ∃ v0_ : Value, e = .returned (.tuple #[v0_, .int .i64 r2, .bool r3]) ∧ Kd.R k25 25 w' w.heap.size (fun _ => True) v0_ r1 ∧ Below w.heap.size w w' := by
 have hu25 := Try.underlying25
 have HB := Aside0.mk (Below.refl w.heap.size w)
 have H : (rec_Scan.l0 k a0 ([] : List (S25)) 0) = some (r1, r2, r3) := h
 clear h
 have H' := Aside0.mk H
 clear H
 go_enter Try.func25, Try.ntmps25
 go_wp2
 go_loopg [2, 3] k (fun kq v2 v3 w' => ∃ (x2_1 : List (S25)) (x3_1 : Int), v3 = .int .i64 x3_1 ∧ Aside0 (rec_Scan.l0 kq a0 x2_1 x3_1 = some (r1, r2, r3)) ∧ Aside0 (kq ≤ k) ∧ Aside0 (Kd.R k25 25 w' w.heap.size (fun _ => True) v2 x2_1) ∧ Aside0 (Below w.heap.size w w'))
 case atStart => exact ⟨(([] : List (S25))), (0), ap, H', ⟨Nat.le_refl _⟩, ⟨by first | exact Kd.R_nil _ _ _ _ _ | exact Kd.N_nil _ _ _ _ _ | exact Kd.V_nil _ _ _ _ _ | exact Kd.Q_nil _ _ _ _ _ | exact Kd.S_nil _ _ _ _ _⟩, ⟨bo⟩⟩
 case round =>
  clear H'
  obtain ⟨x2_1, x3_1, rfl, HA, HK1, HO_2, HB⟩ := hrel
  cases gk with
  | zero => exact absurd HA.out (by simp [rec_Scan.l0])
  | succ k1 =>
   have H := HA.out
   clear HA
   simp only [rec_Scan.l0] at H
   by_cases c2 : x3_1 < (a0.size : Int)
   ·rw [if_pos c2] at H
    have c2b0 : decide (x3_1 < (a0.size : Int)) = true := decide_eq_true c2
    clear c2
    by_cases c3 : 0 ≤ x3_1
    ·rw [if_pos c3] at H
     have c3b0 := eq_true c3
     have c3b1 : decide (0 ≤ x3_1) = true := decide_eq_true c3
     clear c3
     by_cases c4 : x3_1 ≤ (a0.size : Int)
     ·rw [if_pos c4] at H
      have c4b0 := eq_true c4
      have c4b1 : decide (x3_1 ≤ (a0.size : Int)) = true := decide_eq_true c4
      clear c4
      replace H := Option.bind_eq_some_iff.mp H
      obtain ⟨⟨t265, t266, t267, t268, t269, t270, t271, t272⟩, A50, H⟩ := H
      replace H : (if t272 = 0 then (if x2_1.length < 2199023255552 then (rec_Scan.l0 k1 a0 (x2_1 ++ [(⟨t265, t266, t267, t268, t269, t270⟩ : S25)]) (wrap64 (x3_1 + t271))) else (none)) else (some (x2_1, x3_1, false))) = some (r1, r2, r3) := H
      have A5 := Aside0.mk A50
      clear A50
      by_cases c6 : t272 = 0
      ·rw [if_pos c6] at H
       have c6b0 : (t272 == 0) = true := beq_iff_eq.mpr c6
       have c6b1 : (t272 != 0) = false := bne_eq_false_iff_eq.mpr c6
       clear c6
       by_cases c7 : x2_1.length < 2199023255552
       ·rw [if_pos c7] at H
        have LMc7 := Aside0.mk c7
        clear c7
        obtain ⟨y274, hy274⟩ : ∃ y_ : List (S25), y_ = (x2_1 ++ [(⟨t265, t266, t267, t268, t269, t270⟩ : S25)]) := ⟨_, rfl⟩
        replace H : (rec_Scan.l0 k1 a0 y274 (wrap64 (x3_1 + t271))) = some (r1, r2, r3) := by first | (rw [hy274]; with_reducible exact H) | (have H2_ := (Option.bind_some _ _).symm.trans H; rw [hy274]; with_reducible exact H2_) | (have H2_ := (Option.bind_some _ _).symm.trans H; with_reducible exact H2_) | with_reducible exact H | (rw [hy274]; exact H) | exact H
        have Ny274 := Aside0.mk hy274
        clear hy274
        have H' := Aside0.mk H
        clear H
        go_wp2_with (first | ((with_reducible refine gate_callee (f := 16) rfl ?_); refine goesL_ (some 16) rfl rfl Try.func16 (by kernel_rfl) rfl #[.string (a0.extract (x3_1 : Int).toNat a0.size)] rfl aa ?_; (with_reducible refine (rec_Take.calls k1 (a0.extract (x3_1 : Int).toNat a0.size) t265 t266 t267 t268 t269 t270 t271 t272 _ A5.out).mono ?_); rintro e w8 ⟨rfl, hb⟩; refine ⟨_, rfl, ?_⟩; replace HO_2 := Aside0.mk (Kd.R_below (rk HO_2.out) hb); replace HB := Aside0.mk (below_step bo hb); (try clear hb); (try clear hb2); (try clear hk); (try clear hi)) | ((with_reducible refine gate_dst (N := 5) rfl ?_); refine box_event ?hg (N := 5) ?hd (cs := #[.int .i64 0, .int .i64 0, .string (⟨#[]⟩ : ByteArray), .string (⟨#[]⟩ : ByteArray), .int .i64 0, .bool false]) (t := 25) ?hr ?_; (case hd => rfl); (case hg => rfl); (case hr => first | (go_simp; done) | (go_simp; rfl)); intro gb273 hg w9 hbox hb; replace HO_2 := Aside0.mk (Kd.R_below (Kd.R_elderB (rk HO_2.out) gb273 (Nat.le_of_eq hg.symm)) hb); have BK273 := Aside0.mk (hbox); have GW273 := Aside0.mk ((by rw [hg]; exact (below_size bo) : w.heap.size ≤ gb273)); have GE273 := Aside0.mk ((by rw [hg]; exact (below_size bo) : w.heap.size ≤ gb273)); replace HB := Aside0.mk (below_step bo hb); clear hb hbox hg; obtain ⟨hcz10_0, hcz10_1, hcz10_2, hcz10_3, hcz10_4, hcz10_5⟩ := cl6 BK273.out; obtain ⟨hfz10_0, hfz10_1, hfz10_2, hfz10_3, hfz10_4, hfz10_5⟩ := fz6 BK273.out) | ((with_reducible refine gate_builtin (b := .append) (xs := #[.tmp 24, .tmp 26]) rfl ?_); at_builtin; refine Kd.R_append k25 (w0 := w) w.heap.size rfl (.tmp 24) (.tmp 26) 36 25 (.agg #[(.int .i64 0), (.int .i64 0), (.string ⟨#[]⟩), (.string ⟨#[]⟩), (.int .i64 0), (.bool false)]) 64 rfl Try.underlying36 info25 rfl (by decide) (by omega) u2 x2_1 (⟨t265, t266, t267, t268, t269, t270⟩ : S25) [.int .i64 t265, .int .i64 t266, .string t267, .string t268, .int .i64 t269, .bool t270] (fun k_ => k_ ≠ gb273) (fun _ => False) rfl (by first | (go_simp; done) | (go_simp; rfl)) ?aP (fun _ hk => hk.elim) ?aF ?aO ?aB ?aS ?aL ?_; (case aP => exact k25_mkM _ _ _ (⟨t265, t266, t267, t268, t269, t270⟩ : S25)); (case aB => exact bo); (case aF => exact (fun k_ hk => Kd.freshB (g := gb273) (o := .cells #[.int .i64 t265, .int .i64 t266, .string t267, .string t268, .int .i64 t269, .bool t270] 25 (0, 0)) (by (with_reducible repeat (first | refine blk_drewN ?_ _ | refine blk_drew ?_ | refine blk_alloc ?_ _)); refine blk_put (cs := #[.int .i64 t265, .int .i64 t266, .string t267, .string t268, .int .i64 t269, .bool false]) ?_ 5 _ rfl; (with_reducible repeat (first | refine blk_drewN ?_ _ | refine blk_drew ?_ | refine blk_alloc ?_ _)); refine blk_put (cs := #[.int .i64 t265, .int .i64 t266, .string t267, .string t268, .int .i64 0, .bool false]) ?_ 4 _ rfl; (with_reducible repeat (first | refine blk_drewN ?_ _ | refine blk_drew ?_ | refine blk_alloc ?_ _)); refine blk_put (cs := #[.int .i64 t265, .int .i64 t266, .string t267, .string (⟨#[]⟩ : ByteArray), .int .i64 0, .bool false]) ?_ 3 _ rfl; (with_reducible repeat (first | refine blk_drewN ?_ _ | refine blk_drew ?_ | refine blk_alloc ?_ _)); refine blk_put (cs := #[.int .i64 t265, .int .i64 t266, .string (⟨#[]⟩ : ByteArray), .string (⟨#[]⟩ : ByteArray), .int .i64 0, .bool false]) ?_ 2 _ rfl; (with_reducible repeat (first | refine blk_drewN ?_ _ | refine blk_drew ?_ | refine blk_alloc ?_ _)); refine blk_put (cs := #[.int .i64 t265, .int .i64 0, .string (⟨#[]⟩ : ByteArray), .string (⟨#[]⟩ : ByteArray), .int .i64 0, .bool false]) ?_ 1 _ rfl; (with_reducible repeat (first | refine blk_drewN ?_ _ | refine blk_drew ?_ | refine blk_alloc ?_ _)); refine blk_put (cs := #[.int .i64 0, .int .i64 0, .string (⟨#[]⟩ : ByteArray), .string (⟨#[]⟩ : ByteArray), .int .i64 0, .bool false]) ?_ 0 _ rfl; (with_reducible repeat (first | refine blk_drewN ?_ _ | refine blk_drew ?_ | refine blk_alloc ?_ _)); exact BK273.out) k_ hk)); (case aO => exact (by (with_reducible repeat (first | apply Kd.R_alloc | apply Kd.R_drewN | apply Kd.R_drew)); exact Kd.R_mono (Kd.R_far (p := ⟨gb273, 5, none⟩) (Kd.R_far (p := ⟨gb273, 4, none⟩) (Kd.R_far (p := ⟨gb273, 3, none⟩) (Kd.R_far (p := ⟨gb273, 2, none⟩) (Kd.R_far (p := ⟨gb273, 1, none⟩) (Kd.R_far (p := ⟨gb273, 0, none⟩) (Kd.R_mono HO_2.out (fun k_ hk => (⟨hk, hk.2⟩ : _ ∧ k_ ≠ gb273))) (fun _ hk => hk.2) (.int .i64 t265)) (fun _ hk => hk.2) (.int .i64 t266)) (fun _ hk => hk.2) (.string t267)) (fun _ hk => hk.2) (.string t268)) (fun _ hk => hk.2) (.int .i64 t269)) (fun _ hk => hk.2) (.bool t270)) (fun _ hk => hk.1.2))); (case aS => exact (below_size bo)); (case aL => have := LMc7.out; omega); intro v275 w11 ho hb hg hat; rw [← Ny274.out] at ho; have n0_ := Aside0.mk (blk_grown (g := gb273) (o := .cells #[.int .i64 t265, .int .i64 t266, .string t267, .string t268, .int .i64 t269, .bool t270] 25 (0, 0)) (by (with_reducible repeat (first | refine blk_drewN ?_ _ | refine blk_drew ?_ | refine blk_alloc ?_ _)); refine blk_put (cs := #[.int .i64 t265, .int .i64 t266, .string t267, .string t268, .int .i64 t269, .bool false]) ?_ 5 _ rfl; (with_reducible repeat (first | refine blk_drewN ?_ _ | refine blk_drew ?_ | refine blk_alloc ?_ _)); refine blk_put (cs := #[.int .i64 t265, .int .i64 t266, .string t267, .string t268, .int .i64 0, .bool false]) ?_ 4 _ rfl; (with_reducible repeat (first | refine blk_drewN ?_ _ | refine blk_drew ?_ | refine blk_alloc ?_ _)); refine blk_put (cs := #[.int .i64 t265, .int .i64 t266, .string t267, .string (⟨#[]⟩ : ByteArray), .int .i64 0, .bool false]) ?_ 3 _ rfl; (with_reducible repeat (first | refine blk_drewN ?_ _ | refine blk_drew ?_ | refine blk_alloc ?_ _)); refine blk_put (cs := #[.int .i64 t265, .int .i64 t266, .string (⟨#[]⟩ : ByteArray), .string (⟨#[]⟩ : ByteArray), .int .i64 0, .bool false]) ?_ 2 _ rfl; (with_reducible repeat (first | refine blk_drewN ?_ _ | refine blk_drew ?_ | refine blk_alloc ?_ _)); refine blk_put (cs := #[.int .i64 t265, .int .i64 0, .string (⟨#[]⟩ : ByteArray), .string (⟨#[]⟩ : ByteArray), .int .i64 0, .bool false]) ?_ 1 _ rfl; (with_reducible repeat (first | refine blk_drewN ?_ _ | refine blk_drew ?_ | refine blk_alloc ?_ _)); refine blk_put (cs := #[.int .i64 0, .int .i64 0, .string (⟨#[]⟩ : ByteArray), .string (⟨#[]⟩ : ByteArray), .int .i64 0, .bool false]) ?_ 0 _ rfl; (with_reducible repeat (first | refine blk_drewN ?_ _ | refine blk_drew ?_ | refine blk_alloc ?_ _)); exact BK273.out) hg (Kd.R_away HO_2.out (fun _ hk => hk.2))); have n1_ := Aside0.mk (hb); have n2_ := Aside0.mk (ho); clear BK273; clear HB; clear HO_2; have BK273 := n0_; have HB := n1_; have HO276 := n2_; clear n0_ n1_ n2_; clear ho hb hg hat))
        go_roundg k1
        case measure => have := HK1.out; omega
        case rel => exact ⟨(y274), (wrap64 (x3_1 + t271)), ap, H', ⟨by have := HK1.out; omega⟩, ⟨by (with_reducible repeat (first | apply Kd.R_alloc | apply Kd.R_drewN | apply Kd.R_drew)); exact Kd.R_mono HO276.out (fun _ hk => trivial)⟩, ⟨bo⟩⟩
       ·rw [if_neg c7] at H
        exact absurd H (by simp)
      ·rw [if_neg c6] at H
       have c6b0 : (t272 == 0) = false := beq_eq_false_iff_ne.mpr c6
       have c6b1 : (t272 != 0) = true := bne_iff_ne.mpr c6
       simp only [Option.some.injEq, Prod.mk.injEq] at H
       obtain ⟨rfl, rfl, rfl⟩ := H
       go_wp2_with (first | ((with_reducible refine gate_callee (f := 16) rfl ?_); refine goesL_ (some 16) rfl rfl Try.func16 (by kernel_rfl) rfl #[.string (a0.extract (x3_1 : Int).toNat a0.size)] rfl aa ?_; (with_reducible refine (rec_Take.calls k1 (a0.extract (x3_1 : Int).toNat a0.size) t265 t266 t267 t268 t269 t270 t271 t272 _ A5.out).mono ?_); rintro e w12 ⟨rfl, hb⟩; refine ⟨_, rfl, ?_⟩; replace HO_2 := Aside0.mk (Kd.R_below (rk HO_2.out) hb); replace HB := Aside0.mk (below_step bo hb); (try clear hb); (try clear hb2); (try clear hk); (try clear hi)) | ((with_reducible refine gate_dst (N := 5) rfl ?_); refine box_event ?hg (N := 5) ?hd (cs := #[.int .i64 0, .int .i64 0, .string (⟨#[]⟩ : ByteArray), .string (⟨#[]⟩ : ByteArray), .int .i64 0, .bool false]) (t := 25) ?hr ?_; (case hd => rfl); (case hg => rfl); (case hr => first | (go_simp; done) | (go_simp; rfl)); intro gb273 hg w13 hbox hb; replace HO_2 := Aside0.mk (Kd.R_below (Kd.R_elderB (rk HO_2.out) gb273 (Nat.le_of_eq hg.symm)) hb); have BK273 := Aside0.mk (hbox); have GW273 := Aside0.mk ((by rw [hg]; exact (below_size bo) : w.heap.size ≤ gb273)); have GE273 := Aside0.mk ((by rw [hg]; exact (below_size bo) : w.heap.size ≤ gb273)); replace HB := Aside0.mk (below_step bo hb); clear hb hbox hg; obtain ⟨hcz14_0, hcz14_1, hcz14_2, hcz14_3, hcz14_4, hcz14_5⟩ := cl6 BK273.out; obtain ⟨hfz14_0, hfz14_1, hfz14_2, hfz14_3, hfz14_4, hfz14_5⟩ := fz6 BK273.out))
       go_ret3
       exact ⟨_, er, by (with_reducible repeat (first | apply Kd.R_alloc | apply Kd.R_drewN | apply Kd.R_drew)); exact Kd.R_mono (Kd.R_far (p := ⟨gb273, 5, none⟩) (Kd.R_far (p := ⟨gb273, 4, none⟩) (Kd.R_far (p := ⟨gb273, 3, none⟩) (Kd.R_far (p := ⟨gb273, 2, none⟩) (Kd.R_far (p := ⟨gb273, 1, none⟩) (Kd.R_far (p := ⟨gb273, 0, none⟩) (Kd.R_mono HO_2.out (fun k_ hk => (⟨hk, hk.2⟩ : _ ∧ k_ ≠ gb273))) (fun _ hk => hk.2) (.int .i64 t265)) (fun _ hk => hk.2) (.int .i64 t266)) (fun _ hk => hk.2) (.string t267)) (fun _ hk => hk.2) (.string t268)) (fun _ hk => hk.2) (.int .i64 t269)) (fun _ hk => hk.2) (.bool t270)) (fun _ hk => trivial), bo⟩
     ·rw [if_neg c4] at H
      exact absurd H (by simp)
    ·rw [if_neg c3] at H
     exact absurd H (by simp)
   ·rw [if_neg c2] at H
    have c2b0 : decide (x3_1 < (a0.size : Int)) = false := decide_eq_false c2
    clear c2
    simp only [Option.some.injEq, Prod.mk.injEq] at H
    obtain ⟨rfl, rfl, rfl⟩ := H
    go_wp2
    go_ret3
    exact ⟨_, er, by (with_reducible repeat (first | apply Kd.R_alloc | apply Kd.R_drewN | apply Kd.R_drew)); exact HO_2.out, bo⟩

end Go.Proofs.Ytmabdfdmccbfnaa.P

-- written by a program of the proving session, out of the translation; Lean checks it
namespace Go.Proofs.Ytmabdfdmccbfnaa.P
open Go.RowKit Go.Proofs.Ytmabdfdmccbfnaa.Sq Go.Proofs.YtmabdfdmccbfnaaW.PrintWords Go.Proofs.YtmabdfdmccbfnaaW.PrintLast Go.Proofs.YtmabdfdmccbfnaaW.PrintMore
attribute [local go_sem] max2_int min2_int max_two min_two max_three min_three max_four min_four   -- for this text's walks alone
set_option linter.unusedVariables false
set_option linter.unusedSimpArgs false

attribute [local go_sem high] eqA25
/-! ### fairwayref0_EqRecs: function 27 -/
def fairwayref0_EqRecs.l0 : Nat → List (S25) → List (S25) → Int → Option (Bool)
 | 0, _, _, _ => none
 | k + 1, x0, x1, x5 => if x5 < (x0.length : Int) then (if 0 ≤ x5 then (if x5 < (x1.length : Int) then (if (!(((rd_T25 x0 x5).f0) == ((rd_T25 x1 x5).f0)) || (!(((rd_T25 x0 x5).f1) == ((rd_T25 x1 x5).f1)) || (!((((rd_T25 x0 x5).f2).toList) == (((rd_T25 x1 x5).f2).toList)) || (!((((rd_T25 x0 x5).f3).toList) == (((rd_T25 x1 x5).f3).toList)) || (!(((rd_T25 x0 x5).f4) == ((rd_T25 x1 x5).f4)) || (!(((rd_T25 x0 x5).f5) == ((rd_T25 x1 x5).f5)))))))) = true then (some false) else (fairwayref0_EqRecs.l0 k x0 x1 (wrap64 (x5 + 1)))) else (none)) else (none)) else (some true)
def fairwayref0_EqRecs.f (k : Nat) (l0 : List (S25)) (l1 : List (S25)) : Option (Bool) := if (l0.length : Int) = (l1.length : Int) then (fairwayref0_EqRecs.l0 k l0 l1 0) else (some false)
theorem fairwayref0_EqRecs.mono_l : ∀ k, (∀ y0 y1 y2, LeO (fairwayref0_EqRecs.l0 k y0 y1 y2) (fairwayref0_EqRecs.l0 (k + 1) y0 y1 y2))
 | 0 => fun _ _ _ r h => by simp [fairwayref0_EqRecs.l0] at h
 | k + 1 => by
  have ih0 := fairwayref0_EqRecs.mono_l k
  ·intro y0 y1 y2
   unfold fairwayref0_EqRecs.l0
   repeat' first
   | (with_reducible exact ih0 _ _ _)
   | (with_reducible exact LeO.refl _)
   | (with_reducible exact LeO.none _)
   | (with_reducible refine LeO.ite ?_ ?_)
   | (with_reducible refine LeO.bind ?_ (fun _ => ?_))
   | exact ih0 _ _ _
   | exact LeO.none _
   | refine LeO.ite ?_ ?_
   | refine LeO.bind ?_ (fun _ => ?_)
theorem fairwayref0_EqRecs.mono : ∀ a0 a1 k, LeO (fairwayref0_EqRecs.f k a0 a1) (fairwayref0_EqRecs.f (k + 1) a0 a1) := by
 intro a0 a1 k
 have ih0 := fairwayref0_EqRecs.mono_l k
 unfold fairwayref0_EqRecs.f
 repeat' first
  | (with_reducible exact ih0 _ _ _)
  | (with_reducible exact LeO.refl _)
  | (with_reducible exact LeO.none _)
  | (with_reducible refine LeO.ite ?_ ?_)
  | (with_reducible refine LeO.bind ?_ (fun _ => ?_))
  | exact ih0 _ _ _
  | exact LeO.none _
  | refine LeO.ite ?_ ?_
  | refine LeO.bind ?_ (fun _ => ?_)
set_option maxHeartbeats 8000000 in
set_option maxRecDepth 100000 in
theorem fairwayref0_EqRecs.calls (k : Nat) (A0 : Option Addr) (c0 : Nat) (l0 : List (S25)) (A1 : Option Addr) (c1 : Nat) (l1 : List (S25)) (r : Bool) (w : World) (hr0 : Kd.C k25 w A0 l0.length l0) (hc0 : l0.length ≤ c0) (hr1 : Kd.C k25 w A1 l1.length l1) (hc1 : l1.length ≤ c1) (h : fairwayref0_EqRecs.f k l0 l1 = some r) :
 Calls Try.prog 27 #[.slice A0 l0.length c0, .slice A1 l1.length c1] w fun e w' => e = .returned (.bool r) ∧ Drawn0 w w' := by
 have hu25 := Try.underlying25
 have HR0 := Aside0.mk hr0
 have HC0 := Aside0.mk hc0
 clear hr0 hc0
 have HR1 := Aside0.mk hr1
 have HC1 := Aside0.mk hc1
 clear hr1 hc1
 have H : (if (l0.length : Int) = (l1.length : Int) then (fairwayref0_EqRecs.l0 k l0 l1 0) else (some false)) = some r := h
 clear h
 by_cases c3 : (l0.length : Int) = (l1.length : Int)
 ·rw [if_pos c3] at H
  have c3b0 : ((l0.length : Int) == (l1.length : Int)) = true := beq_iff_eq.mpr c3
  have c3b1 : ((l0.length : Int) != (l1.length : Int)) = false := bne_eq_false_iff_eq.mpr c3
  have c3b2 : (l0.length == l1.length) = true := by first | simpa using c3 | (simp at c3 ⊢; omega)
  clear c3
  have H' := Aside0.mk H
  clear H
  go_enter Try.func27, Try.ntmps27
  go_wp2
  repeat (go_quiet (fail); try go_wp2)
  go_loopg [5] k (fun kq v5 w' => ∃ (x5_1 : Int), v5 = .int .i64 x5_1 ∧ Aside0 (fairwayref0_EqRecs.l0 kq l0 l1 x5_1 = some r) ∧ Aside0 (kq ≤ k) ∧ Drawn0 w w')
  case atStart => exact ⟨(0), ap, H', ⟨Nat.le_refl _⟩, dr⟩
  case round =>
   clear H'
   try clear c1
   try clear c2
   try clear p2
   try clear c3
   try clear c3b0
   try clear c3b1
   try clear c3b2
   obtain ⟨x5_1, rfl, HA, HK1, ⟨m1, rfl⟩⟩ := hrel
   cases gk with
   | zero => exact absurd HA.out (by simp [fairwayref0_EqRecs.l0])
   | succ k1 =>
    have H := HA.out
    clear HA
    simp only [fairwayref0_EqRecs.l0] at H
    by_cases c4 : x5_1 < (l0.length : Int)
    ·rw [if_pos c4] at H
     have c4b0 : decide (x5_1 < (l0.length : Int)) = true := decide_eq_true c4
     clear c4
     by_cases c5 : 0 ≤ x5_1
     ·rw [if_pos c5] at H
      have c5b0 : decide (0 ≤ x5_1) = true := decide_eq_true c5
      clear c5
      by_cases c6 : x5_1 < (l1.length : Int)
      ·rw [if_pos c6] at H
       have c6b0 : decide (x5_1 < (l1.length : Int)) = true := decide_eq_true c6
       clear c6
       by_cases c7 : (!(((rd_T25 l0 x5_1).f0) == ((rd_T25 l1 x5_1).f0)) || (!(((rd_T25 l0 x5_1).f1) == ((rd_T25 l1 x5_1).f1)) || (!((((rd_T25 l0 x5_1).f2).toList) == (((rd_T25 l1 x5_1).f2).toList)) || (!((((rd_T25 l0 x5_1).f3).toList) == (((rd_T25 l1 x5_1).f3).toList)) || (!(((rd_T25 l0 x5_1).f4) == ((rd_T25 l1 x5_1).f4)) || (!(((rd_T25 l0 x5_1).f5) == ((rd_T25 l1 x5_1).f5)))))))) = true
       ·rw [if_pos c7] at H
        have c7b0 : (!(((rd_T25 l0 x5_1).f0) == ((rd_T25 l1 x5_1).f0)) || (!(((rd_T25 l0 x5_1).f1) == ((rd_T25 l1 x5_1).f1)) || (!((((rd_T25 l0 x5_1).f2).toList) == (((rd_T25 l1 x5_1).f2).toList)) || (!((((rd_T25 l0 x5_1).f3).toList) == (((rd_T25 l1 x5_1).f3).toList)) || (!(((rd_T25 l0 x5_1).f4) == ((rd_T25 l1 x5_1).f4)) || (!(((rd_T25 l0 x5_1).f5) == ((rd_T25 l1 x5_1).f5)))))))) = true := c7
        clear c7
        obtain rfl := Option.some.inj H
        have p289 : 0 ≤ (x5_1 : Int) := od
        have q289 : x5_1 < (l0.length : Int) := od
        obtain ⟨ad289, e289, hx289_0, hx289_1, hx289_2, hx289_3, hx289_4, hx289_5⟩ := at_T25 HR0.out x5_1 p289 q289
        cases e289
        replace p289 := eq_true p289
        replace q289 := eq_true q289
        have p290 : 0 ≤ (x5_1 : Int) := od
        have q290 : x5_1 < (l1.length : Int) := od
        obtain ⟨ad290, e290, hx290_0, hx290_1, hx290_2, hx290_3, hx290_4, hx290_5⟩ := at_T25 HR1.out x5_1 p290 q290
        cases e290
        replace p290 := eq_true p290
        replace q290 := eq_true q290
        go_wp2
        repeat (go_quiet (fail); try go_wp2)
        go_ret
        exact ⟨ap, dr⟩
       ·rw [if_neg c7] at H
        have c7b0 : (!(((rd_T25 l0 x5_1).f0) == ((rd_T25 l1 x5_1).f0)) || (!(((rd_T25 l0 x5_1).f1) == ((rd_T25 l1 x5_1).f1)) || (!((((rd_T25 l0 x5_1).f2).toList) == (((rd_T25 l1 x5_1).f2).toList)) || (!((((rd_T25 l0 x5_1).f3).toList) == (((rd_T25 l1 x5_1).f3).toList)) || (!(((rd_T25 l0 x5_1).f4) == ((rd_T25 l1 x5_1).f4)) || (!(((rd_T25 l0 x5_1).f5) == ((rd_T25 l1 x5_1).f5)))))))) = false := by simpa using c7
        clear c7
        have H' := Aside0.mk H
        clear H
        have p289 : 0 ≤ (x5_1 : Int) := od
        have q289 : x5_1 < (l0.length : Int) := od
        obtain ⟨ad289, e289, hx289_0, hx289_1, hx289_2, hx289_3, hx289_4, hx289_5⟩ := at_T25 HR0.out x5_1 p289 q289
        cases e289
        replace p289 := eq_true p289
        replace q289 := eq_true q289
        have p290 : 0 ≤ (x5_1 : Int) := od
        have q290 : x5_1 < (l1.length : Int) := od
        obtain ⟨ad290, e290, hx290_0, hx290_1, hx290_2, hx290_3, hx290_4, hx290_5⟩ := at_T25 HR1.out x5_1 p290 q290
        cases e290
        replace p290 := eq_true p290
        replace q290 := eq_true q290
        go_wp2
        repeat (go_quiet (fail); try go_wp2)
        go_roundg k1
        case measure => have := HK1.out; omega
        case rel => exact ⟨(wrap64 (x5_1 + 1)), ap, H', ⟨by have := HK1.out; omega⟩, dr⟩
      ·rw [if_neg c6] at H
       exact absurd H (by simp)
     ·rw [if_neg c5] at H
      exact absurd H (by simp)
    ·rw [if_neg c4] at H
     have c4b0 : decide (x5_1 < (l0.length : Int)) = false := decide_eq_false c4
     clear c4
     obtain rfl := Option.some.inj H
     go_wp2
     repeat (go_quiet (fail); try go_wp2)
     go_ret
     exact ⟨ap, dr⟩
 ·rw [if_neg c3] at H
  have c3b0 : ((l0.length : Int) == (l1.length : Int)) = false := beq_eq_false_iff_ne.mpr c3
  have c3b1 : ((l0.length : Int) != (l1.length : Int)) = true := bne_iff_ne.mpr c3
  have c3b2 : (l0.length == l1.length) = false := by first | simpa using c3 | (simp at c3 ⊢; omega)
  obtain rfl := Option.some.inj H
  go_enter Try.func27, Try.ntmps27
  go_wp2
  repeat (go_quiet (fail); try go_wp2)
  go_ret
  exact ⟨ap, dr⟩

end Go.Proofs.Ytmabdfdmccbfnaa.P

-- written by a program of the proving session, out of the translation; Lean checks it
namespace Go.Proofs.Ytmabdfdmccbfnaa.P
open Go.RowKit Go.Proofs.Ytmabdfdmccbfnaa.Sq Go.Proofs.YtmabdfdmccbfnaaW.PrintWords Go.Proofs.YtmabdfdmccbfnaaW.PrintLast Go.Proofs.YtmabdfdmccbfnaaW.PrintMore
attribute [local go_sem] max2_int min2_int max_two min_two max_three min_three max_four min_four   -- for this text's walks alone
set_option linter.unusedVariables false
set_option linter.unusedSimpArgs false

/-! ### fairwaylaw0_Within: function 29 -/
def fairwaylaw0_Within.f (a0 : Int) (a1 : Int) : Option (Int) := if (IntKind.u64.wrap (a1)) = 0 then (none) else (some (wrap64 (Int.tmod (IntKind.u64.wrap (a0)) (IntKind.u64.wrap (a1)))))
set_option maxHeartbeats 8000000 in
set_option maxRecDepth 100000 in
theorem fairwaylaw0_Within.calls (a0 : Int) (a1 : Int) (r : Int) (w : World) (h : fairwaylaw0_Within.f a0 a1 = some r) :
 Calls Try.prog 29 #[.int .i64 a0, .int .i64 a1] w fun e w' => e = .returned (.int .i64 r) ∧ Drawn0 w w' := by
 have H : (if (IntKind.u64.wrap (a1)) = 0 then (none) else (some (wrap64 (Int.tmod (IntKind.u64.wrap (a0)) (IntKind.u64.wrap (a1)))))) = some r := h
 clear h
 by_cases c3 : (IntKind.u64.wrap (a1)) = 0
 ·rw [if_pos c3] at H
  exact absurd H (by simp)
 ·rw [if_neg c3] at H
  have c3b0 : ((IntKind.u64.wrap (a1)) == 0) = false := beq_eq_false_iff_ne.mpr c3
  have c3b1 : ((IntKind.u64.wrap (a1)) != 0) = true := bne_iff_ne.mpr c3
  obtain rfl := Option.some.inj H
  go_enter Try.func29, Try.ntmps29
  go_wp2
  go_ret
  exact ⟨ap, dr⟩

end Go.Proofs.Ytmabdfdmccbfnaa.P

/- Bytes that a conversion '[]byte(s)' made: a row of the call's own whose block bears a frozen range behind its elements. -/
namespace Go.Proofs.Ytmabdfdmccbfnaa.Sq
open Go Go.RowKit Go.Proofs.YtmabdfdmccbfnaaW.PrintWords Go.Proofs.YtmabdfdmccbfnaaW.PrintLast Go.Proofs.YtmabdfdmccbfnaaW.PrintMore
set_option linter.unusedVariables false
def fbytes (s : ByteArray) : List Int := s.data.toList.map (fun b => (b.toNat : Int))
theorem fbytes_length (s : ByteArray) : (fbytes s).length = s.size := by simp [fbytes]
/-- A row of bytes of the call's own; what is frozen of its block lies behind the elements. -/
def FR (e : Nat) (w : World) (base : Nat) (ok : Nat → Prop) (v : Value) (xs : List Int) : Prop :=
  (∀ k, v.ownBlock = some k → ok k) ∧ ∃ g cap cur fz, v = .slice (some ⟨g, 0, none⟩) xs.length cap ∧ base ≤ g ∧ w.heap[g]? = some (.cells cur e fz) ∧ xs.length ≤ fz.1 ∧ ∀ j : Nat, ∀ x : Int, xs[j]? = some x → cur[j]? = some (.int .u8 x)
section
variable {e base : Nat} {ok : Nat → Prop} {w w1 W : World} {v : Value} {xs : List Int}
theorem FR_step (h : FR e w base ok v xs) (hb : ∀ k, k < w.heap.size → w1.heap[k]? = w.heap[k]?) : FR e w1 base ok v xs := by
  obtain ⟨h0, g, cap, cur, fz, hv, hg, hh, hf, hx⟩ := h
  exact ⟨h0, g, cap, cur, fz, hv, hg, (hb g (Array.getElem?_eq_some_iff.1 hh).1).trans hh, hf, hx⟩
theorem FR_below (h : FR e w base ok v xs) (hb : Below w.heap.size w w1) : FR e w1 base ok v xs := FR_step h (fun k hk => hb.block k hk)
theorem FR_alloc (h : FR e w base ok v xs) (o : Obj) : FR e (w.alloc o) base ok v xs := FR_below h (below_alloc (Below.refl _ _) o)
theorem FR_drew (h : FR e w base ok v xs) : FR e w.drew base ok v xs := FR_below h (below_drew (Below.refl _ _))
theorem FR_drewN (h : FR e w base ok v xs) (m : Nat) : FR e (w.drewN m) base ok v xs := FR_below h (pw_below_drewN (Below.refl _ _) m)
theorem FR_at {m : Nat} (hq : w.drewN m = w1) (h : FR e w base ok v xs) : FR e w1 base ok v xs := by subst hq; exact FR_drewN h m
theorem FR_lower {base' : Nat} (h : FR e w base ok v xs) (hb : base' ≤ base) : FR e w base' ok v xs := by
  obtain ⟨h0, g, cap, cur, fz, hv, hg, hr⟩ := h
  exact ⟨h0, g, cap, cur, fz, hv, Nat.le_trans hb hg, hr⟩
theorem FR_mono {ok' : Nat → Prop} (h : FR e w base ok v xs) (hok : ∀ k, ok k → ok' k) : FR e w base ok' v xs := ⟨fun k hk => hok k (h.1 k hk), h.2⟩
theorem FR_lt (h : FR e w base ok v xs) : ∀ k, v.ownBlock = some k → k < w.heap.size := by
  obtain ⟨h0, g, cap, cur, fz, hv, hg, hh, hr⟩ := h
  intro k hk
  subst hv
  have : g = k := by simpa [Value.ownBlock] using hk
  subst this
  exact (Array.getElem?_eq_some_iff.1 hh).1
theorem FR_base (h : FR e w base ok v xs) : ∀ k, v.ownBlock = some k → base ≤ k := by
  obtain ⟨h0, g, cap, cur, fz, hv, hg, hh, hr⟩ := h
  intro k hk
  subst hv
  have : g = k := by simpa [Value.ownBlock] using hk
  subst this
  exact hg
theorem FR_slice (h : FR e w base ok v xs) : ∃ A c, v = .slice A xs.length c := by
  obtain ⟨h0, g, cap, cur, fz, hv, hr⟩ := h
  exact ⟨_, _, hv⟩
theorem FR_form (h : FR e w base ok v xs) (hp : 0 < xs.length) : ∃ g cap, v = .slice (some ⟨g, 0, none⟩) xs.length cap ∧ base ≤ g ∧ g < w.heap.size ∧ ∃ n_ : Nat, ∃ fz cells, w.heap[g]? = some (.cells cells e fz) := by
  obtain ⟨h0, g, cap, cur, fz, hv, hg, hh, hr⟩ := h
  exact ⟨g, cap, hv, hg, (Array.getElem?_eq_some_iff.1 hh).1, 0, fz, cur, hh⟩
theorem FR_cells {g cap n : Nat} (h : FR e w base ok (.slice (some ⟨g, 0, none⟩) n cap) xs) (i : Nat) (hi : i < n) : w.cell? ⟨g, i, none⟩ = some (.int .u8 (rd xs i)) ∧ w.frozen? ⟨g, i, none⟩ = false := by
  obtain ⟨h0, g', cap', cur, fz, hv, hg, hh, hf, hx⟩ := h
  injection hv with h1 h2 h3
  injection h1 with h1
  injection h1 with h1
  subst h1 h2 h3
  have hr : xs[i]? = some (rd xs i) := by
    rw [List.getElem?_eq_getElem hi]
    simp [rd, List.getD_eq_getElem?_getD, List.getElem?_eq_getElem hi]
  refine ⟨?_, ?_⟩
  · have := hx i _ hr
    simp [World.cell?, hh, this]
  · obtain ⟨lo, hi'⟩ := fz
    simp only [World.frozen?, hh, Bool.and_eq_false_iff, decide_eq_false_iff_not]
    left
    simp only at hf
    omega
theorem FR_celln {g cap n : Nat} (d : Int) (h : FR e w base ok (.slice (some ⟨g, 0, none⟩) n cap) xs) (i : Int) (h0 : 0 ≤ i) (hi : i < n) : w.cell? ⟨g, i.toNat, none⟩ = some (.int .u8 (rd xs i)) ∧ w.frozen? ⟨g, i.toNat, none⟩ = false := by
  have := FR_cells h i.toNat (by omega)
  rwa [Int.toNat_of_nonneg h0] at this
theorem FR_at_ {A : Option Addr} {n c : Nat} (h : FR e w base ok (.slice A n c) xs) (i : Int) (h0 : 0 ≤ i) (hi : i < xs.length) : ∃ ad, A = some ad ∧ w.cell? (ad.add i.toNat) = some (.int .u8 (rd xs i)) := by
  obtain ⟨_, g, cap, cur, fz, hv, hr⟩ := id h
  injection hv with h1 h2 h3
  subst h1 h2 h3
  refine ⟨_, rfl, ?_⟩
  rw [add_plain]
  exact (FR_celln 0 h i h0 hi).1
theorem FR_putn {g cap n : Nat} (h : FR e w base ok (.slice (some ⟨g, 0, none⟩) n cap) xs) (i : Int) (x : Int) : FR e (w.setCell ⟨g, i.toNat, none⟩ (.int .u8 x)) base ok (.slice (some ⟨g, 0, none⟩) n cap) (xs.set i.toNat x) := by
  obtain ⟨h0, g', cap', cur, fz, hv, hg, hh, hf, hx⟩ := h
  injection hv with h1 h2 h3
  injection h1 with h1
  injection h1 with h1
  subst h1 h2 h3
  refine ⟨h0, g, cap, cur.setIfInBounds i.toNat (.int .u8 x), fz, by rw [List.length_set], hg, ?_, by rw [List.length_set]; exact hf, ?_⟩
  · simp [World.setCell, Array.getElem?_modify, hh]
  · intro j y hj
    by_cases he : i.toNat = j
    · subst he
      have hl : i.toNat < xs.length := by
        have := (List.getElem?_eq_some_iff.1 hj).1
        simpa using this
      rw [List.getElem?_set_self hl] at hj
      cases hj
      have := hx i.toNat _ (List.getElem?_eq_getElem hl)
      have hs := (Array.getElem?_eq_some_iff.1 this).1
      rw [Array.getElem?_setIfInBounds_self_of_lt hs]
    · rw [List.getElem?_set_ne he] at hj
      rw [Array.getElem?_setIfInBounds_ne he]
      exact hx j y hj
theorem FR_string {P : Program} {src dst b : TypeId} (hs : P.underlying src = some (.slice b)) (he : P.underlying b = some (.int .u8)) (hd : P.underlying dst = some .string)
    (h : FR e w base ok v xs) : (convert src dst v).run P w = .ok (.string (strOfNums xs)) w := by
  obtain ⟨_, g, cap, cur, fz, rfl, hr⟩ := id h
  refine run_convert_bytes_arg w src b hs he g 0 _ cap xs rfl (fun i hi => ?_) dst hd
  have := (FR_cells h i hi).1
  rw [Nat.zero_add, this]
  simp [rd]
end
theorem FR_types {α : Type} {d : Kd α} {e base g t : Nat} {ok : Nat → Prop} {w : World} {v : Value} {xs : List α} (h : d.R e w base ok v xs) (hb : ∃ fz cells, w.heap[g]? = some (.cells cells t fz)) (ht : ∀ q, q ∈ e :: d.E → q ≠ t) : d.R e w base (fun k => ok k ∧ k ≠ g) v xs :=
  Kd.R_mono (Kd.R_bound h) (fun k hk => ⟨hk.1, by
    intro he
    subst he
    obtain ⟨_, _, _, q, hq, cells, hc⟩ := hk
    obtain ⟨fz, cells', hb'⟩ := hb
    rw [hb'] at hc
    injection hc with hc
    injection hc with h1 h2 h3
    exact ht q hq h2.symm⟩)
theorem u8w (z : Int) : IntKind.u8.wrap z = z % 256 := by simp [IntKind.wrap, IntKind.bits, IntKind.signed]
theorem rf {p q : Prop} (h : q) (f : q → p := by intro h_; (with_reducible repeat (first | apply FR_alloc | apply FR_drewN | apply FR_drew)); exact h_) : p := f h
section
variable {P : Program} {ops : Array Oper} {rest : List Oper} {o : Oper} {a : Act} {Q : Exit → Act → World → Prop}
theorem FR_conv {w0 W : World} {base : Nat} (hgd : o.guard = none) {N : Tmp} (hd : o.dst = some N) (src dst e : TypeId) (x : Operand) (hop : o.op = .convert src dst x) (s : ByteArray) (hx : a.eval x = .string s)
    (hs : P.underlying src = some .string) (ht : P.underlying dst = some (.slice e)) (he : P.underlying e = some (.int .u8)) (HB : Below base w0 W) (hbase : base ≤ W.heap.size)
    (h : ∀ v1 w1, FR e w1 base (fun _ => True) v1 (fbytes s) → Below base w0 w1 → True → (∃ b, v1.ownBlock = some b ∧ W.heap.size ≤ b) → wpList P ops Q rest (a.put o.dst v1) w1) : wpList P ops Q (o :: rest) a W := by
  refine Kd.event_run hgd (v := .slice (some ⟨W.heap.size, 0, none⟩) s.size (grownCap W s.size 0 e)) (w1 := W.drew.alloc (.cells (bytesRow s (grownCap W s.size 0 e)) e ((bytesRow s (grownCap W s.size 0 e)).size, (bytesRow s (grownCap W s.size 0 e)).size + 1))) ?_ (h _ _ ⟨fun _ _ => trivial, W.heap.size, _, bytesRow s (grownCap W s.size 0 e), ((bytesRow s (grownCap W s.size 0 e)).size, (bytesRow s (grownCap W s.size 0 e)).size + 1), by rw [fbytes_length], hbase, ?_, ?_, ?_⟩ ((below_drew HB).alloc hbase _) trivial ⟨W.heap.size, by simp [Value.ownBlock], Nat.le_refl _⟩)
  · have := run_bytes_of_string (P := P) W src dst e s hs ht he
    unfold execOp
    simp only [hop, hx, Sem.run_bind, this, Result.andThen_ok, Sem.run_pure]
  · show (W.drew.heap.push _)[W.heap.size]? = _
    have : W.heap.size = W.drew.heap.size := rfl
    rw [this]
    exact Array.getElem?_push_size
  · rw [fbytes_length]
    simp [bytesRow]
  · intro j y hj
    simp only [fbytes, List.getElem?_map] at hj
    obtain ⟨b, hb, rfl⟩ := Option.map_eq_some_iff.1 hj
    have hb' : s.data[j]? = some b := by simpa using hb
    unfold bytesRow
    rw [Array.getElem?_append_left (by simpa using (Array.getElem?_eq_some_iff.1 hb').1)]
    simp [hb']
end
end Go.Proofs.Ytmabdfdmccbfnaa.Sq

-- written by a program of the proving session, out of the translation; Lean checks it
namespace Go.Proofs.Ytmabdfdmccbfnaa.P
open Go.RowKit Go.Proofs.Ytmabdfdmccbfnaa.Sq Go.Proofs.YtmabdfdmccbfnaaW.PrintWords Go.Proofs.YtmabdfdmccbfnaaW.PrintLast Go.Proofs.YtmabdfdmccbfnaaW.PrintMore
attribute [local go_sem] max2_int min2_int max_two min_two max_three min_three max_four min_four   -- for this text's walks alone
set_option linter.unusedVariables false
set_option linter.unusedSimpArgs false

/-! ### fairwaylaw10_RecBack: function 6 -/
mutual
def fairwaylaw10_RecBack.l0 : Nat → List (S38) → Int → Option (Bool)
 | 0, _, _ => none
 | k + 1, x0, x3 => if x3 < (x0.length : Int) then (fairwaylaw10_RecBack.j1 k x0 x3 (decide (x3 < 10))) else (fairwaylaw10_RecBack.j1 k x0 x3 false)
def fairwaylaw10_RecBack.j1 : Nat → List (S38) → Int → Bool → Option (Bool)
 | 0, _, _, _ => none
 | k + 1, x0, x3, x30 => if x30 = true then (if 0 ≤ x3 then (if x3 < (x0.length : Int) then ((fairwaylaw10_heavy.f k ((rd_T38 x0 x3).f0) ((rd_T38 x0 x3).f1)).bind fun t332 => (if t332 = true then (some true) else (fairwaylaw10_RecBack.l1 k x0 x3 (⟨#[]⟩ : ByteArray) ([] : List (S25)) ([] : List Int) 0))) else (none)) else (none)) else ((fairwaylaw10_wakes.f k).bind fun t330 => (some t330))
def fairwaylaw10_RecBack.l1 : Nat → List (S38) → Int → ByteArray → List (S25) → List Int → Int → Option (Bool)
 | 0, _, _, _, _, _, _ => none
 | k + 1, x0, x3, x4, x5, x6, x7 => if 0 ≤ x3 then (if x3 < (x0.length : Int) then (if x7 < (((rd_T38 x0 x3).f0).length : Int) then (fairwaylaw10_RecBack.j3 k x0 x3 x4 x5 x6 x7 (decide (x7 < 6))) else (fairwaylaw10_RecBack.j3 k x0 x3 x4 x5 x6 x7 false)) else (none)) else (none)
def fairwaylaw10_RecBack.j3 : Nat → List (S38) → Int → ByteArray → List (S25) → List Int → Int → Bool → Option (Bool)
 | 0, _, _, _, _, _, _, _ => none
 | k + 1, x0, x3, x4, x5, x6, x7, x49 => if x49 = true then (if 0 ≤ x3 then (if x3 < (x0.length : Int) then (if 0 ≤ x7 then (if x7 < (((rd_T38 x0 x3).f0).length : Int) then ((rec_Bytes.f k ((rd_T25 ((rd_T38 x0 x3).f0) x7).f0) ((rd_T25 ((rd_T38 x0 x3).f0) x7).f1) ((rd_T25 ((rd_T38 x0 x3).f0) x7).f2) ((rd_T25 ((rd_T38 x0 x3).f0) x7).f3) ((rd_T25 ((rd_T38 x0 x3).f0) x7).f4) ((rd_T25 ((rd_T38 x0 x3).f0) x7).f5)).bind fun bt336 => ((fairwaylaw10_num.f bt336.2).bind fun t338 => (if t338 = 0 then (if (bt336.1.size : Int) < 25 then (some false) else (fairwaylaw10_RecBack.l2 k x0 x3 x4 x5 x6 x7 bt336.1 0)) else (fairwaylaw10_RecBack.l1 k x0 x3 x4 x5 x6 (wrap64 (x7 + 1)))))) else (none)) else (none)) else (none)) else (none)) else (fairwaylaw10_RecBack.l3 k x0 x3 x4 x5 x6 0)
def fairwaylaw10_RecBack.l2 : Nat → List (S38) → Int → ByteArray → List (S25) → List Int → Int → ByteArray → Int → Option (Bool)
 | 0, _, _, _, _, _, _, _, _ => none
 | k + 1, x0, x3, x4, x5, x6, x7, x8, x10 => if x10 < 8 then ((some (fbytes x8 : List Int)).bind fun y347 => ((fairwaylaw0_Within.f (wrap64 ((wrap64 (Int.tdiv (wrap64 (x10 * (x8.size : Int))) 8)) + x3)) (wrap64 ((x8.size : Int) - 2))).bind fun t350 => (if 0 ≤ (wrap64 (2 + t350)) then (if (wrap64 (2 + t350)) < (y347.length : Int) then (if 0 ≤ (Int.tmod x10 8) then ((rec_Take.f k (strOfNums (y347.set ((wrap64 (2 + t350)) : Int).toNat (Go.bits .xor .u8 (rd y347 (wrap64 (2 + t350))) (shl .u8 1 (Int.tmod x10 8)))))).bind fun bt353 => ((fairwaylaw10_num.f bt353.2.2.2.2.2.2.2).bind fun t362 => (if t362 = 8 then (fairwaylaw10_RecBack.l2 k x0 x3 x4 x5 x6 x7 x8 (wrap64 (x10 + 1))) else (some false)))) else (none)) else (none)) else (none)))) else (if x4.size + x8.size ≤ 9223372036854775807 then (if 0 ≤ x3 then (if x3 < (x0.length : Int) then (if 0 ≤ x7 then (if x7 < (((rd_T38 x0 x3).f0).length : Int) then (if x5.length < 2199023255552 then (if x6.length < 17592186044416 then (fairwaylaw10_RecBack.l1 k x0 x3 (x4 ++ x8) (x5 ++ [(⟨(rd_T25 ((rd_T38 x0 x3).f0) x7).f0, (rd_T25 ((rd_T38 x0 x3).f0) x7).f1, (rd_T25 ((rd_T38 x0 x3).f0) x7).f2, (rd_T25 ((rd_T38 x0 x3).f0) x7).f3, (rd_T25 ((rd_T38 x0 x3).f0) x7).f4, (rd_T25 ((rd_T38 x0 x3).f0) x7).f5⟩ : S25)]) (x6 ++ [((x4 ++ x8).size : Int)]) (wrap64 (x7 + 1))) else (none)) else (none)) else (none)) else (none)) else (none)) else (none)) else (none))
def fairwaylaw10_RecBack.l3 : Nat → List (S38) → Int → ByteArray → List (S25) → List Int → Int → Option (Bool)
 | 0, _, _, _, _, _, _ => none
 | k + 1, x0, x3, x4, x5, x6, x16 => if x16 ≤ (x4.size : Int) then (if 0 ≤ x16 then ((rec_Scan.f k (x4.extract 0 (x16 : Int).toNat)).bind fun bt363 => (fairwaylaw10_RecBack.l4 k x0 x3 x4 x5 x6 x16 bt363.1 bt363.2.1 bt363.2.2 0 0 0)) else (none)) else (fairwaylaw10_RecBack.l0 k x0 (wrap64 (x3 + 1)))
def fairwaylaw10_RecBack.l4 : Nat → List (S38) → Int → ByteArray → List (S25) → List Int → Int → List (S25) → Int → Bool → Int → Int → Int → Option (Bool)
 | 0, _, _, _, _, _, _, _, _, _, _, _, _ => none
 | k + 1, x0, x3, x4, x5, x6, x16, x17, x18, x19, x20, x21, x22 => if x22 < (x6.length : Int) then (if 0 ≤ x22 then (if (rd x6 x22) ≤ x16 then (fairwaylaw10_RecBack.l4 k x0 x3 x4 x5 x6 x16 x17 x18 x19 (wrap64 (x22 + 1)) (rd x6 x22) (wrap64 (x22 + 1))) else (if 0 ≤ x20 then (if x20 ≤ (x5.length : Int) then ((fairwayref0_EqRecs.f k x17 (x5.take (x20 : Int).toNat)).bind fun t374 => (if t374 = true then (if x18 = x21 then (if (x19 != (x21 == x16)) = true then (some false) else (fairwaylaw10_RecBack.l3 k x0 x3 x4 x5 x6 (wrap64 ((wrap64 (x16 + 1)) + (wrap64 ((x4.size : Int) / 40)))))) else (some false)) else (some false))) else (none)) else (none))) else (none)) else (if 0 ≤ x20 then (if x20 ≤ (x5.length : Int) then ((fairwayref0_EqRecs.f k x17 (x5.take (x20 : Int).toNat)).bind fun t379 => (if t379 = true then (if x18 = x21 then (if (x19 != (x21 == x16)) = true then (some false) else (fairwaylaw10_RecBack.l3 k x0 x3 x4 x5 x6 (wrap64 ((wrap64 (x16 + 1)) + (wrap64 ((x4.size : Int) / 40)))))) else (some false)) else (some false))) else (none)) else (none))
end
def fairwaylaw10_RecBack.f (k : Nat) (l0 : List (S38)) : Option (Bool) := fairwaylaw10_RecBack.l0 k l0 0
theorem fairwaylaw10_RecBack.mono_l : ∀ k, (∀ y0 y1, LeO (fairwaylaw10_RecBack.l0 k y0 y1) (fairwaylaw10_RecBack.l0 (k + 1) y0 y1)) ∧ (∀ y0 y1 y2, LeO (fairwaylaw10_RecBack.j1 k y0 y1 y2) (fairwaylaw10_RecBack.j1 (k + 1) y0 y1 y2)) ∧ (∀ y0 y1 y2 y3 y4 y5, LeO (fairwaylaw10_RecBack.l1 k y0 y1 y2 y3 y4 y5) (fairwaylaw10_RecBack.l1 (k + 1) y0 y1 y2 y3 y4 y5)) ∧ (∀ y0 y1 y2 y3 y4 y5 y6, LeO (fairwaylaw10_RecBack.j3 k y0 y1 y2 y3 y4 y5 y6) (fairwaylaw10_RecBack.j3 (k + 1) y0 y1 y2 y3 y4 y5 y6)) ∧ (∀ y0 y1 y2 y3 y4 y5 y6 y7, LeO (fairwaylaw10_RecBack.l2 k y0 y1 y2 y3 y4 y5 y6 y7) (fairwaylaw10_RecBack.l2 (k + 1) y0 y1 y2 y3 y4 y5 y6 y7)) ∧ (∀ y0 y1 y2 y3 y4 y5, LeO (fairwaylaw10_RecBack.l3 k y0 y1 y2 y3 y4 y5) (fairwaylaw10_RecBack.l3 (k + 1) y0 y1 y2 y3 y4 y5)) ∧ (∀ y0 y1 y2 y3 y4 y5 y6 y7 y8 y9 y10 y11, LeO (fairwaylaw10_RecBack.l4 k y0 y1 y2 y3 y4 y5 y6 y7 y8 y9 y10 y11) (fairwaylaw10_RecBack.l4 (k + 1) y0 y1 y2 y3 y4 y5 y6 y7 y8 y9 y10 y11))
 | 0 => ⟨fun _ _ r h => by simp [fairwaylaw10_RecBack.l0] at h, fun _ _ _ r h => by simp [fairwaylaw10_RecBack.j1] at h, fun _ _ _ _ _ _ r h => by simp [fairwaylaw10_RecBack.l1] at h, fun _ _ _ _ _ _ _ r h => by simp [fairwaylaw10_RecBack.j3] at h, fun _ _ _ _ _ _ _ _ r h => by simp [fairwaylaw10_RecBack.l2] at h, fun _ _ _ _ _ _ r h => by simp [fairwaylaw10_RecBack.l3] at h, fun _ _ _ _ _ _ _ _ _ _ _ _ r h => by simp [fairwaylaw10_RecBack.l4] at h⟩
 | k + 1 => by
  obtain ⟨ih0, ih1, ih2, ih3, ih4, ih5, ih6⟩ := fairwaylaw10_RecBack.mono_l k
  refine ⟨?_, ?_, ?_, ?_, ?_, ?_, ?_⟩
  ·intro y0 y1
   unfold fairwaylaw10_RecBack.l0
   repeat' first
   | (with_reducible exact ih0 _ _)
   | (with_reducible exact ih1 _ _ _)
   | (with_reducible exact ih2 _ _ _ _ _ _)
   | (with_reducible exact ih3 _ _ _ _ _ _ _)
   | (with_reducible exact ih4 _ _ _ _ _ _ _ _)
   | (with_reducible exact ih5 _ _ _ _ _ _)
   | (with_reducible exact ih6 _ _ _ _ _ _ _ _ _ _ _ _)
   | (with_reducible exact fairwaylaw10_heavy.mono _ _ _)
   | (with_reducible exact fairwaylaw10_wakes.mono _)
   | (with_reducible exact fairwayref0_EqRecs.mono _ _ _)
   | (with_reducible exact rec_Bytes.mono _ _ _ _ _ _ _)
   | (with_reducible exact rec_Scan.mono _ _)
   | (with_reducible exact rec_Take.mono _ _)
   | (with_reducible exact LeO.refl _)
   | (with_reducible exact LeO.none _)
   | (with_reducible refine LeO.ite ?_ ?_)
   | (with_reducible refine LeO.bind ?_ (fun _ => ?_))
   | exact ih0 _ _
   | exact ih1 _ _ _
   | exact ih2 _ _ _ _ _ _
   | exact ih3 _ _ _ _ _ _ _
   | exact ih4 _ _ _ _ _ _ _ _
   | exact ih5 _ _ _ _ _ _
   | exact ih6 _ _ _ _ _ _ _ _ _ _ _ _
   | exact fairwaylaw10_heavy.mono _ _ _
   | exact fairwaylaw10_wakes.mono _
   | exact fairwayref0_EqRecs.mono _ _ _
   | exact rec_Bytes.mono _ _ _ _ _ _ _
   | exact rec_Scan.mono _ _
   | exact rec_Take.mono _ _
   | exact LeO.none _
   | refine LeO.ite ?_ ?_
   | refine LeO.bind ?_ (fun _ => ?_)
  ·intro y0 y1 y2
   unfold fairwaylaw10_RecBack.j1
   repeat' first
   | (with_reducible exact ih0 _ _)
   | (with_reducible exact ih1 _ _ _)
   | (with_reducible exact ih2 _ _ _ _ _ _)
   | (with_reducible exact ih3 _ _ _ _ _ _ _)
   | (with_reducible exact ih4 _ _ _ _ _ _ _ _)
   | (with_reducible exact ih5 _ _ _ _ _ _)
   | (with_reducible exact ih6 _ _ _ _ _ _ _ _ _ _ _ _)
   | (with_reducible exact fairwaylaw10_heavy.mono _ _ _)
   | (with_reducible exact fairwaylaw10_wakes.mono _)
   | (with_reducible exact fairwayref0_EqRecs.mono _ _ _)
   | (with_reducible exact rec_Bytes.mono _ _ _ _ _ _ _)
   | (with_reducible exact rec_Scan.mono _ _)
   | (with_reducible exact rec_Take.mono _ _)
   | (with_reducible exact LeO.refl _)
   | (with_reducible exact LeO.none _)
   | (with_reducible refine LeO.ite ?_ ?_)
   | (with_reducible refine LeO.bind ?_ (fun _ => ?_))
   | exact ih0 _ _
   | exact ih1 _ _ _
   | exact ih2 _ _ _ _ _ _
   | exact ih3 _ _ _ _ _ _ _
   | exact ih4 _ _ _ _ _ _ _ _
   | exact ih5 _ _ _ _ _ _
   | exact ih6 _ _ _ _ _ _ _ _ _ _ _ _
   | exact fairwaylaw10_heavy.mono _ _ _
   | exact fairwaylaw10_wakes.mono _
   | exact fairwayref0_EqRecs.mono _ _ _
   | exact rec_Bytes.mono _ _ _ _ _ _ _
   | exact rec_Scan.mono _ _
   | exact rec_Take.mono _ _
   | exact LeO.none _
   | refine LeO.ite ?_ ?_
   | refine LeO.bind ?_ (fun _ => ?_)
  ·intro y0 y1 y2 y3 y4 y5
   unfold fairwaylaw10_RecBack.l1
   repeat' first
   | (with_reducible exact ih0 _ _)
   | (with_reducible exact ih1 _ _ _)
   | (with_reducible exact ih2 _ _ _ _ _ _)
   | (with_reducible exact ih3 _ _ _ _ _ _ _)
   | (with_reducible exact ih4 _ _ _ _ _ _ _ _)
   | (with_reducible exact ih5 _ _ _ _ _ _)
   | (with_reducible exact ih6 _ _ _ _ _ _ _ _ _ _ _ _)
   | (with_reducible exact fairwaylaw10_heavy.mono _ _ _)
   | (with_reducible exact fairwaylaw10_wakes.mono _)
   | (with_reducible exact fairwayref0_EqRecs.mono _ _ _)
   | (with_reducible exact rec_Bytes.mono _ _ _ _ _ _ _)
   | (with_reducible exact rec_Scan.mono _ _)
   | (with_reducible exact rec_Take.mono _ _)
   | (with_reducible exact LeO.refl _)
   | (with_reducible exact LeO.none _)
   | (with_reducible refine LeO.ite ?_ ?_)
   | (with_reducible refine LeO.bind ?_ (fun _ => ?_))
   | exact ih0 _ _
   | exact ih1 _ _ _
   | exact ih2 _ _ _ _ _ _
   | exact ih3 _ _ _ _ _ _ _
   | exact ih4 _ _ _ _ _ _ _ _
   | exact ih5 _ _ _ _ _ _
   | exact ih6 _ _ _ _ _ _ _ _ _ _ _ _
   | exact fairwaylaw10_heavy.mono _ _ _
   | exact fairwaylaw10_wakes.mono _
   | exact fairwayref0_EqRecs.mono _ _ _
   | exact rec_Bytes.mono _ _ _ _ _ _ _
   | exact rec_Scan.mono _ _
   | exact rec_Take.mono _ _
   | exact LeO.none _
   | refine LeO.ite ?_ ?_
   | refine LeO.bind ?_ (fun _ => ?_)
  ·intro y0 y1 y2 y3 y4 y5 y6
   unfold fairwaylaw10_RecBack.j3
   repeat' first
   | (with_reducible exact ih0 _ _)
   | (with_reducible exact ih1 _ _ _)
   | (with_reducible exact ih2 _ _ _ _ _ _)
   | (with_reducible exact ih3 _ _ _ _ _ _ _)
   | (with_reducible exact ih4 _ _ _ _ _ _ _ _)
   | (with_reducible exact ih5 _ _ _ _ _ _)
   | (with_reducible exact ih6 _ _ _ _ _ _ _ _ _ _ _ _)
   | (with_reducible exact fairwaylaw10_heavy.mono _ _ _)
   | (with_reducible exact fairwaylaw10_wakes.mono _)
   | (with_reducible exact fairwayref0_EqRecs.mono _ _ _)
   | (with_reducible exact rec_Bytes.mono _ _ _ _ _ _ _)
   | (with_reducible exact rec_Scan.mono _ _)
   | (with_reducible exact rec_Take.mono _ _)
   | (with_reducible exact LeO.refl _)
   | (with_reducible exact LeO.none _)
   | (with_reducible refine LeO.ite ?_ ?_)
   | (with_reducible refine LeO.bind ?_ (fun _ => ?_))
   | exact ih0 _ _
   | exact ih1 _ _ _
   | exact ih2 _ _ _ _ _ _
   | exact ih3 _ _ _ _ _ _ _
   | exact ih4 _ _ _ _ _ _ _ _
   | exact ih5 _ _ _ _ _ _
   | exact ih6 _ _ _ _ _ _ _ _ _ _ _ _
   | exact fairwaylaw10_heavy.mono _ _ _
   | exact fairwaylaw10_wakes.mono _
   | exact fairwayref0_EqRecs.mono _ _ _
   | exact rec_Bytes.mono _ _ _ _ _ _ _
   | exact rec_Scan.mono _ _
   | exact rec_Take.mono _ _
   | exact LeO.none _
   | refine LeO.ite ?_ ?_
   | refine LeO.bind ?_ (fun _ => ?_)
  ·intro y0 y1 y2 y3 y4 y5 y6 y7
   unfold fairwaylaw10_RecBack.l2
   repeat' first
   | (with_reducible exact ih0 _ _)
   | (with_reducible exact ih1 _ _ _)
   | (with_reducible exact ih2 _ _ _ _ _ _)
   | (with_reducible exact ih3 _ _ _ _ _ _ _)
   | (with_reducible exact ih4 _ _ _ _ _ _ _ _)
   | (with_reducible exact ih5 _ _ _ _ _ _)
   | (with_reducible exact ih6 _ _ _ _ _ _ _ _ _ _ _ _)
   | (with_reducible exact fairwaylaw10_heavy.mono _ _ _)
   | (with_reducible exact fairwaylaw10_wakes.mono _)
   | (with_reducible exact fairwayref0_EqRecs.mono _ _ _)
   | (with_reducible exact rec_Bytes.mono _ _ _ _ _ _ _)
   | (with_reducible exact rec_Scan.mono _ _)
   | (with_reducible exact rec_Take.mono _ _)
   | (with_reducible exact LeO.refl _)
   | (with_reducible exact LeO.none _)
   | (with_reducible refine LeO.ite ?_ ?_)
   | (with_reducible refine LeO.bind ?_ (fun _ => ?_))
   | exact ih0 _ _
   | exact ih1 _ _ _
   | exact ih2 _ _ _ _ _ _
   | exact ih3 _ _ _ _ _ _ _
   | exact ih4 _ _ _ _ _ _ _ _
   | exact ih5 _ _ _ _ _ _
   | exact ih6 _ _ _ _ _ _ _ _ _ _ _ _
   | exact fairwaylaw10_heavy.mono _ _ _
   | exact fairwaylaw10_wakes.mono _
   | exact fairwayref0_EqRecs.mono _ _ _
   | exact rec_Bytes.mono _ _ _ _ _ _ _
   | exact rec_Scan.mono _ _
   | exact rec_Take.mono _ _
   | exact LeO.none _
   | refine LeO.ite ?_ ?_
   | refine LeO.bind ?_ (fun _ => ?_)
  ·intro y0 y1 y2 y3 y4 y5
   unfold fairwaylaw10_RecBack.l3
   repeat' first
   | (with_reducible exact ih0 _ _)
   | (with_reducible exact ih1 _ _ _)
   | (with_reducible exact ih2 _ _ _ _ _ _)
   | (with_reducible exact ih3 _ _ _ _ _ _ _)
   | (with_reducible exact ih4 _ _ _ _ _ _ _ _)
   | (with_reducible exact ih5 _ _ _ _ _ _)
   | (with_reducible exact ih6 _ _ _ _ _ _ _ _ _ _ _ _)
   | (with_reducible exact fairwaylaw10_heavy.mono _ _ _)
   | (with_reducible exact fairwaylaw10_wakes.mono _)
   | (with_reducible exact fairwayref0_EqRecs.mono _ _ _)
   | (with_reducible exact rec_Bytes.mono _ _ _ _ _ _ _)
   | (with_reducible exact rec_Scan.mono _ _)
   | (with_reducible exact rec_Take.mono _ _)
   | (with_reducible exact LeO.refl _)
   | (with_reducible exact LeO.none _)
   | (with_reducible refine LeO.ite ?_ ?_)
   | (with_reducible refine LeO.bind ?_ (fun _ => ?_))
   | exact ih0 _ _
   | exact ih1 _ _ _
   | exact ih2 _ _ _ _ _ _
   | exact ih3 _ _ _ _ _ _ _
   | exact ih4 _ _ _ _ _ _ _ _
   | exact ih5 _ _ _ _ _ _
   | exact ih6 _ _ _ _ _ _ _ _ _ _ _ _
   | exact fairwaylaw10_heavy.mono _ _ _
   | exact fairwaylaw10_wakes.mono _
   | exact fairwayref0_EqRecs.mono _ _ _
   | exact rec_Bytes.mono _ _ _ _ _ _ _
   | exact rec_Scan.mono _ _
   | exact rec_Take.mono _ _
   | exact LeO.none _
   | refine LeO.ite ?_ ?_
   | refine LeO.bind ?_ (fun _ => ?_)
  ·intro y0 y1 y2 y3 y4 y5 y6 y7 y8 y9 y10 y11
   unfold fairwaylaw10_RecBack.l4
   repeat' first
   | (with_reducible exact ih0 _ _)
   | (with_reducible exact ih1 _ _ _)
   | (with_reducible exact ih2 _ _ _ _ _ _)
   | (with_reducible exact ih3 _ _ _ _ _ _ _)
   | (with_reducible exact ih4 _ _ _ _ _ _ _ _)
   | (with_reducible exact ih5 _ _ _ _ _ _)
   | (with_reducible exact ih6 _ _ _ _ _ _ _ _ _ _ _ _)
   | (with_reducible exact fairwaylaw10_heavy.mono _ _ _)
   | (with_reducible exact fairwaylaw10_wakes.mono _)
   | (with_reducible exact fairwayref0_EqRecs.mono _ _ _)
   | (with_reducible exact rec_Bytes.mono _ _ _ _ _ _ _)
   | (with_reducible exact rec_Scan.mono _ _)
   | (with_reducible exact rec_Take.mono _ _)
   | (with_reducible exact LeO.refl _)
   | (with_reducible exact LeO.none _)
   | (with_reducible refine LeO.ite ?_ ?_)
   | (with_reducible refine LeO.bind ?_ (fun _ => ?_))
   | exact ih0 _ _
   | exact ih1 _ _ _
   | exact ih2 _ _ _ _ _ _
   | exact ih3 _ _ _ _ _ _ _
   | exact ih4 _ _ _ _ _ _ _ _
   | exact ih5 _ _ _ _ _ _
   | exact ih6 _ _ _ _ _ _ _ _ _ _ _ _
   | exact fairwaylaw10_heavy.mono _ _ _
   | exact fairwaylaw10_wakes.mono _
   | exact fairwayref0_EqRecs.mono _ _ _
   | exact rec_Bytes.mono _ _ _ _ _ _ _
   | exact rec_Scan.mono _ _
   | exact rec_Take.mono _ _
   | exact LeO.none _
   | refine LeO.ite ?_ ?_
   | refine LeO.bind ?_ (fun _ => ?_)
theorem fairwaylaw10_RecBack.mono : ∀ a0 k, LeO (fairwaylaw10_RecBack.f k a0) (fairwaylaw10_RecBack.f (k + 1) a0) := by
 intro a0 k
 obtain ⟨ih0, ih1, ih2, ih3, ih4, ih5, ih6⟩ := fairwaylaw10_RecBack.mono_l k
 unfold fairwaylaw10_RecBack.f
 repeat' first
  | (with_reducible exact ih0 _ _)
  | (with_reducible exact ih1 _ _ _)
  | (with_reducible exact ih2 _ _ _ _ _ _)
  | (with_reducible exact ih3 _ _ _ _ _ _ _)
  | (with_reducible exact ih4 _ _ _ _ _ _ _ _)
  | (with_reducible exact ih5 _ _ _ _ _ _)
  | (with_reducible exact ih6 _ _ _ _ _ _ _ _ _ _ _ _)
  | (with_reducible exact fairwaylaw10_heavy.mono _ _ _)
  | (with_reducible exact fairwaylaw10_wakes.mono _)
  | (with_reducible exact fairwayref0_EqRecs.mono _ _ _)
  | (with_reducible exact rec_Bytes.mono _ _ _ _ _ _ _)
  | (with_reducible exact rec_Scan.mono _ _)
  | (with_reducible exact rec_Take.mono _ _)
  | (with_reducible exact LeO.refl _)
  | (with_reducible exact LeO.none _)
  | (with_reducible refine LeO.ite ?_ ?_)
  | (with_reducible refine LeO.bind ?_ (fun _ => ?_))
  | exact ih0 _ _
  | exact ih1 _ _ _
  | exact ih2 _ _ _ _ _ _
  | exact ih3 _ _ _ _ _ _ _
  | exact ih4 _ _ _ _ _ _ _ _
  | exact ih5 _ _ _ _ _ _
  | exact ih6 _ _ _ _ _ _ _ _ _ _ _ _
  | exact fairwaylaw10_heavy.mono _ _ _
  | exact fairwaylaw10_wakes.mono _
  | exact fairwayref0_EqRecs.mono _ _ _
  | exact rec_Bytes.mono _ _ _ _ _ _ _
  | exact rec_Scan.mono _ _
  | exact rec_Take.mono _ _
  | exact LeO.none _
  | refine LeO.ite ?_ ?_
  | refine LeO.bind ?_ (fun _ => ?_)
def fairwaylaw10_RecBack.T21 : Bool × List (List Nat × List Nat) := (true, [([], []), ([], []), ([], []), ([], []), ([2, 3], [2, 3]), ([4], [4]), ([], []), ([6], [6]), ([7], [7]), ([5, 8], [5, 8]), ([0, 1, 0, 1, 2, 3, 4, 5, 6, 7, 8, 9], [0, 1]), ([10, 9, 0, 1, 2, 3, 4, 5, 6, 7, 8, 9], [9, 10])])
def fairwaylaw10_RecBack.B21 : List Nat := [0, 0, 0, 0, 12, 28, 0, 64, 192, 508, 1023, 2047]
theorem fairwaylaw10_RecBack.tab21 : rtab .any (opsOf Try.f6 21) = fairwaylaw10_RecBack.T21 := by kernel_rfl
theorem fairwaylaw10_RecBack.bits21 : waitsOk fairwaylaw10_RecBack.T21.2 fairwaylaw10_RecBack.B21 = true := by kernel_rfl
def fairwaylaw10_RecBack.T36 : Bool × List (List Nat × List Nat) := (true, [([], []), ([0], [0]), ([], []), ([], []), ([2, 3], [2, 3]), ([4], [4]), ([1, 0, 1], [1]), ([5, 6, 0, 1, 2, 3, 4, 5, 6], [5])])
def fairwaylaw10_RecBack.B36 : List Nat := [0, 1, 0, 0, 12, 28, 3, 127]
theorem fairwaylaw10_RecBack.tab36 : rtab .any (opsOf Try.f6 36) = fairwaylaw10_RecBack.T36 := by kernel_rfl
theorem fairwaylaw10_RecBack.bits36 : waitsOk fairwaylaw10_RecBack.T36.2 fairwaylaw10_RecBack.B36 = true := by kernel_rfl
set_option maxHeartbeats 8000000 in
set_option maxRecDepth 100000 in
theorem fairwaylaw10_RecBack.calls (k : Nat) (A0 : Option Addr) (c0 : Nat) (l0 : List (S38)) (r : Bool) (w : World) (hr0 : Kd.C k38 w A0 l0.length l0) (hc0 : l0.length ≤ c0) (h : fairwaylaw10_RecBack.f k l0 = some r) :
 Calls Try.prog 6 #[.slice A0 l0.length c0] w fun e w' => e = .returned (.bool r) ∧ Below w.heap.size w w' := by
 have hu38 := Try.underlying38
 have hu25 := Try.underlying25
 have HR0 := Aside0.mk hr0
 have HC0 := Aside0.mk hc0
 clear hr0 hc0
 have HB := Aside0.mk (Below.refl w.heap.size w)
 have H : (fairwaylaw10_RecBack.l0 k l0 0) = some r := h
 clear h
 have H' := Aside0.mk H
 clear H
 go_enter Try.func6, Try.ntmps6
 go_wp2
 go_loopg [3] k (fun kq v3 w' => ∃ (x3_1 : Int), v3 = .int .i64 x3_1 ∧ Aside0 (fairwaylaw10_RecBack.l0 kq l0 x3_1 = some r) ∧ Aside0 (kq ≤ k) ∧ Aside0 (Below w.heap.size w w'))
 case atStart => exact ⟨(0), ap, H', ⟨Nat.le_refl _⟩, ⟨bo⟩⟩
 case round =>
  clear H'
  obtain ⟨x3_1, rfl, HA, HK1, HB⟩ := hrel
  cases gk with
  | zero => exact absurd HA.out (by simp [fairwaylaw10_RecBack.l0])
  | succ k1 =>
   have H := HA.out
   clear HA
   simp only [fairwaylaw10_RecBack.l0] at H
   have HC2 := Aside0.mk H
   clear H
   go_upto_region 2 with (fail)
   go_cut [30] (fun v30 wc => ∃ (kq : Nat) (x30_1 : Bool), v30 = .bool x30_1 ∧ Aside0 (fairwaylaw10_RecBack.j1 kq l0 x3_1 x30_1 = some r) ∧ Aside0 (kq ≤ k1) ∧ Aside0 (Below w.heap.size w wc))
   case first =>
    have H := HC2.out
    clear HC2
    by_cases c3 : x3_1 < (l0.length : Int)
    ·rw [if_pos c3] at H
     have c3b0 : decide (x3_1 < (l0.length : Int)) = true := decide_eq_true c3
     clear c3
     (first | rw [c3b0] | (simp only [i64_w, i32_w]; rw [c3b0]) | skip)
     have H' := Aside0.mk H
     clear H
     go_wp2
     go_meet
     case rel => exact ⟨_, (decide (x3_1 < 10)), ap, H', ⟨by have := HK1.out; first | omega | exact Nat.le_refl _⟩, ⟨bo⟩⟩
    ·rw [if_neg c3] at H
     have c3b0 : decide (x3_1 < (l0.length : Int)) = false := decide_eq_false c3
     clear c3
     (first | rw [c3b0] | (simp only [i64_w, i32_w]; rw [c3b0]) | skip)
     have H' := Aside0.mk H
     clear H
     go_wp2
     go_meet
     case rel => exact ⟨_, (false), ap, H', ⟨by have := HK1.out; first | omega | exact Nat.le_refl _⟩, ⟨bo⟩⟩
   case rest =>
    clear HC2
    try clear p2
    try clear c3
    try clear c3b0
    obtain ⟨kq, x30_1, rfl, HA, HJ1, HB⟩ := hcut
    cases kq with
    | zero => exact absurd HA.out (by simp [fairwaylaw10_RecBack.j1])
    | succ kj1 =>
     have H := HA.out
     clear HA
     simp only [fairwaylaw10_RecBack.j1] at H
     by_cases c4 : x30_1 = true
     ·subst c4
      have H1 : (if 0 ≤ x3_1 then (if x3_1 < (l0.length : Int) then ((fairwaylaw10_heavy.f kj1 ((rd_T38 l0 x3_1).f0) ((rd_T38 l0 x3_1).f1)).bind fun t332 => (if t332 = true then (some true) else (fairwaylaw10_RecBack.l1 kj1 l0 x3_1 (⟨#[]⟩ : ByteArray) ([] : List (S25)) ([] : List Int) 0))) else (none)) else (none)) = some r := by rw [if_pos rfl] at H; exact H
      clear H
      have H := H1
      clear H1
      by_cases c5 : 0 ≤ x3_1
      ·rw [if_pos c5] at H
       have c5b0 : decide (0 ≤ x3_1) = true := decide_eq_true c5
       clear c5
       by_cases c6 : x3_1 < (l0.length : Int)
       ·rw [if_pos c6] at H
        have c6b0 : decide (x3_1 < (l0.length : Int)) = true := decide_eq_true c6
        clear c6
        replace H := Option.bind_eq_some_iff.mp H
        obtain ⟨t332, A70, H⟩ := H
        replace H : (if t332 = true then (some true) else (fairwaylaw10_RecBack.l1 kj1 l0 x3_1 (⟨#[]⟩ : ByteArray) ([] : List (S25)) ([] : List Int) 0)) = some r := H
        have A7 := Aside0.mk A70
        clear A70
        by_cases c8 : t332 = true
        ·subst c8
         have H1 : (some true) = some r := by rw [if_pos rfl] at H; exact H
         clear H
         have H := H1
         clear H1
         obtain rfl := Option.some.inj H
         have p331 : 0 ≤ (x3_1 : Int) := od
         have q331 : x3_1 < (l0.length : Int) := od
         obtain ⟨ad331, A331_0, c331_0, e331, hx331_0, hx331_1, hl331_0, hi331_0⟩ := at_T38 HR0.out x3_1 p331 q331
         cases e331
         replace hx331_0 := cx HB.out hx331_0
         replace hx331_1 := cx HB.out hx331_1
         have HR331_0 := Aside0.mk hi331_0
         have HC331_0 := Aside0.mk hl331_0
         clear hi331_0 hl331_0
         replace p331 := eq_true p331
         replace q331 := eq_true q331
         go_wp2_with (first | ((with_reducible refine gate_callee (f := 19) rfl ?_); refine goesL_ (some 37) rfl rfl Try.func19 (by kernel_rfl) rfl #[.agg #[.slice A331_0 ((rd_T38 l0 x3_1).f0).length c331_0, .string ((rd_T38 l0 x3_1).f1)]] rfl aa ?_; (with_reducible refine (fairwaylaw10_heavy.calls kj1 _ _ ((rd_T38 l0 x3_1).f0) ((rd_T38 l0 x3_1).f1) true _ ?side1 ?side2 A7.out).mono ?_); (case side1 => repeat (first | exact (Kd.C_below HR331_0.out HB.out) | (with_reducible refine Kd.C_alloc ?_ _) | (with_reducible refine Kd.C_drewN ?_ _) | (with_reducible refine Kd.C_drew ?_))); (case side2 => exact HC331_0.out); rintro e w9 ⟨rfl, hb⟩; refine ⟨_, rfl, ?_⟩; replace HB := Aside0.mk (below_step bo hb); (try clear hb); (try clear hb2); (try clear hk); (try clear hi)))
         go_ret
         exact ⟨er, bo⟩
        ·replace c8 := Bool.eq_false_iff.mpr c8
         subst c8
         have H1 : (fairwaylaw10_RecBack.l1 kj1 l0 x3_1 (⟨#[]⟩ : ByteArray) ([] : List (S25)) ([] : List Int) 0) = some r := by rw [if_neg (show ¬ (false = true) by decide)] at H; exact H
         clear H
         have H := H1
         clear H1
         have H' := Aside0.mk H
         clear H
         have p331 : 0 ≤ (x3_1 : Int) := od
         have q331 : x3_1 < (l0.length : Int) := od
         obtain ⟨ad331, A331_0, c331_0, e331, hx331_0, hx331_1, hl331_0, hi331_0⟩ := at_T38 HR0.out x3_1 p331 q331
         cases e331
         replace hx331_0 := cx HB.out hx331_0
         replace hx331_1 := cx HB.out hx331_1
         have HR331_0 := Aside0.mk hi331_0
         have HC331_0 := Aside0.mk hl331_0
         clear hi331_0 hl331_0
         replace p331 := eq_true p331
         replace q331 := eq_true q331
         go_wp2_with (first | ((with_reducible refine gate_callee (f := 19) rfl ?_); refine goesL_ (some 37) rfl rfl Try.func19 (by kernel_rfl) rfl #[.agg #[.slice A331_0 ((rd_T38 l0 x3_1).f0).length c331_0, .string ((rd_T38 l0 x3_1).f1)]] rfl aa ?_; (with_reducible refine (fairwaylaw10_heavy.calls kj1 _ _ ((rd_T38 l0 x3_1).f0) ((rd_T38 l0 x3_1).f1) false _ ?side1 ?side2 A7.out).mono ?_); (case side1 => repeat (first | exact (Kd.C_below HR331_0.out HB.out) | (with_reducible refine Kd.C_alloc ?_ _) | (with_reducible refine Kd.C_drewN ?_ _) | (with_reducible refine Kd.C_drew ?_))); (case side2 => exact HC331_0.out); rintro e w10 ⟨rfl, hb⟩; refine ⟨_, rfl, ?_⟩; replace HB := Aside0.mk (below_step bo hb); (try clear hb); (try clear hb2); (try clear hk); (try clear hi)))
         go_loopg [4, 5, 6, 7] kj1 (fun kq v4 v5 v6 v7 w' => ∃ (x4_3 : ByteArray) (x5_3 : List (S25)) (x6_3 : List Int) (x7_3 : Int), v4 = .string x4_3 ∧ v7 = .int .i64 x7_3 ∧ Aside0 (fairwaylaw10_RecBack.l1 kq l0 x3_1 x4_3 x5_3 x6_3 x7_3 = some r) ∧ Aside0 (kq ≤ kj1) ∧ Aside0 (Kd.R k25 25 w' w.heap.size (fun _ => True) v5 x5_3) ∧ Aside0 (Kd.R (Kd.int .i64) 3 w' w.heap.size (fun _ => True) v6 x6_3) ∧ Aside0 (Below w.heap.size w w'))
         case atStart => exact ⟨((⟨#[]⟩ : ByteArray)), (([] : List (S25))), (([] : List Int)), (0), ap, ap, H', ⟨Nat.le_refl _⟩, ⟨by first | exact Kd.R_nil _ _ _ _ _ | exact Kd.N_nil _ _ _ _ _ | exact Kd.V_nil _ _ _ _ _ | exact Kd.Q_nil _ _ _ _ _ | exact Kd.S_nil _ _ _ _ _⟩, ⟨by first | exact Kd.R_nil _ _ _ _ _ | exact Kd.N_nil _ _ _ _ _ | exact Kd.V_nil _ _ _ _ _ | exact Kd.Q_nil _ _ _ _ _ | exact Kd.S_nil _ _ _ _ _⟩, ⟨bo⟩⟩
         case round =>
          clear H'
          try clear c1
          try clear p2
          try clear c3
          try clear c3b0
          try clear p3
          try clear q3
          try clear hx3
          try clear c4
          try clear c5
          try clear c5b0
          try clear c6
          try clear c6b0
          try clear c8
          try clear hx331_0
          try clear hx331_1
          try clear p2
          try clear p331
          try clear q331
          obtain ⟨x4_3, x5_3, x6_3, x7_3, rfl, rfl, HA, HK3, HO_5, HO_6, HB⟩ := hrel
          cases gk with
          | zero => exact absurd HA.out (by simp [fairwaylaw10_RecBack.l1])
          | succ k3 =>
           have H := HA.out
           clear HA
           simp only [fairwaylaw10_RecBack.l1] at H
           have HC11 := Aside0.mk H
           clear H
           go_upto_region 10 with (fail)
           go_cut [49] (fun v49 wc => ∃ (kq : Nat) (x49_10 : Bool), v49 = .bool x49_10 ∧ Aside0 (fairwaylaw10_RecBack.j3 kq l0 x3_1 x4_3 x5_3 x6_3 x7_3 x49_10 = some r) ∧ Aside0 (kq ≤ k3) ∧ Aside0 (Kd.R k25 25 wc w.heap.size (fun _ => True) u5 x5_3) ∧ Aside0 (Kd.R (Kd.int .i64) 3 wc w.heap.size (fun _ => True) u6 x6_3) ∧ Aside0 (Below w.heap.size w wc))
           case first =>
            have H := HC11.out
            clear HC11
            by_cases c12 : 0 ≤ x3_1
            ·rw [if_pos c12] at H
             have c12b0 : decide (0 ≤ x3_1) = true := decide_eq_true c12
             clear c12
             (first | rw [c12b0] | (simp only [i64_w, i32_w]; rw [c12b0]) | skip)
             by_cases c13 : x3_1 < (l0.length : Int)
             ·rw [if_pos c13] at H
              have c13b0 : decide (x3_1 < (l0.length : Int)) = true := decide_eq_true c13
              clear c13
              by_cases c14 : x7_3 < (((rd_T38 l0 x3_1).f0).length : Int)
              ·rw [if_pos c14] at H
               have c14b0 : decide (x7_3 < (((rd_T38 l0 x3_1).f0).length : Int)) = true := decide_eq_true c14
               clear c14
               have H' := Aside0.mk H
               clear H
               have p333 : 0 ≤ (x3_1 : Int) := od
               have q333 : x3_1 < (l0.length : Int) := od
               obtain ⟨ad333, A333_0, c333_0, e333, hx333_0, hx333_1, hl333_0, hi333_0⟩ := at_T38 HR0.out x3_1 p333 q333
               obtain rfl : ad331 = ad333 := (by injection e333)
               replace hx333_0 := cx HB.out hx333_0
               replace hx333_1 := cx HB.out hx333_1
               have HR333_0 := Aside0.mk hi333_0
               have HC333_0 := Aside0.mk hl333_0
               clear hi333_0 hl333_0
               replace p333 := eq_true p333
               replace q333 := eq_true q333
               go_wp2
               go_meet
               case rel => exact ⟨_, (decide (x7_3 < 6)), ap, H', ⟨by have := HK1.out; have := HJ1.out; have := HK3.out; first | omega | exact Nat.le_refl _⟩, ⟨by (with_reducible repeat (first | apply Kd.R_alloc | apply Kd.R_drewN | apply Kd.R_drew | apply FR_alloc | apply FR_drewN | apply FR_drew)); exact HO_5.out⟩, ⟨by (with_reducible repeat (first | apply Kd.R_alloc | apply Kd.R_drewN | apply Kd.R_drew | apply FR_alloc | apply FR_drewN | apply FR_drew)); exact HO_6.out⟩, ⟨bo⟩⟩
              ·rw [if_neg c14] at H
               have c14b0 : decide (x7_3 < (((rd_T38 l0 x3_1).f0).length : Int)) = false := decide_eq_false c14
               clear c14
               have H' := Aside0.mk H
               clear H
               have p333 : 0 ≤ (x3_1 : Int) := od
               have q333 : x3_1 < (l0.length : Int) := od
               obtain ⟨ad333, A333_0, c333_0, e333, hx333_0, hx333_1, hl333_0, hi333_0⟩ := at_T38 HR0.out x3_1 p333 q333
               obtain rfl : ad331 = ad333 := (by injection e333)
               replace hx333_0 := cx HB.out hx333_0
               replace hx333_1 := cx HB.out hx333_1
               have HR333_0 := Aside0.mk hi333_0
               have HC333_0 := Aside0.mk hl333_0
               clear hi333_0 hl333_0
               replace p333 := eq_true p333
               replace q333 := eq_true q333
               go_wp2
               go_meet
               case rel => exact ⟨_, (false), ap, H', ⟨by have := HK1.out; have := HJ1.out; have := HK3.out; first | omega | exact Nat.le_refl _⟩, ⟨by (with_reducible repeat (first | apply Kd.R_alloc | apply Kd.R_drewN | apply Kd.R_drew | apply FR_alloc | apply FR_drewN | apply FR_drew)); exact HO_5.out⟩, ⟨by (with_reducible repeat (first | apply Kd.R_alloc | apply Kd.R_drewN | apply Kd.R_drew | apply FR_alloc | apply FR_drewN | apply FR_drew)); exact HO_6.out⟩, ⟨bo⟩⟩
             ·rw [if_neg c13] at H
              exact absurd H (by simp)
            ·rw [if_neg c12] at H
             exact absurd H (by simp)
           case rest =>
            clear HC11
            try clear c1
            try clear p2
            try clear c3
            try clear c3b0
            try clear p3
            try clear q3
            try clear hx3
            try clear c4
            try clear c5
            try clear c5b0
            try clear c6
            try clear c6b0
            try clear c8
            try clear c12
            try clear c12b0
            try clear c13
            try clear c13b0
            try clear c14
            try clear c14b0
            try clear hx331_0
            try clear hx331_1
            try clear hx333_0
            try clear hx333_1
            try clear p2
            try clear p3
            try clear p331
            try clear p333
            try clear q3
            try clear q331
            try clear q333
            obtain ⟨kq, x49_10, rfl, HA, HJ10, HO_5, HO_6, HB⟩ := hcut
            cases kq with
            | zero => exact absurd HA.out (by simp [fairwaylaw10_RecBack.j3])
            | succ kj10 =>
             have H := HA.out
             clear HA
             simp only [fairwaylaw10_RecBack.j3] at H
             by_cases c15 : x49_10 = true
             ·subst c15
              have H1 : (if 0 ≤ x3_1 then (if x3_1 < (l0.length : Int) then (if 0 ≤ x7_3 then (if x7_3 < (((rd_T38 l0 x3_1).f0).length : Int) then ((rec_Bytes.f kj10 ((rd_T25 ((rd_T38 l0 x3_1).f0) x7_3).f0) ((rd_T25 ((rd_T38 l0 x3_1).f0) x7_3).f1) ((rd_T25 ((rd_T38 l0 x3_1).f0) x7_3).f2) ((rd_T25 ((rd_T38 l0 x3_1).f0) x7_3).f3) ((rd_T25 ((rd_T38 l0 x3_1).f0) x7_3).f4) ((rd_T25 ((rd_T38 l0 x3_1).f0) x7_3).f5)).bind fun bt336 => ((fairwaylaw10_num.f bt336.2).bind fun t338 => (if t338 = 0 then (if (bt336.1.size : Int) < 25 then (some false) else (fairwaylaw10_RecBack.l2 kj10 l0 x3_1 x4_3 x5_3 x6_3 x7_3 bt336.1 0)) else (fairwaylaw10_RecBack.l1 kj10 l0 x3_1 x4_3 x5_3 x6_3 (wrap64 (x7_3 + 1)))))) else (none)) else (none)) else (none)) else (none)) = some r := by rw [if_pos rfl] at H; exact H
              clear H
              have H := H1
              clear H1
              by_cases c16 : 0 ≤ x3_1
              ·rw [if_pos c16] at H
               have c16b0 : decide (0 ≤ x3_1) = true := decide_eq_true c16
               clear c16
               by_cases c17 : x3_1 < (l0.length : Int)
               ·rw [if_pos c17] at H
                have c17b0 : decide (x3_1 < (l0.length : Int)) = true := decide_eq_true c17
                clear c17
                by_cases c18 : 0 ≤ x7_3
                ·rw [if_pos c18] at H
                 have c18b0 : decide (0 ≤ x7_3) = true := decide_eq_true c18
                 clear c18
                 by_cases c19 : x7_3 < (((rd_T38 l0 x3_1).f0).length : Int)
                 ·rw [if_pos c19] at H
                  have c19b0 : decide (x7_3 < (((rd_T38 l0 x3_1).f0).length : Int)) = true := decide_eq_true c19
                  clear c19
                  replace H := Option.bind_eq_some_iff.mp H
                  obtain ⟨⟨t336, t337⟩, A200, H⟩ := H
                  replace H : ((fairwaylaw10_num.f t337).bind fun t338 => (if t338 = 0 then (if (t336.size : Int) < 25 then (some false) else (fairwaylaw10_RecBack.l2 kj10 l0 x3_1 x4_3 x5_3 x6_3 x7_3 t336 0)) else (fairwaylaw10_RecBack.l1 kj10 l0 x3_1 x4_3 x5_3 x6_3 (wrap64 (x7_3 + 1))))) = some r := H
                  have A20 := Aside0.mk A200
                  clear A200
                  replace H := Option.bind_eq_some_iff.mp H
                  obtain ⟨t338, A210, H⟩ := H
                  replace H : (if t338 = 0 then (if (t336.size : Int) < 25 then (some false) else (fairwaylaw10_RecBack.l2 kj10 l0 x3_1 x4_3 x5_3 x6_3 x7_3 t336 0)) else (fairwaylaw10_RecBack.l1 kj10 l0 x3_1 x4_3 x5_3 x6_3 (wrap64 (x7_3 + 1)))) = some r := H
                  have A21 := Aside0.mk A210
                  clear A210
                  by_cases c22 : t338 = 0
                  ·rw [if_pos c22] at H
                   have c22b0 : (t338 == 0) = true := beq_iff_eq.mpr c22
                   have c22b1 : (t338 != 0) = false := bne_eq_false_iff_eq.mpr c22
                   clear c22
                   by_cases c23 : (t336.size : Int) < 25
                   ·rw [if_pos c23] at H
                    have c23b0 : decide ((t336.size : Int) < 25) = true := decide_eq_true c23
                    have c23b1 : decide (t336.size < 25) = true := decide_eq_true (by omega)
                    clear c23
                    obtain rfl := Option.some.inj H
                    have p334 : 0 ≤ (x3_1 : Int) := od
                    have q334 : x3_1 < (l0.length : Int) := od
                    obtain ⟨ad334, A334_0, c334_0, e334, hx334_0, hx334_1, hl334_0, hi334_0⟩ := at_T38 HR0.out x3_1 p334 q334
                    obtain rfl : ad331 = ad334 := (by injection e334)
                    replace hx334_0 := cx HB.out hx334_0
                    replace hx334_1 := cx HB.out hx334_1
                    have HR334_0 := Aside0.mk hi334_0
                    have HC334_0 := Aside0.mk hl334_0
                    clear hi334_0 hl334_0
                    replace p334 := eq_true p334
                    replace q334 := eq_true q334
                    have p335 : 0 ≤ (x7_3 : Int) := od
                    have q335 : x7_3 < (((rd_T38 l0 x3_1).f0).length : Int) := od
                    obtain ⟨ad335, e335, hx335_0, hx335_1, hx335_2, hx335_3, hx335_4, hx335_5⟩ := at_T25 HR334_0.out x7_3 p335 q335
                    cases e335
                    replace hx335_0 := cx HB.out hx335_0
                    replace hx335_1 := cx HB.out hx335_1
                    replace hx335_2 := cx HB.out hx335_2
                    replace hx335_3 := cx HB.out hx335_3
                    replace hx335_4 := cx HB.out hx335_4
                    replace hx335_5 := cx HB.out hx335_5
                    replace p335 := eq_true p335
                    replace q335 := eq_true q335
                    go_wp2_with (first | ((with_reducible refine gate_callee (f := 14) rfl ?_); refine goesL_ (some 61) rfl rfl Try.func14 (by kernel_rfl) rfl #[.agg #[.int .i64 ((rd_T25 ((rd_T38 l0 x3_1).f0) x7_3).f0), .int .i64 ((rd_T25 ((rd_T38 l0 x3_1).f0) x7_3).f1), .string ((rd_T25 ((rd_T38 l0 x3_1).f0) x7_3).f2), .string ((rd_T25 ((rd_T38 l0 x3_1).f0) x7_3).f3), .int .i64 ((rd_T25 ((rd_T38 l0 x3_1).f0) x7_3).f4), .bool ((rd_T25 ((rd_T38 l0 x3_1).f0) x7_3).f5)]] rfl aa ?_; (with_reducible refine (rec_Bytes.calls kj10 ((rd_T25 ((rd_T38 l0 x3_1).f0) x7_3).f0) ((rd_T25 ((rd_T38 l0 x3_1).f0) x7_3).f1) ((rd_T25 ((rd_T38 l0 x3_1).f0) x7_3).f2) ((rd_T25 ((rd_T38 l0 x3_1).f0) x7_3).f3) ((rd_T25 ((rd_T38 l0 x3_1).f0) x7_3).f4) ((rd_T25 ((rd_T38 l0 x3_1).f0) x7_3).f5) t336 t337 _ A20.out).mono ?_); rintro e w24 ⟨rfl, hb⟩; refine ⟨_, rfl, ?_⟩; replace HO_5 := Aside0.mk (Kd.R_below (rk HO_5.out) hb); replace HO_6 := Aside0.mk (Kd.R_below (rk HO_6.out) hb); replace HB := Aside0.mk (below_step bo hb); (try clear hb); (try clear hb2); (try clear hk); (try clear hi)) | ((with_reducible refine gate_callee (f := 15) rfl ?_); refine goesL_ (some 65) rfl rfl Try.func15 (by kernel_rfl) rfl #[.int .i64 t337] rfl aa ?_; (with_reducible refine (fairwaylaw10_num.calls t337 t338 _ A21.out).mono ?_); rintro e w' ⟨rfl, ⟨nd, rfl⟩⟩; refine ⟨_, rfl, ?_⟩))
                    go_ret
                    exact ⟨er, bo⟩
                   ·rw [if_neg c23] at H
                    have c23b0 : decide ((t336.size : Int) < 25) = false := decide_eq_false c23
                    have c23b1 : decide (t336.size < 25) = false := decide_eq_false (by omega)
                    clear c23
                    have H' := Aside0.mk H
                    clear H
                    have p334 : 0 ≤ (x3_1 : Int) := od
                    have q334 : x3_1 < (l0.length : Int) := od
                    obtain ⟨ad334, A334_0, c334_0, e334, hx334_0, hx334_1, hl334_0, hi334_0⟩ := at_T38 HR0.out x3_1 p334 q334
                    obtain rfl : ad331 = ad334 := (by injection e334)
                    replace hx334_0 := cx HB.out hx334_0
                    replace hx334_1 := cx HB.out hx334_1
                    have HR334_0 := Aside0.mk hi334_0
                    have HC334_0 := Aside0.mk hl334_0
                    clear hi334_0 hl334_0
                    replace p334 := eq_true p334
                    replace q334 := eq_true q334
                    have p335 : 0 ≤ (x7_3 : Int) := od
                    have q335 : x7_3 < (((rd_T38 l0 x3_1).f0).length : Int) := od
                    obtain ⟨ad335, e335, hx335_0, hx335_1, hx335_2, hx335_3, hx335_4, hx335_5⟩ := at_T25 HR334_0.out x7_3 p335 q335
                    cases e335
                    replace hx335_0 := cx HB.out hx335_0
                    replace hx335_1 := cx HB.out hx335_1
                    replace hx335_2 := cx HB.out hx335_2
                    replace hx335_3 := cx HB.out hx335_3
                    replace hx335_4 := cx HB.out hx335_4
                    replace hx335_5 := cx HB.out hx335_5
                    replace p335 := eq_true p335
                    replace q335 := eq_true q335
                    go_wp2_with (first | ((with_reducible refine gate_callee (f := 14) rfl ?_); refine goesL_ (some 61) rfl rfl Try.func14 (by kernel_rfl) rfl #[.agg #[.int .i64 ((rd_T25 ((rd_T38 l0 x3_1).f0) x7_3).f0), .int .i64 ((rd_T25 ((rd_T38 l0 x3_1).f0) x7_3).f1), .string ((rd_T25 ((rd_T38 l0 x3_1).f0) x7_3).f2), .string ((rd_T25 ((rd_T38 l0 x3_1).f0) x7_3).f3), .int .i64 ((rd_T25 ((rd_T38 l0 x3_1).f0) x7_3).f4), .bool ((rd_T25 ((rd_T38 l0 x3_1).f0) x7_3).f5)]] rfl aa ?_; (with_reducible refine (rec_Bytes.calls kj10 ((rd_T25 ((rd_T38 l0 x3_1).f0) x7_3).f0) ((rd_T25 ((rd_T38 l0 x3_1).f0) x7_3).f1) ((rd_T25 ((rd_T38 l0 x3_1).f0) x7_3).f2) ((rd_T25 ((rd_T38 l0 x3_1).f0) x7_3).f3) ((rd_T25 ((rd_T38 l0 x3_1).f0) x7_3).f4) ((rd_T25 ((rd_T38 l0 x3_1).f0) x7_3).f5) t336 t337 _ A20.out).mono ?_); rintro e w25 ⟨rfl, hb⟩; refine ⟨_, rfl, ?_⟩; replace HO_5 := Aside0.mk (Kd.R_below (rk HO_5.out) hb); replace HO_6 := Aside0.mk (Kd.R_below (rk HO_6.out) hb); replace HB := Aside0.mk (below_step bo hb); (try clear hb); (try clear hb2); (try clear hk); (try clear hi)) | ((with_reducible refine gate_callee (f := 15) rfl ?_); refine goesL_ (some 65) rfl rfl Try.func15 (by kernel_rfl) rfl #[.int .i64 t337] rfl aa ?_; (with_reducible refine (fairwaylaw10_num.calls t337 t338 _ A21.out).mono ?_); rintro e w' ⟨rfl, ⟨nd, rfl⟩⟩; refine ⟨_, rfl, ?_⟩))
                    go_loopg [10] kj10 (fun kq v10 w' => ∃ (x10_5 : Int), v10 = .int .i64 x10_5 ∧ Aside0 (fairwaylaw10_RecBack.l2 kq l0 x3_1 x4_3 x5_3 x6_3 x7_3 t336 x10_5 = some r) ∧ Aside0 (kq ≤ kj10) ∧ Aside0 (Kd.R k25 25 w' w.heap.size (fun _ => True) u5 x5_3) ∧ Aside0 (Kd.R (Kd.int .i64) 3 w' w.heap.size (fun _ => True) u6 x6_3) ∧ Aside0 (Below w.heap.size w w'))
                    case atStart => exact ⟨(0), ap, H', ⟨Nat.le_refl _⟩, ⟨by (with_reducible repeat (first | apply Kd.R_alloc | apply Kd.R_drewN | apply Kd.R_drew | apply FR_alloc | apply FR_drewN | apply FR_drew)); exact HO_5.out⟩, ⟨by (with_reducible repeat (first | apply Kd.R_alloc | apply Kd.R_drewN | apply Kd.R_drew | apply FR_alloc | apply FR_drewN | apply FR_drew)); exact HO_6.out⟩, ⟨bo⟩⟩
                    case round =>
                     clear H'
                     try clear c1
                     try clear c2
                     try clear p2
                     try clear c3
                     try clear c3b0
                     try clear p3
                     try clear q3
                     try clear hx3
                     try clear c4
                     try clear c5
                     try clear c5b0
                     try clear c6
                     try clear c6b0
                     try clear p6
                     try clear c8
                     try clear c12
                     try clear c12b0
                     try clear c13
                     try clear c13b0
                     try clear c14
                     try clear c14b0
                     try clear c15
                     try clear c16
                     try clear c16b0
                     try clear c17
                     try clear c17b0
                     try clear c18
                     try clear c18b0
                     try clear c19
                     try clear c19b0
                     try clear c22
                     try clear c22b0
                     try clear c22b1
                     try clear c23
                     try clear c23b0
                     try clear c23b1
                     try clear hx331_0
                     try clear hx331_1
                     try clear hx333_0
                     try clear hx333_1
                     try clear hx334_0
                     try clear hx334_1
                     try clear hx335_0
                     try clear hx335_1
                     try clear hx335_2
                     try clear hx335_3
                     try clear hx335_4
                     try clear hx335_5
                     try clear p2
                     try clear p3
                     try clear p331
                     try clear p333
                     try clear p334
                     try clear p335
                     try clear q3
                     try clear q331
                     try clear q333
                     try clear q334
                     try clear q335
                     obtain ⟨x10_5, rfl, HA, HK5, HO_5, HO_6, HB⟩ := hrel
                     cases gk with
                     | zero => exact absurd HA.out (by simp [fairwaylaw10_RecBack.l2])
                     | succ k5 =>
                      have H := HA.out
                      clear HA
                      simp only [fairwaylaw10_RecBack.l2] at H
                      by_cases c26 : x10_5 < 8
                      ·rw [if_pos c26] at H
                       have c26b0 : decide (x10_5 < 8) = true := decide_eq_true c26
                       clear c26
                       obtain ⟨y347, hy347⟩ : ∃ y_ : List Int, y_ = (fbytes t336) := ⟨_, rfl⟩
                       replace H : ((fairwaylaw0_Within.f (wrap64 ((wrap64 (Int.tdiv (wrap64 (x10_5 * (t336.size : Int))) 8)) + x3_1)) (wrap64 ((t336.size : Int) - 2))).bind fun t350 => (if 0 ≤ (wrap64 (2 + t350)) then (if (wrap64 (2 + t350)) < (y347.length : Int) then (if 0 ≤ (Int.tmod x10_5 8) then ((rec_Take.f k5 (strOfNums (y347.set ((wrap64 (2 + t350)) : Int).toNat (Go.bits .xor .u8 (rd y347 (wrap64 (2 + t350))) (shl .u8 1 (Int.tmod x10_5 8)))))).bind fun bt353 => ((fairwaylaw10_num.f bt353.2.2.2.2.2.2.2).bind fun t362 => (if t362 = 8 then (fairwaylaw10_RecBack.l2 k5 l0 x3_1 x4_3 x5_3 x6_3 x7_3 t336 (wrap64 (x10_5 + 1))) else (some false)))) else (none)) else (none)) else (none))) = some r := by first | (rw [hy347]; with_reducible exact H) | (have H2_ := (Option.bind_some _ _).symm.trans H; rw [hy347]; with_reducible exact H2_) | (have H2_ := (Option.bind_some _ _).symm.trans H; with_reducible exact H2_) | with_reducible exact H | (rw [hy347]; exact H) | exact H
                       have Ny347 := Aside0.mk hy347
                       clear hy347
                       replace H := Option.bind_eq_some_iff.mp H
                       obtain ⟨t350, A270, H⟩ := H
                       replace H : (if 0 ≤ (wrap64 (2 + t350)) then (if (wrap64 (2 + t350)) < (y347.length : Int) then (if 0 ≤ (Int.tmod x10_5 8) then ((rec_Take.f k5 (strOfNums (y347.set ((wrap64 (2 + t350)) : Int).toNat (Go.bits .xor .u8 (rd y347 (wrap64 (2 + t350))) (shl .u8 1 (Int.tmod x10_5 8)))))).bind fun bt353 => ((fairwaylaw10_num.f bt353.2.2.2.2.2.2.2).bind fun t362 => (if t362 = 8 then (fairwaylaw10_RecBack.l2 k5 l0 x3_1 x4_3 x5_3 x6_3 x7_3 t336 (wrap64 (x10_5 + 1))) else (some false)))) else (none)) else (none)) else (none)) = some r := H
                       have A27 := Aside0.mk A270
                       clear A270
                       obtain ⟨ji28, hji28⟩ : ∃ j_ : Int, (wrap64 (2 + t350)) = j_ := ⟨_, rfl⟩
                       replace H : (if 0 ≤ (ji28) then (if (ji28) < (y347.length : Int) then (if 0 ≤ (Int.tmod x10_5 8) then ((rec_Take.f k5 (strOfNums (y347.set ((ji28) : Int).toNat (Go.bits .xor .u8 (rd y347 (ji28)) (shl .u8 1 (Int.tmod x10_5 8)))))).bind fun bt353 => ((fairwaylaw10_num.f bt353.2.2.2.2.2.2.2).bind fun t362 => (if t362 = 8 then (fairwaylaw10_RecBack.l2 k5 l0 x3_1 x4_3 x5_3 x6_3 x7_3 t336 (wrap64 (x10_5 + 1))) else (some false)))) else (none)) else (none)) else (none)) = some r := by first | (rw [hji28] at H; exact H) | (simp only [hji28] at H ⊢; exact H)
                       (try rw [hji28] at A27)
                       have hji28w : (IntKind.i64.wrap (2 + t350)) = ji28 := (i64_w _).trans hji28
                       by_cases c29 : 0 ≤ (ji28)
                       ·rw [if_pos c29] at H
                        have c29b0 : decide (0 ≤ (ji28)) = true := decide_eq_true c29
                        clear c29
                        by_cases c30 : (ji28) < (y347.length : Int)
                        ·rw [if_pos c30] at H
                         have c30b0 : decide ((ji28) < (y347.length : Int)) = true := decide_eq_true c30
                         clear c30
                         obtain ⟨ji31, hji31⟩ : ∃ j_ : Int, (Int.tmod x10_5 8) = j_ := ⟨_, rfl⟩
                         replace H : (if 0 ≤ (ji31) then ((rec_Take.f k5 (strOfNums (y347.set ((ji28) : Int).toNat (Go.bits .xor .u8 (rd y347 (ji28)) (shl .u8 1 (ji31)))))).bind fun bt353 => ((fairwaylaw10_num.f bt353.2.2.2.2.2.2.2).bind fun t362 => (if t362 = 8 then (fairwaylaw10_RecBack.l2 k5 l0 x3_1 x4_3 x5_3 x6_3 x7_3 t336 (wrap64 (x10_5 + 1))) else (some false)))) else (none)) = some r := by first | (rw [hji31] at H; exact H) | (simp only [hji31] at H ⊢; exact H)
                         (try rw [hji31] at A27)
                         by_cases c32 : 0 ≤ (ji31)
                         ·rw [if_pos c32] at H
                          have c32b0 := eq_true c32
                          have c32b1 : decide (0 ≤ (ji31)) = true := decide_eq_true c32
                          clear c32
                          obtain ⟨ji33, hji33⟩ : ∃ j_ : Int, (shl .u8 1 (ji31)) = j_ := ⟨_, rfl⟩
                          replace H : ((rec_Take.f k5 (strOfNums (y347.set ((ji28) : Int).toNat (Go.bits .xor .u8 (rd y347 (ji28)) (ji33))))).bind fun bt353 => ((fairwaylaw10_num.f bt353.2.2.2.2.2.2.2).bind fun t362 => (if t362 = 8 then (fairwaylaw10_RecBack.l2 k5 l0 x3_1 x4_3 x5_3 x6_3 x7_3 t336 (wrap64 (x10_5 + 1))) else (some false)))) = some r := by first | (rw [hji33] at H; exact H) | (simp only [hji33] at H ⊢; exact H)
                          (try rw [hji33] at A27)
                          have hji33_ : (IntKind.u8.wrap (1 * 2 ^ min (ji31).toNat 8)) = ji33 := hji33
                          have hji33z : (ji31) ≤ 8 → (IntKind.u8.wrap (1 * 2 ^ (ji31).toNat)) = ji33 := shl_small hji33
                          have hji33u : (IntKind.u8.wrap (2 ^ min (ji31).toNat 8)) = ji33 := by have h_ := hji33_; rw [Int.one_mul] at h_; exact h_
                          have hji33v : (ji31) ≤ 8 → (IntKind.u8.wrap (2 ^ (ji31).toNat)) = ji33 := fun hle_ => by have h_ := hji33z hle_; rw [Int.one_mul] at h_; exact h_
                          obtain ⟨y352, hy352⟩ : ∃ y_ : List Int, y_ = (y347.set ((ji28) : Int).toNat (Go.bits .xor .u8 (rd y347 (ji28)) (ji33))) := ⟨_, rfl⟩
                          replace H : ((rec_Take.f k5 (strOfNums y352)).bind fun bt353 => ((fairwaylaw10_num.f bt353.2.2.2.2.2.2.2).bind fun t362 => (if t362 = 8 then (fairwaylaw10_RecBack.l2 k5 l0 x3_1 x4_3 x5_3 x6_3 x7_3 t336 (wrap64 (x10_5 + 1))) else (some false)))) = some r := by first | (rw [hy352]; with_reducible exact H) | (have H2_ := (Option.bind_some _ _).symm.trans H; rw [hy352]; with_reducible exact H2_) | (have H2_ := (Option.bind_some _ _).symm.trans H; with_reducible exact H2_) | with_reducible exact H | (rw [hy352]; exact H) | exact H
                          have Ny352 := Aside0.mk hy352
                          clear hy352
                          replace H := Option.bind_eq_some_iff.mp H
                          obtain ⟨⟨t353, t354, t355, t356, t357, t358, t359, t360⟩, A350, H⟩ := H
                          replace H : ((fairwaylaw10_num.f t360).bind fun t362 => (if t362 = 8 then (fairwaylaw10_RecBack.l2 k5 l0 x3_1 x4_3 x5_3 x6_3 x7_3 t336 (wrap64 (x10_5 + 1))) else (some false))) = some r := H
                          have A35 := Aside0.mk A350
                          clear A350
                          replace H := Option.bind_eq_some_iff.mp H
                          obtain ⟨t362, A360, H⟩ := H
                          replace H : (if t362 = 8 then (fairwaylaw10_RecBack.l2 k5 l0 x3_1 x4_3 x5_3 x6_3 x7_3 t336 (wrap64 (x10_5 + 1))) else (some false)) = some r := H
                          have A36 := Aside0.mk A360
                          clear A360
                          by_cases c37 : t362 = 8
                          ·rw [if_pos c37] at H
                           have c37b0 : (t362 == 8) = true := beq_iff_eq.mpr c37
                           have c37b1 : (t362 != 8) = false := bne_eq_false_iff_eq.mpr c37
                           clear c37
                           have H' := Aside0.mk H
                           clear H
                           try go_wp2_with (first | ((with_reducible refine gate_dst (N := 75) rfl ?_); refine FR_conv (P := Try.prog) rfl (N := 75) rfl 9 23 5 _ rfl t336 rfl Try.underlying9 Try.underlying23 Try.underlying5 (Below.refl _ _) (Nat.le_refl _) ?_; intro v348 w38 ho39 hb hg_ hnew_; clear hg_ hnew_; (first | rw [← Ny347.out] at ho39 | (simp only [Int.reduceToNat] at ho39; rw [← Ny347.out] at ho39)); replace HO_5 := Aside0.mk (Kd.R_below (rk HO_5.out) hb); replace HO_6 := Aside0.mk (Kd.R_below (rk HO_6.out) hb); have HO349 := Aside0.mk (FR_lower ho39 (below_size bo)); replace HB := Aside0.mk (below_step bo hb); clear hb ho39) | ((with_reducible refine gate_callee (f := 29) rfl ?_); refine goesL_ (some 86) rfl rfl Try.func29 (by kernel_rfl) rfl #[.int .i64 (wrap64 ((wrap64 (Int.tdiv (wrap64 (x10_5 * (t336.size : Int))) 8)) + x3_1)), .int .i64 (wrap64 ((t336.size : Int) - 2))] rfl aa ?_; (with_reducible refine (fairwaylaw0_Within.calls (wrap64 ((wrap64 (Int.tdiv (wrap64 (x10_5 * (t336.size : Int))) 8)) + x3_1)) (wrap64 ((t336.size : Int) - 2)) t350 _ A27.out).mono ?_); rintro e w' ⟨rfl, ⟨nd, rfl⟩⟩; refine ⟨_, rfl, ?_⟩; (try (rw [drewN_self w38]; generalize hq_ : World.drewN w38 _ = w38; have n0_ : Aside0 (FR 5 w38 w.heap.size (fun _ => True) v348 y347) := ⟨by rw [← hq_]; exact (rf HO349.out)⟩; have n1_ : Aside0 (Kd.R k25 25 w38 w.heap.size (fun _ => True) u5 x5_3) := ⟨by rw [← hq_]; exact (rk HO_5.out)⟩; have n2_ : Aside0 (Kd.R (Kd.int .i64) 3 w38 w.heap.size (fun _ => True) u6 x6_3) := ⟨by rw [← hq_]; exact (rk HO_6.out)⟩; have n3_ : Aside0 (Below w.heap.size w w38) := ⟨by rw [← hq_]; exact bo⟩; clear HO349 HO_5 HO_6 HB hq_; have HO349 := n0_; have HO_5 := n1_; have HO_6 := n2_; have HB := n3_; clear n0_ n1_ n2_ n3_))))
                           replace HO_5 := Aside0.mk (Kd.R_drew HO_5.out)
                           replace HO_6 := Aside0.mk (Kd.R_drew HO_6.out)
                           replace HO349 := Aside0.mk (FR_drew HO349.out)
                           replace HB := Aside0.mk (below_drew1 HB.out)
                           obtain ⟨Ao41, co41, eo41⟩ := FR_slice HO349.out
                           (first | subst eo41 | (injection eo41 with f1_ f2_ f3_; have f4_ := f1_.symm; have f5_ := f3_.symm; clear f1_ f2_ f3_; subst f4_; subst f5_))
                           have p351 : 0 ≤ ((ji28) : Int) := od
                           have q351 : (ji28) < (y347.length : Int) := od
                           obtain ⟨ad351, e351, hx351_0⟩ := FR_at_ HO349.out (ji28) p351 q351
                           cases e351
                           replace p351 := eq_true p351
                           replace q351 := eq_true q351
                           have p34 : 0 ≤ ((ji28) : Int) := od
                           have q34 : ((ji28) : Int) < ((y347.length : Int) : Int) := od
                           obtain ⟨go34, co34, eo34, gb34, gl34, cl34, HG34⟩ := FR_form HO349.out (by omega)
                           (first | cases eo34 | (injection eo34 with ea_ en_ ec_; (first | subst ea_ | (injection ea_ with ea_; subst ea_)); subst ec_; clear en_))
                           have GB34 := Aside0.mk gb34
                           have GG34 := Aside0.mk HG34
                           clear gb34 gl34 HG34
                           (first | simp only [add_plain] at hx351_0 | skip)
                           obtain ⟨hx34_0, hf34_0⟩ := FR_celln 0 HO349.out ((ji28) : Int) p34 q34
                           replace p34 := eq_true p34
                           replace q34 := eq_true q34
                           have HP42 := FR_putn HO349.out ((ji28) : Int) (Go.bits .xor .u8 (rd y347 (ji28)) (ji33))
                           rw [← Ny352.out] at HP42
                           have HQ42 := Aside0.mk HP42
                           clear HP42
                           refine start_ (n := 12) (S := fun w' => w'.cell? ⟨go34, ((ji28)).toNat, none⟩ = some (.int .u8 (rd y347 (ji28)))) (ds := [11]) #[O,O,O,O,O,O,O,O,O,O,O,O] (by kernel_rfl) rfl rfl (hx351_0) (fun hHeld => ?_); refine with_tabW fairwaylaw10_RecBack.tab21 fairwaylaw10_RecBack.bits21 (fun HT_ HW_ => ?_)
                           generalize w38.drew = w40 at HO_5 HO_6 HO349 HB GG34 HQ42 hf34_0 hx34_0 hx351_0 hHeld ⊢
                           refine pz (i := 0) (N := some 88) #[I,O,O,O,O,O,O,O,O,O,O,O] ?_
                           refine pz (i := 1) (N := some 89) #[I,I,O,O,O,O,O,O,O,O,O,O] ?_
                           refine pz (i := 2) (N := some 90) #[I,I,I,O,O,O,O,O,O,O,O,O] ?_
                           refine pz (i := 3) (N := some 91) #[I,I,I,I,O,O,O,O,O,O,O,O] ?_
                           refine pz (i := 4) (N := some 92) #[I,I,I,I,I,O,O,O,O,O,O,O] ?_
                           refine pz (i := 6) (N := some 94) #[I,I,I,I,I,O,I,O,O,O,O,O] ?_
                           refine pz (i := 7) (N := some 95) #[I,I,I,I,I,O,I,I,O,O,O,O] ?_
                           refine pz (i := 8) (N := some 96) #[I,I,I,I,I,O,I,I,I,O,O,O] ?_
                           refine take_ (i := 5) (N := some 93) (v := ?_) (a' := ?_) #[I,I,I,I,I,I,I,I,I,O,O,O] rfl rfl (take_ofW HT_.out HW_.out (by kernel_rfl)) (fun _ _ _ h => h) (Or.inl ⟨by rfl, ?_⟩) hHeld ?_ ?_
                           rotate_left
                           ·intro w' s0
                            go_simp
                            with_reducible rfl
                           rotate_left
                           ·simp only [Act.put, List.setIfInBounds_toArray, List.set_cons_zero, List.set_cons_succ, i64_w, i32_w]
                            rfl
                           refine pz (i := 9) (N := some 97) #[I,I,I,I,I,I,I,I,I,I,O,O] ?_
                           refine pz (i := 10) (N := some 98) #[I,I,I,I,I,I,I,I,I,I,I,O] ?_
                           refine last_ (i := 11) (N := none) #[I,I,I,I,I,I,I,I,I,I,I,I] rfl rfl (one_of HT_.out (by kernel_rfl)) (by decide) (fun K hK => ?_)
                           refine skip_ (w1 := ?_) (by rfl) rfl ?_ ?_
                           rotate_left
                           ·go_simp
                            rfl
                           refine hK.out _ _ ?_
                           clear hK K
                           refine done_ (done_of HT_.out (by kernel_rfl)) ?_
                           (try (rw [drewN_self w40]; generalize hq_ : World.drewN w40 _ = w40; have n0_ := Aside0.mk (Kd.R_at hq_ HO_5.out); have n1_ := Aside0.mk (Kd.R_at hq_ HO_6.out); have n2_ := Aside0.mk (FR_at hq_ HO349.out); have n3_ := Aside0.mk (below_at hq_ HB.out); clear hq_ HO_5 HO_6 HO349 HB; have HO_5 := n0_; have HO_6 := n1_; have HO349 := n2_; have HB := n3_; clear n0_ n1_ n2_ n3_))
                           have n0_ : Aside0 (Kd.R k25 25 (w40.setCell ⟨go34, ((ji28) : Int).toNat, none⟩ (.int .u8 (Go.bits .xor .u8 (rd y347 (ji28)) (ji33)))) w.heap.size (fun _ => True) u5 x5_3) := ⟨by (with_reducible repeat (first | apply Kd.R_alloc | apply Kd.R_drewN | apply Kd.R_drew | apply FR_alloc | apply FR_drewN | apply FR_drew)); exact Kd.R_mono (Kd.R_far (p := ⟨go34, ((ji28) : Int).toNat, none⟩) (FR_types HO_5.out GG34.out (by decide)) (fun _ hk => hk.2) (.int .u8 (Go.bits .xor .u8 (rd y347 (ji28)) (ji33)))) (fun _ hk => trivial)⟩
                           have n1_ : Aside0 (Kd.R (Kd.int .i64) 3 (w40.setCell ⟨go34, ((ji28) : Int).toNat, none⟩ (.int .u8 (Go.bits .xor .u8 (rd y347 (ji28)) (ji33)))) w.heap.size (fun _ => True) u6 x6_3) := ⟨by (with_reducible repeat (first | apply Kd.R_alloc | apply Kd.R_drewN | apply Kd.R_drew | apply FR_alloc | apply FR_drewN | apply FR_drew)); exact Kd.R_mono (Kd.R_far (p := ⟨go34, ((ji28) : Int).toNat, none⟩) (FR_types HO_6.out GG34.out (by decide)) (fun _ hk => hk.2) (.int .u8 (Go.bits .xor .u8 (rd y347 (ji28)) (ji33)))) (fun _ hk => trivial)⟩
                           have n2_ : Aside0 (FR 5 (w40.setCell ⟨go34, ((ji28) : Int).toNat, none⟩ (.int .u8 (Go.bits .xor .u8 (rd y347 (ji28)) (ji33)))) w.heap.size (fun _ => True) (.slice (some ⟨go34, 0, none⟩) y347.length co41) y352) := ⟨by (with_reducible repeat (first | apply Kd.R_alloc | apply Kd.R_drewN | apply Kd.R_drew | apply FR_alloc | apply FR_drewN | apply FR_drew)); first | exact HQ42.out | (rw [Ny352.out]; exact FR_putn HO349.out _ _)⟩
                           have n3_ : Aside0 (Below w.heap.size w (w40.setCell ⟨go34, ((ji28) : Int).toNat, none⟩ (.int .u8 (Go.bits .xor .u8 (rd y347 (ji28)) (ji33))))) := ⟨by repeat (first | (with_reducible first | exact HB.out | apply below_alloc | apply pw_below_drewN | apply below_drew1 | refine below_set ?_ GB34.out) | exact HB.out)⟩
                           (try clear HO_5)
                           (try clear HO_6)
                           (try clear HO349)
                           (try clear HB)
                           generalize (w40.setCell ⟨go34, ((ji28) : Int).toNat, none⟩ (.int .u8 (Go.bits .xor .u8 (rd y347 (ji28)) (ji33)))) = w43 at n0_ n1_ n2_ n3_ ⊢
                           have HO_5 := n0_
                           have HO_6 := n1_
                           have HO349 := n2_
                           have HB := n3_
                           clear n0_ n1_ n2_ n3_
                           have hcv44 := FR_string (P := Try.prog) Try.underlying23 Try.underlying5 Try.underlying9 HO349.out
                           try go_wp2_with (first | ((with_reducible refine gate_callee (f := 16) rfl ?_); refine goesL_ (some 102) rfl rfl Try.func16 (by kernel_rfl) rfl #[.string (strOfNums y352)] rfl aa ?_; (with_reducible refine (rec_Take.calls k5 (strOfNums y352) t353 t354 t355 t356 t357 t358 t359 t360 _ A35.out).mono ?_); rintro e w45 ⟨rfl, hb⟩; refine ⟨_, rfl, ?_⟩; replace HO_5 := Aside0.mk (Kd.R_below (rk HO_5.out) hb); replace HO_6 := Aside0.mk (Kd.R_below (rk HO_6.out) hb); replace HO349 := Aside0.mk (FR_below (rf HO349.out) hb); replace HB := Aside0.mk (below_step bo hb); (try clear hb); (try clear hb2); (try clear hk); (try clear hi)) | ((with_reducible refine gate_dst (N := 13) rfl ?_); refine box_event ?hg (N := 13) ?hd (cs := #[.int .i64 0, .int .i64 0, .string (⟨#[]⟩ : ByteArray), .string (⟨#[]⟩ : ByteArray), .int .i64 0, .bool false]) (t := 25) ?hr ?_; (case hd => rfl); (case hg => rfl); (case hr => first | (go_simp; done) | (go_simp; rfl)); intro gb361 hg w46 hbox hb; replace HO_5 := Aside0.mk (Kd.R_below (Kd.R_elderB (rk HO_5.out) gb361 (Nat.le_of_eq hg.symm)) hb); replace HO_6 := Aside0.mk (Kd.R_below (rk HO_6.out) hb); replace HO349 := Aside0.mk (FR_below (rf HO349.out) hb); have BK361 := Aside0.mk (hbox); have GW361 := Aside0.mk ((by rw [hg]; exact (below_size bo) : w.heap.size ≤ gb361)); have GE361 := Aside0.mk ((by rw [hg]; exact (below_size bo) : w.heap.size ≤ gb361)); replace HB := Aside0.mk (below_step bo hb); clear hb hbox hg; obtain ⟨hcz47_0, hcz47_1, hcz47_2, hcz47_3, hcz47_4, hcz47_5⟩ := cl6 BK361.out; obtain ⟨hfz47_0, hfz47_1, hfz47_2, hfz47_3, hfz47_4, hfz47_5⟩ := fz6 BK361.out) | ((with_reducible refine gate_callee (f := 15) rfl ?_); refine goesL_ (some 107) rfl rfl Try.func15 (by kernel_rfl) rfl #[.int .i64 t360] rfl aa ?_; (with_reducible refine (fairwaylaw10_num.calls t360 t362 _ A36.out).mono ?_); rintro e w' ⟨rfl, ⟨nd, rfl⟩⟩; refine ⟨_, rfl, ?_⟩))
                           go_roundg k5
                           case measure => have := HK1.out; have := HJ1.out; have := HK3.out; have := HJ10.out; have := HK5.out; omega
                           case rel => exact ⟨(wrap64 (x10_5 + 1)), ap, H', ⟨by have := HK1.out; have := HJ1.out; have := HK3.out; have := HJ10.out; have := HK5.out; omega⟩, ⟨by (with_reducible repeat (first | apply Kd.R_alloc | apply Kd.R_drewN | apply Kd.R_drew | apply FR_alloc | apply FR_drewN | apply FR_drew)); exact Kd.R_mono (Kd.R_far (p := ⟨gb361, 5, none⟩) (Kd.R_far (p := ⟨gb361, 4, none⟩) (Kd.R_far (p := ⟨gb361, 3, none⟩) (Kd.R_far (p := ⟨gb361, 2, none⟩) (Kd.R_far (p := ⟨gb361, 1, none⟩) (Kd.R_far (p := ⟨gb361, 0, none⟩) (Kd.R_mono HO_5.out (fun k_ hk => (⟨hk, hk.2⟩ : _ ∧ k_ ≠ gb361))) (fun _ hk => hk.2) (.int .i64 t353)) (fun _ hk => hk.2) (.int .i64 t354)) (fun _ hk => hk.2) (.string t355)) (fun _ hk => hk.2) (.string t356)) (fun _ hk => hk.2) (.int .i64 t357)) (fun _ hk => hk.2) (.bool t358)) (fun _ hk => trivial)⟩, ⟨by (with_reducible repeat (first | apply Kd.R_alloc | apply Kd.R_drewN | apply Kd.R_drew | apply FR_alloc | apply FR_drewN | apply FR_drew)); exact Kd.R_mono (Kd.R_far (p := ⟨gb361, 5, none⟩) (Kd.R_far (p := ⟨gb361, 4, none⟩) (Kd.R_far (p := ⟨gb361, 3, none⟩) (Kd.R_far (p := ⟨gb361, 2, none⟩) (Kd.R_far (p := ⟨gb361, 1, none⟩) (Kd.R_far (p := ⟨gb361, 0, none⟩) (Kd.R_types HO_6.out BK361.out (by decide)) (fun _ hk => hk.2) (.int .i64 t353)) (fun _ hk => hk.2) (.int .i64 t354)) (fun _ hk => hk.2) (.string t355)) (fun _ hk => hk.2) (.string t356)) (fun _ hk => hk.2) (.int .i64 t357)) (fun _ hk => hk.2) (.bool t358)) (fun _ hk => trivial)⟩, ⟨bo⟩⟩
                          ·rw [if_neg c37] at H
                           have c37b0 : (t362 == 8) = false := beq_eq_false_iff_ne.mpr c37
                           have c37b1 : (t362 != 8) = true := bne_iff_ne.mpr c37
                           obtain rfl := Option.some.inj H
                           try go_wp2_with (first | ((with_reducible refine gate_dst (N := 75) rfl ?_); refine FR_conv (P := Try.prog) rfl (N := 75) rfl 9 23 5 _ rfl t336 rfl Try.underlying9 Try.underlying23 Try.underlying5 (Below.refl _ _) (Nat.le_refl _) ?_; intro v348 w48 ho49 hb hg_ hnew_; clear hg_ hnew_; (first | rw [← Ny347.out] at ho49 | (simp only [Int.reduceToNat] at ho49; rw [← Ny347.out] at ho49)); replace HO_5 := Aside0.mk (Kd.R_below (rk HO_5.out) hb); replace HO_6 := Aside0.mk (Kd.R_below (rk HO_6.out) hb); have HO349 := Aside0.mk (FR_lower ho49 (below_size bo)); replace HB := Aside0.mk (below_step bo hb); clear hb ho49) | ((with_reducible refine gate_callee (f := 29) rfl ?_); refine goesL_ (some 86) rfl rfl Try.func29 (by kernel_rfl) rfl #[.int .i64 (wrap64 ((wrap64 (Int.tdiv (wrap64 (x10_5 * (t336.size : Int))) 8)) + x3_1)), .int .i64 (wrap64 ((t336.size : Int) - 2))] rfl aa ?_; (with_reducible refine (fairwaylaw0_Within.calls (wrap64 ((wrap64 (Int.tdiv (wrap64 (x10_5 * (t336.size : Int))) 8)) + x3_1)) (wrap64 ((t336.size : Int) - 2)) t350 _ A27.out).mono ?_); rintro e w' ⟨rfl, ⟨nd, rfl⟩⟩; refine ⟨_, rfl, ?_⟩; (try (rw [drewN_self w48]; generalize hq_ : World.drewN w48 _ = w48; have n0_ : Aside0 (FR 5 w48 w.heap.size (fun _ => True) v348 y347) := ⟨by rw [← hq_]; exact (rf HO349.out)⟩; have n1_ : Aside0 (Kd.R k25 25 w48 w.heap.size (fun _ => True) u5 x5_3) := ⟨by rw [← hq_]; exact (rk HO_5.out)⟩; have n2_ : Aside0 (Kd.R (Kd.int .i64) 3 w48 w.heap.size (fun _ => True) u6 x6_3) := ⟨by rw [← hq_]; exact (rk HO_6.out)⟩; have n3_ : Aside0 (Below w.heap.size w w48) := ⟨by rw [← hq_]; exact bo⟩; clear HO349 HO_5 HO_6 HB hq_; have HO349 := n0_; have HO_5 := n1_; have HO_6 := n2_; have HB := n3_; clear n0_ n1_ n2_ n3_))))
                           replace HO_5 := Aside0.mk (Kd.R_drew HO_5.out)
                           replace HO_6 := Aside0.mk (Kd.R_drew HO_6.out)
                           replace HO349 := Aside0.mk (FR_drew HO349.out)
                           replace HB := Aside0.mk (below_drew1 HB.out)
                           obtain ⟨Ao51, co51, eo51⟩ := FR_slice HO349.out
                           (first | subst eo51 | (injection eo51 with f1_ f2_ f3_; have f4_ := f1_.symm; have f5_ := f3_.symm; clear f1_ f2_ f3_; subst f4_; subst f5_))
                           have p351 : 0 ≤ ((ji28) : Int) := od
                           have q351 : (ji28) < (y347.length : Int) := od
                           obtain ⟨ad351, e351, hx351_0⟩ := FR_at_ HO349.out (ji28) p351 q351
                           cases e351
                           replace p351 := eq_true p351
                           replace q351 := eq_true q351
                           have p34 : 0 ≤ ((ji28) : Int) := od
                           have q34 : ((ji28) : Int) < ((y347.length : Int) : Int) := od
                           obtain ⟨go34, co34, eo34, gb34, gl34, cl34, HG34⟩ := FR_form HO349.out (by omega)
                           (first | cases eo34 | (injection eo34 with ea_ en_ ec_; (first | subst ea_ | (injection ea_ with ea_; subst ea_)); subst ec_; clear en_))
                           have GB34 := Aside0.mk gb34
                           have GG34 := Aside0.mk HG34
                           clear gb34 gl34 HG34
                           (first | simp only [add_plain] at hx351_0 | skip)
                           obtain ⟨hx34_0, hf34_0⟩ := FR_celln 0 HO349.out ((ji28) : Int) p34 q34
                           replace p34 := eq_true p34
                           replace q34 := eq_true q34
                           have HP52 := FR_putn HO349.out ((ji28) : Int) (Go.bits .xor .u8 (rd y347 (ji28)) (ji33))
                           rw [← Ny352.out] at HP52
                           have HQ52 := Aside0.mk HP52
                           clear HP52
                           refine start_ (n := 12) (S := fun w' => w'.cell? ⟨go34, ((ji28)).toNat, none⟩ = some (.int .u8 (rd y347 (ji28)))) (ds := [11]) #[O,O,O,O,O,O,O,O,O,O,O,O] (by kernel_rfl) rfl rfl (hx351_0) (fun hHeld => ?_); refine with_tabW fairwaylaw10_RecBack.tab21 fairwaylaw10_RecBack.bits21 (fun HT_ HW_ => ?_)
                           generalize w48.drew = w50 at HO_5 HO_6 HO349 HB GG34 HQ52 hf34_0 hx34_0 hx351_0 hHeld ⊢
                           refine pz (i := 0) (N := some 88) #[I,O,O,O,O,O,O,O,O,O,O,O] ?_
                           refine pz (i := 1) (N := some 89) #[I,I,O,O,O,O,O,O,O,O,O,O] ?_
                           refine pz (i := 2) (N := some 90) #[I,I,I,O,O,O,O,O,O,O,O,O] ?_
                           refine pz (i := 3) (N := some 91) #[I,I,I,I,O,O,O,O,O,O,O,O] ?_
                           refine pz (i := 4) (N := some 92) #[I,I,I,I,I,O,O,O,O,O,O,O] ?_
                           refine pz (i := 6) (N := some 94) #[I,I,I,I,I,O,I,O,O,O,O,O] ?_
                           refine pz (i := 7) (N := some 95) #[I,I,I,I,I,O,I,I,O,O,O,O] ?_
                           refine pz (i := 8) (N := some 96) #[I,I,I,I,I,O,I,I,I,O,O,O] ?_
                           refine take_ (i := 5) (N := some 93) (v := ?_) (a' := ?_) #[I,I,I,I,I,I,I,I,I,O,O,O] rfl rfl (take_ofW HT_.out HW_.out (by kernel_rfl)) (fun _ _ _ h => h) (Or.inl ⟨by rfl, ?_⟩) hHeld ?_ ?_
                           rotate_left
                           ·intro w' s0
                            go_simp
                            with_reducible rfl
                           rotate_left
                           ·simp only [Act.put, List.setIfInBounds_toArray, List.set_cons_zero, List.set_cons_succ, i64_w, i32_w]
                            rfl
                           refine pz (i := 9) (N := some 97) #[I,I,I,I,I,I,I,I,I,I,O,O] ?_
                           refine pz (i := 10) (N := some 98) #[I,I,I,I,I,I,I,I,I,I,I,O] ?_
                           refine last_ (i := 11) (N := none) #[I,I,I,I,I,I,I,I,I,I,I,I] rfl rfl (one_of HT_.out (by kernel_rfl)) (by decide) (fun K hK => ?_)
                           refine skip_ (w1 := ?_) (by rfl) rfl ?_ ?_
                           rotate_left
                           ·go_simp
                            rfl
                           refine hK.out _ _ ?_
                           clear hK K
                           refine done_ (done_of HT_.out (by kernel_rfl)) ?_
                           (try (rw [drewN_self w50]; generalize hq_ : World.drewN w50 _ = w50; have n0_ := Aside0.mk (Kd.R_at hq_ HO_5.out); have n1_ := Aside0.mk (Kd.R_at hq_ HO_6.out); have n2_ := Aside0.mk (FR_at hq_ HO349.out); have n3_ := Aside0.mk (below_at hq_ HB.out); clear hq_ HO_5 HO_6 HO349 HB; have HO_5 := n0_; have HO_6 := n1_; have HO349 := n2_; have HB := n3_; clear n0_ n1_ n2_ n3_))
                           have n0_ : Aside0 (Kd.R k25 25 (w50.setCell ⟨go34, ((ji28) : Int).toNat, none⟩ (.int .u8 (Go.bits .xor .u8 (rd y347 (ji28)) (ji33)))) w.heap.size (fun _ => True) u5 x5_3) := ⟨by (with_reducible repeat (first | apply Kd.R_alloc | apply Kd.R_drewN | apply Kd.R_drew | apply FR_alloc | apply FR_drewN | apply FR_drew)); exact Kd.R_mono (Kd.R_far (p := ⟨go34, ((ji28) : Int).toNat, none⟩) (FR_types HO_5.out GG34.out (by decide)) (fun _ hk => hk.2) (.int .u8 (Go.bits .xor .u8 (rd y347 (ji28)) (ji33)))) (fun _ hk => trivial)⟩
                           have n1_ : Aside0 (Kd.R (Kd.int .i64) 3 (w50.setCell ⟨go34, ((ji28) : Int).toNat, none⟩ (.int .u8 (Go.bits .xor .u8 (rd y347 (ji28)) (ji33)))) w.heap.size (fun _ => True) u6 x6_3) := ⟨by (with_reducible repeat (first | apply Kd.R_alloc | apply Kd.R_drewN | apply Kd.R_drew | apply FR_alloc | apply FR_drewN | apply FR_drew)); exact Kd.R_mono (Kd.R_far (p := ⟨go34, ((ji28) : Int).toNat, none⟩) (FR_types HO_6.out GG34.out (by decide)) (fun _ hk => hk.2) (.int .u8 (Go.bits .xor .u8 (rd y347 (ji28)) (ji33)))) (fun _ hk => trivial)⟩
                           have n2_ : Aside0 (FR 5 (w50.setCell ⟨go34, ((ji28) : Int).toNat, none⟩ (.int .u8 (Go.bits .xor .u8 (rd y347 (ji28)) (ji33)))) w.heap.size (fun _ => True) (.slice (some ⟨go34, 0, none⟩) y347.length co51) y352) := ⟨by (with_reducible repeat (first | apply Kd.R_alloc | apply Kd.R_drewN | apply Kd.R_drew | apply FR_alloc | apply FR_drewN | apply FR_drew)); first | exact HQ52.out | (rw [Ny352.out]; exact FR_putn HO349.out _ _)⟩
                           have n3_ : Aside0 (Below w.heap.size w (w50.setCell ⟨go34, ((ji28) : Int).toNat, none⟩ (.int .u8 (Go.bits .xor .u8 (rd y347 (ji28)) (ji33))))) := ⟨by repeat (first | (with_reducible first | exact HB.out | apply below_alloc | apply pw_below_drewN | apply below_drew1 | refine below_set ?_ GB34.out) | exact HB.out)⟩
                           (try clear HO_5)
                           (try clear HO_6)
                           (try clear HO349)
                           (try clear HB)
                           generalize (w50.setCell ⟨go34, ((ji28) : Int).toNat, none⟩ (.int .u8 (Go.bits .xor .u8 (rd y347 (ji28)) (ji33)))) = w53 at n0_ n1_ n2_ n3_ ⊢
                           have HO_5 := n0_
                           have HO_6 := n1_
                           have HO349 := n2_
                           have HB := n3_
                           clear n0_ n1_ n2_ n3_
                           have hcv54 := FR_string (P := Try.prog) Try.underlying23 Try.underlying5 Try.underlying9 HO349.out
                           try go_wp2_with (first | ((with_reducible refine gate_callee (f := 16) rfl ?_); refine goesL_ (some 102) rfl rfl Try.func16 (by kernel_rfl) rfl #[.string (strOfNums y352)] rfl aa ?_; (with_reducible refine (rec_Take.calls k5 (strOfNums y352) t353 t354 t355 t356 t357 t358 t359 t360 _ A35.out).mono ?_); rintro e w55 ⟨rfl, hb⟩; refine ⟨_, rfl, ?_⟩; replace HO_5 := Aside0.mk (Kd.R_below (rk HO_5.out) hb); replace HO_6 := Aside0.mk (Kd.R_below (rk HO_6.out) hb); replace HO349 := Aside0.mk (FR_below (rf HO349.out) hb); replace HB := Aside0.mk (below_step bo hb); (try clear hb); (try clear hb2); (try clear hk); (try clear hi)) | ((with_reducible refine gate_dst (N := 13) rfl ?_); refine box_event ?hg (N := 13) ?hd (cs := #[.int .i64 0, .int .i64 0, .string (⟨#[]⟩ : ByteArray), .string (⟨#[]⟩ : ByteArray), .int .i64 0, .bool false]) (t := 25) ?hr ?_; (case hd => rfl); (case hg => rfl); (case hr => first | (go_simp; done) | (go_simp; rfl)); intro gb361 hg w56 hbox hb; replace HO_5 := Aside0.mk (Kd.R_below (Kd.R_elderB (rk HO_5.out) gb361 (Nat.le_of_eq hg.symm)) hb); replace HO_6 := Aside0.mk (Kd.R_below (rk HO_6.out) hb); replace HO349 := Aside0.mk (FR_below (rf HO349.out) hb); have BK361 := Aside0.mk (hbox); have GW361 := Aside0.mk ((by rw [hg]; exact (below_size bo) : w.heap.size ≤ gb361)); have GE361 := Aside0.mk ((by rw [hg]; exact (below_size bo) : w.heap.size ≤ gb361)); replace HB := Aside0.mk (below_step bo hb); clear hb hbox hg; obtain ⟨hcz57_0, hcz57_1, hcz57_2, hcz57_3, hcz57_4, hcz57_5⟩ := cl6 BK361.out; obtain ⟨hfz57_0, hfz57_1, hfz57_2, hfz57_3, hfz57_4, hfz57_5⟩ := fz6 BK361.out) | ((with_reducible refine gate_callee (f := 15) rfl ?_); refine goesL_ (some 107) rfl rfl Try.func15 (by kernel_rfl) rfl #[.int .i64 t360] rfl aa ?_; (with_reducible refine (fairwaylaw10_num.calls t360 t362 _ A36.out).mono ?_); rintro e w' ⟨rfl, ⟨nd, rfl⟩⟩; refine ⟨_, rfl, ?_⟩))
                           go_ret
                           exact ⟨by first | rfl | (simp [errW_none, errW_some] <;> rfl) | (simp only [← hji28, ← hji31, ← hji33]; first | rfl | (simp [errW_none, errW_some] <;> rfl)) | (simp [*, errW_none, errW_some] <;> rfl), bo⟩
                         ·rw [if_neg c32] at H
                          exact absurd H (by simp)
                        ·rw [if_neg c30] at H
                         exact absurd H (by simp)
                       ·rw [if_neg c29] at H
                        exact absurd H (by simp)
                      ·rw [if_neg c26] at H
                       have c26b0 : decide (x10_5 < 8) = false := decide_eq_false c26
                       clear c26
                       by_cases c58 : x4_3.size + t336.size ≤ 9223372036854775807
                       ·rw [if_pos c58] at H
                        have c58b0 := eq_true c58
                        have c58b1 : decide (x4_3.size + t336.size ≤ 9223372036854775807) = true := decide_eq_true c58
                        try have c58b2 : (9223372036854775807 < x4_3.size + t336.size) = False := eq_false (Nat.not_lt.2 c58)
                        by_cases c59 : 0 ≤ x3_1
                        ·rw [if_pos c59] at H
                         have c59b0 : decide (0 ≤ x3_1) = true := decide_eq_true c59
                         clear c59
                         by_cases c60 : x3_1 < (l0.length : Int)
                         ·rw [if_pos c60] at H
                          have c60b0 : decide (x3_1 < (l0.length : Int)) = true := decide_eq_true c60
                          clear c60
                          by_cases c61 : 0 ≤ x7_3
                          ·rw [if_pos c61] at H
                           have c61b0 : decide (0 ≤ x7_3) = true := decide_eq_true c61
                           clear c61
                           by_cases c62 : x7_3 < (((rd_T38 l0 x3_1).f0).length : Int)
                           ·rw [if_pos c62] at H
                            have c62b0 : decide (x7_3 < (((rd_T38 l0 x3_1).f0).length : Int)) = true := decide_eq_true c62
                            clear c62
                            by_cases c63 : x5_3.length < 2199023255552
                            ·rw [if_pos c63] at H
                             have LMc63 := Aside0.mk c63
                             clear c63
                             obtain ⟨y341, hy341⟩ : ∃ y_ : List (S25), y_ = (x5_3 ++ [(⟨(rd_T25 ((rd_T38 l0 x3_1).f0) x7_3).f0, (rd_T25 ((rd_T38 l0 x3_1).f0) x7_3).f1, (rd_T25 ((rd_T38 l0 x3_1).f0) x7_3).f2, (rd_T25 ((rd_T38 l0 x3_1).f0) x7_3).f3, (rd_T25 ((rd_T38 l0 x3_1).f0) x7_3).f4, (rd_T25 ((rd_T38 l0 x3_1).f0) x7_3).f5⟩ : S25)]) := ⟨_, rfl⟩
                             replace H : (if x6_3.length < 17592186044416 then (fairwaylaw10_RecBack.l1 k5 l0 x3_1 (x4_3 ++ t336) y341 (x6_3 ++ [((x4_3 ++ t336).size : Int)]) (wrap64 (x7_3 + 1))) else (none)) = some r := by first | (rw [hy341]; with_reducible exact H) | (have H2_ := (Option.bind_some _ _).symm.trans H; rw [hy341]; with_reducible exact H2_) | (have H2_ := (Option.bind_some _ _).symm.trans H; with_reducible exact H2_) | with_reducible exact H | (rw [hy341]; exact H) | exact H
                             have Ny341 := Aside0.mk hy341
                             clear hy341
                             by_cases c64 : x6_3.length < 17592186044416
                             ·rw [if_pos c64] at H
                              have LMc64 := Aside0.mk c64
                              clear c64
                              obtain ⟨y344, hy344⟩ : ∃ y_ : List Int, y_ = (x6_3 ++ [((x4_3 ++ t336).size : Int)]) := ⟨_, rfl⟩
                              replace H : (fairwaylaw10_RecBack.l1 k5 l0 x3_1 (x4_3 ++ t336) y341 y344 (wrap64 (x7_3 + 1))) = some r := by first | (rw [hy344]; with_reducible exact H) | (have H2_ := (Option.bind_some _ _).symm.trans H; rw [hy344]; with_reducible exact H2_) | (have H2_ := (Option.bind_some _ _).symm.trans H; with_reducible exact H2_) | with_reducible exact H | (rw [hy344]; exact H) | exact H
                              have Ny344 := Aside0.mk hy344
                              clear hy344
                              have H' := Aside0.mk H
                              clear H
                              have p339 : 0 ≤ (x3_1 : Int) := od
                              have q339 : x3_1 < (l0.length : Int) := od
                              obtain ⟨ad339, A339_0, c339_0, e339, hx339_0, hx339_1, hl339_0, hi339_0⟩ := at_T38 HR0.out x3_1 p339 q339
                              obtain rfl : ad331 = ad339 := (by injection e339)
                              replace hx339_0 := cx HB.out hx339_0
                              replace hx339_1 := cx HB.out hx339_1
                              have HR339_0 := Aside0.mk hi339_0
                              have HC339_0 := Aside0.mk hl339_0
                              clear hi339_0 hl339_0
                              replace p339 := eq_true p339
                              replace q339 := eq_true q339
                              have p340 : 0 ≤ (x7_3 : Int) := od
                              have q340 : x7_3 < (((rd_T38 l0 x3_1).f0).length : Int) := od
                              obtain ⟨ad340, e340, hx340_0, hx340_1, hx340_2, hx340_3, hx340_4, hx340_5⟩ := at_T25 HR339_0.out x7_3 p340 q340
                              cases e340
                              replace hx340_0 := cx HB.out hx340_0
                              replace hx340_1 := cx HB.out hx340_1
                              replace hx340_2 := cx HB.out hx340_2
                              replace hx340_3 := cx HB.out hx340_3
                              replace hx340_4 := cx HB.out hx340_4
                              replace hx340_5 := cx HB.out hx340_5
                              replace p340 := eq_true p340
                              replace q340 := eq_true q340
                              go_wp2_with (first | ((with_reducible refine gate_builtin (b := .append) (xs := #[.tmp 112, .tmp 121]) rfl ?_); at_builtin; refine Kd.R_append k25 (w0 := w) w.heap.size rfl (.tmp 112) (.tmp 121) 36 25 (.agg #[(.int .i64 0), (.int .i64 0), (.string ⟨#[]⟩), (.string ⟨#[]⟩), (.int .i64 0), (.bool false)]) 64 rfl Try.underlying36 info25 rfl (by decide) (by omega) u5 x5_3 (⟨(rd_T25 ((rd_T38 l0 x3_1).f0) x7_3).f0, (rd_T25 ((rd_T38 l0 x3_1).f0) x7_3).f1, (rd_T25 ((rd_T38 l0 x3_1).f0) x7_3).f2, (rd_T25 ((rd_T38 l0 x3_1).f0) x7_3).f3, (rd_T25 ((rd_T38 l0 x3_1).f0) x7_3).f4, (rd_T25 ((rd_T38 l0 x3_1).f0) x7_3).f5⟩ : S25) [.int .i64 ((rd_T25 ((rd_T38 l0 x3_1).f0) x7_3).f0), .int .i64 ((rd_T25 ((rd_T38 l0 x3_1).f0) x7_3).f1), .string ((rd_T25 ((rd_T38 l0 x3_1).f0) x7_3).f2), .string ((rd_T25 ((rd_T38 l0 x3_1).f0) x7_3).f3), .int .i64 ((rd_T25 ((rd_T38 l0 x3_1).f0) x7_3).f4), .bool ((rd_T25 ((rd_T38 l0 x3_1).f0) x7_3).f5)] (fun _ => True) (fun _ => False) rfl rfl ?aP (fun _ hk => hk.elim) ?aF ?aO ?aB ?aS ?aL ?_; (case aP => exact k25_mkM _ _ _ (⟨(rd_T25 ((rd_T38 l0 x3_1).f0) x7_3).f0, (rd_T25 ((rd_T38 l0 x3_1).f0) x7_3).f1, (rd_T25 ((rd_T38 l0 x3_1).f0) x7_3).f2, (rd_T25 ((rd_T38 l0 x3_1).f0) x7_3).f3, (rd_T25 ((rd_T38 l0 x3_1).f0) x7_3).f4, (rd_T25 ((rd_T38 l0 x3_1).f0) x7_3).f5⟩ : S25)); (case aB => exact bo); (case aF => exact (fun _ _ => trivial)); (case aO => exact (rk HO_5.out)); (case aS => exact (below_size bo)); (case aL => have := LMc63.out; omega); intro v342 w65 ho hb hg hat; rw [← Ny341.out] at ho; have n0_ := Aside0.mk (Kd.R_over' (rk HO_6.out) (Kd.R_typed (rk HO_5.out)) (by decide) hg); have n1_ := Aside0.mk (hb); have n2_ := Aside0.mk (ho); clear HO_6; clear HB; clear HO_5; have HO_6 := n0_; have HB := n1_; have HO343 := n2_; clear n0_ n1_ n2_; clear ho hb hg hat) | ((with_reducible refine gate_builtin (b := .append) (xs := #[.tmp 123, .tmp 126]) rfl ?_); at_builtin; refine Kd.R_append (Kd.int .i64) (w0 := w) w.heap.size rfl (.tmp 123) (.tmp 126) 50 3 (.int .i64 0) 8 rfl Try.underlying50 info3 rfl (by decide) (by omega) u6 x6_3 ((x4_3.size : Int) + (t336.size : Int)) [.int .i64 ((x4_3.size : Int) + (t336.size : Int))] (fun _ => True) (fun _ => False) rfl rfl ?aP (fun _ hk => hk.elim) ?aF ?aO ?aB ?aS ?aL ?_; (case aP => exact rfl); (case aB => exact bo); (case aF => exact (fun _ _ => trivial)); (case aO => exact (rk HO_6.out)); (case aS => exact (below_size bo)); (case aL => have := LMc64.out; omega); intro v345 w66 ho hb hg hat; rw [show ((x4_3.size : Int) + (t336.size : Int)) = ((x4_3 ++ t336).size : Int) by rw [ByteArray.size_append]; rfl, ← Ny344.out] at ho; have n0_ := Aside0.mk (Kd.R_over' (rk HO343.out) (Kd.R_typed (rk HO_6.out)) (by decide) hg); have n1_ := Aside0.mk (hb); have n2_ := Aside0.mk (ho); clear HO343; clear HB; clear HO_6; have HO343 := n0_; have HB := n1_; have HO346 := n2_; clear n0_ n1_ n2_; clear ho hb hg hat))
                              go_roundg k5
                              case measure => have := HK1.out; have := HJ1.out; have := HK3.out; have := HJ10.out; have := HK5.out; omega
                              case rel => exact ⟨(x4_3 ++ t336), (y341), (y344), (wrap64 (x7_3 + 1)), ap, ap, H', ⟨by have := HK1.out; have := HJ1.out; have := HK3.out; have := HJ10.out; have := HK5.out; omega⟩, ⟨by (with_reducible repeat (first | apply Kd.R_alloc | apply Kd.R_drewN | apply Kd.R_drew | apply FR_alloc | apply FR_drewN | apply FR_drew)); exact HO343.out⟩, ⟨by (with_reducible repeat (first | apply Kd.R_alloc | apply Kd.R_drewN | apply Kd.R_drew | apply FR_alloc | apply FR_drewN | apply FR_drew)); exact HO346.out⟩, ⟨bo⟩⟩
                             ·rw [if_neg c64] at H
                              exact absurd H (by simp)
                            ·rw [if_neg c63] at H
                             exact absurd H (by simp)
                           ·rw [if_neg c62] at H
                            exact absurd H (by simp)
                          ·rw [if_neg c61] at H
                           exact absurd H (by simp)
                         ·rw [if_neg c60] at H
                          exact absurd H (by simp)
                        ·rw [if_neg c59] at H
                         exact absurd H (by simp)
                       ·rw [if_neg c58] at H
                        exact absurd H (by simp)
                  ·rw [if_neg c22] at H
                   have c22b0 : (t338 == 0) = false := beq_eq_false_iff_ne.mpr c22
                   have c22b1 : (t338 != 0) = true := bne_iff_ne.mpr c22
                   have H' := Aside0.mk H
                   clear H
                   have p334 : 0 ≤ (x3_1 : Int) := od
                   have q334 : x3_1 < (l0.length : Int) := od
                   obtain ⟨ad334, A334_0, c334_0, e334, hx334_0, hx334_1, hl334_0, hi334_0⟩ := at_T38 HR0.out x3_1 p334 q334
                   obtain rfl : ad331 = ad334 := (by injection e334)
                   replace hx334_0 := cx HB.out hx334_0
                   replace hx334_1 := cx HB.out hx334_1
                   have HR334_0 := Aside0.mk hi334_0
                   have HC334_0 := Aside0.mk hl334_0
                   clear hi334_0 hl334_0
                   replace p334 := eq_true p334
                   replace q334 := eq_true q334
                   have p335 : 0 ≤ (x7_3 : Int) := od
                   have q335 : x7_3 < (((rd_T38 l0 x3_1).f0).length : Int) := od
                   obtain ⟨ad335, e335, hx335_0, hx335_1, hx335_2, hx335_3, hx335_4, hx335_5⟩ := at_T25 HR334_0.out x7_3 p335 q335
                   cases e335
                   replace hx335_0 := cx HB.out hx335_0
                   replace hx335_1 := cx HB.out hx335_1
                   replace hx335_2 := cx HB.out hx335_2
                   replace hx335_3 := cx HB.out hx335_3
                   replace hx335_4 := cx HB.out hx335_4
                   replace hx335_5 := cx HB.out hx335_5
                   replace p335 := eq_true p335
                   replace q335 := eq_true q335
                   go_wp2_with (first | ((with_reducible refine gate_callee (f := 14) rfl ?_); refine goesL_ (some 61) rfl rfl Try.func14 (by kernel_rfl) rfl #[.agg #[.int .i64 ((rd_T25 ((rd_T38 l0 x3_1).f0) x7_3).f0), .int .i64 ((rd_T25 ((rd_T38 l0 x3_1).f0) x7_3).f1), .string ((rd_T25 ((rd_T38 l0 x3_1).f0) x7_3).f2), .string ((rd_T25 ((rd_T38 l0 x3_1).f0) x7_3).f3), .int .i64 ((rd_T25 ((rd_T38 l0 x3_1).f0) x7_3).f4), .bool ((rd_T25 ((rd_T38 l0 x3_1).f0) x7_3).f5)]] rfl aa ?_; (with_reducible refine (rec_Bytes.calls kj10 ((rd_T25 ((rd_T38 l0 x3_1).f0) x7_3).f0) ((rd_T25 ((rd_T38 l0 x3_1).f0) x7_3).f1) ((rd_T25 ((rd_T38 l0 x3_1).f0) x7_3).f2) ((rd_T25 ((rd_T38 l0 x3_1).f0) x7_3).f3) ((rd_T25 ((rd_T38 l0 x3_1).f0) x7_3).f4) ((rd_T25 ((rd_T38 l0 x3_1).f0) x7_3).f5) t336 t337 _ A20.out).mono ?_); rintro e w67 ⟨rfl, hb⟩; refine ⟨_, rfl, ?_⟩; replace HO_5 := Aside0.mk (Kd.R_below (rk HO_5.out) hb); replace HO_6 := Aside0.mk (Kd.R_below (rk HO_6.out) hb); replace HB := Aside0.mk (below_step bo hb); (try clear hb); (try clear hb2); (try clear hk); (try clear hi)) | ((with_reducible refine gate_callee (f := 15) rfl ?_); refine goesL_ (some 65) rfl rfl Try.func15 (by kernel_rfl) rfl #[.int .i64 t337] rfl aa ?_; (with_reducible refine (fairwaylaw10_num.calls t337 t338 _ A21.out).mono ?_); rintro e w' ⟨rfl, ⟨nd, rfl⟩⟩; refine ⟨_, rfl, ?_⟩))
                   go_roundg kj10
                   case measure => have := HK1.out; have := HJ1.out; have := HK3.out; have := HJ10.out; omega
                   case rel => exact ⟨(x4_3), (x5_3), (x6_3), (wrap64 (x7_3 + 1)), ap, ap, H', ⟨by have := HK1.out; have := HJ1.out; have := HK3.out; have := HJ10.out; omega⟩, ⟨by (with_reducible repeat (first | apply Kd.R_alloc | apply Kd.R_drewN | apply Kd.R_drew | apply FR_alloc | apply FR_drewN | apply FR_drew)); exact HO_5.out⟩, ⟨by (with_reducible repeat (first | apply Kd.R_alloc | apply Kd.R_drewN | apply Kd.R_drew | apply FR_alloc | apply FR_drewN | apply FR_drew)); exact HO_6.out⟩, ⟨bo⟩⟩
                 ·rw [if_neg c19] at H
                  exact absurd H (by simp)
                ·rw [if_neg c18] at H
                 exact absurd H (by simp)
               ·rw [if_neg c17] at H
                exact absurd H (by simp)
              ·rw [if_neg c16] at H
               exact absurd H (by simp)
             ·replace c15 := Bool.eq_false_iff.mpr c15
              subst c15
              have H1 : (fairwaylaw10_RecBack.l3 kj10 l0 x3_1 x4_3 x5_3 x6_3 0) = some r := by rw [if_neg (show ¬ (false = true) by decide)] at H; exact H
              clear H
              have H := H1
              clear H1
              have H' := Aside0.mk H
              clear H
              go_wp2
              go_loopg [16] kj10 (fun kq v16 w' => ∃ (x16_5 : Int), v16 = .int .i64 x16_5 ∧ Aside0 (fairwaylaw10_RecBack.l3 kq l0 x3_1 x4_3 x5_3 x6_3 x16_5 = some r) ∧ Aside0 (kq ≤ kj10) ∧ Aside0 (Kd.R k25 25 w' w.heap.size (fun _ => True) u5 x5_3) ∧ Aside0 (Kd.R (Kd.int .i64) 3 w' w.heap.size (fun _ => True) u6 x6_3) ∧ Aside0 (Below w.heap.size w w'))
              case atStart => exact ⟨(0), ap, H', ⟨Nat.le_refl _⟩, ⟨by (with_reducible repeat (first | apply Kd.R_alloc | apply Kd.R_drewN | apply Kd.R_drew | apply FR_alloc | apply FR_drewN | apply FR_drew)); exact HO_5.out⟩, ⟨by (with_reducible repeat (first | apply Kd.R_alloc | apply Kd.R_drewN | apply Kd.R_drew | apply FR_alloc | apply FR_drewN | apply FR_drew)); exact HO_6.out⟩, ⟨bo⟩⟩
              case round =>
               clear H'
               try clear c1
               try clear c2
               try clear p2
               try clear c3
               try clear c3b0
               try clear p3
               try clear q3
               try clear hx3
               try clear hf3
               try clear c4
               try clear hcv4
               try clear c5
               try clear c5b0
               try clear hcv5
               try clear c6
               try clear c6b0
               try clear p6
               try clear c8
               try clear c12
               try clear c12b0
               try clear c13
               try clear c13b0
               try clear c14
               try clear c14b0
               try clear c15
               try clear c16
               try clear c16b0
               try clear c17
               try clear c17b0
               try clear c18
               try clear c18b0
               try clear c19
               try clear c19b0
               try clear c22
               try clear c22b0
               try clear c22b1
               try clear c23
               try clear c23b0
               try clear c23b1
               try clear c26
               try clear c26b0
               try clear c29
               try clear c29b0
               try clear c30
               try clear c30b0
               try clear c32
               try clear c32b0
               try clear c32b1
               try clear c33
               try clear p33
               try clear q33
               try clear hx33
               try clear p34
               try clear q34
               try clear hx34
               try clear hf34
               try clear p35
               try clear q35
               try clear hx35
               try clear c37
               try clear c37b0
               try clear c37b1
               try clear hcv44
               try clear hcv54
               try clear c58
               try clear c58b0
               try clear c58b1
               try clear c58b2
               try clear c59
               try clear c59b0
               try clear c60
               try clear c60b0
               try clear c61
               try clear c61b0
               try clear c62
               try clear c62b0
               try clear c63
               try clear c64
               try clear p64
               try clear hcz47_0
               try clear hcz47_1
               try clear hcz47_2
               try clear hcz47_3
               try clear hcz47_4
               try clear hcz47_5
               try clear hcz57_0
               try clear hcz57_1
               try clear hcz57_2
               try clear hcz57_3
               try clear hcz57_4
               try clear hcz57_5
               try clear hfz47_0
               try clear hfz47_1
               try clear hfz47_2
               try clear hfz47_3
               try clear hfz47_4
               try clear hfz47_5
               try clear hfz57_0
               try clear hfz57_1
               try clear hfz57_2
               try clear hfz57_3
               try clear hfz57_4
               try clear hfz57_5
               try clear hx331_0
               try clear hx331_1
               try clear hx333_0
               try clear hx333_1
               try clear hx334_0
               try clear hx334_1
               try clear hx335_0
               try clear hx335_1
               try clear hx335_2
               try clear hx335_3
               try clear hx335_4
               try clear hx335_5
               try clear hx339_0
               try clear hx339_1
               try clear hx340_0
               try clear hx340_1
               try clear hx340_2
               try clear hx340_3
               try clear hx340_4
               try clear hx340_5
               try clear hx34_0
               try clear hx351_0
               try clear p2
               try clear p3
               try clear p331
               try clear p333
               try clear p334
               try clear p335
               try clear p339
               try clear p34
               try clear p340
               try clear p351
               try clear p6
               try clear q3
               try clear q331
               try clear q333
               try clear q334
               try clear q335
               try clear q339
               try clear q34
               try clear q340
               try clear q351
               obtain ⟨x16_5, rfl, HA, HK5, HO_5, HO_6, HB⟩ := hrel
               cases gk with
               | zero => exact absurd HA.out (by simp [fairwaylaw10_RecBack.l3])
               | succ k5 =>
                have H := HA.out
                clear HA
                simp only [fairwaylaw10_RecBack.l3] at H
                by_cases c68 : x16_5 ≤ (x4_3.size : Int)
                ·rw [if_pos c68] at H
                 have c68b0 : decide (x16_5 ≤ (x4_3.size : Int)) = true := decide_eq_true c68
                 clear c68
                 by_cases c69 : 0 ≤ x16_5
                 ·rw [if_pos c69] at H
                  have c69b0 := eq_true c69
                  have c69b1 : decide (0 ≤ x16_5) = true := decide_eq_true c69
                  clear c69
                  have c70b0 := eq_true (od : x16_5 ≤ (x4_3.size : Int))
                  replace H := Option.bind_eq_some_iff.mp H
                  obtain ⟨⟨t363, t364, t365⟩, A710, H⟩ := H
                  replace H : (fairwaylaw10_RecBack.l4 k5 l0 x3_1 x4_3 x5_3 x6_3 x16_5 t363 t364 t365 0 0 0) = some r := H
                  have A71 := Aside0.mk A710
                  clear A710
                  have H' := Aside0.mk H
                  clear H
                  go_wp2_with (first | ((with_reducible refine gate_callee (f := 25) rfl ?_); refine goesL_ (some 142) rfl rfl Try.func25 (by kernel_rfl) rfl #[.string (x4_3.extract 0 (x16_5 : Int).toNat)] rfl aa ?_; (with_reducible refine (rec_Scan.calls k5 (x4_3.extract 0 (x16_5 : Int).toNat) t363 t364 t365 _ A71.out).mono ?_); rintro e w72 ⟨v366, rfl, ho0, hb⟩; refine ⟨_, rfl, ?_⟩; replace HO_6 := Aside0.mk (Kd.R_below (rk HO_6.out) hb); have HO367 := Aside0.mk (Kd.R_lower (Kd.R_new' ho0 (Kd.R_lt (rk HO_5.out))) (below_size bo)); replace HO_5 := Aside0.mk (Kd.R_elder' (rk HO_5.out) (Kd.R_base ho0) hb); replace HB := Aside0.mk (below_step bo hb); (try clear hb); (try clear hb2); (try clear hk); (try clear hi); (try clear ho0)))
                  go_loopg [20, 21, 22] k5 (fun kq v20 v21 v22 w' => ∃ (x20_6 : Int) (x21_6 : Int) (x22_6 : Int), v20 = .int .i64 x20_6 ∧ v21 = .int .i64 x21_6 ∧ v22 = .int .i64 x22_6 ∧ Aside0 (fairwaylaw10_RecBack.l4 kq l0 x3_1 x4_3 x5_3 x6_3 x16_5 t363 t364 t365 x20_6 x21_6 x22_6 = some r) ∧ Aside0 (kq ≤ k5) ∧ Aside0 (Kd.R k25 25 w' w.heap.size (fun k_ => some k_ ≠ (v366 : Value).ownBlock) u5 x5_3) ∧ Aside0 (Kd.R (Kd.int .i64) 3 w' w.heap.size (fun _ => True) u6 x6_3) ∧ Aside0 (Kd.R k25 25 w' w.heap.size (fun k_ => some k_ ≠ (u5 : Value).ownBlock) v366 t363) ∧ Aside0 (Below w.heap.size w w'))
                  case atStart => exact ⟨(0), (0), (0), ap, ap, ap, H', ⟨Nat.le_refl _⟩, ⟨by (with_reducible repeat (first | apply Kd.R_alloc | apply Kd.R_drewN | apply Kd.R_drew | apply FR_alloc | apply FR_drewN | apply FR_drew)); exact Kd.R_mono HO_5.out (fun _ hk => hk.2)⟩, ⟨by (with_reducible repeat (first | apply Kd.R_alloc | apply Kd.R_drewN | apply Kd.R_drew | apply FR_alloc | apply FR_drewN | apply FR_drew)); exact HO_6.out⟩, ⟨by (with_reducible repeat (first | apply Kd.R_alloc | apply Kd.R_drewN | apply Kd.R_drew | apply FR_alloc | apply FR_drewN | apply FR_drew)); exact Kd.R_mono HO367.out (fun _ hk => hk.2)⟩, ⟨bo⟩⟩
                  case round =>
                   clear H'
                   try clear c1
                   try clear c2
                   try clear p2
                   try clear c3
                   try clear c3b0
                   try clear p3
                   try clear q3
                   try clear hx3
                   try clear hf3
                   try clear c4
                   try clear hcv4
                   try clear c5
                   try clear c5b0
                   try clear hcv5
                   try clear c6
                   try clear c6b0
                   try clear p6
                   try clear c7
                   try clear c8
                   try clear c12
                   try clear c12b0
                   try clear c13
                   try clear c13b0
                   try clear c14
                   try clear c14b0
                   try clear c15
                   try clear c16
                   try clear c16b0
                   try clear c17
                   try clear c17b0
                   try clear c18
                   try clear c18b0
                   try clear c19
                   try clear c19b0
                   try clear c22
                   try clear c22b0
                   try clear c22b1
                   try clear c23
                   try clear c23b0
                   try clear c23b1
                   try clear c25
                   try clear c26
                   try clear c26b0
                   try clear c29
                   try clear c29b0
                   try clear c30
                   try clear c30b0
                   try clear c32
                   try clear c32b0
                   try clear c32b1
                   try clear c33
                   try clear p33
                   try clear q33
                   try clear hx33
                   try clear p34
                   try clear q34
                   try clear hx34
                   try clear hf34
                   try clear p35
                   try clear q35
                   try clear hx35
                   try clear c37
                   try clear c37b0
                   try clear c37b1
                   try clear hcv44
                   try clear hcv54
                   try clear c58
                   try clear c58b0
                   try clear c58b1
                   try clear c58b2
                   try clear c59
                   try clear c59b0
                   try clear c60
                   try clear c60b0
                   try clear c61
                   try clear c61b0
                   try clear c62
                   try clear c62b0
                   try clear c63
                   try clear c64
                   try clear p64
                   try clear c68
                   try clear c68b0
                   try clear c69
                   try clear c69b0
                   try clear c69b1
                   try clear c70
                   try clear c70b0
                   try clear hcz47_0
                   try clear hcz47_1
                   try clear hcz47_2
                   try clear hcz47_3
                   try clear hcz47_4
                   try clear hcz47_5
                   try clear hcz57_0
                   try clear hcz57_1
                   try clear hcz57_2
                   try clear hcz57_3
                   try clear hcz57_4
                   try clear hcz57_5
                   try clear hfz47_0
                   try clear hfz47_1
                   try clear hfz47_2
                   try clear hfz47_3
                   try clear hfz47_4
                   try clear hfz47_5
                   try clear hfz57_0
                   try clear hfz57_1
                   try clear hfz57_2
                   try clear hfz57_3
                   try clear hfz57_4
                   try clear hfz57_5
                   try clear hx331_0
                   try clear hx331_1
                   try clear hx333_0
                   try clear hx333_1
                   try clear hx334_0
                   try clear hx334_1
                   try clear hx335_0
                   try clear hx335_1
                   try clear hx335_2
                   try clear hx335_3
                   try clear hx335_4
                   try clear hx335_5
                   try clear hx339_0
                   try clear hx339_1
                   try clear hx340_0
                   try clear hx340_1
                   try clear hx340_2
                   try clear hx340_3
                   try clear hx340_4
                   try clear hx340_5
                   try clear hx34_0
                   try clear hx351_0
                   try clear p2
                   try clear p3
                   try clear p33
                   try clear p331
                   try clear p333
                   try clear p334
                   try clear p335
                   try clear p339
                   try clear p34
                   try clear p340
                   try clear p35
                   try clear p351
                   try clear p6
                   try clear p64
                   try clear q3
                   try clear q33
                   try clear q331
                   try clear q333
                   try clear q334
                   try clear q335
                   try clear q339
                   try clear q34
                   try clear q340
                   try clear q35
                   try clear q351
                   obtain ⟨x20_6, x21_6, x22_6, rfl, rfl, rfl, HA, HK6, HO_5, HO_6, HO_17, HB⟩ := hrel
                   cases gk with
                   | zero => exact absurd HA.out (by simp [fairwaylaw10_RecBack.l4])
                   | succ k6 =>
                    have H := HA.out
                    clear HA
                    simp only [fairwaylaw10_RecBack.l4] at H
                    by_cases c73 : x22_6 < (x6_3.length : Int)
                    ·rw [if_pos c73] at H
                     have c73b0 : decide (x22_6 < (x6_3.length : Int)) = true := decide_eq_true c73
                     clear c73
                     by_cases c74 : 0 ≤ x22_6
                     ·rw [if_pos c74] at H
                      have c74b0 : decide (0 ≤ x22_6) = true := decide_eq_true c74
                      clear c74
                      by_cases c75 : (rd x6_3 x22_6) ≤ x16_5
                      ·rw [if_pos c75] at H
                       have c75b0 : decide ((rd x6_3 x22_6) ≤ x16_5) = true := decide_eq_true c75
                       clear c75
                       have H' := Aside0.mk H
                       clear H
                       obtain ⟨Ao76, co76, eo76⟩ := Kd.R_slice HO_6.out
                       subst eo76
                       have p368 : 0 ≤ (x22_6 : Int) := od
                       have q368 : x22_6 < (x6_3.length : Int) := od
                       obtain ⟨ad368, e368, hx368_0⟩ := Kd.at_int (Kd.R_reads' HO_6.out).2.2 x22_6 p368 q368
                       cases e368
                       replace p368 := eq_true p368
                       replace q368 := eq_true q368
                       try go_wp2
                       replace HO_5 := Aside0.mk (Kd.R_drew HO_5.out)
                       replace HO_6 := Aside0.mk (Kd.R_drew HO_6.out)
                       replace HO_17 := Aside0.mk (Kd.R_drew HO_17.out)
                       replace HB := Aside0.mk (below_drew1 HB.out)
                       have p369 : 0 ≤ (x22_6 : Int) := od
                       have q369 : x22_6 < (x6_3.length : Int) := od
                       obtain ⟨ad369, e369, hx369_0⟩ := Kd.at_int (Kd.R_reads' HO_6.out).2.2 x22_6 p369 q369
                       obtain rfl : ad368 = ad369 := (by injection e369)
                       replace p369 := eq_true p369
                       replace q369 := eq_true q369
                       refine start_ (n := 8) (S := fun w' => w'.cell? (ad368.add (x22_6).toNat) = some (.int .i64 (rd x6_3 x22_6))) (ds := []) #[O,O,O,O,O,O,O,O] (by kernel_rfl) rfl rfl (hx369_0) (fun hHeld => ?_); refine with_tabW fairwaylaw10_RecBack.tab36 fairwaylaw10_RecBack.bits36 (fun HT_ HW_ => ?_)
                       generalize wr.drew = w77 at HO_5 HO_6 HO_17 HB hx369_0 hHeld ⊢
                       refine pz (i := 0) (N := some 160) #[I,O,O,O,O,O,O,O] ?_
                       refine pz (i := 1) (N := some 161) #[I,I,O,O,O,O,O,O] ?_
                       refine pz (i := 2) (N := some 162) #[I,I,I,O,O,O,O,O] ?_
                       refine pz (i := 3) (N := some 163) #[I,I,I,I,O,O,O,O] ?_
                       refine pz (i := 4) (N := some 164) #[I,I,I,I,I,O,O,O] ?_
                       refine pz (i := 6) (N := some 20) #[I,I,I,I,I,O,I,O] ?_
                       refine take_ (i := 5) (N := some 165) (v := ?_) (a' := ?_) #[I,I,I,I,I,I,I,O] rfl rfl (take_ofW HT_.out HW_.out (by kernel_rfl)) (fun _ _ _ h => h) (Or.inl ⟨by rfl, ?_⟩) hHeld ?_ ?_
                       rotate_left
                       ·intro w' s0
                        go_simp
                        with_reducible rfl
                       rotate_left
                       ·simp only [Act.put, List.setIfInBounds_toArray, List.set_cons_zero, List.set_cons_succ, i64_w, i32_w]
                        rfl
                       refine pz (i := 7) (N := some 21) #[I,I,I,I,I,I,I,I] ?_
                       refine done_ (done_of HT_.out (by kernel_rfl)) ?_
                       try go_wp2
                       go_roundg k6
                       case measure => have := HK1.out; have := HJ1.out; have := HK3.out; have := HJ10.out; have := HK5.out; have := HK6.out; omega
                       case rel => exact ⟨(wrap64 (x22_6 + 1)), (rd x6_3 x22_6), (wrap64 (x22_6 + 1)), ap, ap, ap, H', ⟨by have := HK1.out; have := HJ1.out; have := HK3.out; have := HJ10.out; have := HK5.out; have := HK6.out; omega⟩, ⟨by (with_reducible repeat (first | apply Kd.R_alloc | apply Kd.R_drewN | apply Kd.R_drew | apply FR_alloc | apply FR_drewN | apply FR_drew)); exact HO_5.out⟩, ⟨by (with_reducible repeat (first | apply Kd.R_alloc | apply Kd.R_drewN | apply Kd.R_drew | apply FR_alloc | apply FR_drewN | apply FR_drew)); exact HO_6.out⟩, ⟨by (with_reducible repeat (first | apply Kd.R_alloc | apply Kd.R_drewN | apply Kd.R_drew | apply FR_alloc | apply FR_drewN | apply FR_drew)); exact HO_17.out⟩, ⟨bo⟩⟩
                      ·rw [if_neg c75] at H
                       have c75b0 : decide ((rd x6_3 x22_6) ≤ x16_5) = false := decide_eq_false c75
                       clear c75
                       by_cases c78 : 0 ≤ x20_6
                       ·rw [if_pos c78] at H
                        have c78b0 := eq_true c78
                        have c78b1 : decide (0 ≤ x20_6) = true := decide_eq_true c78
                        clear c78
                        by_cases c79 : x20_6 ≤ (x5_3.length : Int)
                        ·rw [if_pos c79] at H
                         have c79b0 := eq_true c79
                         have c79b1 : decide (x20_6 ≤ (x5_3.length : Int)) = true := decide_eq_true c79
                         clear c79
                         obtain ⟨y370, hy370⟩ : ∃ y_ : List (S25), y_ = (x5_3.take (x20_6 : Int).toNat) := ⟨_, rfl⟩
                         replace H : ((fairwayref0_EqRecs.f k6 t363 y370).bind fun t374 => (if t374 = true then (if t364 = x21_6 then (if (t365 != (x21_6 == x16_5)) = true then (some false) else (fairwaylaw10_RecBack.l3 k6 l0 x3_1 x4_3 x5_3 x6_3 (wrap64 ((wrap64 (x16_5 + 1)) + (wrap64 ((x4_3.size : Int) / 40)))))) else (some false)) else (some false))) = some r := by first | (rw [hy370]; with_reducible exact H) | (have H2_ := (Option.bind_some _ _).symm.trans H; rw [hy370]; with_reducible exact H2_) | (have H2_ := (Option.bind_some _ _).symm.trans H; with_reducible exact H2_) | with_reducible exact H | (rw [hy370]; exact H) | exact H
                         have Ny370 := Aside0.mk hy370
                         clear hy370
                         replace H := Option.bind_eq_some_iff.mp H
                         obtain ⟨t374, A800, H⟩ := H
                         replace H : (if t374 = true then (if t364 = x21_6 then (if (t365 != (x21_6 == x16_5)) = true then (some false) else (fairwaylaw10_RecBack.l3 k6 l0 x3_1 x4_3 x5_3 x6_3 (wrap64 ((wrap64 (x16_5 + 1)) + (wrap64 ((x4_3.size : Int) / 40)))))) else (some false)) else (some false)) = some r := H
                         have A80 := Aside0.mk A800
                         clear A800
                         by_cases c81 : t374 = true
                         ·subst c81
                          have H1 : (if t364 = x21_6 then (if (t365 != (x21_6 == x16_5)) = true then (some false) else (fairwaylaw10_RecBack.l3 k6 l0 x3_1 x4_3 x5_3 x6_3 (wrap64 ((wrap64 (x16_5 + 1)) + (wrap64 ((x4_3.size : Int) / 40)))))) else (some false)) = some r := by rw [if_pos rfl] at H; exact H
                          clear H
                          have H := H1
                          clear H1
                          by_cases c82 : t364 = x21_6
                          ·rw [if_pos c82] at H
                           have c82b0 : (t364 == x21_6) = true := beq_iff_eq.mpr c82
                           have c82b1 : (t364 != x21_6) = false := bne_eq_false_iff_eq.mpr c82
                           clear c82
                           by_cases c83 : (t365 != (x21_6 == x16_5)) = true
                           ·rw [if_pos c83] at H
                            have c83b0 : (t365 != (x21_6 == x16_5)) = true := c83
                            (try (have c83b1 : decide (t365 = (x21_6 == x16_5)) = false := by simpa using c83))
                            (try (have c83b2 : (t365 == (x21_6 == x16_5)) = false := by simpa using c83))
                            (try (have c83b3 : ¬ (t365 = (x21_6 == x16_5)) := by simpa using c83))
                            clear c83
                            obtain rfl := Option.some.inj H
                            obtain ⟨Ao84, co84, eo84⟩ := Kd.R_slice HO_6.out
                            subst eo84
                            have p368 : 0 ≤ (x22_6 : Int) := od
                            have q368 : x22_6 < (x6_3.length : Int) := od
                            obtain ⟨ad368, e368, hx368_0⟩ := Kd.at_int (Kd.R_reads' HO_6.out).2.2 x22_6 p368 q368
                            cases e368
                            replace p368 := eq_true p368
                            replace q368 := eq_true q368
                            obtain ⟨Ao86, co86, eo86⟩ := Kd.R_slice HO_5.out
                            subst eo86
                            have q85 : (x20_6 : Int) ≤ ((x5_3.length : Int) : Int) := od
                            obtain ⟨i085, hi085, _, hsz85, _⟩ := info_parts info25
                            have hroom85 : x5_3.length ≤ co86 := (Kd.R_reads' HO_5.out).2.1
                            have hC85 : Kd.C k25 _ Ao86 x5_3.length x5_3 := (Kd.R_reads' HO_5.out).2.2
                            have hcut85 := cut_to (P := Try.prog) 36 25 .i64 Try.underlying36 hi085 Ao86 x5_3.length co86 x20_6 (od) q85 hroom85
                            have hr85 := Kd.C_take (m := (x20_6 : Int).toNat) hC85 (by omega)
                            have hy85 : y370.length = (x20_6 : Int).toNat := (by rw [Ny370.out, List.length_take]; omega)
                            rw [← Ny370.out] at hr85
                            rw [← hy85] at hcut85
                            have HR373 := Aside0.mk hr85
                            have HC373 := Aside0.mk (show y370.length ≤ co86 from by omega)
                            clear hr85 hC85 hroom85 hi085 hsz85
                            have KY85 := Aside0.mk hy85
                            clear hy85
                            have KL85 := Aside0.mk (show (x20_6 : Int).toNat ≤ x5_3.length from by omega)
                            replace q85 := eq_true q85
                            obtain ⟨Ao87, co87, eo87⟩ := Kd.R_slice HO_17.out
                            subst eo87
                            go_wp2_with (first | ((with_reducible refine gate_callee (f := 27) rfl ?_); refine goesL_ (some 170) rfl rfl Try.func27 (by kernel_rfl) rfl #[.slice Ao87 t363.length co87, .slice Ao86 y370.length co86] rfl aa ?_; (with_reducible refine (fairwayref0_EqRecs.calls k6 _ _ t363 _ _ y370 true _ ?side1 ?side2 ?side3 ?side4 A80.out).mono ?_); (case side1 => repeat (first | exact (Kd.R_reads' HO_17.out).2.2 | (with_reducible refine Kd.C_alloc ?_ _) | (with_reducible refine Kd.C_drewN ?_ _) | (with_reducible refine Kd.C_drew ?_))); (case side2 => exact (Kd.R_reads' HO_17.out).2.1); (case side3 => exact (ck HR373.out)); (case side4 => exact HC373.out); rintro e w' ⟨rfl, ⟨nd, rfl⟩⟩; refine ⟨_, rfl, ?_⟩))
                            go_ret
                            exact ⟨er, bo⟩
                           ·rw [if_neg c83] at H
                            have c83b0 : (t365 != (x21_6 == x16_5)) = false := by simpa using c83
                            (try (have c83b1 : decide (t365 = (x21_6 == x16_5)) = true := by simpa using c83))
                            (try (have c83b2 : (t365 == (x21_6 == x16_5)) = true := by simpa using c83))
                            clear c83
                            have H' := Aside0.mk H
                            clear H
                            obtain ⟨Ao88, co88, eo88⟩ := Kd.R_slice HO_6.out
                            subst eo88
                            have p368 : 0 ≤ (x22_6 : Int) := od
                            have q368 : x22_6 < (x6_3.length : Int) := od
                            obtain ⟨ad368, e368, hx368_0⟩ := Kd.at_int (Kd.R_reads' HO_6.out).2.2 x22_6 p368 q368
                            cases e368
                            replace p368 := eq_true p368
                            replace q368 := eq_true q368
                            obtain ⟨Ao90, co90, eo90⟩ := Kd.R_slice HO_5.out
                            subst eo90
                            have q89 : (x20_6 : Int) ≤ ((x5_3.length : Int) : Int) := od
                            obtain ⟨i089, hi089, _, hsz89, _⟩ := info_parts info25
                            have hroom89 : x5_3.length ≤ co90 := (Kd.R_reads' HO_5.out).2.1
                            have hC89 : Kd.C k25 _ Ao90 x5_3.length x5_3 := (Kd.R_reads' HO_5.out).2.2
                            have hcut89 := cut_to (P := Try.prog) 36 25 .i64 Try.underlying36 hi089 Ao90 x5_3.length co90 x20_6 (od) q89 hroom89
                            have hr89 := Kd.C_take (m := (x20_6 : Int).toNat) hC89 (by omega)
                            have hy89 : y370.length = (x20_6 : Int).toNat := (by rw [Ny370.out, List.length_take]; omega)
                            rw [← Ny370.out] at hr89
                            rw [← hy89] at hcut89
                            have HR373 := Aside0.mk hr89
                            have HC373 := Aside0.mk (show y370.length ≤ co90 from by omega)
                            clear hr89 hC89 hroom89 hi089 hsz89
                            have KY89 := Aside0.mk hy89
                            clear hy89
                            have KL89 := Aside0.mk (show (x20_6 : Int).toNat ≤ x5_3.length from by omega)
                            replace q89 := eq_true q89
                            obtain ⟨Ao91, co91, eo91⟩ := Kd.R_slice HO_17.out
                            subst eo91
                            go_wp2_with (first | ((with_reducible refine gate_callee (f := 27) rfl ?_); refine goesL_ (some 170) rfl rfl Try.func27 (by kernel_rfl) rfl #[.slice Ao91 t363.length co91, .slice Ao90 y370.length co90] rfl aa ?_; (with_reducible refine (fairwayref0_EqRecs.calls k6 _ _ t363 _ _ y370 true _ ?side1 ?side2 ?side3 ?side4 A80.out).mono ?_); (case side1 => repeat (first | exact (Kd.R_reads' HO_17.out).2.2 | (with_reducible refine Kd.C_alloc ?_ _) | (with_reducible refine Kd.C_drewN ?_ _) | (with_reducible refine Kd.C_drew ?_))); (case side2 => exact (Kd.R_reads' HO_17.out).2.1); (case side3 => exact (ck HR373.out)); (case side4 => exact HC373.out); rintro e w' ⟨rfl, ⟨nd, rfl⟩⟩; refine ⟨_, rfl, ?_⟩))
                            go_roundg k6
                            case measure => have := HK1.out; have := HJ1.out; have := HK3.out; have := HJ10.out; have := HK5.out; have := HK6.out; omega
                            case rel => exact ⟨(wrap64 ((wrap64 (x16_5 + 1)) + (wrap64 ((x4_3.size : Int) / 40)))), ap, H', ⟨by have := HK1.out; have := HJ1.out; have := HK3.out; have := HJ10.out; have := HK5.out; have := HK6.out; omega⟩, ⟨by (with_reducible repeat (first | apply Kd.R_alloc | apply Kd.R_drewN | apply Kd.R_drew | apply FR_alloc | apply FR_drewN | apply FR_drew)); exact Kd.R_mono HO_5.out (fun _ hk => trivial)⟩, ⟨by (with_reducible repeat (first | apply Kd.R_alloc | apply Kd.R_drewN | apply Kd.R_drew | apply FR_alloc | apply FR_drewN | apply FR_drew)); exact HO_6.out⟩, ⟨bo⟩⟩
                          ·rw [if_neg c82] at H
                           have c82b0 : (t364 == x21_6) = false := beq_eq_false_iff_ne.mpr c82
                           have c82b1 : (t364 != x21_6) = true := bne_iff_ne.mpr c82
                           obtain rfl := Option.some.inj H
                           obtain ⟨Ao92, co92, eo92⟩ := Kd.R_slice HO_6.out
                           subst eo92
                           have p368 : 0 ≤ (x22_6 : Int) := od
                           have q368 : x22_6 < (x6_3.length : Int) := od
                           obtain ⟨ad368, e368, hx368_0⟩ := Kd.at_int (Kd.R_reads' HO_6.out).2.2 x22_6 p368 q368
                           cases e368
                           replace p368 := eq_true p368
                           replace q368 := eq_true q368
                           obtain ⟨Ao94, co94, eo94⟩ := Kd.R_slice HO_5.out
                           subst eo94
                           have q93 : (x20_6 : Int) ≤ ((x5_3.length : Int) : Int) := od
                           obtain ⟨i093, hi093, _, hsz93, _⟩ := info_parts info25
                           have hroom93 : x5_3.length ≤ co94 := (Kd.R_reads' HO_5.out).2.1
                           have hC93 : Kd.C k25 _ Ao94 x5_3.length x5_3 := (Kd.R_reads' HO_5.out).2.2
                           have hcut93 := cut_to (P := Try.prog) 36 25 .i64 Try.underlying36 hi093 Ao94 x5_3.length co94 x20_6 (od) q93 hroom93
                           have hr93 := Kd.C_take (m := (x20_6 : Int).toNat) hC93 (by omega)
                           have hy93 : y370.length = (x20_6 : Int).toNat := (by rw [Ny370.out, List.length_take]; omega)
                           rw [← Ny370.out] at hr93
                           rw [← hy93] at hcut93
                           have HR373 := Aside0.mk hr93
                           have HC373 := Aside0.mk (show y370.length ≤ co94 from by omega)
                           clear hr93 hC93 hroom93 hi093 hsz93
                           have KY93 := Aside0.mk hy93
                           clear hy93
                           have KL93 := Aside0.mk (show (x20_6 : Int).toNat ≤ x5_3.length from by omega)
                           replace q93 := eq_true q93
                           obtain ⟨Ao95, co95, eo95⟩ := Kd.R_slice HO_17.out
                           subst eo95
                           go_wp2_with (first | ((with_reducible refine gate_callee (f := 27) rfl ?_); refine goesL_ (some 170) rfl rfl Try.func27 (by kernel_rfl) rfl #[.slice Ao95 t363.length co95, .slice Ao94 y370.length co94] rfl aa ?_; (with_reducible refine (fairwayref0_EqRecs.calls k6 _ _ t363 _ _ y370 true _ ?side1 ?side2 ?side3 ?side4 A80.out).mono ?_); (case side1 => repeat (first | exact (Kd.R_reads' HO_17.out).2.2 | (with_reducible refine Kd.C_alloc ?_ _) | (with_reducible refine Kd.C_drewN ?_ _) | (with_reducible refine Kd.C_drew ?_))); (case side2 => exact (Kd.R_reads' HO_17.out).2.1); (case side3 => exact (ck HR373.out)); (case side4 => exact HC373.out); rintro e w' ⟨rfl, ⟨nd, rfl⟩⟩; refine ⟨_, rfl, ?_⟩))
                           go_ret
                           exact ⟨er, bo⟩
                         ·replace c81 := Bool.eq_false_iff.mpr c81
                          subst c81
                          have H1 : (some false) = some r := by rw [if_neg (show ¬ (false = true) by decide)] at H; exact H
                          clear H
                          have H := H1
                          clear H1
                          obtain rfl := Option.some.inj H
                          obtain ⟨Ao96, co96, eo96⟩ := Kd.R_slice HO_6.out
                          subst eo96
                          have p368 : 0 ≤ (x22_6 : Int) := od
                          have q368 : x22_6 < (x6_3.length : Int) := od
                          obtain ⟨ad368, e368, hx368_0⟩ := Kd.at_int (Kd.R_reads' HO_6.out).2.2 x22_6 p368 q368
                          cases e368
                          replace p368 := eq_true p368
                          replace q368 := eq_true q368
                          obtain ⟨Ao98, co98, eo98⟩ := Kd.R_slice HO_5.out
                          subst eo98
                          have q97 : (x20_6 : Int) ≤ ((x5_3.length : Int) : Int) := od
                          obtain ⟨i097, hi097, _, hsz97, _⟩ := info_parts info25
                          have hroom97 : x5_3.length ≤ co98 := (Kd.R_reads' HO_5.out).2.1
                          have hC97 : Kd.C k25 _ Ao98 x5_3.length x5_3 := (Kd.R_reads' HO_5.out).2.2
                          have hcut97 := cut_to (P := Try.prog) 36 25 .i64 Try.underlying36 hi097 Ao98 x5_3.length co98 x20_6 (od) q97 hroom97
                          have hr97 := Kd.C_take (m := (x20_6 : Int).toNat) hC97 (by omega)
                          have hy97 : y370.length = (x20_6 : Int).toNat := (by rw [Ny370.out, List.length_take]; omega)
                          rw [← Ny370.out] at hr97
                          rw [← hy97] at hcut97
                          have HR373 := Aside0.mk hr97
                          have HC373 := Aside0.mk (show y370.length ≤ co98 from by omega)
                          clear hr97 hC97 hroom97 hi097 hsz97
                          have KY97 := Aside0.mk hy97
                          clear hy97
                          have KL97 := Aside0.mk (show (x20_6 : Int).toNat ≤ x5_3.length from by omega)
                          replace q97 := eq_true q97
                          obtain ⟨Ao99, co99, eo99⟩ := Kd.R_slice HO_17.out
                          subst eo99
                          go_wp2_with (first | ((with_reducible refine gate_callee (f := 27) rfl ?_); refine goesL_ (some 170) rfl rfl Try.func27 (by kernel_rfl) rfl #[.slice Ao99 t363.length co99, .slice Ao98 y370.length co98] rfl aa ?_; (with_reducible refine (fairwayref0_EqRecs.calls k6 _ _ t363 _ _ y370 false _ ?side1 ?side2 ?side3 ?side4 A80.out).mono ?_); (case side1 => repeat (first | exact (Kd.R_reads' HO_17.out).2.2 | (with_reducible refine Kd.C_alloc ?_ _) | (with_reducible refine Kd.C_drewN ?_ _) | (with_reducible refine Kd.C_drew ?_))); (case side2 => exact (Kd.R_reads' HO_17.out).2.1); (case side3 => exact (ck HR373.out)); (case side4 => exact HC373.out); rintro e w' ⟨rfl, ⟨nd, rfl⟩⟩; refine ⟨_, rfl, ?_⟩))
                          go_ret
                          exact ⟨er, bo⟩
                        ·rw [if_neg c79] at H
                         exact absurd H (by simp)
                       ·rw [if_neg c78] at H
                        exact absurd H (by simp)
                     ·rw [if_neg c74] at H
                      exact absurd H (by simp)
                    ·rw [if_neg c73] at H
                     have c73b0 : decide (x22_6 < (x6_3.length : Int)) = false := decide_eq_false c73
                     clear c73
                     by_cases c100 : 0 ≤ x20_6
                     ·rw [if_pos c100] at H
                      have c100b0 := eq_true c100
                      have c100b1 : decide (0 ≤ x20_6) = true := decide_eq_true c100
                      clear c100
                      by_cases c101 : x20_6 ≤ (x5_3.length : Int)
                      ·rw [if_pos c101] at H
                       have c101b0 := eq_true c101
                       have c101b1 : decide (x20_6 ≤ (x5_3.length : Int)) = true := decide_eq_true c101
                       clear c101
                       obtain ⟨y375, hy375⟩ : ∃ y_ : List (S25), y_ = (x5_3.take (x20_6 : Int).toNat) := ⟨_, rfl⟩
                       replace H : ((fairwayref0_EqRecs.f k6 t363 y375).bind fun t379 => (if t379 = true then (if t364 = x21_6 then (if (t365 != (x21_6 == x16_5)) = true then (some false) else (fairwaylaw10_RecBack.l3 k6 l0 x3_1 x4_3 x5_3 x6_3 (wrap64 ((wrap64 (x16_5 + 1)) + (wrap64 ((x4_3.size : Int) / 40)))))) else (some false)) else (some false))) = some r := by first | (rw [hy375]; with_reducible exact H) | (have H2_ := (Option.bind_some _ _).symm.trans H; rw [hy375]; with_reducible exact H2_) | (have H2_ := (Option.bind_some _ _).symm.trans H; with_reducible exact H2_) | with_reducible exact H | (rw [hy375]; exact H) | exact H
                       have Ny375 := Aside0.mk hy375
                       clear hy375
                       replace H := Option.bind_eq_some_iff.mp H
                       obtain ⟨t379, A1020, H⟩ := H
                       replace H : (if t379 = true then (if t364 = x21_6 then (if (t365 != (x21_6 == x16_5)) = true then (some false) else (fairwaylaw10_RecBack.l3 k6 l0 x3_1 x4_3 x5_3 x6_3 (wrap64 ((wrap64 (x16_5 + 1)) + (wrap64 ((x4_3.size : Int) / 40)))))) else (some false)) else (some false)) = some r := H
                       have A102 := Aside0.mk A1020
                       clear A1020
                       by_cases c103 : t379 = true
                       ·subst c103
                        have H1 : (if t364 = x21_6 then (if (t365 != (x21_6 == x16_5)) = true then (some false) else (fairwaylaw10_RecBack.l3 k6 l0 x3_1 x4_3 x5_3 x6_3 (wrap64 ((wrap64 (x16_5 + 1)) + (wrap64 ((x4_3.size : Int) / 40)))))) else (some false)) = some r := by rw [if_pos rfl] at H; exact H
                        clear H
                        have H := H1
                        clear H1
                        by_cases c104 : t364 = x21_6
                        ·rw [if_pos c104] at H
                         have c104b0 : (t364 == x21_6) = true := beq_iff_eq.mpr c104
                         have c104b1 : (t364 != x21_6) = false := bne_eq_false_iff_eq.mpr c104
                         clear c104
                         by_cases c105 : (t365 != (x21_6 == x16_5)) = true
                         ·rw [if_pos c105] at H
                          have c105b0 : (t365 != (x21_6 == x16_5)) = true := c105
                          (try (have c105b1 : decide (t365 = (x21_6 == x16_5)) = false := by simpa using c105))
                          (try (have c105b2 : (t365 == (x21_6 == x16_5)) = false := by simpa using c105))
                          (try (have c105b3 : ¬ (t365 = (x21_6 == x16_5)) := by simpa using c105))
                          clear c105
                          obtain rfl := Option.some.inj H
                          obtain ⟨Ao106, co106, eo106⟩ := Kd.R_slice HO_6.out
                          subst eo106
                          obtain ⟨Ao108, co108, eo108⟩ := Kd.R_slice HO_5.out
                          subst eo108
                          have q107 : (x20_6 : Int) ≤ ((x5_3.length : Int) : Int) := od
                          obtain ⟨i0107, hi0107, _, hsz107, _⟩ := info_parts info25
                          have hroom107 : x5_3.length ≤ co108 := (Kd.R_reads' HO_5.out).2.1
                          have hC107 : Kd.C k25 _ Ao108 x5_3.length x5_3 := (Kd.R_reads' HO_5.out).2.2
                          have hcut107 := cut_to (P := Try.prog) 36 25 .i64 Try.underlying36 hi0107 Ao108 x5_3.length co108 x20_6 (od) q107 hroom107
                          have hr107 := Kd.C_take (m := (x20_6 : Int).toNat) hC107 (by omega)
                          have hy107 : y375.length = (x20_6 : Int).toNat := (by rw [Ny375.out, List.length_take]; omega)
                          rw [← Ny375.out] at hr107
                          rw [← hy107] at hcut107
                          have HR378 := Aside0.mk hr107
                          have HC378 := Aside0.mk (show y375.length ≤ co108 from by omega)
                          clear hr107 hC107 hroom107 hi0107 hsz107
                          have KY107 := Aside0.mk hy107
                          clear hy107
                          have KL107 := Aside0.mk (show (x20_6 : Int).toNat ≤ x5_3.length from by omega)
                          replace q107 := eq_true q107
                          obtain ⟨Ao109, co109, eo109⟩ := Kd.R_slice HO_17.out
                          subst eo109
                          go_wp2_with (first | ((with_reducible refine gate_callee (f := 27) rfl ?_); refine goesL_ (some 170) rfl rfl Try.func27 (by kernel_rfl) rfl #[.slice Ao109 t363.length co109, .slice Ao108 y375.length co108] rfl aa ?_; (with_reducible refine (fairwayref0_EqRecs.calls k6 _ _ t363 _ _ y375 true _ ?side1 ?side2 ?side3 ?side4 A102.out).mono ?_); (case side1 => repeat (first | exact (Kd.R_reads' HO_17.out).2.2 | (with_reducible refine Kd.C_alloc ?_ _) | (with_reducible refine Kd.C_drewN ?_ _) | (with_reducible refine Kd.C_drew ?_))); (case side2 => exact (Kd.R_reads' HO_17.out).2.1); (case side3 => exact (ck HR378.out)); (case side4 => exact HC378.out); rintro e w' ⟨rfl, ⟨nd, rfl⟩⟩; refine ⟨_, rfl, ?_⟩))
                          go_ret
                          exact ⟨er, bo⟩
                         ·rw [if_neg c105] at H
                          have c105b0 : (t365 != (x21_6 == x16_5)) = false := by simpa using c105
                          (try (have c105b1 : decide (t365 = (x21_6 == x16_5)) = true := by simpa using c105))
                          (try (have c105b2 : (t365 == (x21_6 == x16_5)) = true := by simpa using c105))
                          clear c105
                          have H' := Aside0.mk H
                          clear H
                          obtain ⟨Ao110, co110, eo110⟩ := Kd.R_slice HO_6.out
                          subst eo110
                          obtain ⟨Ao112, co112, eo112⟩ := Kd.R_slice HO_5.out
                          subst eo112
                          have q111 : (x20_6 : Int) ≤ ((x5_3.length : Int) : Int) := od
                          obtain ⟨i0111, hi0111, _, hsz111, _⟩ := info_parts info25
                          have hroom111 : x5_3.length ≤ co112 := (Kd.R_reads' HO_5.out).2.1
                          have hC111 : Kd.C k25 _ Ao112 x5_3.length x5_3 := (Kd.R_reads' HO_5.out).2.2
                          have hcut111 := cut_to (P := Try.prog) 36 25 .i64 Try.underlying36 hi0111 Ao112 x5_3.length co112 x20_6 (od) q111 hroom111
                          have hr111 := Kd.C_take (m := (x20_6 : Int).toNat) hC111 (by omega)
                          have hy111 : y375.length = (x20_6 : Int).toNat := (by rw [Ny375.out, List.length_take]; omega)
                          rw [← Ny375.out] at hr111
                          rw [← hy111] at hcut111
                          have HR378 := Aside0.mk hr111
                          have HC378 := Aside0.mk (show y375.length ≤ co112 from by omega)
                          clear hr111 hC111 hroom111 hi0111 hsz111
                          have KY111 := Aside0.mk hy111
                          clear hy111
                          have KL111 := Aside0.mk (show (x20_6 : Int).toNat ≤ x5_3.length from by omega)
                          replace q111 := eq_true q111
                          obtain ⟨Ao113, co113, eo113⟩ := Kd.R_slice HO_17.out
                          subst eo113
                          go_wp2_with (first | ((with_reducible refine gate_callee (f := 27) rfl ?_); refine goesL_ (some 170) rfl rfl Try.func27 (by kernel_rfl) rfl #[.slice Ao113 t363.length co113, .slice Ao112 y375.length co112] rfl aa ?_; (with_reducible refine (fairwayref0_EqRecs.calls k6 _ _ t363 _ _ y375 true _ ?side1 ?side2 ?side3 ?side4 A102.out).mono ?_); (case side1 => repeat (first | exact (Kd.R_reads' HO_17.out).2.2 | (with_reducible refine Kd.C_alloc ?_ _) | (with_reducible refine Kd.C_drewN ?_ _) | (with_reducible refine Kd.C_drew ?_))); (case side2 => exact (Kd.R_reads' HO_17.out).2.1); (case side3 => exact (ck HR378.out)); (case side4 => exact HC378.out); rintro e w' ⟨rfl, ⟨nd, rfl⟩⟩; refine ⟨_, rfl, ?_⟩))
                          go_roundg k6
                          case measure => have := HK1.out; have := HJ1.out; have := HK3.out; have := HJ10.out; have := HK5.out; have := HK6.out; omega
                          case rel => exact ⟨(wrap64 ((wrap64 (x16_5 + 1)) + (wrap64 ((x4_3.size : Int) / 40)))), ap, H', ⟨by have := HK1.out; have := HJ1.out; have := HK3.out; have := HJ10.out; have := HK5.out; have := HK6.out; omega⟩, ⟨by (with_reducible repeat (first | apply Kd.R_alloc | apply Kd.R_drewN | apply Kd.R_drew | apply FR_alloc | apply FR_drewN | apply FR_drew)); exact Kd.R_mono HO_5.out (fun _ hk => trivial)⟩, ⟨by (with_reducible repeat (first | apply Kd.R_alloc | apply Kd.R_drewN | apply Kd.R_drew | apply FR_alloc | apply FR_drewN | apply FR_drew)); exact HO_6.out⟩, ⟨bo⟩⟩
                        ·rw [if_neg c104] at H
                         have c104b0 : (t364 == x21_6) = false := beq_eq_false_iff_ne.mpr c104
                         have c104b1 : (t364 != x21_6) = true := bne_iff_ne.mpr c104
                         obtain rfl := Option.some.inj H
                         obtain ⟨Ao114, co114, eo114⟩ := Kd.R_slice HO_6.out
                         subst eo114
                         obtain ⟨Ao116, co116, eo116⟩ := Kd.R_slice HO_5.out
                         subst eo116
                         have q115 : (x20_6 : Int) ≤ ((x5_3.length : Int) : Int) := od
                         obtain ⟨i0115, hi0115, _, hsz115, _⟩ := info_parts info25
                         have hroom115 : x5_3.length ≤ co116 := (Kd.R_reads' HO_5.out).2.1
                         have hC115 : Kd.C k25 _ Ao116 x5_3.length x5_3 := (Kd.R_reads' HO_5.out).2.2
                         have hcut115 := cut_to (P := Try.prog) 36 25 .i64 Try.underlying36 hi0115 Ao116 x5_3.length co116 x20_6 (od) q115 hroom115
                         have hr115 := Kd.C_take (m := (x20_6 : Int).toNat) hC115 (by omega)
                         have hy115 : y375.length = (x20_6 : Int).toNat := (by rw [Ny375.out, List.length_take]; omega)
                         rw [← Ny375.out] at hr115
                         rw [← hy115] at hcut115
                         have HR378 := Aside0.mk hr115
                         have HC378 := Aside0.mk (show y375.length ≤ co116 from by omega)
                         clear hr115 hC115 hroom115 hi0115 hsz115
                         have KY115 := Aside0.mk hy115
                         clear hy115
                         have KL115 := Aside0.mk (show (x20_6 : Int).toNat ≤ x5_3.length from by omega)
                         replace q115 := eq_true q115
                         obtain ⟨Ao117, co117, eo117⟩ := Kd.R_slice HO_17.out
                         subst eo117
                         go_wp2_with (first | ((with_reducible refine gate_callee (f := 27) rfl ?_); refine goesL_ (some 170) rfl rfl Try.func27 (by kernel_rfl) rfl #[.slice Ao117 t363.length co117, .slice Ao116 y375.length co116] rfl aa ?_; (with_reducible refine (fairwayref0_EqRecs.calls k6 _ _ t363 _ _ y375 true _ ?side1 ?side2 ?side3 ?side4 A102.out).mono ?_); (case side1 => repeat (first | exact (Kd.R_reads' HO_17.out).2.2 | (with_reducible refine Kd.C_alloc ?_ _) | (with_reducible refine Kd.C_drewN ?_ _) | (with_reducible refine Kd.C_drew ?_))); (case side2 => exact (Kd.R_reads' HO_17.out).2.1); (case side3 => exact (ck HR378.out)); (case side4 => exact HC378.out); rintro e w' ⟨rfl, ⟨nd, rfl⟩⟩; refine ⟨_, rfl, ?_⟩))
                         go_ret
                         exact ⟨er, bo⟩
                       ·replace c103 := Bool.eq_false_iff.mpr c103
                        subst c103
                        have H1 : (some false) = some r := by rw [if_neg (show ¬ (false = true) by decide)] at H; exact H
                        clear H
                        have H := H1
                        clear H1
                        obtain rfl := Option.some.inj H
                        obtain ⟨Ao118, co118, eo118⟩ := Kd.R_slice HO_6.out
                        subst eo118
                        obtain ⟨Ao120, co120, eo120⟩ := Kd.R_slice HO_5.out
                        subst eo120
                        have q119 : (x20_6 : Int) ≤ ((x5_3.length : Int) : Int) := od
                        obtain ⟨i0119, hi0119, _, hsz119, _⟩ := info_parts info25
                        have hroom119 : x5_3.length ≤ co120 := (Kd.R_reads' HO_5.out).2.1
                        have hC119 : Kd.C k25 _ Ao120 x5_3.length x5_3 := (Kd.R_reads' HO_5.out).2.2
                        have hcut119 := cut_to (P := Try.prog) 36 25 .i64 Try.underlying36 hi0119 Ao120 x5_3.length co120 x20_6 (od) q119 hroom119
                        have hr119 := Kd.C_take (m := (x20_6 : Int).toNat) hC119 (by omega)
                        have hy119 : y375.length = (x20_6 : Int).toNat := (by rw [Ny375.out, List.length_take]; omega)
                        rw [← Ny375.out] at hr119
                        rw [← hy119] at hcut119
                        have HR378 := Aside0.mk hr119
                        have HC378 := Aside0.mk (show y375.length ≤ co120 from by omega)
                        clear hr119 hC119 hroom119 hi0119 hsz119
                        have KY119 := Aside0.mk hy119
                        clear hy119
                        have KL119 := Aside0.mk (show (x20_6 : Int).toNat ≤ x5_3.length from by omega)
                        replace q119 := eq_true q119
                        obtain ⟨Ao121, co121, eo121⟩ := Kd.R_slice HO_17.out
                        subst eo121
                        go_wp2_with (first | ((with_reducible refine gate_callee (f := 27) rfl ?_); refine goesL_ (some 170) rfl rfl Try.func27 (by kernel_rfl) rfl #[.slice Ao121 t363.length co121, .slice Ao120 y375.length co120] rfl aa ?_; (with_reducible refine (fairwayref0_EqRecs.calls k6 _ _ t363 _ _ y375 false _ ?side1 ?side2 ?side3 ?side4 A102.out).mono ?_); (case side1 => repeat (first | exact (Kd.R_reads' HO_17.out).2.2 | (with_reducible refine Kd.C_alloc ?_ _) | (with_reducible refine Kd.C_drewN ?_ _) | (with_reducible refine Kd.C_drew ?_))); (case side2 => exact (Kd.R_reads' HO_17.out).2.1); (case side3 => exact (ck HR378.out)); (case side4 => exact HC378.out); rintro e w' ⟨rfl, ⟨nd, rfl⟩⟩; refine ⟨_, rfl, ?_⟩))
                        go_ret
                        exact ⟨er, bo⟩
                      ·rw [if_neg c101] at H
                       exact absurd H (by simp)
                     ·rw [if_neg c100] at H
                      exact absurd H (by simp)
                 ·rw [if_neg c69] at H
                  exact absurd H (by simp)
                ·rw [if_neg c68] at H
                 have c68b0 : decide (x16_5 ≤ (x4_3.size : Int)) = false := decide_eq_false c68
                 clear c68
                 have H' := Aside0.mk H
                 clear H
                 go_wp2
                 go_roundg k5
                 case measure => have := HK1.out; have := HJ1.out; have := HK3.out; have := HJ10.out; have := HK5.out; omega
                 case rel => exact ⟨(wrap64 (x3_1 + 1)), ap, H', ⟨by have := HK1.out; have := HJ1.out; have := HK3.out; have := HJ10.out; have := HK5.out; omega⟩, ⟨bo⟩⟩
       ·rw [if_neg c6] at H
        exact absurd H (by simp)
      ·rw [if_neg c5] at H
       exact absurd H (by simp)
     ·replace c4 := Bool.eq_false_iff.mpr c4
      subst c4
      have H1 : ((fairwaylaw10_wakes.f kj1).bind fun t330 => (some t330)) = some r := by rw [if_neg (show ¬ (false = true) by decide)] at H; exact H
      clear H
      have H := H1
      clear H1
      replace H := Option.bind_eq_some_iff.mp H
      obtain ⟨t330, A1220, H⟩ := H
      replace H : (some t330) = some r := H
      have A122 := Aside0.mk A1220
      clear A1220
      obtain rfl := Option.some.inj H
      go_wp2_with (first | ((with_reducible refine gate_callee (f := 18) rfl ?_); refine goesL_ (some 184) rfl rfl Try.func18 (by kernel_rfl) rfl #[] rfl aa ?_; (with_reducible refine (fairwaylaw10_wakes.calls kj1  t330 _ A122.out).mono ?_); rintro e w123 ⟨rfl, hb⟩; refine ⟨_, rfl, ?_⟩; replace HB := Aside0.mk (below_step bo hb); (try clear hb); (try clear hb2); (try clear hk); (try clear hi)))
      go_ret
      exact ⟨er, bo⟩

end Go.Proofs.Ytmabdfdmccbfnaa.P

/- From data to typed values: whatever the claim's reader reads at a type is told by the print's kinds, with the bounds of the reach. -/
namespace Go.Proofs.Ytmabdfdmccbfnaa.Open
open Go.RowKit Go.Proofs.YtmabdfdmccbfnaaW.PrintWords Go.Proofs.YtmabdfdmccbfnaaW.PrintLast
set_option linter.unusedVariables false

/-- What is read at type t is told by kind k, and is good. -/
structure Rd {α : Type} (P : Program) (t : TypeId) (k : Kd α) (good : α → Prop) : Prop where
  sz : P.cellsOf t = k.sz
  rd : ∀ {H : Type} (enc : TypeId × Value → H) (w : World) (fuel : Nat) (cs : List Value) (d : DataW H) (ps : List MemPlace),
    DataW.trod enc P w 0 (fun _ => true) true fuel t cs = some (d, ps) → (∀ n ∈ d.weights P t, n ≤ reachBytes) → ∃ x, k.K w x cs ∧ good x

theorem rd_int {P : Program} {t : TypeId} {k : IntKind} (hu : P.underlying t = some (.int k)) (hc : P.cellsOf t = 1) : Rd P t (Kd.int k) (fun n => (Lit.int k n).wf = true) where
  sz := hc
  rd := by
    intro H enc w fuel cs d ps h _
    obtain ⟨n, rfl, _, hw⟩ := DataW.trod_int hu h
    exact ⟨n, rfl, hw⟩

theorem rd_bool {P : Program} {t : TypeId} (hu : P.underlying t = some .bool) (hc : P.cellsOf t = 1) : Rd P t Kd.bool (fun _ => True) where
  sz := hc
  rd := by
    intro H enc w fuel cs d ps h _
    obtain ⟨b, rfl, _⟩ := DataW.trod_bool hu h
    exact ⟨b, rfl, trivial⟩

theorem rd_string {P : Program} {t : TypeId} (hu : P.underlying t = some .string) (hc : P.cellsOf t = 1) : Rd P t Kd.string (fun s => s.size ≤ 140737488351232) where
  sz := hc
  rd := by
    intro H enc w fuel cs d ps h hw
    obtain ⟨s, rfl, hx, _⟩ := DataW.trod_string hu h
    obtain ⟨rfl, rfl⟩ := Prod.mk.inj hx
    refine ⟨s, rfl, ?_⟩
    have := hw s.data.toList.length (by simp [DataW.weights])
    simpa [reachBytes] using this

/-- A struct's fields, from one on: their cells in line. -/
structure Fs {α : Type} (P : Program) (fs : List Field) (off : Nat) (k : Kd α) (good : α → Prop) : Prop where
  rd : ∀ {H : Type} (enc : TypeId × Value → H) (w : World) (fuel : Nat) (cs : List Value) (ds : List (DataW H × List MemPlace)),
    ds.length = fs.length → (∀ (i : Nat) f, fs[i]? = some f → DataW.trod enc P w 0 (fun _ => true) true fuel f.type ((cs.drop f.offset).take (P.cellsOf f.type)) = ds[i]?) →
    (∀ n ∈ DataW.weightsEach P (fs.map (·.type)) (ds.map (·.1)), n ≤ reachBytes) → cs.length = off + k.sz → ∃ x, k.K w x (cs.drop off) ∧ good x

theorem fs_last {α : Type} {P : Program} {f : Field} {k : Kd α} {good : α → Prop} (h : Rd P f.type k good) : Fs P [f] f.offset k good where
  rd := by
    intro H enc w fuel cs ds hl hd hw hc
    match ds, hl with
    | [y], _ =>
      have h0 := hd 0 f rfl
      simp only [List.getElem?_cons_zero] at h0
      obtain ⟨x, hk, hg⟩ := h.rd enc w fuel _ y.1 y.2 h0 (fun n hn => hw n (by simp [DataW.weightsEach]; exact hn))
      rw [h.sz, List.take_of_length_le (by rw [List.length_drop]; omega)] at hk
      exact ⟨x, hk, hg⟩

theorem fs_cons {α β : Type} {P : Program} {f : Field} {fs : List Field} {off : Nat} {k : Kd α} {k' : Kd β} {good : α → Prop} {good' : β → Prop} (h : Rd P f.type k good) (hs : Fs P fs off k' good')
    (ho : f.offset + k.sz = off) : Fs P (f :: fs) f.offset (Kd.pair k k') (fun x => good x.1 ∧ good' x.2) where
  rd := by
    intro H enc w fuel cs ds hl hd hw hc
    match ds, hl with
    | y :: ys, hl =>
      have hsz : (Kd.pair k k').sz = k.sz + k'.sz := rfl
      rw [hsz] at hc
      have h0 := hd 0 f rfl
      simp only [List.getElem?_cons_zero] at h0
      obtain ⟨x, hk, hg⟩ := h.rd enc w fuel _ y.1 y.2 h0 (fun n hn => hw n (by simp only [List.map_cons, DataW.weightsEach, List.mem_append]; exact .inl hn))
      obtain ⟨x', hk', hg'⟩ := hs.rd enc w fuel cs ys (by simpa using hl) (fun i g hi => by simpa using hd (i + 1) g (by simpa using hi))
        (fun n hn => hw n (by simp only [List.map_cons, DataW.weightsEach, List.mem_append]; exact .inr hn)) (by omega)
      rw [h.sz] at hk
      refine ⟨(x, x'), ⟨_, _, ?_, hk, hk'⟩, hg, hg'⟩
      rw [← ho, ← List.drop_drop, List.take_append_drop]

theorem rd_struct {α β : Type} {P : Program} {t : TypeId} {fs : Array Field} {k : Kd β} {good : β → Prop} {fw : α → β} {back : β → α} (hu : P.underlying t = some (.struct fs)) (h : Fs P fs.toList 0 k good)
    (hc : P.cellsOf t = k.sz) (hb : ∀ y, fw (back y) = y) : Rd P t (Kd.iso k fw) (fun x => good (fw x)) where
  sz := hc
  rd := by
    intro H enc w fuel cs d ps hr hw
    obtain ⟨xs, n, _, hx, hl, hlen, hf⟩ := DataW.trod_struct hu hr
    obtain ⟨rfl, rfl⟩ := Prod.mk.inj hx
    obtain ⟨x, hk, hg⟩ := h.rd enc w n cs xs (by simpa using hlen) (fun i f hi => by simpa using hf i f (by simpa using hi))
      (fun m hm => hw m (by simp only [DataW.weights, hu]; exact hm)) (by rw [hl, hc]; omega)
    refine ⟨back x, ?_, ?_⟩
    · show k.K w (fw (back x)) cs
      rw [hb]
      simpa using hk
    · show good (fw (back x))
      rw [hb]; exact hg

theorem list_of {α : Type} {p : Nat → α → Prop} : ∀ n, (∀ i, i < n → ∃ x, p i x) → ∃ xs : List α, xs.length = n ∧ ∀ i x, xs[i]? = some x → p i x
  | 0, _ => ⟨[], rfl, fun i x h => by simp at h⟩
  | n + 1, h => by
    obtain ⟨xs, hl, hx⟩ := list_of n (fun i hi => h i (by omega))
    obtain ⟨y, hy⟩ := h n (by omega)
    refine ⟨xs ++ [y], by simp [hl], fun i x hi => ?_⟩
    by_cases hin : i < xs.length
    · rw [List.getElem?_append_left hin] at hi
      exact hx i x hi
    · rw [List.getElem?_append_right (by omega)] at hi
      have : i = xs.length := by
        by_cases e : i - xs.length = 0
        · omega
        · rw [List.getElem?_eq_none (by simp; omega)] at hi
          exact absurd hi (by simp)
      subst this
      simp at hi
      rw [hl, ← hi]
      exact hy

theorem weights_all {H : Type} {P : Program} {e : TypeId} : ∀ {l : List (DataW H)} {d : DataW H}, d ∈ l → ∀ n ∈ d.weights P e, n ∈ DataW.weightsAll P e l
  | [], _, h, _, _ => by simp at h
  | x :: l, d, h, n, hn => by
    simp only [DataW.weightsAll, List.mem_append]
    rcases List.mem_cons.1 h with rfl | h
    · exact .inl hn
    · exact .inr (weights_all h n hn)

theorem rd_slice {α : Type} {P : Program} {t e : TypeId} {k : Kd α} {good : α → Prop} (B : Nat) (hu : P.underlying t = some (.slice e)) (hc : P.cellsOf t = 1) (hB : P.bytesOf e = B) (h : Rd P e k good) :
    Rd P t (Kd.slice e k) (fun xs => (∀ x ∈ xs, good x) ∧ xs.length * B ≤ 140737488351232) where
  sz := hc
  rd := by
    intro H enc w fuel cs d ps hr hw
    rcases DataW.trod_slice hu hr with ⟨rfl, hx⟩ | ⟨a, len, cap, elems, rest, n, _, rfl, hx, _, hl, hm, hlen, hel, _, _⟩
    · exact ⟨[], ⟨none, 0, rfl, Nat.le_refl 0, Kd.C_nil k w⟩, by simp, by simp⟩
    · obtain ⟨rfl, rfl⟩ := Prod.mk.inj hx
      have hw1 : ∀ x ∈ elems, ∀ n ∈ x.1.weights P e, n ≤ reachBytes := fun x hx n hn =>
        hw n (by simp only [DataW.weights, hu, List.mem_cons, List.mem_append]; exact .inr (.inl (weights_all (List.mem_map_of_mem hx) n hn)))
      have hw2 : (elems.length + rest.length) * P.bytesOf e ≤ reachBytes := hw _ (by simp only [DataW.weights, hu, List.mem_cons, List.length_map]; simp)
      have key : ∀ i, i < len → ∃ x, good x ∧ ∃ c, c.length = k.sz ∧ k.K w x c ∧ ∀ j u, c[j]? = some u → w.cell? (a.add (i * k.sz + j)) = some u := by
        intro i hi
        have h1 := hel i hi
        rw [List.getElem?_eq_getElem (by omega)] at h1
        obtain ⟨c, hcs, htr⟩ := Option.bind_eq_some_iff.1 h1
        obtain ⟨x, hk, hg⟩ := h.rd enc w n c _ _ htr (hw1 _ (List.getElem_mem _))
        obtain ⟨_, hcl, hcell⟩ := World.cells?_some hcs
        rw [h.sz] at hcl hcell
        refine ⟨x, hg, c, hcl, hk, fun j u hu => ?_⟩
        have hj : j < k.sz := by
          rw [← hcl]
          exact (List.getElem?_eq_some_iff.1 hu).1
        rw [← Go.Deep.add_add, hcell j hj, hu]
      obtain ⟨xs, hxl, hxs⟩ := list_of (α := α) len key
      subst hxl
      refine ⟨xs, ⟨some a, cap, rfl, hl, rfl, by unfold maxLen at hm; omega, fun _ => ⟨a, rfl, fun j p hp => ?_⟩⟩, fun x hx => ?_, ?_⟩
      · obtain ⟨_, c, h1, h2, h3⟩ := hxs j p hp
        exact ⟨c, h1, h2, h3⟩
      · obtain ⟨i, hi, rfl⟩ := List.mem_iff_getElem.1 hx
        exact (hxs i _ (List.getElem?_eq_getElem hi)).1
      · have : xs.length * P.bytesOf e ≤ (elems.length + rest.length) * P.bytesOf e := Nat.mul_le_mul_right _ (by omega)
        unfold reachBytes at hw2
        rw [hB] at hw2 this
        omega
end Go.Proofs.Ytmabdfdmccbfnaa.Open

/- Readers of the types that this seat's laws take. -/
namespace Go.Proofs.Ytmabdfdmccbfnaa.P
open Go.RowKit Go.Proofs.YtmabdfdmccbfnaaW.PrintWords Go.Proofs.YtmabdfdmccbfnaaW.PrintLast Go.Proofs.Ytmabdfdmccbfnaa.Open
set_option linter.unusedVariables false
def good25 (x : S25) : Prop := (Lit.int .i64 x.f0).wf = true ∧ (Lit.int .i64 x.f1).wf = true ∧ x.f2.size ≤ 140737488351232 ∧ x.f3.size ≤ 140737488351232 ∧ (Lit.int .i64 x.f4).wf = true ∧ True
theorem rd25 : Rd Try.prog 25 k25 good25 := rd_struct (back := fun y => ⟨y.1, y.2.1, y.2.2.1, y.2.2.2.1, y.2.2.2.2.1, y.2.2.2.2.2⟩) Try.underlying25 (fs_cons (rd_int Try.underlying3 (by kernel_rfl)) (fs_cons (rd_int Try.underlying3 (by kernel_rfl)) (fs_cons (rd_string Try.underlying9 (by kernel_rfl)) (fs_cons (rd_string Try.underlying9 (by kernel_rfl)) (fs_cons (rd_int Try.underlying3 (by kernel_rfl)) (fs_last (rd_bool Try.underlying4 (by kernel_rfl))) rfl) rfl) rfl) rfl) rfl) (by kernel_rfl) (fun _ => rfl)
def good38 (x : S38) : Prop := ((∀ z ∈ x.f0, good25 z) ∧ x.f0.length * 64 ≤ 140737488351232) ∧ x.f1.size ≤ 140737488351232
theorem rd38 : Rd Try.prog 38 k38 good38 := rd_struct (back := fun y => ⟨y.1, y.2⟩) Try.underlying38 (fs_cons (rd_slice 64 Try.underlying36 (by kernel_rfl) (by kernel_rfl) rd25) (fs_last (rd_string Try.underlying9 (by kernel_rfl))) rfl) (by kernel_rfl) (fun _ => rfl)
def good53 (x : S53) : Prop := (Lit.int .i64 x.f0).wf = true ∧ ((∀ z ∈ x.f1, good25 z) ∧ x.f1.length * 64 ≤ 140737488351232)
theorem rd53 : Rd Try.prog 53 k53 good53 := rd_struct (back := fun y => ⟨y.1, y.2⟩) Try.underlying53 (fs_cons (rd_int Try.underlying3 (by kernel_rfl)) (fs_last (rd_slice 64 Try.underlying36 (by kernel_rfl) (by kernel_rfl) rd25)) rfl) (by kernel_rfl) (fun _ => rfl)
structure S55 where
  f0 : S53
  f1 : List (S25)
  f2 : List (Int)
  f3 : ByteArray
def k55 : Kd S55 := Kd.iso (Kd.pair k53 (Kd.pair (Kd.slice 25 k25) (Kd.pair (Kd.slice 3 (Kd.int .i64)) Kd.string))) (fun x : S55 => (x.f0, x.f1, x.f2, x.f3))
def good55 (x : S55) : Prop := good53 x.f0 ∧ ((∀ z ∈ x.f1, good25 z) ∧ x.f1.length * 64 ≤ 140737488351232) ∧ ((∀ z ∈ x.f2, (Lit.int .i64 z).wf = true) ∧ x.f2.length * 8 ≤ 140737488351232) ∧ x.f3.size ≤ 140737488351232
theorem rd55 : Rd Try.prog 55 k55 good55 := rd_struct (back := fun y => ⟨y.1, y.2.1, y.2.2.1, y.2.2.2⟩) Try.underlying55 (fs_cons rd53 (fs_cons (rd_slice 64 Try.underlying36 (by kernel_rfl) (by kernel_rfl) rd25) (fs_cons (rd_slice 8 Try.underlying50 (by kernel_rfl) (by kernel_rfl) (rd_int Try.underlying3 (by kernel_rfl))) (fs_last (rd_string Try.underlying9 (by kernel_rfl))) rfl) rfl) rfl) (by kernel_rfl) (fun _ => rfl)
end Go.Proofs.Ytmabdfdmccbfnaa.P

-- written by a program of the proving session, out of the translation; Lean checks it
namespace Go.Proofs.Ytmabdfdmccbfnaa.P
open Go.RowKit Go.Proofs.Ytmabdfdmccbfnaa.Sq Go.Proofs.YtmabdfdmccbfnaaW.PrintWords Go.Proofs.YtmabdfdmccbfnaaW.PrintLast Go.Proofs.YtmabdfdmccbfnaaW.PrintMore
attribute [local go_sem] max2_int min2_int max_two min_two max_three min_three max_four min_four   -- for this text's walks alone
set_option linter.unusedVariables false
set_option linter.unusedSimpArgs false

/-! ### fairwaylaw11_Heavy: function 30 -/
def fairwaylaw11_Heavy.f (k : Nat) (a0_0 : Int) (l0_1 : List (S25)) (l0_2 : List (S25)) (l0_3 : List Int) (a0_4 : ByteArray) : Option (Bool) := (fairwaylaw0_RecsWeight.f k l0_1).bind fun t381 => ((fairwaylaw0_RecsWeight.f k l0_2).bind fun t382 => (if (wrap64 (t381 + t382)) > 8000 then (some true) else (if (a0_4.size : Int) > 8000 then (some true) else (some (decide ((l0_3.length : Int) > 500))))))
theorem fairwaylaw11_Heavy.mono : ∀ a0 a1 a2 a3 a4 k, LeO (fairwaylaw11_Heavy.f k a0 a1 a2 a3 a4) (fairwaylaw11_Heavy.f (k + 1) a0 a1 a2 a3 a4) := by
 intro a0 a1 a2 a3 a4 k
 unfold fairwaylaw11_Heavy.f
 repeat' first
  | (with_reducible exact fairwaylaw0_RecsWeight.mono _ _)
  | (with_reducible exact LeO.refl _)
  | (with_reducible exact LeO.none _)
  | (with_reducible refine LeO.ite ?_ ?_)
  | (with_reducible refine LeO.bind ?_ (fun _ => ?_))
  | exact fairwaylaw0_RecsWeight.mono _ _
  | exact LeO.none _
  | refine LeO.ite ?_ ?_
  | refine LeO.bind ?_ (fun _ => ?_)
set_option maxHeartbeats 8000000 in
set_option maxRecDepth 100000 in
theorem fairwaylaw11_Heavy.calls (k : Nat) (a0_0 : Int) (A0_1 : Option Addr) (c0_1 : Nat) (l0_1 : List (S25)) (A0_2 : Option Addr) (c0_2 : Nat) (l0_2 : List (S25)) (A0_3 : Option Addr) (c0_3 : Nat) (l0_3 : List Int) (a0_4 : ByteArray) (r : Bool) (w : World) (hr0_1 : Kd.C k25 w A0_1 l0_1.length l0_1) (hc0_1 : l0_1.length ≤ c0_1) (hr0_2 : Kd.C k25 w A0_2 l0_2.length l0_2) (hc0_2 : l0_2.length ≤ c0_2) (hr0_3 : Kd.C (Kd.int .i64) w A0_3 l0_3.length l0_3) (hc0_3 : l0_3.length ≤ c0_3) (h : fairwaylaw11_Heavy.f k a0_0 l0_1 l0_2 l0_3 a0_4 = some r) :
 Calls Try.prog 30 #[.agg #[.int .i64 a0_0, .slice A0_1 l0_1.length c0_1, .slice A0_2 l0_2.length c0_2, .slice A0_3 l0_3.length c0_3, .string a0_4]] w fun e w' => e = .returned (.bool r) ∧ Below w.heap.size w w' := by
 have hu55 := Try.underlying55
 have HR0_1 := Aside0.mk hr0_1
 have HC0_1 := Aside0.mk hc0_1
 clear hr0_1 hc0_1
 have HR0_2 := Aside0.mk hr0_2
 have HC0_2 := Aside0.mk hc0_2
 clear hr0_2 hc0_2
 have HR0_3 := Aside0.mk hr0_3
 have HC0_3 := Aside0.mk hc0_3
 clear hr0_3 hc0_3
 have HB := Aside0.mk (Below.refl w.heap.size w)
 have H : ((fairwaylaw0_RecsWeight.f k l0_1).bind fun t381 => ((fairwaylaw0_RecsWeight.f k l0_2).bind fun t382 => (if (wrap64 (t381 + t382)) > 8000 then (some true) else (if (a0_4.size : Int) > 8000 then (some true) else (some (decide ((l0_3.length : Int) > 500))))))) = some r := h
 clear h
 replace H := Option.bind_eq_some_iff.mp H
 obtain ⟨t381, A20, H⟩ := H
 replace H : ((fairwaylaw0_RecsWeight.f k l0_2).bind fun t382 => (if (wrap64 (t381 + t382)) > 8000 then (some true) else (if (a0_4.size : Int) > 8000 then (some true) else (some (decide ((l0_3.length : Int) > 500)))))) = some r := H
 have A2 := Aside0.mk A20
 clear A20
 replace H := Option.bind_eq_some_iff.mp H
 obtain ⟨t382, A30, H⟩ := H
 replace H : (if (wrap64 (t381 + t382)) > 8000 then (some true) else (if (a0_4.size : Int) > 8000 then (some true) else (some (decide ((l0_3.length : Int) > 500))))) = some r := H
 have A3 := Aside0.mk A30
 clear A30
 by_cases c4 : (wrap64 (t381 + t382)) > 8000
 ·rw [if_pos c4] at H
  have c4b0 : decide (8000 < (wrap64 (t381 + t382))) = true := decide_eq_true c4
  clear c4
  obtain rfl := Option.some.inj H
  go_enter Try.func30, Try.ntmps30
  go_wp2_with (first | ((with_reducible refine gate_dst (N := 1) rfl ?_); (try (refine gate_guard (by rfl) ?_; dsimp only)); refine box_event ?hg (N := 1) ?hd (cs := #[.int .i64 a0_0, .slice A0_1 l0_1.length c0_1, .slice A0_2 l0_2.length c0_2, .slice A0_3 l0_3.length c0_3, .string a0_4]) (t := 55) ?hr ?_; (case hd => rfl); (case hg => rfl); (case hr => first | (go_simp; done) | (go_simp; rfl)); intro gb380 hg w5 hbox hb; have BK380 := Aside0.mk (hbox); have GW380 := Aside0.mk ((by rw [hg]; exact (below_size bo) : w.heap.size ≤ gb380)); have GE380 := Aside0.mk ((by rw [hg]; exact (below_size bo) : w.heap.size ≤ gb380)); replace HB := Aside0.mk (below_step bo hb); clear hb hbox hg; obtain ⟨hcz6_0, hcz6_1, hcz6_2, hcz6_3, hcz6_4⟩ := cl5 BK380.out; obtain ⟨hfz6_0, hfz6_1, hfz6_2, hfz6_3, hfz6_4⟩ := fz5 BK380.out) | (go_at_call 68; (with_reducible refine (fairwaylaw0_RecsWeight.calls k _ _ l0_1 t381 _ ?side1 ?side2 A2.out).mono ?_); (case side1 => repeat (first | exact (Kd.C_below HR0_1.out HB.out) | (with_reducible refine Kd.C_alloc ?_ _) | (with_reducible refine Kd.C_drewN ?_ _) | (with_reducible refine Kd.C_drew ?_))); (case side2 => exact HC0_1.out); rintro e w' ⟨rfl, ⟨nd, rfl⟩⟩; (try first | exact ⟨rfl, _, World.drewN_drewN _ _ _⟩ | exact ⟨rfl, _, Eq.trans (World.drewN_drewN _ _ _) (congrArg (World.drewN _) (Nat.add_assoc _ _ _))⟩)) | (go_at_call 68; (with_reducible refine (fairwaylaw0_RecsWeight.calls k _ _ l0_2 t382 _ ?side1 ?side2 A3.out).mono ?_); (case side1 => repeat (first | exact (Kd.C_below HR0_2.out bo) | (with_reducible refine Kd.C_alloc ?_ _) | (with_reducible refine Kd.C_drewN ?_ _) | (with_reducible refine Kd.C_drew ?_))); (case side2 => exact HC0_2.out); rintro e w' ⟨rfl, ⟨nd, rfl⟩⟩; (try first | exact ⟨rfl, _, World.drewN_drewN _ _ _⟩ | exact ⟨rfl, _, Eq.trans (World.drewN_drewN _ _ _) (congrArg (World.drewN _) (Nat.add_assoc _ _ _))⟩)))
  repeat (go_quiet (first | ((with_reducible refine gate_dst (N := 1) rfl ?_); (try (refine gate_guard (by rfl) ?_; dsimp only)); refine box_event ?hg (N := 1) ?hd (cs := #[.int .i64 a0_0, .slice A0_1 l0_1.length c0_1, .slice A0_2 l0_2.length c0_2, .slice A0_3 l0_3.length c0_3, .string a0_4]) (t := 55) ?hr ?_; (case hd => rfl); (case hg => rfl); (case hr => first | (go_simp; done) | (go_simp; rfl)); intro gb380 hg w5 hbox hb; have BK380 := Aside0.mk (hbox); have GW380 := Aside0.mk ((by rw [hg]; exact (below_size bo) : w.heap.size ≤ gb380)); have GE380 := Aside0.mk ((by rw [hg]; exact (below_size bo) : w.heap.size ≤ gb380)); replace HB := Aside0.mk (below_step bo hb); clear hb hbox hg; obtain ⟨hcz6_0, hcz6_1, hcz6_2, hcz6_3, hcz6_4⟩ := cl5 BK380.out; obtain ⟨hfz6_0, hfz6_1, hfz6_2, hfz6_3, hfz6_4⟩ := fz5 BK380.out) | (go_at_call 68; (with_reducible refine (fairwaylaw0_RecsWeight.calls k _ _ l0_1 t381 _ ?side1 ?side2 A2.out).mono ?_); (case side1 => repeat (first | exact (Kd.C_below HR0_1.out HB.out) | (with_reducible refine Kd.C_alloc ?_ _) | (with_reducible refine Kd.C_drewN ?_ _) | (with_reducible refine Kd.C_drew ?_))); (case side2 => exact HC0_1.out); rintro e w' ⟨rfl, ⟨nd, rfl⟩⟩; (try first | exact ⟨rfl, _, World.drewN_drewN _ _ _⟩ | exact ⟨rfl, _, Eq.trans (World.drewN_drewN _ _ _) (congrArg (World.drewN _) (Nat.add_assoc _ _ _))⟩)) | (go_at_call 68; (with_reducible refine (fairwaylaw0_RecsWeight.calls k _ _ l0_2 t382 _ ?side1 ?side2 A3.out).mono ?_); (case side1 => repeat (first | exact (Kd.C_below HR0_2.out bo) | (with_reducible refine Kd.C_alloc ?_ _) | (with_reducible refine Kd.C_drewN ?_ _) | (with_reducible refine Kd.C_drew ?_))); (case side2 => exact HC0_2.out); rintro e w' ⟨rfl, ⟨nd, rfl⟩⟩; (try first | exact ⟨rfl, _, World.drewN_drewN _ _ _⟩ | exact ⟨rfl, _, Eq.trans (World.drewN_drewN _ _ _) (congrArg (World.drewN _) (Nat.add_assoc _ _ _))⟩))); try go_wp2_with (first | ((with_reducible refine gate_dst (N := 1) rfl ?_); (try (refine gate_guard (by rfl) ?_; dsimp only)); refine box_event ?hg (N := 1) ?hd (cs := #[.int .i64 a0_0, .slice A0_1 l0_1.length c0_1, .slice A0_2 l0_2.length c0_2, .slice A0_3 l0_3.length c0_3, .string a0_4]) (t := 55) ?hr ?_; (case hd => rfl); (case hg => rfl); (case hr => first | (go_simp; done) | (go_simp; rfl)); intro gb380 hg w5 hbox hb; have BK380 := Aside0.mk (hbox); have GW380 := Aside0.mk ((by rw [hg]; exact (below_size bo) : w.heap.size ≤ gb380)); have GE380 := Aside0.mk ((by rw [hg]; exact (below_size bo) : w.heap.size ≤ gb380)); replace HB := Aside0.mk (below_step bo hb); clear hb hbox hg; obtain ⟨hcz6_0, hcz6_1, hcz6_2, hcz6_3, hcz6_4⟩ := cl5 BK380.out; obtain ⟨hfz6_0, hfz6_1, hfz6_2, hfz6_3, hfz6_4⟩ := fz5 BK380.out) | (go_at_call 68; (with_reducible refine (fairwaylaw0_RecsWeight.calls k _ _ l0_1 t381 _ ?side1 ?side2 A2.out).mono ?_); (case side1 => repeat (first | exact (Kd.C_below HR0_1.out HB.out) | (with_reducible refine Kd.C_alloc ?_ _) | (with_reducible refine Kd.C_drewN ?_ _) | (with_reducible refine Kd.C_drew ?_))); (case side2 => exact HC0_1.out); rintro e w' ⟨rfl, ⟨nd, rfl⟩⟩; (try first | exact ⟨rfl, _, World.drewN_drewN _ _ _⟩ | exact ⟨rfl, _, Eq.trans (World.drewN_drewN _ _ _) (congrArg (World.drewN _) (Nat.add_assoc _ _ _))⟩)) | (go_at_call 68; (with_reducible refine (fairwaylaw0_RecsWeight.calls k _ _ l0_2 t382 _ ?side1 ?side2 A3.out).mono ?_); (case side1 => repeat (first | exact (Kd.C_below HR0_2.out bo) | (with_reducible refine Kd.C_alloc ?_ _) | (with_reducible refine Kd.C_drewN ?_ _) | (with_reducible refine Kd.C_drew ?_))); (case side2 => exact HC0_2.out); rintro e w' ⟨rfl, ⟨nd, rfl⟩⟩; (try first | exact ⟨rfl, _, World.drewN_drewN _ _ _⟩ | exact ⟨rfl, _, Eq.trans (World.drewN_drewN _ _ _) (congrArg (World.drewN _) (Nat.add_assoc _ _ _))⟩))))
  go_ret
  exact ⟨er, bo⟩
 ·rw [if_neg c4] at H
  have c4b0 : decide (8000 < (wrap64 (t381 + t382))) = false := decide_eq_false c4
  clear c4
  by_cases c7 : (a0_4.size : Int) > 8000
  ·rw [if_pos c7] at H
   have c7b0 : decide (8000 < (a0_4.size : Int)) = true := decide_eq_true c7
   have c7b1 : decide (8000 < a0_4.size) = true := decide_eq_true (by omega)
   clear c7
   obtain rfl := Option.some.inj H
   go_enter Try.func30, Try.ntmps30
   go_wp2_with (first | ((with_reducible refine gate_dst (N := 1) rfl ?_); (try (refine gate_guard (by rfl) ?_; dsimp only)); refine box_event ?hg (N := 1) ?hd (cs := #[.int .i64 a0_0, .slice A0_1 l0_1.length c0_1, .slice A0_2 l0_2.length c0_2, .slice A0_3 l0_3.length c0_3, .string a0_4]) (t := 55) ?hr ?_; (case hd => rfl); (case hg => rfl); (case hr => first | (go_simp; done) | (go_simp; rfl)); intro gb380 hg w8 hbox hb; have BK380 := Aside0.mk (hbox); have GW380 := Aside0.mk ((by rw [hg]; exact (below_size bo) : w.heap.size ≤ gb380)); have GE380 := Aside0.mk ((by rw [hg]; exact (below_size bo) : w.heap.size ≤ gb380)); replace HB := Aside0.mk (below_step bo hb); clear hb hbox hg; obtain ⟨hcz9_0, hcz9_1, hcz9_2, hcz9_3, hcz9_4⟩ := cl5 BK380.out; obtain ⟨hfz9_0, hfz9_1, hfz9_2, hfz9_3, hfz9_4⟩ := fz5 BK380.out) | (go_at_call 68; (with_reducible refine (fairwaylaw0_RecsWeight.calls k _ _ l0_1 t381 _ ?side1 ?side2 A2.out).mono ?_); (case side1 => repeat (first | exact (Kd.C_below HR0_1.out HB.out) | (with_reducible refine Kd.C_alloc ?_ _) | (with_reducible refine Kd.C_drewN ?_ _) | (with_reducible refine Kd.C_drew ?_))); (case side2 => exact HC0_1.out); rintro e w' ⟨rfl, ⟨nd, rfl⟩⟩; (try first | exact ⟨rfl, _, World.drewN_drewN _ _ _⟩ | exact ⟨rfl, _, Eq.trans (World.drewN_drewN _ _ _) (congrArg (World.drewN _) (Nat.add_assoc _ _ _))⟩)) | (go_at_call 68; (with_reducible refine (fairwaylaw0_RecsWeight.calls k _ _ l0_2 t382 _ ?side1 ?side2 A3.out).mono ?_); (case side1 => repeat (first | exact (Kd.C_below HR0_2.out bo) | (with_reducible refine Kd.C_alloc ?_ _) | (with_reducible refine Kd.C_drewN ?_ _) | (with_reducible refine Kd.C_drew ?_))); (case side2 => exact HC0_2.out); rintro e w' ⟨rfl, ⟨nd, rfl⟩⟩; (try first | exact ⟨rfl, _, World.drewN_drewN _ _ _⟩ | exact ⟨rfl, _, Eq.trans (World.drewN_drewN _ _ _) (congrArg (World.drewN _) (Nat.add_assoc _ _ _))⟩)))
   repeat (go_quiet (first | ((with_reducible refine gate_dst (N := 1) rfl ?_); (try (refine gate_guard (by rfl) ?_; dsimp only)); refine box_event ?hg (N := 1) ?hd (cs := #[.int .i64 a0_0, .slice A0_1 l0_1.length c0_1, .slice A0_2 l0_2.length c0_2, .slice A0_3 l0_3.length c0_3, .string a0_4]) (t := 55) ?hr ?_; (case hd => rfl); (case hg => rfl); (case hr => first | (go_simp; done) | (go_simp; rfl)); intro gb380 hg w8 hbox hb; have BK380 := Aside0.mk (hbox); have GW380 := Aside0.mk ((by rw [hg]; exact (below_size bo) : w.heap.size ≤ gb380)); have GE380 := Aside0.mk ((by rw [hg]; exact (below_size bo) : w.heap.size ≤ gb380)); replace HB := Aside0.mk (below_step bo hb); clear hb hbox hg; obtain ⟨hcz9_0, hcz9_1, hcz9_2, hcz9_3, hcz9_4⟩ := cl5 BK380.out; obtain ⟨hfz9_0, hfz9_1, hfz9_2, hfz9_3, hfz9_4⟩ := fz5 BK380.out) | (go_at_call 68; (with_reducible refine (fairwaylaw0_RecsWeight.calls k _ _ l0_1 t381 _ ?side1 ?side2 A2.out).mono ?_); (case side1 => repeat (first | exact (Kd.C_below HR0_1.out HB.out) | (with_reducible refine Kd.C_alloc ?_ _) | (with_reducible refine Kd.C_drewN ?_ _) | (with_reducible refine Kd.C_drew ?_))); (case side2 => exact HC0_1.out); rintro e w' ⟨rfl, ⟨nd, rfl⟩⟩; (try first | exact ⟨rfl, _, World.drewN_drewN _ _ _⟩ | exact ⟨rfl, _, Eq.trans (World.drewN_drewN _ _ _) (congrArg (World.drewN _) (Nat.add_assoc _ _ _))⟩)) | (go_at_call 68; (with_reducible refine (fairwaylaw0_RecsWeight.calls k _ _ l0_2 t382 _ ?side1 ?side2 A3.out).mono ?_); (case side1 => repeat (first | exact (Kd.C_below HR0_2.out bo) | (with_reducible refine Kd.C_alloc ?_ _) | (with_reducible refine Kd.C_drewN ?_ _) | (with_reducible refine Kd.C_drew ?_))); (case side2 => exact HC0_2.out); rintro e w' ⟨rfl, ⟨nd, rfl⟩⟩; (try first | exact ⟨rfl, _, World.drewN_drewN _ _ _⟩ | exact ⟨rfl, _, Eq.trans (World.drewN_drewN _ _ _) (congrArg (World.drewN _) (Nat.add_assoc _ _ _))⟩))); try go_wp2_with (first | ((with_reducible refine gate_dst (N := 1) rfl ?_); (try (refine gate_guard (by rfl) ?_; dsimp only)); refine box_event ?hg (N := 1) ?hd (cs := #[.int .i64 a0_0, .slice A0_1 l0_1.length c0_1, .slice A0_2 l0_2.length c0_2, .slice A0_3 l0_3.length c0_3, .string a0_4]) (t := 55) ?hr ?_; (case hd => rfl); (case hg => rfl); (case hr => first | (go_simp; done) | (go_simp; rfl)); intro gb380 hg w8 hbox hb; have BK380 := Aside0.mk (hbox); have GW380 := Aside0.mk ((by rw [hg]; exact (below_size bo) : w.heap.size ≤ gb380)); have GE380 := Aside0.mk ((by rw [hg]; exact (below_size bo) : w.heap.size ≤ gb380)); replace HB := Aside0.mk (below_step bo hb); clear hb hbox hg; obtain ⟨hcz9_0, hcz9_1, hcz9_2, hcz9_3, hcz9_4⟩ := cl5 BK380.out; obtain ⟨hfz9_0, hfz9_1, hfz9_2, hfz9_3, hfz9_4⟩ := fz5 BK380.out) | (go_at_call 68; (with_reducible refine (fairwaylaw0_RecsWeight.calls k _ _ l0_1 t381 _ ?side1 ?side2 A2.out).mono ?_); (case side1 => repeat (first | exact (Kd.C_below HR0_1.out HB.out) | (with_reducible refine Kd.C_alloc ?_ _) | (with_reducible refine Kd.C_drewN ?_ _) | (with_reducible refine Kd.C_drew ?_))); (case side2 => exact HC0_1.out); rintro e w' ⟨rfl, ⟨nd, rfl⟩⟩; (try first | exact ⟨rfl, _, World.drewN_drewN _ _ _⟩ | exact ⟨rfl, _, Eq.trans (World.drewN_drewN _ _ _) (congrArg (World.drewN _) (Nat.add_assoc _ _ _))⟩)) | (go_at_call 68; (with_reducible refine (fairwaylaw0_RecsWeight.calls k _ _ l0_2 t382 _ ?side1 ?side2 A3.out).mono ?_); (case side1 => repeat (first | exact (Kd.C_below HR0_2.out bo) | (with_reducible refine Kd.C_alloc ?_ _) | (with_reducible refine Kd.C_drewN ?_ _) | (with_reducible refine Kd.C_drew ?_))); (case side2 => exact HC0_2.out); rintro e w' ⟨rfl, ⟨nd, rfl⟩⟩; (try first | exact ⟨rfl, _, World.drewN_drewN _ _ _⟩ | exact ⟨rfl, _, Eq.trans (World.drewN_drewN _ _ _) (congrArg (World.drewN _) (Nat.add_assoc _ _ _))⟩))))
   go_ret
   exact ⟨er, bo⟩
  ·rw [if_neg c7] at H
   have c7b0 : decide (8000 < (a0_4.size : Int)) = false := decide_eq_false c7
   have c7b1 : decide (8000 < a0_4.size) = false := decide_eq_false (by omega)
   clear c7
   obtain rfl := Option.some.inj H
   go_enter Try.func30, Try.ntmps30
   go_wp2_with (first | ((with_reducible refine gate_dst (N := 1) rfl ?_); (try (refine gate_guard (by rfl) ?_; dsimp only)); refine box_event ?hg (N := 1) ?hd (cs := #[.int .i64 a0_0, .slice A0_1 l0_1.length c0_1, .slice A0_2 l0_2.length c0_2, .slice A0_3 l0_3.length c0_3, .string a0_4]) (t := 55) ?hr ?_; (case hd => rfl); (case hg => rfl); (case hr => first | (go_simp; done) | (go_simp; rfl)); intro gb380 hg w10 hbox hb; have BK380 := Aside0.mk (hbox); have GW380 := Aside0.mk ((by rw [hg]; exact (below_size bo) : w.heap.size ≤ gb380)); have GE380 := Aside0.mk ((by rw [hg]; exact (below_size bo) : w.heap.size ≤ gb380)); replace HB := Aside0.mk (below_step bo hb); clear hb hbox hg; obtain ⟨hcz11_0, hcz11_1, hcz11_2, hcz11_3, hcz11_4⟩ := cl5 BK380.out; obtain ⟨hfz11_0, hfz11_1, hfz11_2, hfz11_3, hfz11_4⟩ := fz5 BK380.out) | (go_at_call 68; (with_reducible refine (fairwaylaw0_RecsWeight.calls k _ _ l0_1 t381 _ ?side1 ?side2 A2.out).mono ?_); (case side1 => repeat (first | exact (Kd.C_below HR0_1.out HB.out) | (with_reducible refine Kd.C_alloc ?_ _) | (with_reducible refine Kd.C_drewN ?_ _) | (with_reducible refine Kd.C_drew ?_))); (case side2 => exact HC0_1.out); rintro e w' ⟨rfl, ⟨nd, rfl⟩⟩; (try first | exact ⟨rfl, _, World.drewN_drewN _ _ _⟩ | exact ⟨rfl, _, Eq.trans (World.drewN_drewN _ _ _) (congrArg (World.drewN _) (Nat.add_assoc _ _ _))⟩)) | (go_at_call 68; (with_reducible refine (fairwaylaw0_RecsWeight.calls k _ _ l0_2 t382 _ ?side1 ?side2 A3.out).mono ?_); (case side1 => repeat (first | exact (Kd.C_below HR0_2.out bo) | (with_reducible refine Kd.C_alloc ?_ _) | (with_reducible refine Kd.C_drewN ?_ _) | (with_reducible refine Kd.C_drew ?_))); (case side2 => exact HC0_2.out); rintro e w' ⟨rfl, ⟨nd, rfl⟩⟩; (try first | exact ⟨rfl, _, World.drewN_drewN _ _ _⟩ | exact ⟨rfl, _, Eq.trans (World.drewN_drewN _ _ _) (congrArg (World.drewN _) (Nat.add_assoc _ _ _))⟩)))
   repeat (go_quiet (first | ((with_reducible refine gate_dst (N := 1) rfl ?_); (try (refine gate_guard (by rfl) ?_; dsimp only)); refine box_event ?hg (N := 1) ?hd (cs := #[.int .i64 a0_0, .slice A0_1 l0_1.length c0_1, .slice A0_2 l0_2.length c0_2, .slice A0_3 l0_3.length c0_3, .string a0_4]) (t := 55) ?hr ?_; (case hd => rfl); (case hg => rfl); (case hr => first | (go_simp; done) | (go_simp; rfl)); intro gb380 hg w10 hbox hb; have BK380 := Aside0.mk (hbox); have GW380 := Aside0.mk ((by rw [hg]; exact (below_size bo) : w.heap.size ≤ gb380)); have GE380 := Aside0.mk ((by rw [hg]; exact (below_size bo) : w.heap.size ≤ gb380)); replace HB := Aside0.mk (below_step bo hb); clear hb hbox hg; obtain ⟨hcz11_0, hcz11_1, hcz11_2, hcz11_3, hcz11_4⟩ := cl5 BK380.out; obtain ⟨hfz11_0, hfz11_1, hfz11_2, hfz11_3, hfz11_4⟩ := fz5 BK380.out) | (go_at_call 68; (with_reducible refine (fairwaylaw0_RecsWeight.calls k _ _ l0_1 t381 _ ?side1 ?side2 A2.out).mono ?_); (case side1 => repeat (first | exact (Kd.C_below HR0_1.out HB.out) | (with_reducible refine Kd.C_alloc ?_ _) | (with_reducible refine Kd.C_drewN ?_ _) | (with_reducible refine Kd.C_drew ?_))); (case side2 => exact HC0_1.out); rintro e w' ⟨rfl, ⟨nd, rfl⟩⟩; (try first | exact ⟨rfl, _, World.drewN_drewN _ _ _⟩ | exact ⟨rfl, _, Eq.trans (World.drewN_drewN _ _ _) (congrArg (World.drewN _) (Nat.add_assoc _ _ _))⟩)) | (go_at_call 68; (with_reducible refine (fairwaylaw0_RecsWeight.calls k _ _ l0_2 t382 _ ?side1 ?side2 A3.out).mono ?_); (case side1 => repeat (first | exact (Kd.C_below HR0_2.out bo) | (with_reducible refine Kd.C_alloc ?_ _) | (with_reducible refine Kd.C_drewN ?_ _) | (with_reducible refine Kd.C_drew ?_))); (case side2 => exact HC0_2.out); rintro e w' ⟨rfl, ⟨nd, rfl⟩⟩; (try first | exact ⟨rfl, _, World.drewN_drewN _ _ _⟩ | exact ⟨rfl, _, Eq.trans (World.drewN_drewN _ _ _) (congrArg (World.drewN _) (Nat.add_assoc _ _ _))⟩))); try go_wp2_with (first | ((with_reducible refine gate_dst (N := 1) rfl ?_); (try (refine gate_guard (by rfl) ?_; dsimp only)); refine box_event ?hg (N := 1) ?hd (cs := #[.int .i64 a0_0, .slice A0_1 l0_1.length c0_1, .slice A0_2 l0_2.length c0_2, .slice A0_3 l0_3.length c0_3, .string a0_4]) (t := 55) ?hr ?_; (case hd => rfl); (case hg => rfl); (case hr => first | (go_simp; done) | (go_simp; rfl)); intro gb380 hg w10 hbox hb; have BK380 := Aside0.mk (hbox); have GW380 := Aside0.mk ((by rw [hg]; exact (below_size bo) : w.heap.size ≤ gb380)); have GE380 := Aside0.mk ((by rw [hg]; exact (below_size bo) : w.heap.size ≤ gb380)); replace HB := Aside0.mk (below_step bo hb); clear hb hbox hg; obtain ⟨hcz11_0, hcz11_1, hcz11_2, hcz11_3, hcz11_4⟩ := cl5 BK380.out; obtain ⟨hfz11_0, hfz11_1, hfz11_2, hfz11_3, hfz11_4⟩ := fz5 BK380.out) | (go_at_call 68; (with_reducible refine (fairwaylaw0_RecsWeight.calls k _ _ l0_1 t381 _ ?side1 ?side2 A2.out).mono ?_); (case side1 => repeat (first | exact (Kd.C_below HR0_1.out HB.out) | (with_reducible refine Kd.C_alloc ?_ _) | (with_reducible refine Kd.C_drewN ?_ _) | (with_reducible refine Kd.C_drew ?_))); (case side2 => exact HC0_1.out); rintro e w' ⟨rfl, ⟨nd, rfl⟩⟩; (try first | exact ⟨rfl, _, World.drewN_drewN _ _ _⟩ | exact ⟨rfl, _, Eq.trans (World.drewN_drewN _ _ _) (congrArg (World.drewN _) (Nat.add_assoc _ _ _))⟩)) | (go_at_call 68; (with_reducible refine (fairwaylaw0_RecsWeight.calls k _ _ l0_2 t382 _ ?side1 ?side2 A3.out).mono ?_); (case side1 => repeat (first | exact (Kd.C_below HR0_2.out bo) | (with_reducible refine Kd.C_alloc ?_ _) | (with_reducible refine Kd.C_drewN ?_ _) | (with_reducible refine Kd.C_drew ?_))); (case side2 => exact HC0_2.out); rintro e w' ⟨rfl, ⟨nd, rfl⟩⟩; (try first | exact ⟨rfl, _, World.drewN_drewN _ _ _⟩ | exact ⟨rfl, _, Eq.trans (World.drewN_drewN _ _ _) (congrArg (World.drewN _) (Nat.add_assoc _ _ _))⟩))))
   go_ret
   exact ⟨er, bo⟩

end Go.Proofs.Ytmabdfdmccbfnaa.P

