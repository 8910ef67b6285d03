/- SegFinds: for every input of the row the law returns true, and the input reads afterwards as before. Conditions: none beside the row's own. -/
import Derived.Test.YtmabdfdmccbfnaaKSegFinds1
import Derived.Test.YtmabdfdmccbfnaaKSegFinds2
import Derived.Test.YtmabdfdmccbfnaaRows
import Derived.WalkKit
import Derived.ProofKit
import Derived.OpenShut
import Derived.ShutString
import Derived.ChangeOld
import Derived.Below
import Derived.SizedLaws
/- The first record from an offset on, and from a time on: the program's and the page's. -/
namespace Go.Proofs.Ytmabdfdmccbfnaa.UFind
open Go Go.RowKit Go.Proofs.Ytmabdfdmccbfnaa.P Go.Proofs.Ytmabdfdmccbfnaa.URec Go.Proofs.Ytmabdfdmccbfnaa.USeg Go.Proofs.YtmabdfdmccbfnaaW.PrintWords Go.Proofs.YtmabdfdmccbfnaaW.PrintLast
set_option linter.unusedVariables false
set_option linter.unusedSimpArgs false
def z0 : R := ⟨0, 0, ⟨#[]⟩, ⟨#[]⟩, 0, false⟩
theorem find_none (base q : Int) (l : List R) (h : segOk base l) (hx : seg_Find.ix q l 0 < 0) : Ev (fun k => seg_Find.f k base l q) (0, 0, (⟨#[]⟩ : ByteArray), (⟨#[]⟩ : ByteArray), 0, false, 3) :=
  Ev.bind (segcheck_yes base l h) (Ev.congr (fun k => by rw [if_pos rfl, if_pos hx]) (Ev.now _))
theorem find_some (base q : Int) (l : List R) (h : segOk base l) (hx : ¬ seg_Find.ix q l 0 < 0) :
    Ev (fun k => seg_Find.f k base l q) ((rd_T25 l (seg_Find.ix q l 0)).f0, (rd_T25 l (seg_Find.ix q l 0)).f1, (rd_T25 l (seg_Find.ix q l 0)).f2, (rd_T25 l (seg_Find.ix q l 0)).f3, (rd_T25 l (seg_Find.ix q l 0)).f4, (rd_T25 l (seg_Find.ix q l 0)).f5, 0) :=
  Ev.bind (segcheck_yes base l h) (Ev.congr (fun k => by rw [if_pos rfl, if_neg hx]) (Ev.now _))
theorem find_no (base q : Int) (l : List R) (h : ¬ segOk base l) : Ev (fun k => seg_Find.f k base l q) (0, 0, (⟨#[]⟩ : ByteArray), (⟨#[]⟩ : ByteArray), 0, false, 1) :=
  Ev.bind (segcheck_no base l h) (Ev.congr (fun k => if_neg (by decide)) (Ev.now _))
theorem since_none (base q : Int) (l : List R) (h : segOk base l) (hx : seg_Since.ix q l 0 < 0) : Ev (fun k => seg_Since.f k base l q) (0, 0, (⟨#[]⟩ : ByteArray), (⟨#[]⟩ : ByteArray), 0, false, 3) :=
  Ev.bind (segcheck_yes base l h) (Ev.congr (fun k => by rw [if_pos rfl, if_pos hx]) (Ev.now _))
theorem since_some (base q : Int) (l : List R) (h : segOk base l) (hx : ¬ seg_Since.ix q l 0 < 0) :
    Ev (fun k => seg_Since.f k base l q) ((rd_T25 l (seg_Since.ix q l 0)).f0, (rd_T25 l (seg_Since.ix q l 0)).f1, (rd_T25 l (seg_Since.ix q l 0)).f2, (rd_T25 l (seg_Since.ix q l 0)).f3, (rd_T25 l (seg_Since.ix q l 0)).f4, (rd_T25 l (seg_Since.ix q l 0)).f5, 0) :=
  Ev.bind (segcheck_yes base l h) (Ev.congr (fun k => by rw [if_pos rfl, if_neg hx]) (Ev.now _))
theorem since_no (base q : Int) (l : List R) (h : ¬ segOk base l) : Ev (fun k => seg_Since.f k base l q) (0, 0, (⟨#[]⟩ : ByteArray), (⟨#[]⟩ : ByteArray), 0, false, 1) :=
  Ev.bind (segcheck_no base l h) (Ev.congr (fun k => if_neg (by decide)) (Ev.now _))
theorem ref_find_loop (q : Int) (l : List R) (hm : l.length ≤ 9223372036854775806) : ∀ (d i : Nat), l.length = i + d → Ev (fun k => fairwayref10_Find.l0 k l q i) (seg_Find.ix q (l.drop i) i)
  | 0, i, h => by
    refine Ev.step (f := fun _ => some _) (fun k => ?_) (Ev.now _)
    simp only [fairwayref10_Find.l0]
    rw [if_neg (by omega), List.drop_eq_nil_of_le (by omega)]; rfl
  | d + 1, i, h => by
    have hi : i < l.length := by omega
    have ih := ref_find_loop q l hm d (i + 1) (by omega)
    rw [seg_Find.ix_step q l i hi]
    by_cases ht : (rd_T25 l i).f0 ≥ q
    · rw [if_pos ht]
      refine Ev.step (f := fun _ => some _) (fun k => ?_) (Ev.now _)
      simp only [fairwayref10_Find.l0]
      rw [if_pos (by omega), if_pos (by omega), if_pos ht]
    · rw [if_neg ht]
      refine Ev.step (fun k => ?_) ih
      simp only [fairwayref10_Find.l0]
      rw [if_pos (by omega), if_pos (by omega), if_neg ht, wrap_in (by omega) (by omega)]; rfl
theorem ref_since_loop (q : Int) (l : List R) (hm : l.length ≤ 9223372036854775806) : ∀ (d i : Nat), l.length = i + d → Ev (fun k => fairwayref10_Since.l0 k l q i) (seg_Since.ix q (l.drop i) i)
  | 0, i, h => by
    refine Ev.step (f := fun _ => some _) (fun k => ?_) (Ev.now _)
    simp only [fairwayref10_Since.l0]
    rw [if_neg (by omega), List.drop_eq_nil_of_le (by omega)]; rfl
  | d + 1, i, h => by
    have hi : i < l.length := by omega
    have ih := ref_since_loop q l hm d (i + 1) (by omega)
    rw [seg_Since.ix_step q l i hi]
    by_cases ht : (rd_T25 l i).f1 ≥ q
    · rw [if_pos ht]
      refine Ev.step (f := fun _ => some _) (fun k => ?_) (Ev.now _)
      simp only [fairwayref10_Since.l0]
      rw [if_pos (by omega), if_pos (by omega), if_pos ht]
    · rw [if_neg ht]
      refine Ev.step (fun k => ?_) ih
      simp only [fairwayref10_Since.l0]
      rw [if_pos (by omega), if_pos (by omega), if_neg ht, wrap_in (by omega) (by omega)]; rfl
theorem ref_find (q : Int) (l : List R) (hm : l.length ≤ 9223372036854775806) : Ev (fun k => fairwayref10_Find.f k l q) (seg_Find.ix q l 0) := by
  have h := ref_find_loop q l hm l.length 0 (by omega)
  unfold fairwayref10_Find.f
  simpa using h
theorem ref_since (q : Int) (l : List R) (hm : l.length ≤ 9223372036854775806) : Ev (fun k => fairwayref10_Since.f k l q) (seg_Since.ix q l 0) := by
  have h := ref_since_loop q l hm l.length 0 (by omega)
  unfold fairwayref10_Since.f
  simpa using h
end Go.Proofs.Ytmabdfdmccbfnaa.UFind

/- The pure law SegFinds: the first record from an offset on, and from a time on, is the page's, or there is none, or it is refused. -/
namespace Go.Proofs.Ytmabdfdmccbfnaa.Pure
open Go Go.RowKit Go.Proofs.Ytmabdfdmccbfnaa.P Go.Proofs.Ytmabdfdmccbfnaa.URec Go.Proofs.Ytmabdfdmccbfnaa.USeg Go.Proofs.Ytmabdfdmccbfnaa.UFind Go.Proofs.Ytmabdfdmccbfnaa.UHeavy Go.Proofs.YtmabdfdmccbfnaaW.PrintWords Go.Proofs.YtmabdfdmccbfnaaW.PrintLast
set_option linter.unusedVariables false
set_option linter.unusedSimpArgs false
theorem wakes11_ev : Ev (fun k => fairwaylaw11_wakes.f k) true := Ev.of fairwaylaw11_wakes.mono (k := 30) (by decide +kernel)
theorem num11 (a : Int) : fairwaylaw11_num.f a = some a := rfl
theorem sf_j5 (p : S55) (b : Bool) (i : Nat) (hi : i < 30) (e f : Int) (r s : R) (h : Ev (fun k => fairwaylaw11_SegFinds.l0 k b ((i + 1 : Nat) : Int) p.f0.f0 p.f0.f1 p.f1 p.f2 p.f3) true) :
    Ev (fun k => fairwaylaw11_SegFinds.j5 k b i e f e f p.f0.f0 p.f0.f1 p.f1 p.f2 p.f3 r.f0 r.f1 r.f2 r.f3 r.f4 r.f5 s.f0 s.f1 s.f2 s.f3 s.f4 s.f5 r.f0 r.f1 r.f2 r.f3 r.f4 r.f5 s.f0 s.f1 s.f2 s.f3 s.f4 s.f5) true := by
  have hw : wrap64 ((i : Int) + 1) = ((i + 1 : Nat) : Int) := by rw [wrap_in (by omega) (by omega)]; omega
  refine Ev.step (fun k => ?_) h
  simp only [fairwaylaw11_SegFinds.j5, num11, Option.bind_some]
  rw [if_pos trivial, if_neg (by simp), if_pos trivial, if_neg (by simp), hw]
theorem sf_j4 (p : S55) (hm : p.f0.f1.length ≤ 9223372036854775806) (b : Bool) (i : Nat) (hi : i < 30) (hin : i < p.f2.length) (e : Int) (r : R) (h : Ev (fun k => fairwaylaw11_SegFinds.l0 k b ((i + 1 : Nat) : Int) p.f0.f0 p.f0.f1 p.f1 p.f2 p.f3) true) :
    (seg_Since.ix (rd p.f2 i) p.f0.f1 0 < 0 → Ev (fun k => fairwaylaw11_SegFinds.j4 k b i e 3 e 3 p.f0.f0 p.f0.f1 p.f1 p.f2 p.f3 r.f0 r.f1 r.f2 r.f3 r.f4 r.f5 0 0 (⟨#[]⟩ : ByteArray) (⟨#[]⟩ : ByteArray) 0 false r.f0 r.f1 r.f2 r.f3 r.f4 r.f5 0 0 (⟨#[]⟩ : ByteArray) (⟨#[]⟩ : ByteArray) 0 false) true) ∧
    (¬ seg_Since.ix (rd p.f2 i) p.f0.f1 0 < 0 → ∀ s : R, s = rd_T25 p.f0.f1 (seg_Since.ix (rd p.f2 i) p.f0.f1 0) → Ev (fun k => fairwaylaw11_SegFinds.j4 k b i e 0 e 3 p.f0.f0 p.f0.f1 p.f1 p.f2 p.f3 r.f0 r.f1 r.f2 r.f3 r.f4 r.f5 s.f0 s.f1 s.f2 s.f3 s.f4 s.f5 r.f0 r.f1 r.f2 r.f3 r.f4 r.f5 0 0 (⟨#[]⟩ : ByteArray) (⟨#[]⟩ : ByteArray) 0 false) true) := by
  constructor
  · intro hx
    refine Ev.step (fun k => by rw [fairwaylaw11_SegFinds.j4, if_pos (by omega), if_pos (by omega)]) ?_
    refine Ev.bind (ref_since _ _ hm) (Ev.congr (fun k => if_neg (by omega)) ?_)
    exact sf_j5 p b i hi e 3 r z0 h
  · intro hx s hs
    have hin2 := seg_Since.ix_in (rd p.f2 i) p.f0.f1 0
    refine Ev.step (fun k => by rw [fairwaylaw11_SegFinds.j4, if_pos (by omega), if_pos (by omega)]) ?_
    refine Ev.bind (ref_since _ _ hm) (Ev.congr (fun k => by rw [if_pos (by omega), if_pos (by omega), if_pos (by omega), ← hs]) ?_)
    exact sf_j5 p b i hi e 0 r s h
theorem sf_j3 (p : S55) (hm : p.f0.f1.length ≤ 9223372036854775806) (i : Nat) (hi : i < 30) (hin : i < p.f2.length) :
    (segOk p.f0.f0 p.f0.f1 → Ev (fun k => fairwaylaw11_SegFinds.l0 k true ((i + 1 : Nat) : Int) p.f0.f0 p.f0.f1 p.f1 p.f2 p.f3) true → Ev (fun k => fairwaylaw11_SegFinds.j3 k true i p.f0.f0 p.f0.f1 p.f1 p.f2 p.f3) true) ∧
    (¬ segOk p.f0.f0 p.f0.f1 → Ev (fun k => fairwaylaw11_SegFinds.l0 k false ((i + 1 : Nat) : Int) p.f0.f0 p.f0.f1 p.f1 p.f2 p.f3) true → Ev (fun k => fairwaylaw11_SegFinds.j3 k false i p.f0.f0 p.f0.f1 p.f1 p.f2 p.f3) true) := by
  constructor
  · intro ho h
    refine Ev.step (fun k => by rw [fairwaylaw11_SegFinds.j3, if_pos (by omega), if_pos (by omega)]) ?_
    have hin1 := seg_Find.ix_in (rd p.f2 i) p.f0.f1 0
    by_cases hx : seg_Find.ix (rd p.f2 i) p.f0.f1 0 < 0
    · refine Ev.bind (find_none _ _ _ ho hx) ?_
      by_cases hy : seg_Since.ix (rd p.f2 i) p.f0.f1 0 < 0
      · refine Ev.bind (since_none _ _ _ ho hy) (Ev.congr (fun k => if_pos rfl) (Ev.bind (ref_find _ _ hm) (Ev.congr (fun k => if_neg (by omega)) ?_)))
        exact (sf_j4 p hm true i hi hin 3 z0 h).1 hy
      · refine Ev.bind (since_some _ _ _ ho hy) (Ev.congr (fun k => if_pos rfl) (Ev.bind (ref_find _ _ hm) (Ev.congr (fun k => if_neg (by omega)) ?_)))
        exact (sf_j4 p hm true i hi hin 3 z0 h).2 hy _ rfl
    · refine Ev.bind (find_some _ _ _ ho hx) ?_
      by_cases hy : seg_Since.ix (rd p.f2 i) p.f0.f1 0 < 0
      · refine Ev.bind (since_none _ _ _ ho hy) (Ev.congr (fun k => if_pos rfl) (Ev.bind (ref_find _ _ hm) (Ev.congr (fun k => by rw [if_pos (by omega), if_pos (by omega), if_pos (by omega)]) ?_)))
        exact (sf_j4 p hm true i hi hin 0 _ h).1 hy
      · refine Ev.bind (since_some _ _ _ ho hy) (Ev.congr (fun k => if_pos rfl) (Ev.bind (ref_find _ _ hm) (Ev.congr (fun k => by rw [if_pos (by omega), if_pos (by omega), if_pos (by omega)]) ?_)))
        exact (sf_j4 p hm true i hi hin 0 _ h).2 hy _ rfl
  · intro ho h
    refine Ev.step (fun k => by rw [fairwaylaw11_SegFinds.j3, if_pos (by omega), if_pos (by omega)]) ?_
    refine Ev.bind (find_no _ _ _ ho) (Ev.bind (since_no _ _ _ ho) (Ev.congr (fun k => if_neg (by decide)) ?_))
    exact sf_j5 p false i hi 1 1 z0 z0 h
theorem sf_loop (p : S55) (hm : p.f0.f1.length ≤ 9223372036854775806) (b : Bool) (hb : (b = true ∧ segOk p.f0.f0 p.f0.f1) ∨ (b = false ∧ ¬ segOk p.f0.f0 p.f0.f1)) : ∀ (d i : Nat), 30 = i + d → Ev (fun k => fairwaylaw11_SegFinds.l0 k b i p.f0.f0 p.f0.f1 p.f1 p.f2 p.f3) true := by
  have stop : ∀ i : Int, Ev (fun k => fairwaylaw11_SegFinds.j2 k b i false p.f0.f0 p.f0.f1 p.f1 p.f2 p.f3) true := fun i =>
    Ev.step (f := fun k => (fairwaylaw11_wakes.f k).bind fun t => some t) (fun k => by rw [fairwaylaw11_SegFinds.j2, if_neg (by decide)]) (Ev.bind wakes11_ev (Ev.now _))
  intro d
  induction d with
  | zero =>
    intro i hi
    refine Ev.step (f := fun k => fairwaylaw11_SegFinds.j2 k b i false p.f0.f0 p.f0.f1 p.f1 p.f2 p.f3) (fun k => ?_) (stop i)
    simp only [fairwaylaw11_SegFinds.l0]
    split
    · rw [decide_eq_false (by omega)]
    · rfl
  | succ d ih =>
    intro i hi
    by_cases hil : i < p.f2.length
    · refine Ev.step (f := fun k => fairwaylaw11_SegFinds.j2 k b i true p.f0.f0 p.f0.f1 p.f1 p.f2 p.f3) (fun k => ?_) ?_
      · simp only [fairwaylaw11_SegFinds.l0]
        rw [if_pos (by omega), decide_eq_true (by omega)]
      · refine Ev.step (fun k => by rw [fairwaylaw11_SegFinds.j2, if_pos rfl]) ?_
        have ih1 := ih (i + 1) (by omega)
        rcases hb with ⟨rfl, ho⟩ | ⟨rfl, ho⟩
        · exact (sf_j3 p hm i (by omega) hil).1 ho ih1
        · exact (sf_j3 p hm i (by omega) hil).2 ho ih1
    · refine Ev.step (f := fun k => fairwaylaw11_SegFinds.j2 k b i false p.f0.f0 p.f0.f1 p.f1 p.f2 p.f3) (fun k => ?_) (stop i)
      simp only [fairwaylaw11_SegFinds.l0]
      rw [if_neg (by omega)]
theorem SegFinds (p : S55) (hg : good55 p) : ∃ k, fairwaylaw11_SegFinds.f k p.f0.f0 p.f0.f1 p.f1 p.f2 p.f3 = some true := by
  obtain ⟨⟨g0, g1, g2⟩, ⟨g3, g4⟩, g5, g6⟩ := hg
  obtain ⟨b, hb, _⟩ := heavy_ev p.f0.f0 p.f0.f1 p.f1 p.f2 p.f3 g1 g2 g3 g4
  refine Ev.rounds (r := true) ?_
  refine Ev.bind hb ?_
  cases b with
  | true => exact Ev.congr (fun k => if_pos rfl) (Ev.now _)
  | false =>
    refine Ev.congr (fun k => if_neg (by decide)) ?_
    refine Ev.step (fun k => by rw [fairwaylaw11_SegFinds.j0]) ?_
    by_cases h : segOk p.f0.f0 p.f0.f1
    · exact Ev.bind (refseg_yes _ _ h) (sf_loop p (by omega) true (.inl ⟨rfl, h⟩) 30 0 (by omega))
    · exact Ev.bind (refseg_no _ _ (by omega) h) (sf_loop p (by omega) false (.inr ⟨rfl, h⟩) 30 0 (by omega))
end Go.Proofs.Ytmabdfdmccbfnaa.Pure

/- SegFinds: for every input of the row the law returns true, and the input reads afterwards as before. Conditions: none beside the row's own. -/
namespace Go.Proofs.Ytmabdfdmccbfnaa.segFinds
open Go.ChangeShapes Go.WideShapes Go.ChangeAt Go.RowKit Go.Proofs.YtmabdfdmccbfnaaW.PrintWords Go.Proofs.Ytmabdfdmccbfnaa.Open Go.Proofs.Ytmabdfdmccbfnaa.P
set_option linter.unusedVariables false
theorem own : ownKnob Try.prog.godebug = none := by kernel_rfl
theorem laidOut : laidOutB Try.prog = true := by kernel_rfl
theorem openK55 {w : World} {x : S55} {cs : List Value} (h : k55.K w x cs) : ∃ (A1 : Option Addr) (c1 : Nat) (A2 : Option Addr) (c2 : Nat) (A3 : Option Addr) (c3 : Nat), cs = [.int .i64 x.f0.f0, .slice A1 x.f0.f1.length c1, .slice A2 x.f1.length c2, .slice A3 x.f2.length c3, .string x.f3] ∧ Kd.C k25 w A1 x.f0.f1.length x.f0.f1 ∧ x.f0.f1.length ≤ c1 ∧ Kd.C k25 w A2 x.f1.length x.f1 ∧ x.f1.length ≤ c2 ∧ Kd.C (Kd.int .i64) w A3 x.f2.length x.f2 ∧ x.f2.length ≤ c3 := by
  obtain ⟨_, _, rfl, ⟨_, _, rfl, rfl, ⟨A1, c1, rfl, hc1, hr1⟩⟩, ⟨_, _, rfl, ⟨A2, c2, rfl, hc2, hr2⟩, ⟨_, _, rfl, ⟨A3, c3, rfl, hc3, hr3⟩, rfl⟩⟩⟩ := h
  exact ⟨A1, c1, A2, c2, A3, c3, rfl, hr1, hc1, hr2, hc2, hr3, hc3⟩
theorem purely (p : S55) (hg : good55 p) : ∃ k, fairwaylaw11_SegFinds.f k p.f0.f0 p.f0.f1 p.f1 p.f2 p.f3 = some true := Pure.SegFinds p hg
set_option maxRecDepth 100000 in
theorem lifted (os : Os) (started : os.Started) (H : Type) (enc : TypeId × Value → H) :
    ReturnsInHanded {} Try.checked os 7 .any (Rows.segFindsSpec.pre6 enc Try.prog Try.f7 Rows.segFindsRow.domain false) (Rows.segFindsSpec.post enc Try.prog Try.f7 false true false false) := by
  refine returnsInHanded_of_change_sized (C := Try.checked) own started (by kernel_rfl) Try.func7
    (ChangeSpec.witness6 (enc := enc) (C := Try.checked) false ⟨#[], #[.agg #[.int .i64 0, .slice none 0 0, .slice none 0 0, .slice none 0 0, .string ByteArray.empty]], []⟩ 8 (by kernel_rfl) (by kernel_rfl) (by kernel_rfl) (by kernel_rfl)) ?_
  intro W base args ds gs before hval0 hW hcnd hsz0 _
  have hsz : (DataW.weightsEach Try.prog (Try.f7.params.toList ++ Rows.segFindsSpec.plain.varTypes Try.prog) (ds ++ gs)).all (· ≤ reachBytes) = true := hsz0
  have hval : ∀ (j : Nat) t v, Try.f7.params[j]? = some t → args[j]? = some v → Value.okWide Try.prog W .any base t v := hval0
  have hW' := hW
  obtain ⟨p_, q_, hA0, hV, rfl, hfz, hnd⟩ := hW
  have hA : DataW.TrodAll enc Try.prog W 0 (fun _ => true) true Try.f7.params.toList args.toList ds p_ := hA0
  rw [Try.params7] at hA hval hsz
  obtain ⟨v0, vs0, d0, ds0, p0, q0, hargs, rfl, rfl, h0, r0⟩ := trodAll_cons hA
  obtain ⟨rfl, rfl, rfl⟩ := trodAll_nil r0
  obtain rfl : args = #[v0] := by cases args; simp_all
  obtain ⟨rfl, rfl⟩ := trodVars_none hV
  obtain ⟨cs0, rfl, hsz0_⟩ := okWide_struct Try.underlying55 (hval 0 55 v0 rfl rfl)
  have k0 := h0
  have lt0 : ∀ x ∈ p0, x.block < W.heap.size := by obtain ⟨m, hm⟩ := k0; exact DataW.trod_lt m _ _ _ hm
  obtain ⟨p, hg0, A1, c1, A2, c2, A3, c3, rfl, hr1, hc1, hr2, hc2, hr3, hc3⟩ : ∃ p : S55, good55 p ∧ ∃ (A1 : Option Addr) (c1 : Nat) (A2 : Option Addr) (c2 : Nat) (A3 : Option Addr) (c3 : Nat), cs0 = #[.int .i64 p.f0.f0, .slice A1 p.f0.f1.length c1, .slice A2 p.f1.length c2, .slice A3 p.f2.length c3, .string p.f3] ∧ Kd.C k25 W A1 p.f0.f1.length p.f0.f1 ∧ p.f0.f1.length ≤ c1 ∧ Kd.C k25 W A2 p.f1.length p.f1 ∧ p.f1.length ≤ c2 ∧ Kd.C (Kd.int .i64) W A3 p.f2.length p.f2 ∧ p.f2.length ≤ c3 := by
    obtain ⟨fuel, hf⟩ := h0
    obtain ⟨x, hK, hg⟩ := rd55.rd enc W fuel _ _ _ hf (fun m hm => of_decide_eq_true (List.all_eq_true.1 hsz m (DataW.weights_mem_each (j := 0) rfl rfl m hm)))
    obtain ⟨A1, c1, A2, c2, A3, c3, hcs, hr1, hc1, hr2, hc2, hr3, hc3⟩ := openK55 hK
    refine ⟨x, hg, A1, c1, A2, c2, A3, c3, ?_, hr1, hc1, hr2, hc2, hr3, hc3⟩
    have e_ := congrArg List.toArray hcs
    simpa [Value.cells] using e_
  clear hA0 hval0 hsz0 hsz
  obtain ⟨k, h⟩ := purely p hg0
  refine (fairwaylaw11_SegFinds.calls k p.f0.f0 A1 c1 p.f0.f1 A2 c2 p.f1 A3 c3 p.f2 p.f3 true W hr1 hc1 hr2 hc2 hr3 hc3 h).mono fun e W' ⟨he, bel0⟩ => ?_
  have bel : Below W.heap.size W W' := bel0
  subst he
  exact ⟨_, rfl, _, _, _, [], _, [], hW', trodAll_mk1 (shut_bool Try.underlying4 _), (trodAll_cons_mk (Below.trod laidOut (by kernel_rfl) (of_decide_eq_true (by kernel_rfl)) k0 bel lt0) trodAll_mk0), rfl, bel.frame _, fun h => by cases h⟩
theorem over : Rows.segFindsRow.holds Try.pinned (OpenSpec.ofChange Rows.segFindsSpec) :=
  OpenClaim.holds_of_wide 7 Try.f7 rfl rfl rfl rfl rfl rfl rfl ⟨rfl, rfl, rfl, rfl, rfl⟩ rfl rfl rfl rfl rfl (by kernel_rfl) Try.func7 (by kernel_rfl)
    (of_decide_eq_true (by kernel_rfl)) (by unfold Func.isWrapper; first | (rw [if_pos (by decide +kernel)]; kernel_rfl) | (rw [if_neg (by decide +kernel)]; exact ⟨rfl, rfl⟩))
    (fun os started H enc _ => lifted os started H enc)
theorem proved : Rows.SegFindsSaid := over
#print axioms proved
end Go.Proofs.Ytmabdfdmccbfnaa.segFinds
namespace Go.Proofs.Ytmabdfdmccbfnaa
theorem segFinds_holds : Rows.SegFindsSaid := segFinds.proved
end Go.Proofs.Ytmabdfdmccbfnaa

