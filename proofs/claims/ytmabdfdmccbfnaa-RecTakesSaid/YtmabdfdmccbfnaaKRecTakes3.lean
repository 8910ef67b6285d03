/- RecTakes: for every input of the row the law returns true, and the input reads afterwards as before. Conditions: none beside the row's own. -/
import Derived.Test.YtmabdfdmccbfnaaKRecTakes1
import Derived.Test.YtmabdfdmccbfnaaKRecTakes2
import Derived.Test.YtmabdfdmccbfnaaRows
import Derived.WalkKit
import Derived.ProofKit
import Derived.OpenShut
import Derived.ShutString
import Derived.ChangeOld
import Derived.Below
import Derived.SizedLaws
/- Records behind each other in bytes: the program's reading and the page's are the same; records held against each other; records written over. -/
namespace Go.Proofs.Ytmabdfdmccbfnaa.UScan
open Go Go.RowKit Go.Proofs.Ytmabdfdmccbfnaa.P Go.Proofs.Ytmabdfdmccbfnaa.URec Go.Proofs.Ytmabdfdmccbfnaa.UTake Go.Proofs.Ytmabdfdmccbfnaa.UTk Go.Proofs.YtmabdfdmccbfnaaW.PrintWords Go.Proofs.YtmabdfdmccbfnaaW.PrintLast
set_option linter.unusedVariables false
set_option linter.unusedSimpArgs false
attribute [local irreducible] bt V ByteArray.extract keyLen rcOf bodyAt sumAt takeOk

theorem take_any (s : ByteArray) (hs : s.size ≤ 140737488351232) :
    (∃ (r : R) (n : Nat), 6 ≤ n ∧ n ≤ s.size ∧ Ev (fun k => rec_Take.f k s) (r.f0, r.f1, r.f2, r.f3, r.f4, r.f5, (n : Int), 0) ∧ Ev (fun k => fairwayref10_Take.f k s) (r.f0, r.f1, r.f2, r.f3, r.f4, r.f5, (n : Int), 0)) ∨
    (∃ e : Int, e ≠ 0 ∧ Ev (fun k => rec_Take.f k s) (0, 0, ⟨#[]⟩, ⟨#[]⟩, 0, false, 0, e) ∧ Ev (fun k => fairwayref10_Take.f k s) (0, 0, ⟨#[]⟩, ⟨#[]⟩, 0, false, 0, e)) := by
  by_cases h : s.size < 6 ∨ s.size - 6 < V s 2
  · obtain ⟨a, b⟩ := take_cut s hs h
    exact .inr ⟨7, by decide, a, b⟩
  · have h6 : 6 ≤ s.size := Nat.le_of_not_lt fun g => h (.inl g)
    have hv : V s 2 ≤ s.size - 6 := Nat.le_of_not_lt fun g => h (.inr g)
    obtain ⟨a1, a2⟩ := take_prog s hs h6 hv
    obtain ⟨b1, b2⟩ := take_ref s hs h6 hv
    by_cases g : takeOk s
    · refine .inl ⟨rcOf (bodyAt s), 6 + V s 2, Nat.le_add_right _ _, ?_, a1 g, b1 g⟩
      generalize V s 2 = v at *
      generalize s.size = n at *
      omega
    · exact .inr ⟨8, by decide, a2 g, b2 g⟩

theorem ar_add (n a m : Nat) (hn : n ≤ 140737488351232) (ha : a ≤ n) (hm : m ≤ n - a) : wrap64 ((a : Int) + (m : Int)) = ((a + m : Nat) : Int) := by
  rw [wrap_in (by omega) (by omega)]; omega
theorem scan_both (s : ByteArray) (hs : s.size ≤ 140737488351232) : ∀ (d a : Nat) (acc : List R), s.size - a ≤ d → a ≤ s.size → acc.length * 6 ≤ a → s.size < 13194139533312 →
    ∃ (l : List R) (te : Int) (all : Bool), l.length * 6 ≤ s.size ∧ Ev (fun k => rec_Scan.l0 k s acc a) (l, te, all) ∧ Ev (fun k => fairwayref10_Scan.l0 k s acc a) (l, te, all)
  | d, a, acc, hd, ha, hl, hb => by
    by_cases hlt : a < s.size
    · have e1 : (a : Int) < (s.size : Int) := Int.ofNat_lt.2 hlt
      have e2 : (0 : Int) ≤ (a : Int) := Int.natCast_nonneg a
      have e3 : (a : Int) ≤ (s.size : Int) := Int.ofNat_le.2 ha
      have hx := ext_size s a ha
      rcases take_any (s.extract a s.size) (by rw [hx]; exact Nat.le_trans (Nat.sub_le _ _) hs) with ⟨r, n, hn6, hn, t1, t2⟩ | ⟨e, he, t1, t2⟩
      · rw [hx] at hn
        have hw := ar_add s.size a n hs ha hn
        have hll : acc.length < 2199023255552 := by generalize s.size = z at *; omega
        match d with
        | 0 => exact absurd hd (by generalize s.size = z at *; omega)
        | d + 1 =>
          obtain ⟨l, te, all, h1, h2, h3⟩ := scan_both s hs d (a + n) (acc ++ [r]) (by generalize s.size = z at *; omega) (by generalize s.size = z at *; omega) (by rw [List.length_append, List.length_singleton]; generalize acc.length = z at *; omega) hb
          refine ⟨l, te, all, h1, Ev.step (fun k => by rw [rec_Scan.l0, if_pos e1, if_pos e2, if_pos e3, Int.toNat_natCast]) (Ev.bind t1 (Ev.congr (fun k => by rw [if_pos rfl, if_pos hll, hw]) h2)), Ev.step (fun k => by rw [fairwayref10_Scan.l0, if_pos e1, if_pos e2, if_pos e3, Int.toNat_natCast]) (Ev.bind t2 (Ev.congr (fun k => by rw [if_pos rfl, if_pos hll, hw]) h3))⟩
      · exact ⟨acc, a, false, Nat.le_trans hl ha, Ev.step (fun k => by rw [rec_Scan.l0, if_pos e1, if_pos e2, if_pos e3, Int.toNat_natCast]) (Ev.bind t1 (Ev.congr (fun k => if_neg he) (Ev.now _))), Ev.step (fun k => by rw [fairwayref10_Scan.l0, if_pos e1, if_pos e2, if_pos e3, Int.toNat_natCast]) (Ev.bind t2 (Ev.congr (fun k => if_neg he) (Ev.now _)))⟩
    · have e1 : ¬ (a : Int) < (s.size : Int) := fun g => hlt (Int.ofNat_lt.1 g)
      exact ⟨acc, a, true, Nat.le_trans hl ha, Ev.step (fun k => by rw [rec_Scan.l0, if_neg e1]) (Ev.now _), Ev.step (fun k => by rw [fairwayref10_Scan.l0, if_neg e1]) (Ev.now _)⟩
theorem scan_any (s : ByteArray) (hs : s.size < 13194139533312) :
    ∃ (l : List R) (te : Int) (all : Bool), l.length * 6 ≤ s.size ∧ Ev (fun k => rec_Scan.f k s) (l, te, all) ∧ Ev (fun k => fairwayref10_Scan.f k s) (l, te, all) :=
  scan_both s (Nat.le_of_lt (Nat.lt_trans hs (by decide))) s.size 0 [] (Nat.sub_le _ _) (Nat.zero_le _) (Nat.zero_le _) hs

/-! ### held against each other -/
theorem r_same (a : R) : (!(a.f0 == a.f0) || (!(a.f1 == a.f1) || (!(a.f2.toList == a.f2.toList) || (!(a.f3.toList == a.f3.toList) || (!(a.f4 == a.f4) || (!(a.f5 == a.f5))))))) = false := by simp
theorem ar_next (n i : Nat) (hn : n ≤ 9223372036854775806) (hi : i < n) : wrap64 ((i : Int) + 1) = ((i + 1 : Nat) : Int) := by
  rw [wrap_in (by omega) (by omega)]; omega
theorem eqrecs_loop (l : List R) (hm : l.length ≤ 9223372036854775806) : ∀ (d i : Nat), l.length = i + d → Ev (fun k => fairwayref0_EqRecs.l0 k l l i) true
  | 0, i, h => by
    refine Ev.step (fun k => by rw [fairwayref0_EqRecs.l0, if_neg (by omega)]) (Ev.now _)
  | d + 1, i, h => by
    have ih := eqrecs_loop l hm d (i + 1) (by omega)
    have hw := ar_next l.length i hm (by omega)
    exact Ev.step (fun k => by rw [fairwayref0_EqRecs.l0, if_pos (by omega), if_pos (by omega), if_pos (by omega), r_same, if_neg Bool.false_ne_true, hw]) ih
theorem eqrecs_same (l : List R) (hm : l.length ≤ 9223372036854775806) : Ev (fun k => fairwayref0_EqRecs.f k l l) true := by
  unfold fairwayref0_EqRecs.f
  exact Ev.congr (fun k => if_pos rfl) (eqrecs_loop l hm l.length 0 (by omega))
theorem over_loop : ∀ (d i : Nat) (l : List R), l.length < 2199023255552 → l.length = i + d → Ev (fun k => fairwaylaw0_Recs.l0 k l i) ()
  | 0, i, l, hm, h => Ev.step (fun k => by rw [fairwaylaw0_Recs.l0, if_neg (by omega), if_pos hm]) (Ev.now _)
  | d + 1, i, l, hm, h => by
    have ih := over_loop d (i + 1) (l.set ((i : Int)).toNat (⟨(-9), 0, (⟨#[]⟩ : ByteArray), (⟨#[]⟩ : ByteArray), 0, false⟩ : R)) (by rw [List.length_set]; exact hm) (by rw [List.length_set]; omega)
    have hw := ar_next l.length i (by omega) (by omega)
    exact Ev.step (fun k => by rw [fairwaylaw0_Recs.l0, if_pos (by omega), if_pos (by omega), hw]) ih
theorem over_ev (l : List R) (hm : l.length < 2199023255552) : Ev (fun k => fairwaylaw0_Recs.f k l) () := over_loop l.length 0 l hm (by omega)
end Go.Proofs.Ytmabdfdmccbfnaa.UScan

/- The pure law RecTakes: which record any bytes begin with, and which ones stand behind each other there, is the page's. -/
namespace Go.Proofs.Ytmabdfdmccbfnaa.Pure
open Go Go.RowKit Go.Proofs.Ytmabdfdmccbfnaa.P Go.Proofs.Ytmabdfdmccbfnaa.Sq Go.Proofs.Ytmabdfdmccbfnaa.URec Go.Proofs.Ytmabdfdmccbfnaa.URec10 Go.Proofs.Ytmabdfdmccbfnaa.UBytes Go.Proofs.Ytmabdfdmccbfnaa.UTake Go.Proofs.Ytmabdfdmccbfnaa.UTk Go.Proofs.Ytmabdfdmccbfnaa.UScan Go.Proofs.YtmabdfdmccbfnaaW.PrintWords Go.Proofs.YtmabdfdmccbfnaaW.PrintLast
set_option linter.unusedVariables false
set_option linter.unusedSimpArgs false
attribute [local irreducible] bt V ByteArray.extract

theorem mn_in (v n : Nat) (h : 6 ≤ n) (hn : n ≤ 140737488351232) (hv : v < 65536) : ∃ m : Nat, mn (v : Int) (wrap64 ((n : Int) - 6)) = (m : Int) ∧ m ≤ n - 6 ∧ wrap64 (6 + (m : Int)) = ((6 + m : Nat) : Int) ∧ 6 ≤ ((6 + m : Nat) : Int) ∧ ((6 + m : Nat) : Int) ≤ (n : Int) ∧ ¬ (n : Int) < 6 ∧ 2 ≤ n ∧ 2 ≤ (n : Int) ∧ 6 ≤ (n : Int) ∧
    2 + m ≤ 140737488351232 ∧ 2 + m ≤ 9223372036854775807 ∧ 2 + 4 ≤ 9223372036854775807 ∧ 2 + 4 + (n - 6) ≤ 9223372036854775807 ∧ 2 + 4 + (n - 6) = n ∧ 6 + m ≤ n ∧ 6 + m - 6 = m := by
  have e : wrap64 ((n : Int) - 6) = ((n - 6 : Nat) : Int) := by rw [wrap_in (by omega) (by omega)]; omega
  refine ⟨min v (n - 6), ?_, by omega, ?_, by omega, by omega, by omega, by omega, by omega, by omega, by omega, by omega, by omega, by omega, by omega, by omega, by omega⟩
  · rw [e]; unfold mn; split <;> omega
  · rw [wrap_in (by omega) (by omega)]; omega
theorem ext_in (s : ByteArray) (a b : Nat) (h : b ≤ s.size) : (s.extract a b).size = b - a := by
  rw [ByteArray.size_extract, Nat.min_eq_left h]
theorem summed_ev (s : ByteArray) (hs : s.size ≤ 140737488351232) : ∃ t : ByteArray, t.size = s.size ∧ Ev (fun k => fairwayref10_Summed.f k s) t := by
  by_cases h6 : s.size < 6
  · have e1 : (s.size : Int) < 6 := by generalize s.size = n at *; omega
    exact ⟨s, rfl, by unfold fairwayref10_Summed.f; exact Ev.congr (fun k => if_pos e1) (Ev.now _)⟩
  · obtain ⟨m, q1, q2, q3, q4, q5, q6, q7, q8, q9, q10, q11, q12, q13, q14, q15, q16⟩ := mn_in (V s 2) s.size (Nat.le_of_not_lt h6) hs (V2_lt s)
    have x1 := ext_size0 s q7
    have x2 := ext_in s 6 (6 + m) q15
    rw [q16] at x2
    have x3 := ext_size s 6 (Nat.le_of_not_lt h6)
    have t1 := sum_ref (s.extract 0 2) (s.extract 6 (6 + m)) (by rw [x1, x2]; exact q10)
    have f1 := fixed_ev (wrap64 (sumOf (s.extract 0 2) (s.extract 6 (6 + m)))) 4 (by decide)
    generalize sumOf (s.extract 0 2) (s.extract 6 (6 + m)) = z at *
    have x4 := fixed_size (wrap64 z) 4
    generalize fixed (wrap64 z) 4 = y at *
    refine ⟨(s.extract 0 2 ++ y) ++ s.extract 6 s.size, by rw [ByteArray.size_append, ByteArray.size_append, x1, x3, x4]; exact q14, ?_⟩
    unfold fairwayref10_Summed.f
    unfold xt
    refine Ev.congr (fun k => if_neg q6) (Ev.bind (len_ev2 s q7) ?_)
    refine Ev.congr (fun k => by rw [if_pos (by decide), if_pos q8, q1, q3, if_pos q4, if_pos q5, Int.toNat_natCast, if_pos (by rw [x1, x2]; exact q11)]) (Ev.bind t1 (Ev.bind f1 ?_))
    exact Ev.congr (fun k => by rw [if_pos (by rw [x1, x4]; exact q12), if_pos q9, if_pos (by rw [ByteArray.size_append, x1, x3, x4]; exact q13)]) (Ev.now _)

theorem rt_j3 (l : List S38) (i j : Int) (s : ByteArray) (hs : s.size ≤ 1000000) (h : Ev (fun k => fairwaylaw10_RecTakes.l1 k l i (wrap64 (j + 1))) true) : Ev (fun k => fairwaylaw10_RecTakes.j3 k l i j s) true := by
  have hs1 : s.size ≤ 140737488351232 := Nat.le_trans hs (by decide)
  have hs2 : s.size < 13194139533312 := Nat.lt_of_le_of_lt hs (by decide)
  have key : Ev (fun k => fairwaylaw10_RecTakes.j4 k l i j s false) true := by
    obtain ⟨x, te, all, hx, a1, a2⟩ := scan_any s hs2
    have hx1 : x.length ≤ 9223372036854775806 := by generalize s.size = z at *; omega
    have hx2 : x.length < 2199023255552 := by generalize s.size = z at *; omega
    refine Ev.step (fun k => by rw [fairwaylaw10_RecTakes.j4, if_neg Bool.false_ne_true]) ?_
    refine Ev.bind a1 (Ev.bind a2 (Ev.bind (eqrecs_same x hx1) ?_))
    refine Ev.congr (fun k => by rw [if_pos rfl, if_pos rfl, if_neg (by simp)]) ?_
    exact Ev.bind (over_ev x hx2) h
  refine Ev.step (fun k => by rw [fairwaylaw10_RecTakes.j3]) ?_
  rcases take_any s hs1 with ⟨r, n, hn6, hn, t1, t2⟩ | ⟨e, he, t1, t2⟩
  · refine Ev.bind t1 (Ev.bind t2 ?_)
    simp only [num10, Option.bind_some]
    exact Ev.congr (fun k => by rw [if_pos trivial, if_pos trivial, r_same]) key
  · refine Ev.bind t1 (Ev.bind t2 ?_)
    simp only [num10, Option.bind_some]
    have z := r_same ⟨0, 0, ⟨#[]⟩, ⟨#[]⟩, 0, false⟩
    simp only at z
    refine Ev.congr (fun k => by rw [if_pos trivial, if_pos trivial, z]) ?_
    exact key
theorem rt_loop (l : List S38) (hg : ∀ x ∈ l, good38 x) : ∀ (d i : Nat), 10 = i + d → Ev (fun k => fairwaylaw10_RecTakes.l0 k l i) true := by
  have stop : ∀ i : Int, Ev (fun k => fairwaylaw10_RecTakes.j1 k l i false) true := fun i =>
    Ev.step (f := fun k => (fairwaylaw10_wakes.f k).bind fun t => some t) (fun k => by rw [fairwaylaw10_RecTakes.j1, if_neg (by decide)]) (Ev.bind wakes10_ev (Ev.now _))
  intro d
  induction d with
  | zero =>
    intro i hi
    refine Ev.step (f := fun k => fairwaylaw10_RecTakes.j1 k l i false) (fun k => ?_) (stop i)
    simp only [fairwaylaw10_RecTakes.l0]
    split
    · rw [decide_eq_false (by omega)]
    · rfl
  | succ d ih =>
    intro i hi
    by_cases hil : i < l.length
    · have hw : wrap64 ((i : Int) + 1) = ((i + 1 : Nat) : Int) := by rw [wrap_in (by omega) (by omega)]; omega
      refine Ev.step (f := fun k => fairwaylaw10_RecTakes.j1 k l i true) (fun k => ?_) ?_
      · simp only [fairwaylaw10_RecTakes.l0]
        rw [if_pos (by omega), decide_eq_true (by omega)]
      · obtain ⟨⟨g0, g1⟩, g2⟩ := hg _ (ask_mem hil)
        obtain ⟨b, hb, hb2⟩ := heavy10_ev _ (rd_T38 l i).f1 g0 g1
        have p1 : (0 : Int) ≤ (i : Int) := Int.natCast_nonneg i
        have p2 : (i : Int) < (l.length : Int) := Int.ofNat_lt.2 hil
        refine Ev.step (fun k => by rw [fairwaylaw10_RecTakes.j1, if_pos rfl, if_pos p1, if_pos p2]) ?_
        refine Ev.bind hb ?_
        cases b with
        | true => exact Ev.congr (fun k => if_pos rfl) (Ev.now _)
        | false =>
          have hs : (rd_T38 l i).f1.size ≤ 1000000 := Nat.le_trans (hb2 rfl).2 (by decide)
          obtain ⟨t, ht, ht2⟩ := summed_ev (rd_T38 l i).f1 g2
          refine Ev.congr (fun k => if_neg (by decide)) ?_
          refine Ev.step (fun k => by rw [fairwaylaw10_RecTakes.l1, if_pos (by decide), if_pos p1, if_pos p2, if_neg (by decide)]) ?_
          refine rt_j3 l i 0 _ hs ?_
          rw [show wrap64 (0 + 1) = 1 by unfold wrap64; decide]
          refine Ev.step (fun k => by rw [fairwaylaw10_RecTakes.l1, if_pos (by decide), if_pos p1, if_pos p2, if_pos rfl]) ?_
          refine Ev.bind ht2 (rt_j3 l i 1 _ (by rw [ht]; exact hs) ?_)
          rw [show wrap64 (1 + 1) = 2 by unfold wrap64; decide]
          exact Ev.step (fun k => by rw [fairwaylaw10_RecTakes.l1, if_neg (by decide), hw]) (ih (i + 1) (by omega))
    · refine Ev.step (f := fun k => fairwaylaw10_RecTakes.j1 k l i false) (fun k => ?_) (stop i)
      simp only [fairwaylaw10_RecTakes.l0]
      rw [if_neg (by omega)]
theorem RecTakes (l0 : List (S38)) (hl : l0.length * 40 ≤ 140737488351232) (hg : ∀ x ∈ l0, good38 x) : ∃ k, fairwaylaw10_RecTakes.f k l0 = some true :=
  (rt_loop l0 hg 10 0 (by omega)).rounds
end Go.Proofs.Ytmabdfdmccbfnaa.Pure

/- RecTakes: for every input of the row the law returns true, and the input reads afterwards as before. Conditions: none beside the row's own. -/
namespace Go.Proofs.Ytmabdfdmccbfnaa.recTakes
open Go.ChangeShapes Go.WideShapes Go.ChangeAt Go.RowKit Go.Proofs.YtmabdfdmccbfnaaW.PrintWords Go.Proofs.Ytmabdfdmccbfnaa.Open Go.Proofs.Ytmabdfdmccbfnaa.P
set_option linter.unusedVariables false
theorem own : ownKnob Try.prog.godebug = none := by kernel_rfl
theorem laidOut : laidOutB Try.prog = true := by kernel_rfl
theorem purely (l0 : List (S38)) (hl : l0.length * 40 ≤ 140737488351232) (hg : ∀ x ∈ l0, good38 x) : ∃ k, fairwaylaw10_RecTakes.f k l0 = some true := Pure.RecTakes l0 hl hg
set_option maxRecDepth 100000 in
theorem lifted (os : Os) (started : os.Started) (H : Type) (enc : TypeId × Value → H) :
    ReturnsInHanded {} Try.checked os 5 .any (Rows.recTakesSpec.pre6 enc Try.prog Try.f5 Rows.recTakesRow.domain false) (Rows.recTakesSpec.post enc Try.prog Try.f5 false true false false) := by
  refine returnsInHanded_of_change_sized (C := Try.checked) own started (by kernel_rfl) Try.func5
    (ChangeSpec.witness6 (enc := enc) (C := Try.checked) false ⟨#[], #[.slice none 0 0], []⟩ 8 (by kernel_rfl) (by kernel_rfl) (by kernel_rfl) (by kernel_rfl)) ?_
  intro W base args ds gs before hval0 hW hcnd hsz0 _
  have hsz : (DataW.weightsEach Try.prog (Try.f5.params.toList ++ Rows.recTakesSpec.plain.varTypes Try.prog) (ds ++ gs)).all (· ≤ reachBytes) = true := hsz0
  have hval : ∀ (j : Nat) t v, Try.f5.params[j]? = some t → args[j]? = some v → Value.okWide Try.prog W .any base t v := hval0
  have hW' := hW
  obtain ⟨p_, q_, hA0, hV, rfl, hfz, hnd⟩ := hW
  have hA : DataW.TrodAll enc Try.prog W 0 (fun _ => true) true Try.f5.params.toList args.toList ds p_ := hA0
  rw [Try.params5] at hA hval hsz
  obtain ⟨v0, vs0, d0, ds0, p0, q0, hargs, rfl, rfl, h0, r0⟩ := trodAll_cons hA
  obtain ⟨rfl, rfl, rfl⟩ := trodAll_nil r0
  obtain rfl : args = #[v0] := by cases args; simp_all
  obtain ⟨rfl, rfl⟩ := trodVars_none hV
  obtain ⟨a0, len0, cap0, rfl⟩ := okWide_slice Try.underlying22 (hval 0 22 v0 rfl rfl)
  have k0 := h0
  have lt0 : ∀ x ∈ p0, x.block < W.heap.size := by obtain ⟨m, hm⟩ := k0; exact DataW.trod_lt m _ _ _ hm
  obtain ⟨l0, rfl, hr0, hc0, hg0, hl0⟩ : ∃ l : List (S38), len0 = l.length ∧ Kd.C k38 W a0 l.length l ∧ l.length ≤ cap0 ∧ (∀ x ∈ l, good38 x) ∧ l.length * 40 ≤ 140737488351232 := by
    obtain ⟨fuel, hf⟩ := h0
    obtain ⟨x, ⟨A, c, hcs, hl, hC⟩, hg, hb⟩ := (rd_slice 40 Try.underlying22 (by kernel_rfl) (by kernel_rfl) rd38).rd enc W fuel _ _ _ hf (fun m hm => of_decide_eq_true (List.all_eq_true.1 hsz m (DataW.weights_mem_each (j := 0) rfl rfl m hm)))
    simp [Value.cells] at hcs
    obtain ⟨rfl, rfl, rfl⟩ := hcs
    exact ⟨x, rfl, hC, hl, hg, hb⟩
  clear hA0 hval0 hsz0 hsz
  obtain ⟨k, h⟩ := purely l0 hl0 hg0
  refine (fairwaylaw10_RecTakes.calls k _ _ l0 true W hr0 hc0 h).mono fun e W' ⟨he, bel0⟩ => ?_
  have bel : Below W.heap.size W W' := bel0
  subst he
  exact ⟨_, rfl, _, _, _, [], _, [], hW', trodAll_mk1 (shut_bool Try.underlying4 _), (trodAll_cons_mk (Below.trod laidOut (by kernel_rfl) (of_decide_eq_true (by kernel_rfl)) k0 bel lt0) trodAll_mk0), rfl, bel.frame _, fun h => by cases h⟩
theorem over : Rows.recTakesRow.holds Try.pinned (OpenSpec.ofChange Rows.recTakesSpec) :=
  OpenClaim.holds_of_wide 5 Try.f5 rfl rfl rfl rfl rfl rfl rfl ⟨rfl, rfl, rfl, rfl, rfl⟩ rfl rfl rfl rfl rfl (by kernel_rfl) Try.func5 (by kernel_rfl)
    (of_decide_eq_true (by kernel_rfl)) (by unfold Func.isWrapper; first | (rw [if_pos (by decide +kernel)]; kernel_rfl) | (rw [if_neg (by decide +kernel)]; exact ⟨rfl, rfl⟩))
    (fun os started H enc _ => lifted os started H enc)
theorem proved : Rows.RecTakesSaid := over
#print axioms proved
end Go.Proofs.Ytmabdfdmccbfnaa.recTakes
namespace Go.Proofs.Ytmabdfdmccbfnaa
theorem recTakes_holds : Rows.RecTakesSaid := recTakes.proved
end Go.Proofs.Ytmabdfdmccbfnaa

