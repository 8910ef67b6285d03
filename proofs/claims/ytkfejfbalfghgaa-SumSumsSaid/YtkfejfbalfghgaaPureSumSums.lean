/- The pure law SumSums: what sum.Sum computes is what the page's Sum computes, for every list of asks. -/
import Derived.Test.YtkfejfbalfghgaaPx4
import Derived.Test.YtkfejfbalfghgaaRd
import Derived.Test.YtkfejfbalfghgaaUSum
namespace Go.Proofs.Ytkfejfbalfghgaa.Pure
set_option linter.unusedVariables false
set_option linter.unusedSimpArgs false
open Go.RowKit Go.Proofs.Ytkfejfbalfghgaa.P Go.Proofs.Ytkfejfbalfghgaa.USum Go.Proofs.YtkfejfbalfghgaaW.PrintWords Go.Proofs.YtkfejfbalfghgaaW.PrintLast

theorem wakes_ev : Ev (fun k => fairwaylaw3_wakes.f k) true := Ev.of (fairwaylaw3_wakes.mono) (k := 120) (by decide +kernel)

theorem rd_mem {l0 : List S25} {i : Nat} (h : i < l0.length) : rd_T25 l0 i ∈ l0 := by
  unfold rd_T25
  simp [List.getD_eq_getElem?_getD, List.getElem?_eq_getElem h]

theorem sums_loop (l0 : List S25) (hl : l0.length * 32 ≤ 140737488351232) (hg : ∀ x ∈ l0, good25 x) : ∀ d i : Nat, 15 ≤ i + d → Ev (fun k => fairwaylaw3_SumSums.l0 k l0 i) true := by
  have stop : ∀ i : Int, Ev (fun k => fairwaylaw3_SumSums.j1 k l0 i false) true := by
    intro i
    refine Ev.step (f := fun k => (fairwaylaw3_wakes.f k).bind fun t => some t) (fun k => ?_) (Ev.bind wakes_ev (Ev.now _))
    simp only [fairwaylaw3_SumSums.j1]
    rw [if_neg (by decide)]
  intro d
  induction d with
  | zero =>
    intro i hi
    refine Ev.step (f := fun k => fairwaylaw3_SumSums.j1 k l0 i false) (fun k => ?_) (stop i)
    simp only [fairwaylaw3_SumSums.l0]
    split
    · rw [show decide ((i : Int) < 15) = false from decide_eq_false (by omega)]
    · rfl
  | succ d ih =>
    intro i hi
    by_cases h1 : i < l0.length
    · by_cases h2 : i < 15
      · have hx := hg _ (rd_mem h1)
        obtain ⟨g0, g1, g2⟩ := hx
        obtain ⟨s, hs⟩ := of_wf g0
        refine Ev.step (f := fun k => fairwaylaw3_SumSums.j1 k l0 i true) (fun k => ?_) ?_
        · simp only [fairwaylaw3_SumSums.l0]
          rw [if_pos (by omega), show decide ((i : Int) < 15) = true from decide_eq_true (by omega)]
        · by_cases h3 : ((rd_T25 l0 i).f1.size : Int) > 3000
          · refine Ev.step (f := fun _ => some true) (fun k => ?_) (Ev.now _)
            simp only [fairwaylaw3_SumSums.j1]
            rw [if_pos trivial, if_pos (by omega), if_pos (by omega), if_pos h3]
          · refine Ev.step (f := fun k => (sum_Sum.f k ((rd_T25 l0 i).f0) ((rd_T25 l0 i).f1)).bind fun t106 => ((fairwayref1_Sum.f k ((rd_T25 l0 i).f0) ((rd_T25 l0 i).f1)).bind fun t109 => (if t106 = t109 then (fairwaylaw3_SumSums.l0 k l0 (wrap64 (i + 1))) else (some false)))) (fun k => ?_) ?_
            · simp only [fairwaylaw3_SumSums.j1]
              rw [if_pos trivial, if_pos (by omega), if_pos (by omega), if_neg h3]
            · rw [hs]
              refine Ev.bind (sum_ev s _ g1) (Ev.bind (sumref_ev s _ g1) ?_)
              refine Ev.congr (fun k => if_pos rfl) ?_
              rw [wrap_one (by omega) (by omega)]
              exact ih (i + 1) (by omega)
      · refine Ev.step (f := fun k => fairwaylaw3_SumSums.j1 k l0 i false) (fun k => ?_) (stop i)
        simp only [fairwaylaw3_SumSums.l0]
        rw [if_pos (by omega), show decide ((i : Int) < 15) = false from decide_eq_false (by omega)]
    · refine Ev.step (f := fun k => fairwaylaw3_SumSums.j1 k l0 i false) (fun k => ?_) (stop i)
      simp only [fairwaylaw3_SumSums.l0]
      rw [if_neg (by omega)]

theorem SumSums (l0 : List (S25)) (hl : l0.length * 32 ≤ 140737488351232) (hg : ∀ x ∈ l0, good25 x) : ∃ k, fairwaylaw3_SumSums.f k l0 = some true :=
  (sums_loop l0 hl hg 15 0 (by omega)).rounds

end Go.Proofs.Ytkfejfbalfghgaa.Pure
