/- IndexFroms: for every input of the row the law returns true, and the input reads afterwards as before. Conditions: none beside the row's own. -/
import Derived.Test.YtmabdfdmccbfnaaKIndexFroms4
import Derived.Test.YtmabdfdmccbfnaaKIndexFroms6
import Derived.Test.YtmabdfdmccbfnaaKIndexFroms2
import Derived.Test.YtmabdfdmccbfnaaKIndexFroms5
import Derived.Test.YtmabdfdmccbfnaaRows
import Derived.WalkKit
import Derived.ProofKit
import Derived.OpenShut
import Derived.ShutString
import Derived.ChangeOld
import Derived.Below
import Derived.SizedLaws
/- Segments: which may be: the program's answer and the page's are one. -/
namespace Go.Proofs.Ytmabdfdmccbfnaa.USeg
open Go Go.RowKit Go.Proofs.Ytmabdfdmccbfnaa.P Go.Proofs.Ytmabdfdmccbfnaa.URec Go.Proofs.YtmabdfdmccbfnaaW.PrintWords Go.Proofs.YtmabdfdmccbfnaaW.PrintLast
set_option linter.unusedVariables false
set_option linter.unusedSimpArgs false

/-- The record at a place may stand there. -/
def okAt (base : Int) (l : List R) (i : Nat) : Prop :=
  recOk (rd_T25 l i) ∧ base ≤ (rd_T25 l i).f0 ∧ (0 < i → (rd_T25 l (i - 1 : Nat)).f0 < (rd_T25 l i).f0 ∧ (rd_T25 l (i - 1 : Nat)).f1 ≤ (rd_T25 l i).f1)
/-- A segment that may be. -/
def segOk (base : Int) (l : List R) : Prop := 0 ≤ base ∧ base ≤ 1099511627776 ∧ l.length ≤ 200 ∧ ∀ i, i < l.length → okAt base l i

theorem segOk_rec {base : Int} {l : List R} (h : segOk base l) {i : Nat} (hi : i < l.length) : recOk (rd_T25 l i) := (h.2.2.2 i hi).1

theorem behind_yes (base : Int) (l : List R) (r : R) (h : recOk r) (hb : base ≤ r.f0) (hn : l.length < 200)
    (hp : 0 < l.length → (rd_T25 l (l.length - 1 : Nat)).f0 < r.f0 ∧ (rd_T25 l (l.length - 1 : Nat)).f1 ≤ r.f1) :
    Ev (fun k => seg_behind.f k base l r.f0 r.f1 r.f2 r.f3 r.f4 r.f5) true := by
  refine Ev.bind (check_yes r h) (Ev.congr (f := fun _ => some true) (fun k => ?_) (Ev.now _))
  rw [if_pos rfl, if_neg (by omega), if_neg (by omega)]
  by_cases h0 : (l.length : Int) = 0
  · rw [if_pos h0]
  · have hw : wrap64 ((l.length : Int) - 1) = ((l.length - 1 : Nat) : Int) := by rw [wrap_in (by omega) (by omega)]; omega
    obtain ⟨p0, p1⟩ := hp (by omega)
    rw [if_neg h0, hw, if_pos (by omega), if_pos (by omega), if_pos p0]
    simpa using p1
theorem behind_no (base : Int) (l : List R) (r : R) (hl : l.length ≤ 200) (h : ¬ (recOk r ∧ base ≤ r.f0 ∧ l.length < 200 ∧
    (0 < l.length → (rd_T25 l (l.length - 1 : Nat)).f0 < r.f0 ∧ (rd_T25 l (l.length - 1 : Nat)).f1 ≤ r.f1))) :
    Ev (fun k => seg_behind.f k base l r.f0 r.f1 r.f2 r.f3 r.f4 r.f5) false := by
  by_cases hr : recOk r
  · refine Ev.bind (check_yes r hr) (Ev.congr (f := fun _ => some false) (fun k => ?_) (Ev.now _))
    rw [if_pos rfl]
    by_cases hb : r.f0 < base
    · rw [if_pos hb]
    rw [if_neg hb]
    by_cases hn : (l.length : Int) ≥ 200
    · rw [if_pos hn]
    rw [if_neg hn]
    by_cases h0 : (l.length : Int) = 0
    · exact absurd ⟨hr, by omega, by omega, fun g => by omega⟩ h
    have hw : wrap64 ((l.length : Int) - 1) = ((l.length - 1 : Nat) : Int) := by rw [wrap_in (by omega) (by omega)]; omega
    rw [if_neg h0, hw, if_pos (by omega), if_pos (by omega)]
    by_cases p0 : (rd_T25 l (l.length - 1 : Nat)).f0 < r.f0
    · rw [if_pos p0]
      by_cases p1 : (rd_T25 l (l.length - 1 : Nat)).f1 ≤ r.f1
      · exact absurd ⟨hr, by omega, by omega, fun g => ⟨p0, p1⟩⟩ h
      · simpa using p1
    · rw [if_neg p0]
  · refine Ev.bind (check_no r hr) (Ev.congr (f := fun _ => some false) (fun k => ?_) (Ev.now _))
    rw [if_neg (by decide)]

theorem take_last (l : List R) (i : Nat) (h : i ≤ l.length) (h0 : 0 < i) : rd_T25 (l.take i) ((l.take i).length - 1 : Nat) = rd_T25 l (i - 1 : Nat) := by
  rw [List.length_take, Nat.min_eq_left h]
  exact rd_take l i (i - 1) (by omega)

theorem check_loop_yes (base : Int) (l : List R) (hl : l.length ≤ 200) (hok : ∀ i, i < l.length → okAt base l i) : ∀ (d i : Nat), l.length = i + d →
    Ev (fun k => seg_Check.l0 k l (l.length : Int) i base l) 0
  | 0, i, h => by
    refine Ev.step (f := fun _ => some 0) (fun k => ?_) (Ev.now _)
    simp only [seg_Check.l0]
    rw [if_neg (by omega)]
  | d + 1, i, h => by
    have hi : i < l.length := by omega
    obtain ⟨h1, h2, h3⟩ := hok i hi
    refine Ev.step (f := fun k => (seg_behind.f k base (l.take i) ((rd_T25 l i).f0) ((rd_T25 l i).f1) ((rd_T25 l i).f2) ((rd_T25 l i).f3) ((rd_T25 l i).f4) ((rd_T25 l i).f5)).bind fun t => if t = true then seg_Check.l0 k l (l.length : Int) (wrap64 (i + 1)) base l else some 1) (fun k => ?_) ?_
    · simp only [seg_Check.l0]
      rw [if_pos (by omega), if_pos (by omega), if_pos (by omega), if_pos (by omega), Int.toNat_natCast]
    · refine Ev.bind (behind_yes base (l.take i) (rd_T25 l i) h1 h2 (by rw [List.length_take]; omega) (fun g => ?_)) (Ev.congr (fun k => if_pos rfl) ?_)
      · have hi0 : 0 < i := by rw [List.length_take] at g; omega
        rw [take_last l i (by omega) hi0]
        exact h3 hi0
      · rw [wrap_in (by omega) (by omega)]
        exact check_loop_yes base l hl hok d (i + 1) (by omega)
theorem check_loop_no (base : Int) (l : List R) (j : Nat) (hj : j < l.length) (hj2 : j ≤ 200) (hbad : ¬ (okAt base l j ∧ j < 200)) (hok : ∀ i, i < j → okAt base l i) : ∀ (d i : Nat), j = i + d →
    Ev (fun k => seg_Check.l0 k l (l.length : Int) i base l) 1
  | 0, i, h => by
    obtain rfl : j = i := by omega
    refine Ev.step (f := fun k => (seg_behind.f k base (l.take j) ((rd_T25 l j).f0) ((rd_T25 l j).f1) ((rd_T25 l j).f2) ((rd_T25 l j).f3) ((rd_T25 l j).f4) ((rd_T25 l j).f5)).bind fun t => if t = true then seg_Check.l0 k l (l.length : Int) (wrap64 (j + 1)) base l else some 1) (fun k => ?_) ?_
    · simp only [seg_Check.l0]
      rw [if_pos (by omega), if_pos (by omega), if_pos (by omega), if_pos (by omega), Int.toNat_natCast]
    · refine Ev.bind (behind_no base (l.take j) (rd_T25 l j) (by rw [List.length_take]; omega) (fun g => hbad ?_)) (Ev.congr (f := fun _ => some 1) (fun k => if_neg (by decide)) (Ev.now _))
      obtain ⟨g1, g2, g3, g4⟩ := g
      rw [List.length_take, Nat.min_eq_left (by omega)] at g3
      refine ⟨⟨g1, g2, fun h0 => ?_⟩, g3⟩
      have := g4 (by rw [List.length_take]; omega)
      rw [take_last l j (by omega) h0] at this
      exact this
  | d + 1, i, h => by
    have hi : i < l.length := by omega
    obtain ⟨h1, h2, h3⟩ := hok i (by omega)
    refine Ev.step (f := fun k => (seg_behind.f k base (l.take i) ((rd_T25 l i).f0) ((rd_T25 l i).f1) ((rd_T25 l i).f2) ((rd_T25 l i).f3) ((rd_T25 l i).f4) ((rd_T25 l i).f5)).bind fun t => if t = true then seg_Check.l0 k l (l.length : Int) (wrap64 (i + 1)) base l else some 1) (fun k => ?_) ?_
    · simp only [seg_Check.l0]
      rw [if_pos (by omega), if_pos (by omega), if_pos (by omega), if_pos (by omega), Int.toNat_natCast]
    · refine Ev.bind (behind_yes base (l.take i) (rd_T25 l i) h1 h2 (by rw [List.length_take]; omega) (fun g => ?_)) (Ev.congr (fun k => if_pos rfl) ?_)
      · have hi0 : 0 < i := by rw [List.length_take] at g; omega
        rw [take_last l i (by omega) hi0]
        exact h3 hi0
      · rw [wrap_in (by omega) (by omega)]
        exact check_loop_no base l j hj hj2 hbad hok d (i + 1) (by omega)

theorem least {p : Nat → Prop} : ∀ n, (∃ i, i < n ∧ ¬ p i) → ∃ j, j < n ∧ ¬ p j ∧ ∀ i, i < j → p i
  | 0, ⟨i, h, _⟩ => by omega
  | n + 1, ⟨i, h, hp⟩ => by
    by_cases e : ∃ i, i < n ∧ ¬ p i
    · obtain ⟨j, h1, h2, h3⟩ := least n e
      exact ⟨j, by omega, h2, h3⟩
    · have e' : ∀ i, i < n → p i := fun i hi => Classical.byContradiction fun hn => e ⟨i, hi, hn⟩
      have : i = n := by
        by_cases hin : i < n
        · exact absurd (e' i hin) hp
        · omega
      subst this
      exact ⟨i, by omega, hp, e'⟩

theorem segcheck_yes (base : Int) (l : List R) (h : segOk base l) : Ev (fun k => seg_Check.f k base l) 0 := by
  obtain ⟨h0, h1, h2, h3⟩ := h
  refine Ev.step (f := fun k => seg_Check.l0 k l (l.length : Int) 0 base l) (fun k => ?_) (check_loop_yes base l h2 h3 l.length 0 (by omega))
  simp only [seg_Check.f, seg_Check.j0]
  rw [if_neg (by omega), if_neg (by simp; omega)]
theorem segcheck_no (base : Int) (l : List R) (h : ¬ segOk base l) : Ev (fun k => seg_Check.f k base l) 1 := by
  by_cases h0 : base < 0
  · refine Ev.step (f := fun _ => some 1) (fun k => ?_) (Ev.now _)
    simp only [seg_Check.f, seg_Check.j0]
    rw [if_pos h0]; rfl
  by_cases h1 : base > 1099511627776
  · refine Ev.step (f := fun _ => some 1) (fun k => ?_) (Ev.now _)
    simp only [seg_Check.f, seg_Check.j0]
    rw [if_neg h0, if_pos (by simpa using h1)]
  have hb : ∃ i, i < l.length ∧ ¬ (okAt base l i ∧ i < 200) := by
    refine Classical.byContradiction fun hn => h ⟨by omega, by omega, ?_, ?_⟩
    · by_cases hl : l.length ≤ 200
      · exact hl
      · exact absurd ⟨200, by omega, fun g => by omega⟩ hn
    · intro i hi
      exact Classical.byContradiction fun hc => hn ⟨i, hi, fun g => hc g.1⟩
  obtain ⟨j, hj, hbad, hok⟩ := least l.length hb
  have hj2 : j ≤ 200 := by
    by_cases e : j ≤ 200
    · exact e
    · have := (hok 200 (by omega)).2
      omega
  refine Ev.step (f := fun k => seg_Check.l0 k l (l.length : Int) 0 base l) (fun k => ?_) (check_loop_no base l j hj hj2 hbad (fun i hi => (hok i hi).1) j 0 (by omega))
  simp only [seg_Check.f, seg_Check.j0]
  rw [if_neg (by omega), if_neg (by simp; omega)]

/-! ### the page's own -/
theorem j2_no (base : Int) (l : List R) (i : Int) : Ev (fun k => fairwayref10_Seg.j2 k i true base l) false := by
  refine Ev.step (f := fun _ => some false) (fun k => ?_) (Ev.now _)
  simp only [fairwayref10_Seg.j2]
  rw [if_pos trivial]
theorem ref_step (base : Int) (l : List R) (hm : l.length ≤ 9223372036854775806) (i : Nat) (hi : i < l.length) (h : okAt base l i) {r : Bool} (hr : Ev (fun k => fairwayref10_Seg.l0 k ((i + 1 : Nat) : Int) base l) r) :
    Ev (fun k => fairwayref10_Seg.l0 k i base l) r := by
  obtain ⟨h1, h2, h3⟩ := h
  refine Ev.step (f := fun k => fairwayref10_Seg.j1 k i base l) (fun k => ?_) ?_
  · simp only [fairwayref10_Seg.l0]
    rw [if_pos (by omega)]
  · refine Ev.step (f := fun k => fairwayref10_Seg.j2 k i false base l) (fun k => ?_) ?_
    · simp only [fairwayref10_Seg.j1]
      rw [if_pos (by omega), if_pos (by omega), rec_yes _ h1]
      simp only [Option.bind_some]
      rw [if_pos trivial, if_neg (by omega)]
      by_cases h0 : (i : Int) > 0
      · obtain ⟨p0, p1⟩ := h3 (by omega)
        have hw : wrap64 ((i : Int) - 1) = ((i - 1 : Nat) : Int) := by rw [wrap_in (by omega) (by omega)]; omega
        rw [if_pos h0, hw, if_pos (by omega), if_pos (by omega), if_neg (by omega), decide_eq_false (by omega)]
      · rw [if_neg h0]
    · refine Ev.step (f := fun k => fairwayref10_Seg.l0 k ((i + 1 : Nat) : Int) base l) (fun k => ?_) hr
      simp only [fairwayref10_Seg.j2]
      rw [if_neg (by decide), wrap_in (by omega) (by omega)]
      rfl
theorem ref_stop (base : Int) (l : List R) (hm : l.length ≤ 9223372036854775806) (i : Nat) (hi : i < l.length) (h : ¬ okAt base l i) : Ev (fun k => fairwayref10_Seg.l0 k i base l) false := by
  refine Ev.step (f := fun k => fairwayref10_Seg.j1 k i base l) (fun k => ?_) ?_
  · simp only [fairwayref10_Seg.l0]
    rw [if_pos (by omega)]
  · refine Ev.step (f := fun k => fairwayref10_Seg.j2 k i true base l) (fun k => ?_) (j2_no base l i)
    simp only [fairwayref10_Seg.j1]
    rw [if_pos (by omega), if_pos (by omega)]
    by_cases h1 : recOk (rd_T25 l i)
    · rw [rec_yes _ h1]
      simp only [Option.bind_some]
      rw [if_pos trivial]
      by_cases h2 : (rd_T25 l i).f0 < base
      · rw [if_pos h2]
      rw [if_neg h2]
      by_cases h0 : (i : Int) > 0
      · have hw : wrap64 ((i : Int) - 1) = ((i - 1 : Nat) : Int) := by rw [wrap_in (by omega) (by omega)]; omega
        rw [if_pos h0, hw, if_pos (by omega), if_pos (by omega)]
        by_cases p0 : (rd_T25 l (i - 1 : Nat)).f0 ≥ (rd_T25 l i).f0
        · rw [if_pos p0]
        · rw [if_neg p0]
          by_cases p1 : (rd_T25 l (i - 1 : Nat)).f1 > (rd_T25 l i).f1
          · rw [decide_eq_true p1]
          · exact absurd ⟨h1, by omega, fun _ => ⟨by omega, by omega⟩⟩ h
      · exact absurd ⟨h1, by omega, fun g => by omega⟩ h
    · rw [rec_no _ h1]
      simp only [Option.bind_some]
      rw [if_neg (by decide)]
theorem ref_loop (base : Int) (l : List R) (hm : l.length ≤ 9223372036854775806) (n : Nat) (hn : n ≤ l.length) (hok : ∀ i, i < n → okAt base l i) {r : Bool} (hr : Ev (fun k => fairwayref10_Seg.l0 k n base l) r) : ∀ (d i : Nat), n = i + d →
    Ev (fun k => fairwayref10_Seg.l0 k i base l) r
  | 0, i, h => by
    obtain rfl : n = i := by omega
    exact hr
  | d + 1, i, h => ref_step base l hm i (by omega) (hok i (by omega)) (ref_loop base l hm n hn hok hr d (i + 1) (by omega))
theorem ref_end (base : Int) (l : List R) : Ev (fun k => fairwayref10_Seg.l0 k l.length base l) (decide (0 ≤ base ∧ base ≤ 1099511627776) && decide (l.length ≤ 200)) := by
  refine Ev.step (f := fun _ => some _) (fun k => ?_) (Ev.now _)
  simp only [fairwayref10_Seg.l0]
  rw [if_neg (by omega), num_f]
  simp only [Option.bind_some]
  by_cases h : 0 ≤ base ∧ base ≤ 1099511627776
  · rw [if_pos (by simpa using h), decide_eq_true h]
    simp only [Bool.true_and, Option.some.injEq, decide_eq_decide]
    omega
  · rw [if_neg (by simpa using h), decide_eq_false h]
    rfl
theorem refseg_yes (base : Int) (l : List R) (h : segOk base l) : Ev (fun k => fairwayref10_Seg.f k base l) true := by
  obtain ⟨h0, h1, h2, h3⟩ := h
  have e := ref_end base l
  rw [decide_eq_true ⟨h0, h1⟩, decide_eq_true h2] at e
  exact ref_loop base l (by omega) l.length (Nat.le_refl _) h3 e l.length 0 (by omega)
theorem refseg_no (base : Int) (l : List R) (hm : l.length ≤ 9223372036854775806) (h : ¬ segOk base l) : Ev (fun k => fairwayref10_Seg.f k base l) false := by
  by_cases e : ∃ i, i < l.length ∧ ¬ okAt base l i
  · obtain ⟨j, hj, hbad, hok⟩ := least l.length e
    exact ref_loop base l hm j (by omega) hok (ref_stop base l hm j hj hbad) j 0 (by omega)
  · have e' : ∀ i, i < l.length → okAt base l i := fun i hi => Classical.byContradiction fun hn => e ⟨i, hi, hn⟩
    have z := ref_end base l
    have : (decide (0 ≤ base ∧ base ≤ 1099511627776) && decide (l.length ≤ 200)) = false := by
      rw [Bool.and_eq_false_iff]
      by_cases hb : 0 ≤ base ∧ base ≤ 1099511627776
      · right
        exact decide_eq_false fun hl => h ⟨hb.1, hb.2, hl, e'⟩
      · left
        exact decide_eq_false hb
    rw [this] at z
    exact ref_loop base l hm l.length (Nat.le_refl _) e' z l.length 0 (by omega)
end Go.Proofs.Ytmabdfdmccbfnaa.USeg

-- written by a program of the proving session, out of the translation; Lean checks it
namespace Go.Proofs.Ytmabdfdmccbfnaa.P
open Go.RowKit Go.Proofs.Ytmabdfdmccbfnaa.Sq Go.Proofs.YtmabdfdmccbfnaaW.PrintWords Go.Proofs.YtmabdfdmccbfnaaW.PrintLast Go.Proofs.YtmabdfdmccbfnaaW.PrintMore
attribute [local go_sem] max2_int min2_int max_two min_two max_three min_three max_four min_four   -- for this text's walks alone
set_option linter.unusedVariables false
set_option linter.unusedSimpArgs false

/-! ### vbi_high: function 81 -/
mutual
def vbi_high.j0 : Nat → Int → Int → Bool → Option (ByteArray × Int)
 | 0, _, _, _ => none
 | k + 1, x0, x1, x16 => if x16 = true then (some ((⟨#[]⟩ : ByteArray), 2)) else (if 0 ≤ x1 then (if (x1 : Int).toNat ≤ 281474976710656 then ((some (List.replicate (x1 : Int).toNat 0 : List Int)).bind fun y102 => (vbi_high.l0 k x0 x1 y102 (y102.length : Int) 0)) else (none)) else (none))
def vbi_high.l0 : Nat → Int → Int → List Int → Int → Int → Option (ByteArray × Int)
 | 0, _, _, _, _, _ => none
 | k + 1, x0, x1, x6, x20, x21 => if x21 < x20 then (if 0 ≤ (wrap64 (8 * x21)) then (if 0 ≤ (wrap64 ((wrap64 (x1 - 1)) - x21)) then (if (wrap64 ((wrap64 (x1 - 1)) - x21)) < (x6.length : Int) then (vbi_high.l0 k x0 x1 (x6.set ((wrap64 ((wrap64 (x1 - 1)) - x21)) : Int).toNat ((shr .i64 x0 (wrap64 (8 * x21))) % 256)) x20 (wrap64 (x21 + 1))) else (none)) else (none)) else (none)) else (some (strOfNums x6, 0))
end
def vbi_high.f (k : Nat) (a0 : Int) (a1 : Int) : Option (ByteArray × Int) := if a0 < 0 then (vbi_high.j0 k a0 a1 true) else (if 0 ≤ (wrap64 (8 * a1)) then (vbi_high.j0 k a0 a1 ((shr .i64 a0 (wrap64 (8 * a1))) != 0)) else (none))
theorem vbi_high.mono_l : ∀ k, (∀ y0 y1 y2, LeO (vbi_high.j0 k y0 y1 y2) (vbi_high.j0 (k + 1) y0 y1 y2)) ∧ (∀ y0 y1 y2 y3 y4, LeO (vbi_high.l0 k y0 y1 y2 y3 y4) (vbi_high.l0 (k + 1) y0 y1 y2 y3 y4))
 | 0 => ⟨fun _ _ _ r h => by simp [vbi_high.j0] at h, fun _ _ _ _ _ r h => by simp [vbi_high.l0] at h⟩
 | k + 1 => by
  obtain ⟨ih0, ih1⟩ := vbi_high.mono_l k
  refine ⟨?_, ?_⟩
  ·intro y0 y1 y2
   unfold vbi_high.j0
   repeat' first
   | (with_reducible exact ih0 _ _ _)
   | (with_reducible exact ih1 _ _ _ _ _)
   | (with_reducible exact LeO.refl _)
   | (with_reducible exact LeO.none _)
   | (with_reducible refine LeO.ite ?_ ?_)
   | (with_reducible refine LeO.bind ?_ (fun _ => ?_))
   | exact ih0 _ _ _
   | exact ih1 _ _ _ _ _
   | exact LeO.none _
   | refine LeO.ite ?_ ?_
   | refine LeO.bind ?_ (fun _ => ?_)
  ·intro y0 y1 y2 y3 y4
   unfold vbi_high.l0
   repeat' first
   | (with_reducible exact ih0 _ _ _)
   | (with_reducible exact ih1 _ _ _ _ _)
   | (with_reducible exact LeO.refl _)
   | (with_reducible exact LeO.none _)
   | (with_reducible refine LeO.ite ?_ ?_)
   | (with_reducible refine LeO.bind ?_ (fun _ => ?_))
   | exact ih0 _ _ _
   | exact ih1 _ _ _ _ _
   | exact LeO.none _
   | refine LeO.ite ?_ ?_
   | refine LeO.bind ?_ (fun _ => ?_)
theorem vbi_high.mono : ∀ a0 a1 k, LeO (vbi_high.f k a0 a1) (vbi_high.f (k + 1) a0 a1) := by
 intro a0 a1 k
 obtain ⟨ih0, ih1⟩ := vbi_high.mono_l k
 unfold vbi_high.f
 repeat' first
  | (with_reducible exact ih0 _ _ _)
  | (with_reducible exact ih1 _ _ _ _ _)
  | (with_reducible exact LeO.refl _)
  | (with_reducible exact LeO.none _)
  | (with_reducible refine LeO.ite ?_ ?_)
  | (with_reducible refine LeO.bind ?_ (fun _ => ?_))
  | exact ih0 _ _ _
  | exact ih1 _ _ _ _ _
  | exact LeO.none _
  | refine LeO.ite ?_ ?_
  | refine LeO.bind ?_ (fun _ => ?_)
set_option maxHeartbeats 8000000 in
set_option maxRecDepth 100000 in
theorem vbi_high.calls (k : Nat) (a0 : Int) (a1 : Int) (r1 : ByteArray) (r2 : Int) (w : World) (h : vbi_high.f k a0 a1 = some (r1, r2)) :
 Calls Try.prog 81 #[.int .i64 a0, .int .i64 a1] w fun e w' => e = .returned (.tuple #[.string r1, .int .i64 r2]) ∧ Below w.heap.size w w' := by
 have HB := Aside0.mk (Below.refl w.heap.size w)
 have H : (if a0 < 0 then (vbi_high.j0 k a0 a1 true) else (if 0 ≤ (wrap64 (8 * a1)) then (vbi_high.j0 k a0 a1 ((shr .i64 a0 (wrap64 (8 * a1))) != 0)) else (none))) = some (r1, r2) := h
 clear h
 have HC3 := Aside0.mk H
 clear H
 go_enter Try.func81, Try.ntmps81
 go_upto_region 1 with (fail)
 go_cut [16] (fun v16 wc => ∃ (kq : Nat) (x16_2 : Bool), v16 = .bool x16_2 ∧ Aside0 (vbi_high.j0 kq a0 a1 x16_2 = some (r1, r2)) ∧ Aside0 (kq ≤ k) ∧ Aside0 (Below w.heap.size w wc))
 case first =>
  have H := HC3.out
  clear HC3
  by_cases c4 : a0 < 0
  ·rw [if_pos c4] at H
   have c4b0 : decide (a0 < 0) = true := decide_eq_true c4
   clear c4
   (first | rw [c4b0] | (simp only [i64_w, i32_w]; rw [c4b0]) | skip)
   have H' := Aside0.mk H
   clear H
   go_wp2
   go_meet
   case rel => exact ⟨_, (true), ap, H', ⟨by first | omega | exact Nat.le_refl _⟩, ⟨bo⟩⟩
  ·rw [if_neg c4] at H
   have c4b0 : decide (a0 < 0) = false := decide_eq_false c4
   clear c4
   (first | rw [c4b0] | (simp only [i64_w, i32_w]; rw [c4b0]) | skip)
   obtain ⟨ji5, hji5⟩ : ∃ j_ : Int, (wrap64 (8 * a1)) = j_ := ⟨_, rfl⟩
   replace H : (if 0 ≤ (ji5) then (vbi_high.j0 k a0 a1 ((shr .i64 a0 (ji5)) != 0)) else (none)) = some (r1, r2) := by first | (rw [hji5] at H; exact H) | (simp only [hji5] at H ⊢; exact H)
   have hji5w : (IntKind.i64.wrap (8 * a1)) = ji5 := (i64_w _).trans hji5
   by_cases c6 : 0 ≤ (ji5)
   ·rw [if_pos c6] at H
    have c6b0 := eq_true c6
    have c6b1 : decide (0 ≤ (ji5)) = true := decide_eq_true c6
    clear c6
    obtain ⟨ji7, hji7⟩ : ∃ j_ : Int, (shr .i64 a0 (ji5)) = j_ := ⟨_, rfl⟩
    replace H : (vbi_high.j0 k a0 a1 ((ji7) != 0)) = some (r1, r2) := by first | (rw [hji7] at H; exact H) | (simp only [hji7] at H ⊢; exact H)
    have hji7_ : (a0 / 2 ^ min (ji5).toNat 64) = ji7 := hji7
    have hji7z : (ji5) ≤ 64 → (a0 / 2 ^ (ji5).toNat) = ji7 := shr_small hji7
    have H' := Aside0.mk H
    clear H
    go_wp2
    go_meet
    case rel => exact ⟨_, (((ji7) != 0)), (by first | rfl | (simp; done) | (simp only [← hji7] <;> (first | rfl | simp)) | (simp [*]; done)), H', ⟨by first | omega | exact Nat.le_refl _⟩, ⟨bo⟩⟩
   ·rw [if_neg c6] at H
    exact absurd H (by simp)
 case rest =>
  clear HC3
  (try clear p2); (try clear c4); (try clear c4b0); (try clear c6); (try clear c6b0); (try clear c6b1); (try clear p6)
  obtain ⟨kq, x16_2, rfl, HA, HJ2, HB⟩ := hcut
  cases kq with
  | zero => exact absurd HA.out (by simp [vbi_high.j0])
  | succ kj2 =>
   have H := HA.out
   clear HA
   simp only [vbi_high.j0] at H
   by_cases c8 : x16_2 = true
   ·subst c8
    have H1 : (some ((⟨#[]⟩ : ByteArray), 2)) = some (r1, r2) := by rw [if_pos rfl] at H; exact H
    clear H
    have H := H1
    clear H1
    simp only [Option.some.injEq, Prod.mk.injEq] at H
    obtain ⟨rfl, rfl⟩ := H
    go_wp2
    go_ret2
    exact ⟨er, bo⟩
   ·replace c8 := Bool.eq_false_iff.mpr c8
    subst c8
    have H1 : (if 0 ≤ a1 then (if (a1 : Int).toNat ≤ 281474976710656 then ((some (List.replicate (a1 : Int).toNat 0 : List Int)).bind fun y102 => (vbi_high.l0 kj2 a0 a1 y102 (y102.length : Int) 0)) else (none)) else (none)) = some (r1, r2) := by rw [if_neg (show ¬ (false = true) by decide)] at H; exact H
    clear H
    have H := H1
    clear H1
    by_cases c9 : 0 ≤ a1
    ·rw [if_pos c9] at H
     have c9b0 := eq_true c9
     have c9b1 : decide (0 ≤ a1) = true := decide_eq_true c9
     clear c9
     by_cases c10 : (a1 : Int).toNat ≤ 281474976710656
     ·rw [if_pos c10] at H
      have c10b0 := eq_true c10
      have c10b1 : decide ((a1 : Int).toNat ≤ 281474976710656) = true := decide_eq_true c10
      clear c10
      obtain ⟨y102, hy102⟩ : ∃ y_ : List Int, y_ = (List.replicate (a1 : Int).toNat 0) := ⟨_, rfl⟩
      replace H : (vbi_high.l0 kj2 a0 a1 y102 (y102.length : Int) 0) = some (r1, r2) := by first | (rw [hy102]; with_reducible exact H) | (have H2_ := (Option.bind_some _ _).symm.trans H; rw [hy102]; with_reducible exact H2_) | (have H2_ := (Option.bind_some _ _).symm.trans H; with_reducible exact H2_) | with_reducible exact H | (rw [hy102]; exact H) | exact H
      have Ny102 := Aside0.mk hy102
      clear hy102
      have H' := Aside0.mk H
      clear H
      go_wp2_with (first | ((with_reducible refine gate_dst (N := 18) rfl ?_); refine Kd.R_make (Kd.int .u8) _ 5 rfl (N := 18) rfl 23 _ _ rfl a1 rfl rfl Try.underlying23 (.int .u8 0) 1 info5 rfl (by decide) (by omega) 0 (ok := fun _ => True) (okp := fun _ => True) rfl (fun _ hk => hk) trivial (od) (Nat.le_trans (Nat.mul_le_mul_right _ (od : a1.toNat ≤ 281474976710656)) (by omega)) (Below.refl _ _) (Nat.le_refl _) ?_; intro v103 w11 ho12 hb hg_ hnew_; clear hg_ hnew_; (first | rw [← Ny102.out] at ho12 | (simp only [Int.reduceToNat] at ho12; rw [← Ny102.out] at ho12)); have HO104 := Aside0.mk (Kd.R_lower ho12 (below_size bo)); replace HB := Aside0.mk (below_step bo hb); clear hb ho12; obtain ⟨Ao13, co13, eo13⟩ := Kd.R_slice HO104.out; subst eo13))
      go_loopg [21] kj2 (fun kq v21 w' => ∃ (x6_2 : List Int) (x21_2 : Int), v21 = .int .i64 x21_2 ∧ Aside0 (vbi_high.l0 kq a0 a1 x6_2 (y102.length : Int) x21_2 = some (r1, r2)) ∧ Aside0 (kq ≤ kj2) ∧ Aside0 (Kd.R (Kd.int .u8) 5 w' w.heap.size (fun _ => True) (.slice Ao13 y102.length co13) x6_2) ∧ Aside0 (Below w.heap.size w w'))
      case atStart => exact ⟨(y102), (0), ap, H', ⟨Nat.le_refl _⟩, ⟨by (with_reducible repeat (first | apply Kd.R_alloc | apply Kd.R_drewN | apply Kd.R_drew)); exact HO104.out⟩, ⟨bo⟩⟩
      case round =>
       clear H'
       (try clear c1); (try clear p2); (try clear c4); (try clear c4b0); (try clear c6); (try clear c6b0); (try clear c6b1); (try clear p6); (try clear c8); (try clear c9); (try clear c9b0); (try clear c9b1); (try clear c10); (try clear c10b0); (try clear c10b1); (try clear p2); (try clear p6)
       obtain ⟨x6_2, x21_2, rfl, HA, HK2, HO_6, HB⟩ := hrel
       have hl6_2 := (Kd.R_reads' HO_6.out).1
       rw [hl6_2] at HO_6
       (try simp only [hl6_2])
       cases gk with
       | zero => exact absurd HA.out (by simp [vbi_high.l0])
       | succ k2 =>
        have H := HA.out
        clear HA
        simp only [vbi_high.l0] at H
        by_cases c14 : x21_2 < (y102.length : Int)
        ·rw [if_pos c14] at H
         have c14b0 : decide (x21_2 < (y102.length : Int)) = true := decide_eq_true c14
         (try (have c14z0hl6_2 := c14b0; rw [hl6_2] at c14z0hl6_2))
         clear c14
         obtain ⟨ji15, hji15⟩ : ∃ j_ : Int, (wrap64 (8 * x21_2)) = j_ := ⟨_, rfl⟩
         replace H : (if 0 ≤ (ji15) then (if 0 ≤ (wrap64 ((wrap64 (a1 - 1)) - x21_2)) then (if (wrap64 ((wrap64 (a1 - 1)) - x21_2)) < (x6_2.length : Int) then (vbi_high.l0 k2 a0 a1 (x6_2.set ((wrap64 ((wrap64 (a1 - 1)) - x21_2)) : Int).toNat ((shr .i64 a0 (ji15)) % 256)) (y102.length : Int) (wrap64 (x21_2 + 1))) else (none)) else (none)) else (none)) = some (r1, r2) := by first | (rw [hji15] at H; exact H) | (simp only [hji15] at H ⊢; exact H)
         have hji15w : (IntKind.i64.wrap (8 * x21_2)) = ji15 := (i64_w _).trans hji15
         by_cases c16 : 0 ≤ (ji15)
         ·rw [if_pos c16] at H
          have c16b0 := eq_true c16
          have c16b1 : decide (0 ≤ (ji15)) = true := decide_eq_true c16
          clear c16
          obtain ⟨ji17, hji17⟩ : ∃ j_ : Int, (shr .i64 a0 (ji15)) = j_ := ⟨_, rfl⟩
          replace H : (if 0 ≤ (wrap64 ((wrap64 (a1 - 1)) - x21_2)) then (if (wrap64 ((wrap64 (a1 - 1)) - x21_2)) < (x6_2.length : Int) then (vbi_high.l0 k2 a0 a1 (x6_2.set ((wrap64 ((wrap64 (a1 - 1)) - x21_2)) : Int).toNat ((ji17) % 256)) (y102.length : Int) (wrap64 (x21_2 + 1))) else (none)) else (none)) = some (r1, r2) := by first | (rw [hji17] at H; exact H) | (simp only [hji17] at H ⊢; exact H)
          have hji17_ : (a0 / 2 ^ min (ji15).toNat 64) = ji17 := hji17
          have hji17z : (ji15) ≤ 64 → (a0 / 2 ^ (ji15).toNat) = ji17 := shr_small hji17
          obtain ⟨ji18, hji18⟩ : ∃ j_ : Int, (wrap64 ((wrap64 (a1 - 1)) - x21_2)) = j_ := ⟨_, rfl⟩
          replace H : (if 0 ≤ (ji18) then (if (ji18) < (x6_2.length : Int) then (vbi_high.l0 k2 a0 a1 (x6_2.set ((ji18) : Int).toNat ((ji17) % 256)) (y102.length : Int) (wrap64 (x21_2 + 1))) else (none)) else (none)) = some (r1, r2) := by first | (rw [hji18] at H; exact H) | (simp only [hji18] at H ⊢; exact H)
          have hji18w : (IntKind.i64.wrap ((wrap64 (a1 - 1)) - x21_2)) = ji18 := (i64_w _).trans hji18
          by_cases c19 : 0 ≤ (ji18)
          ·rw [if_pos c19] at H
           have c19b0 : decide (0 ≤ (ji18)) = true := decide_eq_true c19
           clear c19
           by_cases c20 : (ji18) < (x6_2.length : Int)
           ·rw [if_pos c20] at H
            have c20b0 : decide ((ji18) < (x6_2.length : Int)) = true := decide_eq_true c20
            (try (have c20z0hl6_2 := c20b0; rw [hl6_2] at c20z0hl6_2))
            clear c20
            obtain ⟨y105, hy105⟩ : ∃ y_ : List Int, y_ = (x6_2.set ((ji18) : Int).toNat ((ji17) % 256)) := ⟨_, rfl⟩
            replace H : (vbi_high.l0 k2 a0 a1 y105 (y102.length : Int) (wrap64 (x21_2 + 1))) = some (r1, r2) := by first | (rw [hy105]; with_reducible exact H) | (have H2_ := (Option.bind_some _ _).symm.trans H; rw [hy105]; with_reducible exact H2_) | (have H2_ := (Option.bind_some _ _).symm.trans H; with_reducible exact H2_) | with_reducible exact H | (rw [hy105]; exact H) | exact H
            have Ny105 := Aside0.mk hy105
            clear hy105
            have H' := Aside0.mk H
            clear H
            have p21 : 0 ≤ ((ji18) : Int) := od
            have q21 : ((ji18) : Int) < ((x6_2.length : Int) : Int) := od
            obtain ⟨go21, co21, eo21, gb21, gl21, cl21, HG21⟩ := Kd.R_form HO_6.out (by omega)
            (first | cases eo21 | (injection eo21 with ea_ en_ ec_; (first | subst ea_ | (injection ea_ with ea_; subst ea_)); subst ec_; clear en_))
            have GB21 := Aside0.mk gb21
            have GG21 := Aside0.mk HG21
            clear gb21 gl21 HG21
            obtain ⟨hx21_0, hf21_0⟩ := Kd.R_celln 0 HO_6.out ((ji18) : Int) p21 q21
            replace p21 := eq_true p21
            replace q21 := eq_true q21
            have HP22 := Kd.R_putg HO_6.out ((ji18) : Int) ((ji17) % 256)
            go_wp2_with (first | ((with_reducible refine gate_store (t := 5) (p := 34) rfl ?_); refine store_event (t := 5) (p := 34) (v := ?vo_w23) (w1 := (wr.setCell ⟨go21, ((ji18) : Int).toNat, none⟩ (.int .u8 ((ji17) % 256)))) ?hg ?ho ?hn ?hr ?_; (case ho => rfl); (case hg => rfl); (case hn => rfl); (case hr => first | (go_simp; done) | (go_simp; rfl)); intro w23 hw; have hg : wr.grownBy w23 (some go21) := (by rw [hw]; exact HP22.2); have hp_ : Kd.R (Kd.int .u8) 5 w23 w.heap.size (fun _ => True) (.slice (some ⟨go21, 0, none⟩) x6_2.length co13) y105 := (by rw [hw, Ny105.out]; exact HP22.1); clear HP22; replace HO_6 := Aside0.mk (hp_); replace HB := Aside0.mk ((by rw [hw]; exact below_set (HB.out) GB21.out : Below w.heap.size w w23)); clear hg hw hp_))
            (try simp only [← hl6_2])
            go_roundg k2
            case measure => have := HJ2.out; have := HK2.out; omega
            case rel => exact ⟨(y105), (wrap64 (x21_2 + 1)), ap, H', ⟨by have := HJ2.out; have := HK2.out; omega⟩, ⟨by (try simp only [hl6_2]); (with_reducible repeat (first | apply Kd.R_alloc | apply Kd.R_drewN | apply Kd.R_drew)); exact HO_6.out⟩, ⟨bo⟩⟩
           ·rw [if_neg c20] at H
            exact absurd H (by simp)
          ·rw [if_neg c19] at H
           exact absurd H (by simp)
         ·rw [if_neg c16] at H
          exact absurd H (by simp)
        ·rw [if_neg c14] at H
         have c14b0 : decide (x21_2 < (y102.length : Int)) = false := decide_eq_false c14
         (try (have c14z0hl6_2 := c14b0; rw [hl6_2] at c14z0hl6_2))
         clear c14
         simp only [Option.some.injEq, Prod.mk.injEq] at H
         obtain ⟨rfl, rfl⟩ := H
         have hcv24 := own_string (P := Try.prog) Try.underlying23 Try.underlying5 Try.underlying9 (Kd.own_of_R HO_6.out)
         go_wp2
         go_ret2
         exact ⟨er, bo⟩
     ·rw [if_neg c10] at H
      exact absurd H (by simp)
    ·rw [if_neg c9] at H
     exact absurd H (by simp)

end Go.Proofs.Ytmabdfdmccbfnaa.P

-- written by a program of the proving session, out of the translation; Lean checks it
namespace Go.Proofs.Ytmabdfdmccbfnaa.P
open Go.RowKit Go.Proofs.Ytmabdfdmccbfnaa.Sq Go.Proofs.YtmabdfdmccbfnaaW.PrintWords Go.Proofs.YtmabdfdmccbfnaaW.PrintLast Go.Proofs.YtmabdfdmccbfnaaW.PrintMore
attribute [local go_sem] max2_int min2_int max_two min_two max_three min_three max_four min_four   -- for this text's walks alone
set_option linter.unusedVariables false
set_option linter.unusedSimpArgs false

/-! ### vbi_Two: function 60 -/
def vbi_Two.f (k : Nat) (a0 : Int) : Option (ByteArray × Int) := (vbi_high.f k a0 2).bind fun bt106 => (some (bt106.1, bt106.2))
theorem vbi_Two.mono : ∀ a0 k, LeO (vbi_Two.f k a0) (vbi_Two.f (k + 1) a0) := by
 intro a0 k
 unfold vbi_Two.f
 repeat' first
  | (with_reducible exact vbi_high.mono _ _ _)
  | (with_reducible exact LeO.refl _)
  | (with_reducible exact LeO.none _)
  | (with_reducible refine LeO.ite ?_ ?_)
  | (with_reducible refine LeO.bind ?_ (fun _ => ?_))
  | exact vbi_high.mono _ _ _
  | exact LeO.none _
  | refine LeO.ite ?_ ?_
  | refine LeO.bind ?_ (fun _ => ?_)
set_option maxHeartbeats 8000000 in
set_option maxRecDepth 100000 in
theorem vbi_Two.calls (k : Nat) (a0 : Int) (r1 : ByteArray) (r2 : Int) (w : World) (h : vbi_Two.f k a0 = some (r1, r2)) :
 Calls Try.prog 60 #[.int .i64 a0] w fun e w' => e = .returned (.tuple #[.string r1, .int .i64 r2]) ∧ Below w.heap.size w w' := by
 have HB := Aside0.mk (Below.refl w.heap.size w)
 have H : ((vbi_high.f k a0 2).bind fun bt106 => (some (bt106.1, bt106.2))) = some (r1, r2) := h
 clear h
 replace H := Option.bind_eq_some_iff.mp H
 obtain ⟨⟨t106, t107⟩, A20, H⟩ := H
 replace H : (some (t106, t107)) = some (r1, r2) := H
 have A2 := Aside0.mk A20
 clear A20
 simp only [Option.some.injEq, Prod.mk.injEq] at H
 obtain ⟨rfl, rfl⟩ := H
 go_enter Try.func60, Try.ntmps60
 go_wp2_with (first | ((with_reducible refine gate_callee (f := 81) rfl ?_); refine goesL_ (some 5) rfl rfl Try.func81 (by kernel_rfl) rfl #[.int .i64 a0, .int .i64 2] rfl aa ?_; (with_reducible refine (vbi_high.calls k a0 2 t106 t107 _ A2.out).mono ?_); rintro e w3 ⟨rfl, hb⟩; refine ⟨_, rfl, ?_⟩; replace HB := Aside0.mk (below_step bo hb); (try clear hb); (try clear hb2); (try clear hk); (try clear hi)))
 go_ret2
 exact ⟨er, bo⟩

end Go.Proofs.Ytmabdfdmccbfnaa.P

-- written by a program of the proving session, out of the translation; Lean checks it
namespace Go.Proofs.Ytmabdfdmccbfnaa.P
open Go.RowKit Go.Proofs.Ytmabdfdmccbfnaa.Sq Go.Proofs.YtmabdfdmccbfnaaW.PrintWords Go.Proofs.YtmabdfdmccbfnaaW.PrintLast Go.Proofs.YtmabdfdmccbfnaaW.PrintMore
attribute [local go_sem] max2_int min2_int max_two min_two max_three min_three max_four min_four   -- for this text's walks alone
set_option linter.unusedVariables false
set_option linter.unusedSimpArgs false

/-! ### vbi_Four: function 62 -/
def vbi_Four.f (k : Nat) (a0 : Int) : Option (ByteArray × Int) := (vbi_high.f k a0 4).bind fun bt108 => (some (bt108.1, bt108.2))
theorem vbi_Four.mono : ∀ a0 k, LeO (vbi_Four.f k a0) (vbi_Four.f (k + 1) a0) := by
 intro a0 k
 unfold vbi_Four.f
 repeat' first
  | (with_reducible exact vbi_high.mono _ _ _)
  | (with_reducible exact LeO.refl _)
  | (with_reducible exact LeO.none _)
  | (with_reducible refine LeO.ite ?_ ?_)
  | (with_reducible refine LeO.bind ?_ (fun _ => ?_))
  | exact vbi_high.mono _ _ _
  | exact LeO.none _
  | refine LeO.ite ?_ ?_
  | refine LeO.bind ?_ (fun _ => ?_)
set_option maxHeartbeats 8000000 in
set_option maxRecDepth 100000 in
theorem vbi_Four.calls (k : Nat) (a0 : Int) (r1 : ByteArray) (r2 : Int) (w : World) (h : vbi_Four.f k a0 = some (r1, r2)) :
 Calls Try.prog 62 #[.int .i64 a0] w fun e w' => e = .returned (.tuple #[.string r1, .int .i64 r2]) ∧ Below w.heap.size w w' := by
 have HB := Aside0.mk (Below.refl w.heap.size w)
 have H : ((vbi_high.f k a0 4).bind fun bt108 => (some (bt108.1, bt108.2))) = some (r1, r2) := h
 clear h
 replace H := Option.bind_eq_some_iff.mp H
 obtain ⟨⟨t108, t109⟩, A20, H⟩ := H
 replace H : (some (t108, t109)) = some (r1, r2) := H
 have A2 := Aside0.mk A20
 clear A20
 simp only [Option.some.injEq, Prod.mk.injEq] at H
 obtain ⟨rfl, rfl⟩ := H
 go_enter Try.func62, Try.ntmps62
 go_wp2_with (first | ((with_reducible refine gate_callee (f := 81) rfl ?_); refine goesL_ (some 5) rfl rfl Try.func81 (by kernel_rfl) rfl #[.int .i64 a0, .int .i64 4] rfl aa ?_; (with_reducible refine (vbi_high.calls k a0 4 t108 t109 _ A2.out).mono ?_); rintro e w3 ⟨rfl, hb⟩; refine ⟨_, rfl, ?_⟩; replace HB := Aside0.mk (below_step bo hb); (try clear hb); (try clear hb2); (try clear hk); (try clear hi)))
 go_ret2
 exact ⟨er, bo⟩

end Go.Proofs.Ytmabdfdmccbfnaa.P

-- written by a program of the proving session, out of the translation; Lean checks it
namespace Go.Proofs.Ytmabdfdmccbfnaa.P
open Go.RowKit Go.Proofs.Ytmabdfdmccbfnaa.Sq Go.Proofs.YtmabdfdmccbfnaaW.PrintWords Go.Proofs.YtmabdfdmccbfnaaW.PrintLast Go.Proofs.YtmabdfdmccbfnaaW.PrintMore
attribute [local go_sem] max2_int min2_int max_two min_two max_three min_three max_four min_four   -- for this text's walks alone
set_option linter.unusedVariables false
set_option linter.unusedSimpArgs false

/-! ### rec_eight: function 61 -/
def rec_eight.f (k : Nat) (a0 : Int) : Option (ByteArray) := (vbi_Four.f k (a0 / 4294967296)).bind fun bt110 => ((vbi_Four.f k (Go.bits .and .i64 a0 4294967295)).bind fun bt112 => (if bt110.1.size + bt112.1.size ≤ 9223372036854775807 then (some (bt110.1 ++ bt112.1)) else (none)))
theorem rec_eight.mono : ∀ a0 k, LeO (rec_eight.f k a0) (rec_eight.f (k + 1) a0) := by
 intro a0 k
 unfold rec_eight.f
 repeat' first
  | (with_reducible exact vbi_Four.mono _ _)
  | (with_reducible exact LeO.refl _)
  | (with_reducible exact LeO.none _)
  | (with_reducible refine LeO.ite ?_ ?_)
  | (with_reducible refine LeO.bind ?_ (fun _ => ?_))
  | exact vbi_Four.mono _ _
  | exact LeO.none _
  | refine LeO.ite ?_ ?_
  | refine LeO.bind ?_ (fun _ => ?_)
set_option maxHeartbeats 8000000 in
set_option maxRecDepth 100000 in
theorem rec_eight.calls (k : Nat) (a0 : Int) (r : ByteArray) (w : World) (h : rec_eight.f k a0 = some r) :
 Calls Try.prog 61 #[.int .i64 a0] w fun e w' => e = .returned (.string r) ∧ Below w.heap.size w w' := by
 have HB := Aside0.mk (Below.refl w.heap.size w)
 have H : ((vbi_Four.f k (a0 / 4294967296)).bind fun bt110 => ((vbi_Four.f k (Go.bits .and .i64 a0 4294967295)).bind fun bt112 => (if bt110.1.size + bt112.1.size ≤ 9223372036854775807 then (some (bt110.1 ++ bt112.1)) else (none)))) = some r := h
 clear h
 replace H := Option.bind_eq_some_iff.mp H
 obtain ⟨⟨t110, t111⟩, A20, H⟩ := H
 replace H : ((vbi_Four.f k (Go.bits .and .i64 a0 4294967295)).bind fun bt112 => (if t110.size + bt112.1.size ≤ 9223372036854775807 then (some (t110 ++ bt112.1)) else (none))) = some r := H
 have A2 := Aside0.mk A20
 clear A20
 replace H := Option.bind_eq_some_iff.mp H
 obtain ⟨⟨t112, t113⟩, A30, H⟩ := H
 replace H : (if t110.size + t112.size ≤ 9223372036854775807 then (some (t110 ++ t112)) else (none)) = some r := H
 have A3 := Aside0.mk A30
 clear A30
 by_cases c4 : t110.size + t112.size ≤ 9223372036854775807
 ·rw [if_pos c4] at H
  have c4b0 := eq_true c4
  have c4b1 : decide (t110.size + t112.size ≤ 9223372036854775807) = true := decide_eq_true c4
  try have c4b2 : (9223372036854775807 < t110.size + t112.size) = False := eq_false (Nat.not_lt.2 c4)
  obtain rfl := Option.some.inj H
  go_enter Try.func61, Try.ntmps61
  go_wp2_with (first | ((with_reducible refine gate_callee (f := 62) rfl ?_); refine goesL_ (some 10) rfl rfl Try.func62 (by kernel_rfl) rfl #[.int .i64 (a0 / 4294967296)] rfl aa ?_; (with_reducible refine (vbi_Four.calls k (a0 / 4294967296) t110 t111 _ A2.out).mono ?_); rintro e w5 ⟨rfl, hb⟩; refine ⟨_, rfl, ?_⟩; replace HB := Aside0.mk (below_step bo hb); (try clear hb); (try clear hb2); (try clear hk); (try clear hi)) | ((with_reducible refine gate_callee (f := 62) rfl ?_); refine goesL_ (some 16) rfl rfl Try.func62 (by kernel_rfl) rfl #[.int .i64 (Go.bits .and .i64 a0 4294967295)] rfl aa ?_; (with_reducible refine (vbi_Four.calls k (Go.bits .and .i64 a0 4294967295) t112 t113 _ A3.out).mono ?_); rintro e w6 ⟨rfl, hb⟩; refine ⟨_, rfl, ?_⟩; replace HB := Aside0.mk (below_step bo hb); (try clear hb); (try clear hb2); (try clear hk); (try clear hi)))
  go_ret
  exact ⟨er, bo⟩
 ·rw [if_neg c4] at H
  exact absurd H (by simp)

end Go.Proofs.Ytmabdfdmccbfnaa.P

-- written by a program of the proving session, out of the translation; Lean checks it
namespace Go.Proofs.Ytmabdfdmccbfnaa.P
open Go.RowKit Go.Proofs.Ytmabdfdmccbfnaa.Sq Go.Proofs.YtmabdfdmccbfnaaW.PrintWords Go.Proofs.YtmabdfdmccbfnaaW.PrintLast Go.Proofs.YtmabdfdmccbfnaaW.PrintMore
attribute [local go_sem] max2_int min2_int max_two min_two max_three min_three max_four min_four   -- for this text's walks alone
set_option linter.unusedVariables false
set_option linter.unusedSimpArgs false

/-! ### sum_Sum: function 63 -/
mutual
def sum_Sum.l0 : Nat → Int → ByteArray → Int → Int → Option (Int)
 | 0, _, _, _, _ => none
 | k + 1, x0, x1, x9, x10 => if x10 < x9 then (if 0 ≤ x10 then (if x10 < (x1.size : Int) then (sum_Sum.l1 k (Go.bits .xor .u32 x0 ((bt x1 x10) % 4294967296)) x1 x9 x10 0) else (none)) else (none)) else (some (Go.bits .xor .u32 4294967295 x0))
def sum_Sum.l1 : Nat → Int → ByteArray → Int → Int → Int → Option (Int)
 | 0, _, _, _, _, _ => none
 | k + 1, x0, x1, x9, x10, x19 => if x19 < 8 then (sum_Sum.l1 k (Go.bits .xor .u32 (x0 / 2) (Go.bits .and .u32 2197175160 ((-(Go.bits .and .u32 x0 1)) % 4294967296))) x1 x9 x10 (wrap64 (x19 + 1))) else (sum_Sum.l0 k x0 x1 x9 (wrap64 (x10 + 1)))
end
def sum_Sum.f (k : Nat) (a0 : Int) (a1 : ByteArray) : Option (Int) := sum_Sum.l0 k (Go.bits .xor .u32 4294967295 a0) a1 (a1.size : Int) 0
theorem sum_Sum.mono_l : ∀ k, (∀ y0 y1 y2 y3, LeO (sum_Sum.l0 k y0 y1 y2 y3) (sum_Sum.l0 (k + 1) y0 y1 y2 y3)) ∧ (∀ y0 y1 y2 y3 y4, LeO (sum_Sum.l1 k y0 y1 y2 y3 y4) (sum_Sum.l1 (k + 1) y0 y1 y2 y3 y4))
 | 0 => ⟨fun _ _ _ _ r h => by simp [sum_Sum.l0] at h, fun _ _ _ _ _ r h => by simp [sum_Sum.l1] at h⟩
 | k + 1 => by
  obtain ⟨ih0, ih1⟩ := sum_Sum.mono_l k
  refine ⟨?_, ?_⟩
  ·intro y0 y1 y2 y3
   unfold sum_Sum.l0
   repeat' first
   | (with_reducible exact ih0 _ _ _ _)
   | (with_reducible exact ih1 _ _ _ _ _)
   | (with_reducible exact LeO.refl _)
   | (with_reducible exact LeO.none _)
   | (with_reducible refine LeO.ite ?_ ?_)
   | (with_reducible refine LeO.bind ?_ (fun _ => ?_))
   | exact ih0 _ _ _ _
   | exact ih1 _ _ _ _ _
   | exact LeO.none _
   | refine LeO.ite ?_ ?_
   | refine LeO.bind ?_ (fun _ => ?_)
  ·intro y0 y1 y2 y3 y4
   unfold sum_Sum.l1
   repeat' first
   | (with_reducible exact ih0 _ _ _ _)
   | (with_reducible exact ih1 _ _ _ _ _)
   | (with_reducible exact LeO.refl _)
   | (with_reducible exact LeO.none _)
   | (with_reducible refine LeO.ite ?_ ?_)
   | (with_reducible refine LeO.bind ?_ (fun _ => ?_))
   | exact ih0 _ _ _ _
   | exact ih1 _ _ _ _ _
   | exact LeO.none _
   | refine LeO.ite ?_ ?_
   | refine LeO.bind ?_ (fun _ => ?_)
theorem sum_Sum.mono : ∀ a0 a1 k, LeO (sum_Sum.f k a0 a1) (sum_Sum.f (k + 1) a0 a1) := by
 intro a0 a1 k
 obtain ⟨ih0, ih1⟩ := sum_Sum.mono_l k
 unfold sum_Sum.f
 repeat' first
  | (with_reducible exact ih0 _ _ _ _)
  | (with_reducible exact ih1 _ _ _ _ _)
  | (with_reducible exact LeO.refl _)
  | (with_reducible exact LeO.none _)
  | (with_reducible refine LeO.ite ?_ ?_)
  | (with_reducible refine LeO.bind ?_ (fun _ => ?_))
  | exact ih0 _ _ _ _
  | exact ih1 _ _ _ _ _
  | exact LeO.none _
  | refine LeO.ite ?_ ?_
  | refine LeO.bind ?_ (fun _ => ?_)
set_option maxHeartbeats 8000000 in
set_option maxRecDepth 100000 in
theorem sum_Sum.calls (k : Nat) (a0 : Int) (a1 : ByteArray) (r : Int) (w : World) (h : sum_Sum.f k a0 a1 = some r) :
 Calls Try.prog 63 #[.int .u32 a0, .string a1] w fun e w' => e = .returned (.int .u32 r) ∧ Drawn0 w w' := by
 have H : (sum_Sum.l0 k (Go.bits .xor .u32 4294967295 a0) a1 (a1.size : Int) 0) = some r := h
 clear h
 have H' := Aside0.mk H
 clear H
 go_enter Try.func63, Try.ntmps63
 go_wp2
 go_loopg [0, 10] k (fun kq v0 v10 w' => ∃ (x0_1 : Int) (x10_1 : Int), v0 = .int .u32 x0_1 ∧ v10 = .int .i64 x10_1 ∧ Aside0 (sum_Sum.l0 kq x0_1 a1 (a1.size : Int) x10_1 = some r) ∧ Aside0 (kq ≤ k) ∧ Drawn0 w w')
 case atStart => exact ⟨(Go.bits .xor .u32 4294967295 a0), (0), ap, ap, H', ⟨Nat.le_refl _⟩, dr⟩
 case round =>
  clear H'
  try clear p2
  obtain ⟨x0_1, x10_1, rfl, rfl, HA, HK1, ⟨m1, rfl⟩⟩ := hrel
  cases gk with
  | zero => exact absurd HA.out (by simp [sum_Sum.l0])
  | succ k1 =>
   have H := HA.out
   clear HA
   simp only [sum_Sum.l0] at H
   by_cases c3 : x10_1 < (a1.size : Int)
   ·rw [if_pos c3] at H
    have c3b0 : decide (x10_1 < (a1.size : Int)) = true := decide_eq_true c3
    clear c3
    by_cases c4 : 0 ≤ x10_1
    ·rw [if_pos c4] at H
     have c4b0 : decide (0 ≤ x10_1) = true := decide_eq_true c4
     clear c4
     by_cases c5 : x10_1 < (a1.size : Int)
     ·rw [if_pos c5] at H
      have c5b0 : decide (x10_1 < (a1.size : Int)) = true := decide_eq_true c5
      clear c5
      have H' := Aside0.mk H
      clear H
      have p6 : 0 ≤ (x10_1 : Int) := od
      have q6 : x10_1 < (a1.size : Int) := od
      have hx6 := bt_at a1 x10_1
      replace p6 := eq_true p6
      replace q6 := eq_true q6
      go_wp2
      go_loopg [0, 19] k1 (fun kq v0 v19 w' => ∃ (x0_2 : Int) (x19_2 : Int), v0 = .int .u32 x0_2 ∧ v19 = .int .i64 x19_2 ∧ Aside0 (sum_Sum.l1 kq x0_2 a1 (a1.size : Int) x10_1 x19_2 = some r) ∧ Aside0 (kq ≤ k1) ∧ Drawn0 w w')
      case atStart => exact ⟨(Go.bits .xor .u32 x0_1 ((bt a1 x10_1) % 4294967296)), (0), ap, ap, H', ⟨Nat.le_refl _⟩, dr⟩
      case round =>
       clear H'
       (try clear p2); (try clear c3); (try clear c3b0); (try clear c4); (try clear c4b0); (try clear c5); (try clear c5b0); (try clear c6); (try clear p6); (try clear q6); (try clear hx6); (try clear p2); (try clear p6); (try clear q6)
       obtain ⟨x0_2, x19_2, rfl, rfl, HA, HK2, ⟨m2, rfl⟩⟩ := hrel
       cases gk with
       | zero => exact absurd HA.out (by simp [sum_Sum.l1])
       | succ k2 =>
        have H := HA.out
        clear HA
        simp only [sum_Sum.l1] at H
        by_cases c7 : x19_2 < 8
        ·rw [if_pos c7] at H
         have c7b0 : decide (x19_2 < 8) = true := decide_eq_true c7
         clear c7
         have H' := Aside0.mk H
         clear H
         go_wp2
         go_roundg k2
         case measure => have := HK1.out; have := HK2.out; omega
         case rel => exact ⟨(Go.bits .xor .u32 (x0_2 / 2) (Go.bits .and .u32 2197175160 ((-(Go.bits .and .u32 x0_2 1)) % 4294967296))), (wrap64 (x19_2 + 1)), ap, ap, H', ⟨by have := HK1.out; have := HK2.out; omega⟩, dr⟩
        ·rw [if_neg c7] at H
         have c7b0 : decide (x19_2 < 8) = false := decide_eq_false c7
         clear c7
         have H' := Aside0.mk H
         clear H
         go_wp2
         go_roundg k2
         case measure => have := HK1.out; have := HK2.out; omega
         case rel => exact ⟨(x0_2), (wrap64 (x10_1 + 1)), ap, ap, H', ⟨by have := HK1.out; have := HK2.out; omega⟩, dr⟩
     ·rw [if_neg c5] at H
      exact absurd H (by simp)
    ·rw [if_neg c4] at H
     exact absurd H (by simp)
   ·rw [if_neg c3] at H
    have c3b0 : decide (x10_1 < (a1.size : Int)) = false := decide_eq_false c3
    clear c3
    obtain rfl := Option.some.inj H
    go_wp2
    go_ret
    exact ⟨ap, dr⟩

end Go.Proofs.Ytmabdfdmccbfnaa.P

-- written by a program of the proving session, out of the translation; Lean checks it
namespace Go.Proofs.Ytmabdfdmccbfnaa.P
open Go.RowKit Go.Proofs.Ytmabdfdmccbfnaa.Sq Go.Proofs.YtmabdfdmccbfnaaW.PrintWords Go.Proofs.YtmabdfdmccbfnaaW.PrintLast Go.Proofs.YtmabdfdmccbfnaaW.PrintMore
attribute [local go_sem] max2_int min2_int max_two min_two max_three min_three max_four min_four   -- for this text's walks alone
set_option linter.unusedVariables false
set_option linter.unusedSimpArgs false

/-! ### rec_Bytes: function 14 -/
def rec_Bytes.j0 : Nat → Int → Int → Int → ByteArray → ByteArray → Int → Bool → Option (ByteArray × Int)
 | 0, _, _, _, _, _, _, _ => none
 | k + 1, x5, x115000, x115001, x115002, x115003, x115004, x115005 => (vbi_Two.f k (x115002.size : Int)).bind fun bt116 => ((rec_eight.f k x115000).bind fun t118 => ((rec_eight.f k x115001).bind fun t119 => (if t118.size + t119.size ≤ 9223372036854775807 then ((some (([x5] : List Int) : List Int)).bind fun y120 => (if (t118 ++ t119).size + (strOfNums y120).size ≤ 9223372036854775807 then (if ((t118 ++ t119) ++ (strOfNums y120)).size + bt116.1.size ≤ 9223372036854775807 then (if (((t118 ++ t119) ++ (strOfNums y120)) ++ bt116.1).size + x115002.size ≤ 9223372036854775807 then (if ((((t118 ++ t119) ++ (strOfNums y120)) ++ bt116.1) ++ x115002).size + x115003.size ≤ 9223372036854775807 then ((vbi_Two.f k ((((((t118 ++ t119) ++ (strOfNums y120)) ++ bt116.1) ++ x115002) ++ x115003).size : Int)).bind fun bt123 => ((sum_Sum.f k 0 bt123.1).bind fun t125 => ((sum_Sum.f k t125 (((((t118 ++ t119) ++ (strOfNums y120)) ++ bt116.1) ++ x115002) ++ x115003)).bind fun t126 => ((vbi_Four.f k (wrap64 (t126))).bind fun bt127 => (if bt123.1.size + bt127.1.size ≤ 9223372036854775807 then (if (bt123.1 ++ bt127.1).size + (((((t118 ++ t119) ++ (strOfNums y120)) ++ bt116.1) ++ x115002) ++ x115003).size ≤ 9223372036854775807 then (some ((bt123.1 ++ bt127.1) ++ (((((t118 ++ t119) ++ (strOfNums y120)) ++ bt116.1) ++ x115002) ++ x115003), 0)) else (none)) else (none)))))) else (none)) else (none)) else (none)) else (none))) else (none))))
def rec_Bytes.f (k : Nat) (a0_0 : Int) (a0_1 : Int) (a0_2 : ByteArray) (a0_3 : ByteArray) (a0_4 : Int) (a0_5 : Bool) : Option (ByteArray × Int) := (rec_Check.f k a0_0 a0_1 a0_2 a0_3 a0_4 a0_5).bind fun t115 => (if t115 = 0 then (if a0_5 = true then (rec_Bytes.j0 k (Go.bits .or .u8 ((a0_4) % 256) 4) a0_0 a0_1 a0_2 a0_3 a0_4 a0_5) else (rec_Bytes.j0 k ((a0_4) % 256) a0_0 a0_1 a0_2 a0_3 a0_4 a0_5)) else (some ((⟨#[]⟩ : ByteArray), t115)))
theorem rec_Bytes.mono_l : ∀ k, (∀ y0 y1 y2 y3 y4 y5 y6, LeO (rec_Bytes.j0 k y0 y1 y2 y3 y4 y5 y6) (rec_Bytes.j0 (k + 1) y0 y1 y2 y3 y4 y5 y6))
 | 0 => fun _ _ _ _ _ _ _ r h => by simp [rec_Bytes.j0] at h
 | k + 1 => by
  have ih0 := rec_Bytes.mono_l k
  ·intro y0 y1 y2 y3 y4 y5 y6
   unfold rec_Bytes.j0
   repeat' first
   | (with_reducible exact ih0 _ _ _ _ _ _ _)
   | (with_reducible exact rec_Check.mono _ _ _ _ _ _ _)
   | (with_reducible exact rec_eight.mono _ _)
   | (with_reducible exact sum_Sum.mono _ _ _)
   | (with_reducible exact vbi_Four.mono _ _)
   | (with_reducible exact vbi_Two.mono _ _)
   | (with_reducible exact LeO.refl _)
   | (with_reducible exact LeO.none _)
   | (with_reducible refine LeO.ite ?_ ?_)
   | (with_reducible refine LeO.bind ?_ (fun _ => ?_))
   | exact ih0 _ _ _ _ _ _ _
   | exact rec_Check.mono _ _ _ _ _ _ _
   | exact rec_eight.mono _ _
   | exact sum_Sum.mono _ _ _
   | exact vbi_Four.mono _ _
   | exact vbi_Two.mono _ _
   | exact LeO.none _
   | refine LeO.ite ?_ ?_
   | refine LeO.bind ?_ (fun _ => ?_)
theorem rec_Bytes.mono : ∀ a0 a1 a2 a3 a4 a5 k, LeO (rec_Bytes.f k a0 a1 a2 a3 a4 a5) (rec_Bytes.f (k + 1) a0 a1 a2 a3 a4 a5) := by
 intro a0 a1 a2 a3 a4 a5 k
 have ih0 := rec_Bytes.mono_l k
 unfold rec_Bytes.f
 repeat' first
  | (with_reducible exact ih0 _ _ _ _ _ _ _)
  | (with_reducible exact rec_Check.mono _ _ _ _ _ _ _)
  | (with_reducible exact rec_eight.mono _ _)
  | (with_reducible exact sum_Sum.mono _ _ _)
  | (with_reducible exact vbi_Four.mono _ _)
  | (with_reducible exact vbi_Two.mono _ _)
  | (with_reducible exact LeO.refl _)
  | (with_reducible exact LeO.none _)
  | (with_reducible refine LeO.ite ?_ ?_)
  | (with_reducible refine LeO.bind ?_ (fun _ => ?_))
  | exact ih0 _ _ _ _ _ _ _
  | exact rec_Check.mono _ _ _ _ _ _ _
  | exact rec_eight.mono _ _
  | exact sum_Sum.mono _ _ _
  | exact vbi_Four.mono _ _
  | exact vbi_Two.mono _ _
  | exact LeO.none _
  | refine LeO.ite ?_ ?_
  | refine LeO.bind ?_ (fun _ => ?_)
def rec_Bytes.T8 : Bool × List (List Nat × List Nat) := (true, [([], []), ([0], [0]), ([1], [1]), ([], []), ([3], [3]), ([4, 2], [4]), ([2, 5], [2, 5]), ([], []), ([7], [7]), ([8], [8]), ([6, 9], [6, 9]), ([], []), ([10, 11], [10, 11]), ([], []), ([13], [13]), ([12, 14], [12, 14]), ([], []), ([16], [16]), ([15, 17], [15, 17]), ([18, 5, 0, 1, 2, 3, 4, 5, 6, 7, 8, 9, 10, 11, 12, 13, 14, 15, 16, 17, 18], [18])])
def rec_Bytes.B8 : List Nat := [0, 1, 3, 0, 8, 31, 63, 0, 128, 384, 1023, 0, 4095, 0, 8192, 32767, 0, 65536, 262143, 524287]
theorem rec_Bytes.tab8 : rtab .any (opsOf Try.f14 8) = rec_Bytes.T8 := by kernel_rfl
theorem rec_Bytes.bits8 : waitsOk rec_Bytes.T8.2 rec_Bytes.B8 = true := by kernel_rfl
set_option maxHeartbeats 8000000 in
set_option maxRecDepth 100000 in
theorem rec_Bytes.calls (k : Nat) (a0_0 : Int) (a0_1 : Int) (a0_2 : ByteArray) (a0_3 : ByteArray) (a0_4 : Int) (a0_5 : Bool) (r1 : ByteArray) (r2 : Int) (w : World) (h : rec_Bytes.f k a0_0 a0_1 a0_2 a0_3 a0_4 a0_5 = some (r1, r2)) :
 Calls Try.prog 14 #[.agg #[.int .i64 a0_0, .int .i64 a0_1, .string a0_2, .string a0_3, .int .i64 a0_4, .bool a0_5]] w fun e w' => e = .returned (.tuple #[.string r1, .int .i64 r2]) ∧ Below w.heap.size w w' := by
 have hu25 := Try.underlying25
 have HB := Aside0.mk (Below.refl w.heap.size w)
 have H : ((rec_Check.f k a0_0 a0_1 a0_2 a0_3 a0_4 a0_5).bind fun t115 => (if t115 = 0 then (if a0_5 = true then (rec_Bytes.j0 k (Go.bits .or .u8 ((a0_4) % 256) 4) a0_0 a0_1 a0_2 a0_3 a0_4 a0_5) else (rec_Bytes.j0 k ((a0_4) % 256) a0_0 a0_1 a0_2 a0_3 a0_4 a0_5)) else (some ((⟨#[]⟩ : ByteArray), t115)))) = some (r1, r2) := h
 clear h
 replace H := Option.bind_eq_some_iff.mp H
 obtain ⟨t115, A20, H⟩ := H
 try dsimp only at H
 have A2 := Aside0.mk A20
 clear A20
 by_cases c3 : t115 = 0
 ·rw [if_pos c3] at H
  have c3b0 : (t115 == 0) = true := beq_iff_eq.mpr c3
  have c3b1 : (t115 != 0) = false := bne_eq_false_iff_eq.mpr c3
  clear c3
  have HC4 := Aside0.mk H
  clear H
  go_enter Try.func14, Try.ntmps14
  go_upto_if 22 with (first | ((with_reducible refine gate_dst (N := 1) rfl ?_); refine box_event ?hg (N := 1) ?hd (cs := #[.int .i64 a0_0, .int .i64 a0_1, .string a0_2, .string a0_3, .int .i64 a0_4, .bool a0_5]) (t := 25) ?hr ?_; (case hd => rfl); (case hg => rfl); (case hr => first | (go_simp; done) | (go_simp; rfl)); intro gb114 hg w5 hbox hb; have BK114 := Aside0.mk (hbox); have GW114 := Aside0.mk ((by rw [hg]; exact (below_size bo) : w.heap.size ≤ gb114)); have GE114 := Aside0.mk ((by rw [hg]; exact (below_size bo) : w.heap.size ≤ gb114)); replace HB := Aside0.mk (below_step bo hb); clear hb hbox hg; obtain ⟨hcz6_0, hcz6_1, hcz6_2, hcz6_3, hcz6_4, hcz6_5⟩ := cl6 BK114.out; obtain ⟨hfz6_0, hfz6_1, hfz6_2, hfz6_3, hfz6_4, hfz6_5⟩ := fz6 BK114.out) | ((with_reducible refine gate_callee (f := 22) rfl ?_); refine goesL_ (some 14) rfl rfl Try.func22 (by kernel_rfl) rfl #[.agg #[.int .i64 a0_0, .int .i64 a0_1, .string a0_2, .string a0_3, .int .i64 a0_4, .bool a0_5]] rfl aa ?_; (with_reducible refine (rec_Check.calls k a0_0 a0_1 a0_2 a0_3 a0_4 a0_5 t115 _ A2.out).mono ?_); rintro e w7 ⟨rfl, hb⟩; refine ⟨_, rfl, ?_⟩; replace BK114 := Aside0.mk (bb BK114.out hb); replace HB := Aside0.mk (below_step bo hb); (try clear hb); (try clear hb2); (try clear hk); (try clear hi); obtain ⟨hcz8_0, hcz8_1, hcz8_2, hcz8_3, hcz8_4, hcz8_5⟩ := cl6 BK114.out; obtain ⟨hfz8_0, hfz8_1, hfz8_2, hfz8_3, hfz8_4, hfz8_5⟩ := fz6 BK114.out))
  (try simp only [Act.put, List.setIfInBounds_toArray, List.set_cons_zero, List.set_cons_succ])
  go_cut [5] (fun v5 wc => ∃ (kq : Nat) (x5_3 : Int), v5 = .int .u8 x5_3 ∧ Aside0 (rec_Bytes.j0 kq x5_3 a0_0 a0_1 a0_2 a0_3 a0_4 a0_5 = some (r1, r2)) ∧ Aside0 (kq ≤ k) ∧ Aside0 (wc.heap[gb114]? = some (.cells #[.int .i64 a0_0, .int .i64 a0_1, .string a0_2, .string a0_3, .int .i64 a0_4, .bool a0_5] 25 (0, 0))) ∧ Aside0 (Below w.heap.size w wc))
  case first =>
   have H := HC4.out
   clear HC4
   by_cases c9 : a0_5 = true
   ·subst c9
    have H1 : (rec_Bytes.j0 k (Go.bits .or .u8 ((a0_4) % 256) 4) a0_0 a0_1 a0_2 a0_3 a0_4 true) = some (r1, r2) := by rw [if_pos rfl] at H; exact H
    clear H
    have H := H1
    clear H1
    have H' := Aside0.mk H
    clear H
    go_wp2
    go_meet
    case rel => exact ⟨_, (Go.bits .or .u8 ((a0_4) % 256) 4), ap, H', ⟨by first | omega | exact Nat.le_refl _⟩, ⟨by (with_reducible repeat (first | refine blk_drewN ?_ _ | refine blk_drew ?_ | refine blk_alloc ?_ _)); exact BK114.out⟩, ⟨bo⟩⟩
   ·replace c9 := Bool.eq_false_iff.mpr c9
    subst c9
    have H1 : (rec_Bytes.j0 k ((a0_4) % 256) a0_0 a0_1 a0_2 a0_3 a0_4 false) = some (r1, r2) := by rw [if_neg (show ¬ (false = true) by decide)] at H; exact H
    clear H
    have H := H1
    clear H1
    have H' := Aside0.mk H
    clear H
    go_wp2
    go_meet
    case rel => exact ⟨_, ((a0_4) % 256), ap, H', ⟨by first | omega | exact Nat.le_refl _⟩, ⟨by (with_reducible repeat (first | refine blk_drewN ?_ _ | refine blk_drew ?_ | refine blk_alloc ?_ _)); exact BK114.out⟩, ⟨bo⟩⟩
  case rest =>
   clear HC4
   (try clear c1); (try clear c2); (try clear p2); (try clear c3); (try clear c3b0); (try clear c3b1); (try clear c9); (try clear hcz6_0); (try clear hcz6_1); (try clear hcz6_2); (try clear hcz6_3); (try clear hcz6_4); (try clear hcz6_5); (try clear hcz8_0); (try clear hcz8_1); (try clear hcz8_2); (try clear hcz8_3); (try clear hcz8_4); (try clear hcz8_5); (try clear hfz6_0); (try clear hfz6_1); (try clear hfz6_2); (try clear hfz6_3); (try clear hfz6_4); (try clear hfz6_5); (try clear hfz8_0); (try clear hfz8_1); (try clear hfz8_2); (try clear hfz8_3); (try clear hfz8_4); (try clear hfz8_5)
   obtain ⟨kq, x5_3, rfl, HA, HJ3, BK114, HB⟩ := hcut
   cases kq with
   | zero => exact absurd HA.out (by simp [rec_Bytes.j0])
   | succ kj3 =>
    have H := HA.out
    clear HA
    simp only [rec_Bytes.j0] at H
    replace H := Option.bind_eq_some_iff.mp H
    obtain ⟨⟨t116, t117⟩, A100, H⟩ := H
    replace H : ((rec_eight.f kj3 a0_0).bind fun t118 => ((rec_eight.f kj3 a0_1).bind fun t119 => (if t118.size + t119.size ≤ 9223372036854775807 then ((some (([x5_3] : List Int) : List Int)).bind fun y120 => (if (t118 ++ t119).size + (strOfNums y120).size ≤ 9223372036854775807 then (if ((t118 ++ t119) ++ (strOfNums y120)).size + t116.size ≤ 9223372036854775807 then (if (((t118 ++ t119) ++ (strOfNums y120)) ++ t116).size + a0_2.size ≤ 9223372036854775807 then (if ((((t118 ++ t119) ++ (strOfNums y120)) ++ t116) ++ a0_2).size + a0_3.size ≤ 9223372036854775807 then ((vbi_Two.f kj3 ((((((t118 ++ t119) ++ (strOfNums y120)) ++ t116) ++ a0_2) ++ a0_3).size : Int)).bind fun bt123 => ((sum_Sum.f kj3 0 bt123.1).bind fun t125 => ((sum_Sum.f kj3 t125 (((((t118 ++ t119) ++ (strOfNums y120)) ++ t116) ++ a0_2) ++ a0_3)).bind fun t126 => ((vbi_Four.f kj3 (wrap64 (t126))).bind fun bt127 => (if bt123.1.size + bt127.1.size ≤ 9223372036854775807 then (if (bt123.1 ++ bt127.1).size + (((((t118 ++ t119) ++ (strOfNums y120)) ++ t116) ++ a0_2) ++ a0_3).size ≤ 9223372036854775807 then (some ((bt123.1 ++ bt127.1) ++ (((((t118 ++ t119) ++ (strOfNums y120)) ++ t116) ++ a0_2) ++ a0_3), 0)) else (none)) else (none)))))) else (none)) else (none)) else (none)) else (none))) else (none)))) = some (r1, r2) := H
    have A10 := Aside0.mk A100
    clear A100
    replace H := Option.bind_eq_some_iff.mp H
    obtain ⟨t118, A110, H⟩ := H
    try dsimp only at H
    have A11 := Aside0.mk A110
    clear A110
    replace H := Option.bind_eq_some_iff.mp H
    obtain ⟨t119, A120, H⟩ := H
    try dsimp only at H
    have A12 := Aside0.mk A120
    clear A120
    by_cases c13 : t118.size + t119.size ≤ 9223372036854775807
    ·rw [if_pos c13] at H
     have c13b0 := eq_true c13
     have c13b1 : decide (t118.size + t119.size ≤ 9223372036854775807) = true := decide_eq_true c13
     try have c13b2 : (9223372036854775807 < t118.size + t119.size) = False := eq_false (Nat.not_lt.2 c13)
     obtain ⟨y120, hy120⟩ : ∃ y_ : List Int, y_ = (([x5_3] : List Int)) := ⟨_, rfl⟩
     replace H : (if (t118 ++ t119).size + (strOfNums y120).size ≤ 9223372036854775807 then (if ((t118 ++ t119) ++ (strOfNums y120)).size + t116.size ≤ 9223372036854775807 then (if (((t118 ++ t119) ++ (strOfNums y120)) ++ t116).size + a0_2.size ≤ 9223372036854775807 then (if ((((t118 ++ t119) ++ (strOfNums y120)) ++ t116) ++ a0_2).size + a0_3.size ≤ 9223372036854775807 then ((vbi_Two.f kj3 ((((((t118 ++ t119) ++ (strOfNums y120)) ++ t116) ++ a0_2) ++ a0_3).size : Int)).bind fun bt123 => ((sum_Sum.f kj3 0 bt123.1).bind fun t125 => ((sum_Sum.f kj3 t125 (((((t118 ++ t119) ++ (strOfNums y120)) ++ t116) ++ a0_2) ++ a0_3)).bind fun t126 => ((vbi_Four.f kj3 (wrap64 (t126))).bind fun bt127 => (if bt123.1.size + bt127.1.size ≤ 9223372036854775807 then (if (bt123.1 ++ bt127.1).size + (((((t118 ++ t119) ++ (strOfNums y120)) ++ t116) ++ a0_2) ++ a0_3).size ≤ 9223372036854775807 then (some ((bt123.1 ++ bt127.1) ++ (((((t118 ++ t119) ++ (strOfNums y120)) ++ t116) ++ a0_2) ++ a0_3), 0)) else (none)) else (none)))))) else (none)) else (none)) else (none)) else (none)) = some (r1, r2) := by first | (rw [hy120]; with_reducible exact H) | (have H2_ := (Option.bind_some _ _).symm.trans H; rw [hy120]; with_reducible exact H2_) | (have H2_ := (Option.bind_some _ _).symm.trans H; with_reducible exact H2_) | with_reducible exact H | (rw [hy120]; exact H) | exact H
     have Ny120 := Aside0.mk hy120
     clear hy120
     by_cases c14 : (t118 ++ t119).size + (strOfNums y120).size ≤ 9223372036854775807
     ·rw [if_pos c14] at H
      have c14b0 := eq_true c14
      have c14b1 : decide ((t118 ++ t119).size + (strOfNums y120).size ≤ 9223372036854775807) = true := decide_eq_true c14
      try have c14b2 : (9223372036854775807 < (t118 ++ t119).size + (strOfNums y120).size) = False := eq_false (Nat.not_lt.2 c14)
      (try (have c14n2 := c14b2; simp only [ByteArray.size_append] at c14n2))
      (try (have c14n1 := c14b1; simp only [ByteArray.size_append] at c14n1))
      by_cases c15 : ((t118 ++ t119) ++ (strOfNums y120)).size + t116.size ≤ 9223372036854775807
      ·rw [if_pos c15] at H
       have c15b0 := eq_true c15
       have c15b1 : decide (((t118 ++ t119) ++ (strOfNums y120)).size + t116.size ≤ 9223372036854775807) = true := decide_eq_true c15
       try have c15b2 : (9223372036854775807 < ((t118 ++ t119) ++ (strOfNums y120)).size + t116.size) = False := eq_false (Nat.not_lt.2 c15)
       (try (have c15n2 := c15b2; simp only [ByteArray.size_append] at c15n2))
       (try (have c15n1 := c15b1; simp only [ByteArray.size_append] at c15n1))
       by_cases c16 : (((t118 ++ t119) ++ (strOfNums y120)) ++ t116).size + a0_2.size ≤ 9223372036854775807
       ·rw [if_pos c16] at H
        have c16b0 := eq_true c16
        have c16b1 : decide ((((t118 ++ t119) ++ (strOfNums y120)) ++ t116).size + a0_2.size ≤ 9223372036854775807) = true := decide_eq_true c16
        try have c16b2 : (9223372036854775807 < (((t118 ++ t119) ++ (strOfNums y120)) ++ t116).size + a0_2.size) = False := eq_false (Nat.not_lt.2 c16)
        (try (have c16n2 := c16b2; simp only [ByteArray.size_append] at c16n2))
        (try (have c16n1 := c16b1; simp only [ByteArray.size_append] at c16n1))
        by_cases c17 : ((((t118 ++ t119) ++ (strOfNums y120)) ++ t116) ++ a0_2).size + a0_3.size ≤ 9223372036854775807
        ·rw [if_pos c17] at H
         have c17b0 := eq_true c17
         have c17b1 : decide (((((t118 ++ t119) ++ (strOfNums y120)) ++ t116) ++ a0_2).size + a0_3.size ≤ 9223372036854775807) = true := decide_eq_true c17
         try have c17b2 : (9223372036854775807 < ((((t118 ++ t119) ++ (strOfNums y120)) ++ t116) ++ a0_2).size + a0_3.size) = False := eq_false (Nat.not_lt.2 c17)
         (try (have c17n2 := c17b2; simp only [ByteArray.size_append] at c17n2))
         (try (have c17n1 := c17b1; simp only [ByteArray.size_append] at c17n1))
         replace H := Option.bind_eq_some_iff.mp H
         obtain ⟨⟨t123, t124⟩, A180, H⟩ := H
         replace H : ((sum_Sum.f kj3 0 t123).bind fun t125 => ((sum_Sum.f kj3 t125 (((((t118 ++ t119) ++ (strOfNums y120)) ++ t116) ++ a0_2) ++ a0_3)).bind fun t126 => ((vbi_Four.f kj3 (wrap64 (t126))).bind fun bt127 => (if t123.size + bt127.1.size ≤ 9223372036854775807 then (if (t123 ++ bt127.1).size + (((((t118 ++ t119) ++ (strOfNums y120)) ++ t116) ++ a0_2) ++ a0_3).size ≤ 9223372036854775807 then (some ((t123 ++ bt127.1) ++ (((((t118 ++ t119) ++ (strOfNums y120)) ++ t116) ++ a0_2) ++ a0_3), 0)) else (none)) else (none))))) = some (r1, r2) := H
         have A18 := Aside0.mk A180
         clear A180
         replace H := Option.bind_eq_some_iff.mp H
         obtain ⟨t125, A190, H⟩ := H
         try dsimp only at H
         have A19 := Aside0.mk A190
         clear A190
         replace H := Option.bind_eq_some_iff.mp H
         obtain ⟨t126, A200, H⟩ := H
         try dsimp only at H
         have A20 := Aside0.mk A200
         clear A200
         replace H := Option.bind_eq_some_iff.mp H
         obtain ⟨⟨t127, t128⟩, A210, H⟩ := H
         replace H : (if t123.size + t127.size ≤ 9223372036854775807 then (if (t123 ++ t127).size + (((((t118 ++ t119) ++ (strOfNums y120)) ++ t116) ++ a0_2) ++ a0_3).size ≤ 9223372036854775807 then (some ((t123 ++ t127) ++ (((((t118 ++ t119) ++ (strOfNums y120)) ++ t116) ++ a0_2) ++ a0_3), 0)) else (none)) else (none)) = some (r1, r2) := H
         have A21 := Aside0.mk A210
         clear A210
         by_cases c22 : t123.size + t127.size ≤ 9223372036854775807
         ·rw [if_pos c22] at H
          have c22b0 := eq_true c22
          have c22b1 : decide (t123.size + t127.size ≤ 9223372036854775807) = true := decide_eq_true c22
          try have c22b2 : (9223372036854775807 < t123.size + t127.size) = False := eq_false (Nat.not_lt.2 c22)
          by_cases c23 : (t123 ++ t127).size + (((((t118 ++ t119) ++ (strOfNums y120)) ++ t116) ++ a0_2) ++ a0_3).size ≤ 9223372036854775807
          ·rw [if_pos c23] at H
           have c23b0 := eq_true c23
           have c23b1 : decide ((t123 ++ t127).size + (((((t118 ++ t119) ++ (strOfNums y120)) ++ t116) ++ a0_2) ++ a0_3).size ≤ 9223372036854775807) = true := decide_eq_true c23
           try have c23b2 : (9223372036854775807 < (t123 ++ t127).size + (((((t118 ++ t119) ++ (strOfNums y120)) ++ t116) ++ a0_2) ++ a0_3).size) = False := eq_false (Nat.not_lt.2 c23)
           (try (have c23n2 := c23b2; simp only [ByteArray.size_append] at c23n2))
           (try (have c23n1 := c23b1; simp only [ByteArray.size_append] at c23n1))
           simp only [Option.some.injEq, Prod.mk.injEq] at H
           obtain ⟨rfl, rfl⟩ := H
           have hcz24_0 : wc.cell? ⟨gb114, 0, none⟩ = some (.int .i64 a0_0) := (blk_cell BK114.out 0).trans rfl
           have hcz24_1 : wc.cell? ⟨gb114, 1, none⟩ = some (.int .i64 a0_1) := (blk_cell BK114.out 1).trans rfl
           have hcz24_2 : wc.cell? ⟨gb114, 2, none⟩ = some (.string a0_2) := (blk_cell BK114.out 2).trans rfl
           have hcz24_3 : wc.cell? ⟨gb114, 3, none⟩ = some (.string a0_3) := (blk_cell BK114.out 3).trans rfl
           have hcz24_4 : wc.cell? ⟨gb114, 4, none⟩ = some (.int .i64 a0_4) := (blk_cell BK114.out 4).trans rfl
           have hcz24_5 : wc.cell? ⟨gb114, 5, none⟩ = some (.bool a0_5) := (blk_cell BK114.out 5).trans rfl
           have hfz24_0 := blk_frozen BK114.out 0
           have hfz24_1 := blk_frozen BK114.out 1
           have hfz24_2 := blk_frozen BK114.out 2
           have hfz24_3 := blk_frozen BK114.out 3
           have hfz24_4 := blk_frozen BK114.out 4
           have hfz24_5 := blk_frozen BK114.out 5
           try go_wp2_with (first | ((with_reducible refine gate_callee (f := 60) rfl ?_); refine goesL_ (some 29) rfl rfl Try.func60 (by kernel_rfl) rfl #[.int .i64 (a0_2.size : Int)] rfl aa ?_; (with_reducible refine (vbi_Two.calls kj3 (a0_2.size : Int) t116 t117 _ A10.out).mono ?_); rintro e w25 ⟨rfl, hb⟩; refine ⟨_, rfl, ?_⟩; replace BK114 := Aside0.mk (bb BK114.out hb); replace HB := Aside0.mk (below_step bo hb); (try clear hb); (try clear hb2); (try clear hk); (try clear hi)))
           replace BK114 := Aside0.mk (blk_drew BK114.out)
           replace HB := Aside0.mk (below_drew1 HB.out)
           refine start_ (n := 20) (S := fun w' => w'.cell? ⟨gb114, 0, none⟩ = some (.int .i64 a0_0) ∧ w'.cell? ⟨gb114, 1, none⟩ = some (.int .i64 a0_1) ∧ w'.cell? ⟨gb114, 2, none⟩ = some (.string a0_2) ∧ w'.cell? ⟨gb114, 3, none⟩ = some (.string a0_3) ∧ w'.cell? ⟨gb114, 4, none⟩ = some (.int .i64 a0_4) ∧ w'.cell? ⟨gb114, 5, none⟩ = some (.bool a0_5)) (ds := []) #[O,O,O,O,O,O,O,O,O,O,O,O,O,O,O,O,O,O,O,O] (by kernel_rfl) rfl rfl ⟨(blk_cell BK114.out 0).trans rfl, (blk_cell BK114.out 1).trans rfl, (blk_cell BK114.out 2).trans rfl, (blk_cell BK114.out 3).trans rfl, (blk_cell BK114.out 4).trans rfl, (blk_cell BK114.out 5).trans rfl⟩ (fun hHeld => ?_); refine with_tabW rec_Bytes.tab8 rec_Bytes.bits8 (fun HT_ HW_ => ?_)
           generalize w25.drew = w26 at BK114 HB hHeld ⊢
           refine pz (i := 0) (N := some 32) #[I,O,O,O,O,O,O,O,O,O,O,O,O,O,O,O,O,O,O,O] ?_
           refine pz (i := 3) (N := some 35) #[I,O,O,I,O,O,O,O,O,O,O,O,O,O,O,O,O,O,O,O] ?_
           refine pz (i := 7) (N := some 39) #[I,O,O,I,O,O,O,I,O,O,O,O,O,O,O,O,O,O,O,O] ?_
           refine pz (i := 11) (N := some 43) #[I,O,O,I,O,O,O,I,O,O,O,I,O,O,O,O,O,O,O,O] ?_
           refine pz (i := 13) (N := some 45) #[I,O,O,I,O,O,O,I,O,O,O,I,O,I,O,O,O,O,O,O] ?_
           refine pz (i := 16) (N := some 48) #[I,O,O,I,O,O,O,I,O,O,O,I,O,I,O,O,I,O,O,O] ?_
           refine tz (i := 1) (N := some 33) #[I,I,O,I,O,O,O,I,O,O,O,I,O,I,O,O,I,O,O,O] ?_
           refine tz (i := 4) (N := some 36) #[I,I,O,I,I,O,O,I,O,O,O,I,O,I,O,O,I,O,O,O] ?_
           refine tz (i := 14) (N := some 46) #[I,I,O,I,I,O,O,I,O,O,O,I,O,I,I,O,I,O,O,O] ?_
           refine tz (i := 17) (N := some 49) #[I,I,O,I,I,O,O,I,O,O,O,I,O,I,I,O,I,I,O,O] ?_
           refine join_ (σ := Value) 5 #[I,I,I,I,I,I,I,I,I,I,O,I,O,I,I,O,I,I,O,O] (fun s_ => [(34, .string t118), (37, .string t119), (40, s_), (41, .string (strOfNums y120)), (38, .string (t118 ++ t119))]) (fun s_ w' => (w'.cell? ⟨gb114, 0, none⟩ = some (.int .i64 a0_0) ∧ w'.cell? ⟨gb114, 1, none⟩ = some (.int .i64 a0_1) ∧ w'.cell? ⟨gb114, 2, none⟩ = some (.string a0_2) ∧ w'.cell? ⟨gb114, 3, none⟩ = some (.string a0_3) ∧ w'.cell? ⟨gb114, 4, none⟩ = some (.int .i64 a0_4) ∧ w'.cell? ⟨gb114, 5, none⟩ = some (.bool a0_5)) ∧ (Kd.R (Kd.int .u8) 5 w' w.heap.size (fun _ => True) s_ y120) ∧ (w'.heap[gb114]? = some (.cells #[.int .i64 a0_0, .int .i64 a0_1, .string a0_2, .string a0_3, .int .i64 a0_4, .bool a0_5] 25 (0, 0))) ∧ (Below w.heap.size w w')) ?_ ?_
           rotate_left
           ·intro hJ2_5_8_9
            refine join_ (σ := Value) 6 #[I,I,I,I,I,I,I,I,I,O,O,I,O,I,I,O,I,I,O,O] (fun s_ => [(34, .string t118), (37, .string t119), (40, s_), (38, .string (t118 ++ t119))]) (fun s_ w' => (w'.cell? ⟨gb114, 0, none⟩ = some (.int .i64 a0_0) ∧ w'.cell? ⟨gb114, 1, none⟩ = some (.int .i64 a0_1) ∧ w'.cell? ⟨gb114, 2, none⟩ = some (.string a0_2) ∧ w'.cell? ⟨gb114, 3, none⟩ = some (.string a0_3) ∧ w'.cell? ⟨gb114, 4, none⟩ = some (.int .i64 a0_4) ∧ w'.cell? ⟨gb114, 5, none⟩ = some (.bool a0_5)) ∧ (Kd.R (Kd.int .u8) 5 w' w.heap.size (fun _ => True) s_ y120) ∧ (w'.heap[gb114]? = some (.cells #[.int .i64 a0_0, .int .i64 a0_1, .string a0_2, .string a0_3, .int .i64 a0_4, .bool a0_5] 25 (0, 0))) ∧ (Below w.heap.size w w')) ?_ ?_
            rotate_left
            ·intro hJ2_5_8
             refine join_ (σ := Value) 7 #[I,I,I,I,I,O,O,I,I,I,O,I,O,I,I,O,I,I,O,O] (fun s_ => [(34, .string t118), (40, s_), (41, .string (strOfNums y120))]) (fun s_ w' => (w'.cell? ⟨gb114, 0, none⟩ = some (.int .i64 a0_0) ∧ w'.cell? ⟨gb114, 1, none⟩ = some (.int .i64 a0_1) ∧ w'.cell? ⟨gb114, 2, none⟩ = some (.string a0_2) ∧ w'.cell? ⟨gb114, 3, none⟩ = some (.string a0_3) ∧ w'.cell? ⟨gb114, 4, none⟩ = some (.int .i64 a0_4) ∧ w'.cell? ⟨gb114, 5, none⟩ = some (.bool a0_5)) ∧ (Kd.R (Kd.int .u8) 5 w' w.heap.size (fun _ => True) s_ y120) ∧ (w'.heap[gb114]? = some (.cells #[.int .i64 a0_0, .int .i64 a0_1, .string a0_2, .string a0_3, .int .i64 a0_4, .bool a0_5] 25 (0, 0))) ∧ (Below w.heap.size w w')) ?_ ?_
             rotate_left
             ·intro hJ2_8_9
              refine join_ (σ := Unit) 7 #[I,I,I,I,I,I,I,I,O,O,O,I,O,I,I,O,I,I,O,O] (fun s_ => [(34, .string t118), (37, .string t119), (38, .string (t118 ++ t119))]) (fun s_ w' => (w'.cell? ⟨gb114, 0, none⟩ = some (.int .i64 a0_0) ∧ w'.cell? ⟨gb114, 1, none⟩ = some (.int .i64 a0_1) ∧ w'.cell? ⟨gb114, 2, none⟩ = some (.string a0_2) ∧ w'.cell? ⟨gb114, 3, none⟩ = some (.string a0_3) ∧ w'.cell? ⟨gb114, 4, none⟩ = some (.int .i64 a0_4) ∧ w'.cell? ⟨gb114, 5, none⟩ = some (.bool a0_5)) ∧ (w'.heap[gb114]? = some (.cells #[.int .i64 a0_0, .int .i64 a0_1, .string a0_2, .string a0_3, .int .i64 a0_4, .bool a0_5] 25 (0, 0))) ∧ (Below w.heap.size w w')) ?_ ?_
              rotate_left
              ·intro hJ2_5
               refine join_ (σ := Value) 8 #[I,I,I,I,I,O,O,I,I,O,O,I,O,I,I,O,I,I,O,O] (fun s_ => [(34, .string t118), (40, s_)]) (fun s_ w' => (w'.cell? ⟨gb114, 0, none⟩ = some (.int .i64 a0_0) ∧ w'.cell? ⟨gb114, 1, none⟩ = some (.int .i64 a0_1) ∧ w'.cell? ⟨gb114, 2, none⟩ = some (.string a0_2) ∧ w'.cell? ⟨gb114, 3, none⟩ = some (.string a0_3) ∧ w'.cell? ⟨gb114, 4, none⟩ = some (.int .i64 a0_4) ∧ w'.cell? ⟨gb114, 5, none⟩ = some (.bool a0_5)) ∧ (Kd.R (Kd.int .u8) 5 w' w.heap.size (fun _ => True) s_ y120) ∧ (w'.heap[gb114]? = some (.cells #[.int .i64 a0_0, .int .i64 a0_1, .string a0_2, .string a0_3, .int .i64 a0_4, .bool a0_5] 25 (0, 0))) ∧ (Below w.heap.size w w')) ?_ ?_
               rotate_left
               ·intro hJ2_8
                refine join_ (σ := Value) 8 #[I,I,O,I,I,O,O,I,I,I,O,I,O,I,I,O,I,I,O,O] (fun s_ => [(40, s_), (41, .string (strOfNums y120))]) (fun s_ w' => (w'.cell? ⟨gb114, 0, none⟩ = some (.int .i64 a0_0) ∧ w'.cell? ⟨gb114, 1, none⟩ = some (.int .i64 a0_1) ∧ w'.cell? ⟨gb114, 2, none⟩ = some (.string a0_2) ∧ w'.cell? ⟨gb114, 3, none⟩ = some (.string a0_3) ∧ w'.cell? ⟨gb114, 4, none⟩ = some (.int .i64 a0_4) ∧ w'.cell? ⟨gb114, 5, none⟩ = some (.bool a0_5)) ∧ (Kd.R (Kd.int .u8) 5 w' w.heap.size (fun _ => True) s_ y120) ∧ (w'.heap[gb114]? = some (.cells #[.int .i64 a0_0, .int .i64 a0_1, .string a0_2, .string a0_3, .int .i64 a0_4, .bool a0_5] 25 (0, 0))) ∧ (Below w.heap.size w w')) ?_ ?_
                rotate_left
                ·intro hJ8_9
                 refine join_ (σ := Unit) 9 #[I,I,I,I,I,O,O,I,O,O,O,I,O,I,I,O,I,I,O,O] (fun s_ => [(34, .string t118)]) (fun s_ w' => (w'.cell? ⟨gb114, 0, none⟩ = some (.int .i64 a0_0) ∧ w'.cell? ⟨gb114, 1, none⟩ = some (.int .i64 a0_1) ∧ w'.cell? ⟨gb114, 2, none⟩ = some (.string a0_2) ∧ w'.cell? ⟨gb114, 3, none⟩ = some (.string a0_3) ∧ w'.cell? ⟨gb114, 4, none⟩ = some (.int .i64 a0_4) ∧ w'.cell? ⟨gb114, 5, none⟩ = some (.bool a0_5)) ∧ (w'.heap[gb114]? = some (.cells #[.int .i64 a0_0, .int .i64 a0_1, .string a0_2, .string a0_3, .int .i64 a0_4, .bool a0_5] 25 (0, 0))) ∧ (Below w.heap.size w w')) ?_ ?_
                 rotate_left
                 ·intro hJ2
                  refine join_ (σ := Value) 9 #[I,I,O,I,I,O,O,I,I,O,O,I,O,I,I,O,I,I,O,O] (fun s_ => [(40, s_)]) (fun s_ w' => (w'.cell? ⟨gb114, 0, none⟩ = some (.int .i64 a0_0) ∧ w'.cell? ⟨gb114, 1, none⟩ = some (.int .i64 a0_1) ∧ w'.cell? ⟨gb114, 2, none⟩ = some (.string a0_2) ∧ w'.cell? ⟨gb114, 3, none⟩ = some (.string a0_3) ∧ w'.cell? ⟨gb114, 4, none⟩ = some (.int .i64 a0_4) ∧ w'.cell? ⟨gb114, 5, none⟩ = some (.bool a0_5)) ∧ (Kd.R (Kd.int .u8) 5 w' w.heap.size (fun _ => True) s_ y120) ∧ (w'.heap[gb114]? = some (.cells #[.int .i64 a0_0, .int .i64 a0_1, .string a0_2, .string a0_3, .int .i64 a0_4, .bool a0_5] 25 (0, 0))) ∧ (Below w.heap.size w w')) ?_ ?_
                  rotate_left
                  ·intro hJ8
                   refine two_ (i := 2) (j := 8) (Ni := some 34) (Nj := some 40) #[I,I,I,I,I,O,O,I,O,O,O,I,O,I,I,O,I,I,O,O] #[I,I,O,I,I,O,O,I,I,O,O,I,O,I,I,O,I,I,O,O] rfl rfl rfl rfl (two_of HT_.out (by kernel_rfl)) (by decide) (by decide) (fun K hK => ?_) (fun K hK => ?_)
                   ·skip
                    refine goes_ Try.func61 (by kernel_rfl) rfl #[.int .i64 a0_0] (by rfl) rfl rfl aa ?_
                    with_reducible refine (rec_eight.calls kj3 a0_0 t118 _ A11.out).mono ?_
                    rintro e w27 ⟨rfl, hb⟩
                    refine ⟨_, rfl, ?_⟩
                    replace BK114 := Aside0.mk (bb BK114.out hb)
                    replace HB := Aside0.mk (below_step bo hb)
                    (try clear hb)
                    (try clear hb2)
                    (try clear hk)
                    (try clear hi)
                    refine hK.out _ _ ⟨(blk_cell BK114.out 0).trans rfl, (blk_cell BK114.out 1).trans rfl, (blk_cell BK114.out 2).trans rfl, (blk_cell BK114.out 3).trans rfl, (blk_cell BK114.out 4).trans rfl, (blk_cell BK114.out 5).trans rfl⟩ (fun hHeld => ?_)
                    clear hK K
                    refine nz (N := (some 34)) ?_
                    exact norm_ (by first | (simp only [putAll, Act.put, List.setIfInBounds_toArray, List.set_cons_zero, List.set_cons_succ]; done) | (simp only [putAll, Act.put, List.setIfInBounds_toArray, List.set_cons_zero, List.set_cons_succ]; rfl)) (hJ2 () _ ⟨hHeld, (bk BK114.out), bo⟩)
                   ·skip
                    refine Kd.R_lit_step (Kd.int .u8) _ 5 ?hg (N := 40) ?hd (xs := ([x5_3] : List Int)) (inner := [.int .u8 x5_3]) (ok := fun _ => True) (okp := fun _ => True) ?hr ?hp (fun _ hk => hk) trivial (Below.refl _ _) (Nat.le_refl _) (by simp) ?_; (case hd => rfl); (case hg => rfl); (case hr => first | (go_simp; done) | (go_simp; rfl)); (case hp => exact (Reps.one (show Kd.M (Kd.int .u8) _ _ _ x5_3 [.int .u8 x5_3] from rfl) (Reps.none _ _)))
                    intro v121 w27 ho28 hb hg_ hnew_
                    clear hg_ hnew_
                    (first | rw [← Ny120.out] at ho28 | (simp only [Int.reduceToNat] at ho28; rw [← Ny120.out] at ho28))
                    have HO122 := Aside0.mk (Kd.R_lower ho28 (below_size bo))
                    replace BK114 := Aside0.mk (bb BK114.out hb)
                    replace HB := Aside0.mk (below_step bo hb)
                    clear hb ho28
                    refine hK.out _ _ ⟨(blk_cell BK114.out 0).trans rfl, (blk_cell BK114.out 1).trans rfl, (blk_cell BK114.out 2).trans rfl, (blk_cell BK114.out 3).trans rfl, (blk_cell BK114.out 4).trans rfl, (blk_cell BK114.out 5).trans rfl⟩ (fun hHeld => ?_)
                    clear hK K
                    refine nz (N := (some 40)) ?_
                    exact norm_ (by first | (simp only [putAll, Act.put, List.setIfInBounds_toArray, List.set_cons_zero, List.set_cons_succ]; done) | (simp only [putAll, Act.put, List.setIfInBounds_toArray, List.set_cons_zero, List.set_cons_succ]; rfl)) (hJ8 (v121) _ ⟨hHeld, (rk HO122.out), (bk BK114.out), bo⟩)
                  ·skip
                   rintro v121 w29 ⟨hS_, h0_, h1_, h2_⟩
                   have n0_ : Aside0 (Kd.R (Kd.int .u8) 5 w29 w.heap.size (fun _ => True) v121 y120) := ⟨h0_⟩
                   have n1_ : Aside0 (w29.heap[gb114]? = some (.cells #[.int .i64 a0_0, .int .i64 a0_1, .string a0_2, .string a0_3, .int .i64 a0_4, .bool a0_5] 25 (0, 0))) := ⟨h1_⟩
                   have n2_ : Aside0 (Below w.heap.size w w29) := ⟨h2_⟩
                   clear BK114
                   clear HB
                   clear h0_ h1_ h2_
                   have HO122 := n0_
                   have BK114 := n1_
                   have HB := n2_
                   clear n0_ n1_ n2_
                   have hHeld : w29.cell? ⟨gb114, 0, none⟩ = some (.int .i64 a0_0) ∧ w29.cell? ⟨gb114, 1, none⟩ = some (.int .i64 a0_1) ∧ w29.cell? ⟨gb114, 2, none⟩ = some (.string a0_2) ∧ w29.cell? ⟨gb114, 3, none⟩ = some (.string a0_3) ∧ w29.cell? ⟨gb114, 4, none⟩ = some (.int .i64 a0_4) ∧ w29.cell? ⟨gb114, 5, none⟩ = some (.bool a0_5) := hS_
                   refine norm_ (a' := ?_) ?_ ?_
                   rotate_left
                   ·simp only [putAll, Act.put, List.setIfInBounds_toArray, List.set_cons_zero, List.set_cons_succ]
                    rfl
                   refine two_ (i := 2) (j := 9) (Ni := some 34) (Nj := some 41) #[I,I,I,I,I,O,O,I,I,O,O,I,O,I,I,O,I,I,O,O] #[I,I,O,I,I,O,O,I,I,I,O,I,O,I,I,O,I,I,O,O] rfl rfl rfl rfl (two_of HT_.out (by kernel_rfl)) (by decide) (by decide) (fun K hK => ?_) (fun K hK => ?_)
                   ·skip
                    refine goes_ Try.func61 (by kernel_rfl) rfl #[.int .i64 a0_0] (by rfl) rfl rfl aa ?_
                    with_reducible refine (rec_eight.calls kj3 a0_0 t118 _ A11.out).mono ?_
                    rintro e w30 ⟨rfl, hb⟩
                    refine ⟨_, rfl, ?_⟩
                    replace HO122 := Aside0.mk (Kd.R_below (rk HO122.out) hb)
                    replace BK114 := Aside0.mk (bb BK114.out hb)
                    replace HB := Aside0.mk (below_step bo hb)
                    (try clear hb)
                    (try clear hb2)
                    (try clear hk)
                    (try clear hi)
                    refine hK.out _ _ ⟨(blk_cell BK114.out 0).trans rfl, (blk_cell BK114.out 1).trans rfl, (blk_cell BK114.out 2).trans rfl, (blk_cell BK114.out 3).trans rfl, (blk_cell BK114.out 4).trans rfl, (blk_cell BK114.out 5).trans rfl⟩ (fun hHeld => ?_)
                    clear hK K
                    refine nz (N := (some 34)) ?_
                    exact norm_ (by first | (simp only [putAll, Act.put, List.setIfInBounds_toArray, List.set_cons_zero, List.set_cons_succ]; done) | (simp only [putAll, Act.put, List.setIfInBounds_toArray, List.set_cons_zero, List.set_cons_succ]; rfl)) (hJ2_8 (v121) _ ⟨hHeld, (rk HO122.out), (bk BK114.out), bo⟩)
                   ·skip
                    have hcv30 := own_string (P := Try.prog) Try.underlying23 Try.underlying5 Try.underlying9 (Kd.own_of_R HO122.out)
                    refine value_ (w1 := ?_) (v := ?_) (by rfl) rfl ?_ ?_
                    rotate_left 2
                    ·go_simp
                     constructor
                     ·rfl
                     ·rfl
                    clear hcv30
                    refine hK.out _ _ ⟨(blk_cell BK114.out 0).trans rfl, (blk_cell BK114.out 1).trans rfl, (blk_cell BK114.out 2).trans rfl, (blk_cell BK114.out 3).trans rfl, (blk_cell BK114.out 4).trans rfl, (blk_cell BK114.out 5).trans rfl⟩ (fun hHeld => ?_)
                    clear hK K
                    refine nz (N := (some 41)) ?_
                    exact norm_ (by first | (simp only [putAll, Act.put, List.setIfInBounds_toArray, List.set_cons_zero, List.set_cons_succ]; done) | (simp only [putAll, Act.put, List.setIfInBounds_toArray, List.set_cons_zero, List.set_cons_succ]; rfl)) (hJ8_9 (v121) _ ⟨hHeld, (rk HO122.out), (bk BK114.out), bo⟩)
                 ·skip
                  rintro _ w28 ⟨hS_, h0_, h1_⟩
                  have n0_ : Aside0 (w28.heap[gb114]? = some (.cells #[.int .i64 a0_0, .int .i64 a0_1, .string a0_2, .string a0_3, .int .i64 a0_4, .bool a0_5] 25 (0, 0))) := ⟨h0_⟩
                  have n1_ : Aside0 (Below w.heap.size w w28) := ⟨h1_⟩
                  clear BK114
                  clear HB
                  clear h0_ h1_
                  have BK114 := n0_
                  have HB := n1_
                  clear n0_ n1_
                  have hHeld : w28.cell? ⟨gb114, 0, none⟩ = some (.int .i64 a0_0) ∧ w28.cell? ⟨gb114, 1, none⟩ = some (.int .i64 a0_1) ∧ w28.cell? ⟨gb114, 2, none⟩ = some (.string a0_2) ∧ w28.cell? ⟨gb114, 3, none⟩ = some (.string a0_3) ∧ w28.cell? ⟨gb114, 4, none⟩ = some (.int .i64 a0_4) ∧ w28.cell? ⟨gb114, 5, none⟩ = some (.bool a0_5) := hS_
                  refine norm_ (a' := ?_) ?_ ?_
                  rotate_left
                  ·simp only [putAll, Act.put, List.setIfInBounds_toArray, List.set_cons_zero, List.set_cons_succ]
                   rfl
                  refine two_ (i := 5) (j := 8) (Ni := some 37) (Nj := some 40) #[I,I,I,I,I,I,O,I,O,O,O,I,O,I,I,O,I,I,O,O] #[I,I,I,I,I,O,O,I,I,O,O,I,O,I,I,O,I,I,O,O] rfl rfl rfl rfl (two_of HT_.out (by kernel_rfl)) (by decide) (by decide) (fun K hK => ?_) (fun K hK => ?_)
                  ·skip
                   refine goes_ Try.func61 (by kernel_rfl) rfl #[.int .i64 a0_1] (by rfl) rfl rfl aa ?_
                   with_reducible refine (rec_eight.calls kj3 a0_1 t119 _ A12.out).mono ?_
                   rintro e w29 ⟨rfl, hb⟩
                   refine ⟨_, rfl, ?_⟩
                   replace BK114 := Aside0.mk (bb BK114.out hb)
                   replace HB := Aside0.mk (below_step bo hb)
                   (try clear hb)
                   (try clear hb2)
                   (try clear hk)
                   (try clear hi)
                   refine hK.out _ _ ⟨(blk_cell BK114.out 0).trans rfl, (blk_cell BK114.out 1).trans rfl, (blk_cell BK114.out 2).trans rfl, (blk_cell BK114.out 3).trans rfl, (blk_cell BK114.out 4).trans rfl, (blk_cell BK114.out 5).trans rfl⟩ (fun hHeld => ?_)
                   clear hK K
                   refine nz (N := (some 37)) ?_
                   refine pz (i := 6) (N := some 38) #[I,I,I,I,I,I,I,I,O,O,O,I,O,I,I,O,I,I,O,O] ?_
                   exact norm_ (by first | (simp only [putAll, Act.put, List.setIfInBounds_toArray, List.set_cons_zero, List.set_cons_succ]; done) | (simp only [putAll, Act.put, List.setIfInBounds_toArray, List.set_cons_zero, List.set_cons_succ]; rfl)) (hJ2_5 () _ ⟨hHeld, (bk BK114.out), bo⟩)
                  ·skip
                   refine Kd.R_lit_step (Kd.int .u8) _ 5 ?hg (N := 40) ?hd (xs := ([x5_3] : List Int)) (inner := [.int .u8 x5_3]) (ok := fun _ => True) (okp := fun _ => True) ?hr ?hp (fun _ hk => hk) trivial (Below.refl _ _) (Nat.le_refl _) (by simp) ?_; (case hd => rfl); (case hg => rfl); (case hr => first | (go_simp; done) | (go_simp; rfl)); (case hp => exact (Reps.one (show Kd.M (Kd.int .u8) _ _ _ x5_3 [.int .u8 x5_3] from rfl) (Reps.none _ _)))
                   intro v121 w29 ho30 hb hg_ hnew_
                   clear hg_ hnew_
                   (first | rw [← Ny120.out] at ho30 | (simp only [Int.reduceToNat] at ho30; rw [← Ny120.out] at ho30))
                   have HO122 := Aside0.mk (Kd.R_lower ho30 (below_size bo))
                   replace BK114 := Aside0.mk (bb BK114.out hb)
                   replace HB := Aside0.mk (below_step bo hb)
                   clear hb ho30
                   refine hK.out _ _ ⟨(blk_cell BK114.out 0).trans rfl, (blk_cell BK114.out 1).trans rfl, (blk_cell BK114.out 2).trans rfl, (blk_cell BK114.out 3).trans rfl, (blk_cell BK114.out 4).trans rfl, (blk_cell BK114.out 5).trans rfl⟩ (fun hHeld => ?_)
                   clear hK K
                   refine nz (N := (some 40)) ?_
                   exact norm_ (by first | (simp only [putAll, Act.put, List.setIfInBounds_toArray, List.set_cons_zero, List.set_cons_succ]; done) | (simp only [putAll, Act.put, List.setIfInBounds_toArray, List.set_cons_zero, List.set_cons_succ]; rfl)) (hJ2_8 (v121) _ ⟨hHeld, (rk HO122.out), (bk BK114.out), bo⟩)
                ·skip
                 rintro v121 w30 ⟨hS_, h0_, h1_, h2_⟩
                 have n0_ : Aside0 (Kd.R (Kd.int .u8) 5 w30 w.heap.size (fun _ => True) v121 y120) := ⟨h0_⟩
                 have n1_ : Aside0 (w30.heap[gb114]? = some (.cells #[.int .i64 a0_0, .int .i64 a0_1, .string a0_2, .string a0_3, .int .i64 a0_4, .bool a0_5] 25 (0, 0))) := ⟨h1_⟩
                 have n2_ : Aside0 (Below w.heap.size w w30) := ⟨h2_⟩
                 clear BK114
                 clear HB
                 clear h0_ h1_ h2_
                 have HO122 := n0_
                 have BK114 := n1_
                 have HB := n2_
                 clear n0_ n1_ n2_
                 have hHeld : w30.cell? ⟨gb114, 0, none⟩ = some (.int .i64 a0_0) ∧ w30.cell? ⟨gb114, 1, none⟩ = some (.int .i64 a0_1) ∧ w30.cell? ⟨gb114, 2, none⟩ = some (.string a0_2) ∧ w30.cell? ⟨gb114, 3, none⟩ = some (.string a0_3) ∧ w30.cell? ⟨gb114, 4, none⟩ = some (.int .i64 a0_4) ∧ w30.cell? ⟨gb114, 5, none⟩ = some (.bool a0_5) := hS_
                 refine norm_ (a' := ?_) ?_ ?_
                 rotate_left
                 ·simp only [putAll, Act.put, List.setIfInBounds_toArray, List.set_cons_zero, List.set_cons_succ]
                  rfl
                 refine one_ (i := 2) (N := some 34) #[I,I,I,I,I,O,O,I,I,I,O,I,O,I,I,O,I,I,O,O] rfl rfl (one_of HT_.out (by kernel_rfl)) (by decide) (fun K hK => ?_)
                 refine goes_ Try.func61 (by kernel_rfl) rfl #[.int .i64 a0_0] (by rfl) rfl rfl aa ?_
                 with_reducible refine (rec_eight.calls kj3 a0_0 t118 _ A11.out).mono ?_
                 rintro e w31 ⟨rfl, hb⟩
                 refine ⟨_, rfl, ?_⟩
                 replace HO122 := Aside0.mk (Kd.R_below (rk HO122.out) hb)
                 replace BK114 := Aside0.mk (bb BK114.out hb)
                 replace HB := Aside0.mk (below_step bo hb)
                 (try clear hb)
                 (try clear hb2)
                 (try clear hk)
                 (try clear hi)
                 refine hK.out _ _ ⟨(blk_cell BK114.out 0).trans rfl, (blk_cell BK114.out 1).trans rfl, (blk_cell BK114.out 2).trans rfl, (blk_cell BK114.out 3).trans rfl, (blk_cell BK114.out 4).trans rfl, (blk_cell BK114.out 5).trans rfl⟩ (fun hHeld => ?_)
                 clear hK K
                 refine nz (N := (some 34)) ?_
                 exact norm_ (by first | (simp only [putAll, Act.put, List.setIfInBounds_toArray, List.set_cons_zero, List.set_cons_succ]; done) | (simp only [putAll, Act.put, List.setIfInBounds_toArray, List.set_cons_zero, List.set_cons_succ]; rfl)) (hJ2_8_9 (v121) _ ⟨hHeld, (rk HO122.out), (bk BK114.out), bo⟩)
               ·skip
                rintro v121 w30 ⟨hS_, h0_, h1_, h2_⟩
                have n0_ : Aside0 (Kd.R (Kd.int .u8) 5 w30 w.heap.size (fun _ => True) v121 y120) := ⟨h0_⟩
                have n1_ : Aside0 (w30.heap[gb114]? = some (.cells #[.int .i64 a0_0, .int .i64 a0_1, .string a0_2, .string a0_3, .int .i64 a0_4, .bool a0_5] 25 (0, 0))) := ⟨h1_⟩
                have n2_ : Aside0 (Below w.heap.size w w30) := ⟨h2_⟩
                clear BK114
                clear HB
                clear h0_ h1_ h2_
                have HO122 := n0_
                have BK114 := n1_
                have HB := n2_
                clear n0_ n1_ n2_
                have hHeld : w30.cell? ⟨gb114, 0, none⟩ = some (.int .i64 a0_0) ∧ w30.cell? ⟨gb114, 1, none⟩ = some (.int .i64 a0_1) ∧ w30.cell? ⟨gb114, 2, none⟩ = some (.string a0_2) ∧ w30.cell? ⟨gb114, 3, none⟩ = some (.string a0_3) ∧ w30.cell? ⟨gb114, 4, none⟩ = some (.int .i64 a0_4) ∧ w30.cell? ⟨gb114, 5, none⟩ = some (.bool a0_5) := hS_
                refine norm_ (a' := ?_) ?_ ?_
                rotate_left
                ·simp only [putAll, Act.put, List.setIfInBounds_toArray, List.set_cons_zero, List.set_cons_succ]
                 rfl
                refine two_ (i := 5) (j := 9) (Ni := some 37) (Nj := some 41) #[I,I,I,I,I,I,O,I,I,O,O,I,O,I,I,O,I,I,O,O] #[I,I,I,I,I,O,O,I,I,I,O,I,O,I,I,O,I,I,O,O] rfl rfl rfl rfl (two_of HT_.out (by kernel_rfl)) (by decide) (by decide) (fun K hK => ?_) (fun K hK => ?_)
                ·skip
                 refine goes_ Try.func61 (by kernel_rfl) rfl #[.int .i64 a0_1] (by rfl) rfl rfl aa ?_
                 with_reducible refine (rec_eight.calls kj3 a0_1 t119 _ A12.out).mono ?_
                 rintro e w31 ⟨rfl, hb⟩
                 refine ⟨_, rfl, ?_⟩
                 replace HO122 := Aside0.mk (Kd.R_below (rk HO122.out) hb)
                 replace BK114 := Aside0.mk (bb BK114.out hb)
                 replace HB := Aside0.mk (below_step bo hb)
                 (try clear hb)
                 (try clear hb2)
                 (try clear hk)
                 (try clear hi)
                 refine hK.out _ _ ⟨(blk_cell BK114.out 0).trans rfl, (blk_cell BK114.out 1).trans rfl, (blk_cell BK114.out 2).trans rfl, (blk_cell BK114.out 3).trans rfl, (blk_cell BK114.out 4).trans rfl, (blk_cell BK114.out 5).trans rfl⟩ (fun hHeld => ?_)
                 clear hK K
                 refine nz (N := (some 37)) ?_
                 refine pz (i := 6) (N := some 38) #[I,I,I,I,I,I,I,I,I,O,O,I,O,I,I,O,I,I,O,O] ?_
                 exact norm_ (by first | (simp only [putAll, Act.put, List.setIfInBounds_toArray, List.set_cons_zero, List.set_cons_succ]; done) | (simp only [putAll, Act.put, List.setIfInBounds_toArray, List.set_cons_zero, List.set_cons_succ]; rfl)) (hJ2_5_8 (v121) _ ⟨hHeld, (rk HO122.out), (bk BK114.out), bo⟩)
                ·skip
                 have hcv31 := own_string (P := Try.prog) Try.underlying23 Try.underlying5 Try.underlying9 (Kd.own_of_R HO122.out)
                 refine value_ (w1 := ?_) (v := ?_) (by rfl) rfl ?_ ?_
                 rotate_left 2
                 ·go_simp
                  constructor
                  ·rfl
                  ·rfl
                 clear hcv31
                 refine hK.out _ _ ⟨(blk_cell BK114.out 0).trans rfl, (blk_cell BK114.out 1).trans rfl, (blk_cell BK114.out 2).trans rfl, (blk_cell BK114.out 3).trans rfl, (blk_cell BK114.out 4).trans rfl, (blk_cell BK114.out 5).trans rfl⟩ (fun hHeld => ?_)
                 clear hK K
                 refine nz (N := (some 41)) ?_
                 exact norm_ (by first | (simp only [putAll, Act.put, List.setIfInBounds_toArray, List.set_cons_zero, List.set_cons_succ]; done) | (simp only [putAll, Act.put, List.setIfInBounds_toArray, List.set_cons_zero, List.set_cons_succ]; rfl)) (hJ2_8_9 (v121) _ ⟨hHeld, (rk HO122.out), (bk BK114.out), bo⟩)
              ·skip
               rintro _ w29 ⟨hS_, h0_, h1_⟩
               have n0_ : Aside0 (w29.heap[gb114]? = some (.cells #[.int .i64 a0_0, .int .i64 a0_1, .string a0_2, .string a0_3, .int .i64 a0_4, .bool a0_5] 25 (0, 0))) := ⟨h0_⟩
               have n1_ : Aside0 (Below w.heap.size w w29) := ⟨h1_⟩
               clear BK114
               clear HB
               clear h0_ h1_
               have BK114 := n0_
               have HB := n1_
               clear n0_ n1_
               have hHeld : w29.cell? ⟨gb114, 0, none⟩ = some (.int .i64 a0_0) ∧ w29.cell? ⟨gb114, 1, none⟩ = some (.int .i64 a0_1) ∧ w29.cell? ⟨gb114, 2, none⟩ = some (.string a0_2) ∧ w29.cell? ⟨gb114, 3, none⟩ = some (.string a0_3) ∧ w29.cell? ⟨gb114, 4, none⟩ = some (.int .i64 a0_4) ∧ w29.cell? ⟨gb114, 5, none⟩ = some (.bool a0_5) := hS_
               refine norm_ (a' := ?_) ?_ ?_
               rotate_left
               ·simp only [putAll, Act.put, List.setIfInBounds_toArray, List.set_cons_zero, List.set_cons_succ]
                rfl
               refine one_ (i := 8) (N := some 40) #[I,I,I,I,I,I,I,I,I,O,O,I,O,I,I,O,I,I,O,O] rfl rfl (one_of HT_.out (by kernel_rfl)) (by decide) (fun K hK => ?_)
               refine Kd.R_lit_step (Kd.int .u8) _ 5 ?hg (N := 40) ?hd (xs := ([x5_3] : List Int)) (inner := [.int .u8 x5_3]) (ok := fun _ => True) (okp := fun _ => True) ?hr ?hp (fun _ hk => hk) trivial (Below.refl _ _) (Nat.le_refl _) (by simp) ?_; (case hd => rfl); (case hg => rfl); (case hr => first | (go_simp; done) | (go_simp; rfl)); (case hp => exact (Reps.one (show Kd.M (Kd.int .u8) _ _ _ x5_3 [.int .u8 x5_3] from rfl) (Reps.none _ _)))
               intro v121 w30 ho31 hb hg_ hnew_
               clear hg_ hnew_
               (first | rw [← Ny120.out] at ho31 | (simp only [Int.reduceToNat] at ho31; rw [← Ny120.out] at ho31))
               have HO122 := Aside0.mk (Kd.R_lower ho31 (below_size bo))
               replace BK114 := Aside0.mk (bb BK114.out hb)
               replace HB := Aside0.mk (below_step bo hb)
               clear hb ho31
               refine hK.out _ _ ⟨(blk_cell BK114.out 0).trans rfl, (blk_cell BK114.out 1).trans rfl, (blk_cell BK114.out 2).trans rfl, (blk_cell BK114.out 3).trans rfl, (blk_cell BK114.out 4).trans rfl, (blk_cell BK114.out 5).trans rfl⟩ (fun hHeld => ?_)
               clear hK K
               refine nz (N := (some 40)) ?_
               exact norm_ (by first | (simp only [putAll, Act.put, List.setIfInBounds_toArray, List.set_cons_zero, List.set_cons_succ]; done) | (simp only [putAll, Act.put, List.setIfInBounds_toArray, List.set_cons_zero, List.set_cons_succ]; rfl)) (hJ2_5_8 (v121) _ ⟨hHeld, (rk HO122.out), (bk BK114.out), bo⟩)
             ·skip
              rintro v121 w31 ⟨hS_, h0_, h1_, h2_⟩
              have n0_ : Aside0 (Kd.R (Kd.int .u8) 5 w31 w.heap.size (fun _ => True) v121 y120) := ⟨h0_⟩
              have n1_ : Aside0 (w31.heap[gb114]? = some (.cells #[.int .i64 a0_0, .int .i64 a0_1, .string a0_2, .string a0_3, .int .i64 a0_4, .bool a0_5] 25 (0, 0))) := ⟨h1_⟩
              have n2_ : Aside0 (Below w.heap.size w w31) := ⟨h2_⟩
              clear BK114
              clear HB
              clear h0_ h1_ h2_
              have HO122 := n0_
              have BK114 := n1_
              have HB := n2_
              clear n0_ n1_ n2_
              have hHeld : w31.cell? ⟨gb114, 0, none⟩ = some (.int .i64 a0_0) ∧ w31.cell? ⟨gb114, 1, none⟩ = some (.int .i64 a0_1) ∧ w31.cell? ⟨gb114, 2, none⟩ = some (.string a0_2) ∧ w31.cell? ⟨gb114, 3, none⟩ = some (.string a0_3) ∧ w31.cell? ⟨gb114, 4, none⟩ = some (.int .i64 a0_4) ∧ w31.cell? ⟨gb114, 5, none⟩ = some (.bool a0_5) := hS_
              refine norm_ (a' := ?_) ?_ ?_
              rotate_left
              ·simp only [putAll, Act.put, List.setIfInBounds_toArray, List.set_cons_zero, List.set_cons_succ]
               rfl
              refine one_ (i := 5) (N := some 37) #[I,I,I,I,I,I,O,I,I,I,O,I,O,I,I,O,I,I,O,O] rfl rfl (one_of HT_.out (by kernel_rfl)) (by decide) (fun K hK => ?_)
              refine goes_ Try.func61 (by kernel_rfl) rfl #[.int .i64 a0_1] (by rfl) rfl rfl aa ?_
              with_reducible refine (rec_eight.calls kj3 a0_1 t119 _ A12.out).mono ?_
              rintro e w32 ⟨rfl, hb⟩
              refine ⟨_, rfl, ?_⟩
              replace HO122 := Aside0.mk (Kd.R_below (rk HO122.out) hb)
              replace BK114 := Aside0.mk (bb BK114.out hb)
              replace HB := Aside0.mk (below_step bo hb)
              (try clear hb)
              (try clear hb2)
              (try clear hk)
              (try clear hi)
              refine hK.out _ _ ⟨(blk_cell BK114.out 0).trans rfl, (blk_cell BK114.out 1).trans rfl, (blk_cell BK114.out 2).trans rfl, (blk_cell BK114.out 3).trans rfl, (blk_cell BK114.out 4).trans rfl, (blk_cell BK114.out 5).trans rfl⟩ (fun hHeld => ?_)
              clear hK K
              refine nz (N := (some 37)) ?_
              refine pz (i := 6) (N := some 38) #[I,I,I,I,I,I,I,I,I,I,O,I,O,I,I,O,I,I,O,O] ?_
              exact norm_ (by first | (simp only [putAll, Act.put, List.setIfInBounds_toArray, List.set_cons_zero, List.set_cons_succ]; done) | (simp only [putAll, Act.put, List.setIfInBounds_toArray, List.set_cons_zero, List.set_cons_succ]; rfl)) (hJ2_5_8_9 (v121) _ ⟨hHeld, (rk HO122.out), (bk BK114.out), bo⟩)
            ·skip
             rintro v121 w31 ⟨hS_, h0_, h1_, h2_⟩
             have n0_ : Aside0 (Kd.R (Kd.int .u8) 5 w31 w.heap.size (fun _ => True) v121 y120) := ⟨h0_⟩
             have n1_ : Aside0 (w31.heap[gb114]? = some (.cells #[.int .i64 a0_0, .int .i64 a0_1, .string a0_2, .string a0_3, .int .i64 a0_4, .bool a0_5] 25 (0, 0))) := ⟨h1_⟩
             have n2_ : Aside0 (Below w.heap.size w w31) := ⟨h2_⟩
             clear BK114
             clear HB
             clear h0_ h1_ h2_
             have HO122 := n0_
             have BK114 := n1_
             have HB := n2_
             clear n0_ n1_ n2_
             have hHeld : w31.cell? ⟨gb114, 0, none⟩ = some (.int .i64 a0_0) ∧ w31.cell? ⟨gb114, 1, none⟩ = some (.int .i64 a0_1) ∧ w31.cell? ⟨gb114, 2, none⟩ = some (.string a0_2) ∧ w31.cell? ⟨gb114, 3, none⟩ = some (.string a0_3) ∧ w31.cell? ⟨gb114, 4, none⟩ = some (.int .i64 a0_4) ∧ w31.cell? ⟨gb114, 5, none⟩ = some (.bool a0_5) := hS_
             refine norm_ (a' := ?_) ?_ ?_
             rotate_left
             ·simp only [putAll, Act.put, List.setIfInBounds_toArray, List.set_cons_zero, List.set_cons_succ]
              rfl
             refine one_ (i := 9) (N := some 41) #[I,I,I,I,I,I,I,I,I,I,O,I,O,I,I,O,I,I,O,O] rfl rfl (one_of HT_.out (by kernel_rfl)) (by decide) (fun K hK => ?_)
             have hcv32 := own_string (P := Try.prog) Try.underlying23 Try.underlying5 Try.underlying9 (Kd.own_of_R HO122.out)
             refine value_ (w1 := ?_) (v := ?_) (by rfl) rfl ?_ ?_
             rotate_left 2
             ·go_simp
              constructor
              ·rfl
              ·rfl
             clear hcv32
             refine hK.out _ _ ⟨(blk_cell BK114.out 0).trans rfl, (blk_cell BK114.out 1).trans rfl, (blk_cell BK114.out 2).trans rfl, (blk_cell BK114.out 3).trans rfl, (blk_cell BK114.out 4).trans rfl, (blk_cell BK114.out 5).trans rfl⟩ (fun hHeld => ?_)
             clear hK K
             refine nz (N := (some 41)) ?_
             exact norm_ (by first | (simp only [putAll, Act.put, List.setIfInBounds_toArray, List.set_cons_zero, List.set_cons_succ]; done) | (simp only [putAll, Act.put, List.setIfInBounds_toArray, List.set_cons_zero, List.set_cons_succ]; rfl)) (hJ2_5_8_9 (v121) _ ⟨hHeld, (rk HO122.out), (bk BK114.out), bo⟩)
           rintro v121 w32 ⟨hS_, h0_, h1_, h2_⟩
           have n0_ : Aside0 (Kd.R (Kd.int .u8) 5 w32 w.heap.size (fun _ => True) v121 y120) := ⟨h0_⟩
           have n1_ : Aside0 (w32.heap[gb114]? = some (.cells #[.int .i64 a0_0, .int .i64 a0_1, .string a0_2, .string a0_3, .int .i64 a0_4, .bool a0_5] 25 (0, 0))) := ⟨h1_⟩
           have n2_ : Aside0 (Below w.heap.size w w32) := ⟨h2_⟩
           clear BK114
           clear HB
           clear h0_ h1_ h2_
           have HO122 := n0_
           have BK114 := n1_
           have HB := n2_
           clear n0_ n1_ n2_
           have hHeld : w32.cell? ⟨gb114, 0, none⟩ = some (.int .i64 a0_0) ∧ w32.cell? ⟨gb114, 1, none⟩ = some (.int .i64 a0_1) ∧ w32.cell? ⟨gb114, 2, none⟩ = some (.string a0_2) ∧ w32.cell? ⟨gb114, 3, none⟩ = some (.string a0_3) ∧ w32.cell? ⟨gb114, 4, none⟩ = some (.int .i64 a0_4) ∧ w32.cell? ⟨gb114, 5, none⟩ = some (.bool a0_5) := hS_
           refine norm_ (a' := ?_) ?_ ?_
           rotate_left
           ·simp only [putAll, Act.put, List.setIfInBounds_toArray, List.set_cons_zero, List.set_cons_succ]
            rfl
           refine pz (i := 10) (N := some 42) #[I,I,I,I,I,I,I,I,I,I,I,I,O,I,I,O,I,I,O,O] ?_
           refine pz (i := 12) (N := some 44) #[I,I,I,I,I,I,I,I,I,I,I,I,I,I,I,O,I,I,O,O] ?_
           refine pz (i := 15) (N := some 47) #[I,I,I,I,I,I,I,I,I,I,I,I,I,I,I,I,I,I,O,O] ?_
           refine pz (i := 18) (N := some 50) #[I,I,I,I,I,I,I,I,I,I,I,I,I,I,I,I,I,I,I,O] ?_
           refine pz (i := 19) (N := some 8) #[I,I,I,I,I,I,I,I,I,I,I,I,I,I,I,I,I,I,I,I] ?_
           refine done_ (done_of HT_.out (by kernel_rfl)) ?_
           try go_wp2_with (first | ((with_reducible refine gate_callee (f := 60) rfl ?_); refine goesL_ (some 54) rfl rfl Try.func60 (by kernel_rfl) rfl #[.int .i64 ((((((t118 ++ t119) ++ (strOfNums y120)) ++ t116) ++ a0_2) ++ a0_3).size : Int)] rfl aa ?_; (with_reducible refine (vbi_Two.calls kj3 ((((((t118 ++ t119) ++ (strOfNums y120)) ++ t116) ++ a0_2) ++ a0_3).size : Int) t123 t124 _ A18.out).mono ?_); rintro e w33 ⟨rfl, hb⟩; refine ⟨_, rfl, ?_⟩; replace HO122 := Aside0.mk (Kd.R_below (rk HO122.out) hb); replace BK114 := Aside0.mk (bb BK114.out hb); replace HB := Aside0.mk (below_step bo hb); (try clear hb); (try clear hb2); (try clear hk); (try clear hi)) | ((with_reducible refine gate_callee (f := 63) rfl ?_); refine goesL_ (some 59) rfl rfl Try.func63 (by kernel_rfl) rfl #[.int .u32 0, .string t123] rfl aa ?_; (with_reducible refine (sum_Sum.calls kj3 0 t123 t125 _ A19.out).mono ?_); rintro e w' ⟨rfl, ⟨nd, rfl⟩⟩; refine ⟨_, rfl, ?_⟩) | ((with_reducible refine gate_callee (f := 63) rfl ?_); refine goesL_ (some 61) rfl rfl Try.func63 (by kernel_rfl) rfl #[.int .u32 t125, .string (((((t118 ++ t119) ++ (strOfNums y120)) ++ t116) ++ a0_2) ++ a0_3)] rfl aa ?_; (with_reducible refine (sum_Sum.calls kj3 t125 (((((t118 ++ t119) ++ (strOfNums y120)) ++ t116) ++ a0_2) ++ a0_3) t126 _ A20.out).mono ?_); rintro e w' ⟨rfl, ⟨nd, rfl⟩⟩; refine ⟨_, rfl, ?_⟩) | ((with_reducible refine gate_callee (f := 62) rfl ?_); refine goesL_ (some 63) rfl rfl Try.func62 (by kernel_rfl) rfl #[.int .i64 (wrap64 (t126))] rfl aa ?_; (with_reducible refine (vbi_Four.calls kj3 (wrap64 (t126)) t127 t128 _ A21.out).mono ?_); rintro e w34 ⟨rfl, hb⟩; refine ⟨_, rfl, ?_⟩; replace HO122 := Aside0.mk (Kd.R_below (rk HO122.out) hb); replace BK114 := Aside0.mk (bb BK114.out hb); replace HB := Aside0.mk (below_step bo hb); (try clear hb); (try clear hb2); (try clear hk); (try clear hi)))
           go_ret2
           exact ⟨er, bo⟩
          ·rw [if_neg c23] at H
           exact absurd H (by simp)
         ·rw [if_neg c22] at H
          exact absurd H (by simp)
        ·rw [if_neg c17] at H
         exact absurd H (by simp)
       ·rw [if_neg c16] at H
        exact absurd H (by simp)
      ·rw [if_neg c15] at H
       exact absurd H (by simp)
     ·rw [if_neg c14] at H
      exact absurd H (by simp)
    ·rw [if_neg c13] at H
     exact absurd H (by simp)
 ·rw [if_neg c3] at H
  have c3b0 : (t115 == 0) = false := beq_eq_false_iff_ne.mpr c3
  have c3b1 : (t115 != 0) = true := bne_iff_ne.mpr c3
  simp only [Option.some.injEq, Prod.mk.injEq] at H
  obtain ⟨rfl, rfl⟩ := H
  go_enter Try.func14, Try.ntmps14
  go_wp2_with (first | ((with_reducible refine gate_dst (N := 1) rfl ?_); refine box_event ?hg (N := 1) ?hd (cs := #[.int .i64 a0_0, .int .i64 a0_1, .string a0_2, .string a0_3, .int .i64 a0_4, .bool a0_5]) (t := 25) ?hr ?_; (case hd => rfl); (case hg => rfl); (case hr => first | (go_simp; done) | (go_simp; rfl)); intro gb114 hg w35 hbox hb; have BK114 := Aside0.mk (hbox); have GW114 := Aside0.mk ((by rw [hg]; exact (below_size bo) : w.heap.size ≤ gb114)); have GE114 := Aside0.mk ((by rw [hg]; exact (below_size bo) : w.heap.size ≤ gb114)); replace HB := Aside0.mk (below_step bo hb); clear hb hbox hg; obtain ⟨hcz36_0, hcz36_1, hcz36_2, hcz36_3, hcz36_4, hcz36_5⟩ := cl6 BK114.out; obtain ⟨hfz36_0, hfz36_1, hfz36_2, hfz36_3, hfz36_4, hfz36_5⟩ := fz6 BK114.out) | ((with_reducible refine gate_callee (f := 22) rfl ?_); refine goesL_ (some 14) rfl rfl Try.func22 (by kernel_rfl) rfl #[.agg #[.int .i64 a0_0, .int .i64 a0_1, .string a0_2, .string a0_3, .int .i64 a0_4, .bool a0_5]] rfl aa ?_; (with_reducible refine (rec_Check.calls k a0_0 a0_1 a0_2 a0_3 a0_4 a0_5 t115 _ A2.out).mono ?_); rintro e w37 ⟨rfl, hb⟩; refine ⟨_, rfl, ?_⟩; replace BK114 := Aside0.mk (bb BK114.out hb); replace HB := Aside0.mk (below_step bo hb); (try clear hb); (try clear hb2); (try clear hk); (try clear hi)))
  go_ret2
  exact ⟨er, bo⟩

end Go.Proofs.Ytmabdfdmccbfnaa.P

/- The check sum of bytes as a run over 32 bits: what sum.Sum and the page's Sum compute, and what the run is worth. -/
namespace Go.Proofs.Ytmabdfdmccbfnaa.USum
open Go Go.RowKit Go.Proofs.YtmabdfdmccbfnaaW.PrintWords Go.Proofs.YtmabdfdmccbfnaaW.PrintLast
set_option linter.unusedVariables false
theorem ofI (a : BitVec 32) : BitVec.ofInt (IntKind.bits .u32) (a.toNat : Int) = a := by
  show BitVec.ofInt 32 _ = a
  rw [BitVec.ofInt_natCast, BitVec.ofNat_toNat, BitVec.setWidth_eq]
theorem wrapI (a : BitVec 32) : IntKind.wrap .u32 (a.toNat : Int) = a.toNat := by
  have := a.isLt
  simp [IntKind.wrap, IntKind.bits, IntKind.signed]
  omega
theorem bits_xor (a b : BitVec 32) : Go.bits .xor .u32 (a.toNat : Int) (b.toNat : Int) = ((a ^^^ b).toNat : Int) := by
  unfold Go.bits
  simp only [ofI]
  exact wrapI _
theorem bits_and (a b : BitVec 32) : Go.bits .and .u32 (a.toNat : Int) (b.toNat : Int) = ((a &&& b).toNat : Int) := by
  unfold Go.bits
  simp only [ofI]
  exact wrapI _
theorem half (a : BitVec 32) : (a.toNat : Int) / (2 : Int) = ((a >>> 1).toNat : Int) := by
  rw [BitVec.toNat_ushiftRight, Nat.shiftRight_eq_div_pow]; rfl
theorem low (a : BitVec 32) : a &&& 1#32 = 0#32 ∨ a &&& 1#32 = 1#32 := by
  have : (a &&& 1#32).toNat = a.toNat % 2 := by simp [BitVec.toNat_and, Nat.and_one_is_mod]
  rcases Nat.mod_two_eq_zero_or_one a.toNat with h | h
  · left; apply BitVec.eq_of_toNat_eq; rw [this, h]; rfl
  · right; apply BitVec.eq_of_toNat_eq; rw [this, h]; rfl
def cstep (s : BitVec 32) : BitVec 32 := if s &&& 1#32 = 1#32 then (s >>> 1) ^^^ 2197175160#32 else s >>> 1
theorem pstep (s : BitVec 32) : Go.bits .xor .u32 ((s.toNat : Int) / 2) (Go.bits .and .u32 2197175160 ((-(Go.bits .and .u32 (s.toNat : Int) 1)) % 4294967296)) = ((cstep s).toNat : Int) := by
  have e1 : (1 : Int) = ((1#32 : BitVec 32).toNat : Int) := rfl
  have e2 : (2197175160 : Int) = ((2197175160#32 : BitVec 32).toNat : Int) := rfl
  have hb : Go.bits .and .u32 (s.toNat : Int) 1 = ((s &&& 1#32).toNat : Int) := bits_and s 1#32
  rw [hb, half]
  unfold cstep
  rcases low s with h | h
  · rw [h, if_neg (by decide)]
    have : Go.bits .and .u32 2197175160 ((-(((0#32 : BitVec 32).toNat : Nat) : Int)) % 4294967296) = ((0#32 : BitVec 32).toNat : Int) := bits_and 2197175160#32 0#32
    rw [this, bits_xor]
    simp
  · rw [h, if_pos rfl]
    have : Go.bits .and .u32 2197175160 ((-(((1#32 : BitVec 32).toNat : Nat) : Int)) % 4294967296) = ((2197175160#32 : BitVec 32).toNat : Int) := bits_and 2197175160#32 4294967295#32
    rw [this, bits_xor]
theorem rstep1 (s : BitVec 32) (h : Go.bits .and .u32 (s.toNat : Int) 1 = 1) : Go.bits .xor .u32 ((s.toNat : Int) / 2) 2197175160 = ((cstep s).toNat : Int) := by
  have hb : Go.bits .and .u32 (s.toNat : Int) 1 = ((s &&& 1#32).toNat : Int) := bits_and s 1#32
  rw [hb] at h
  rw [half, show (2197175160 : Int) = ((2197175160#32 : BitVec 32).toNat : Int) from rfl, bits_xor]
  unfold cstep
  rcases low s with h' | h'
  · rw [h'] at h; exact absurd h (by decide)
  · rw [if_pos h']
theorem rstep0 (s : BitVec 32) (h : ¬ Go.bits .and .u32 (s.toNat : Int) 1 = 1) : (s.toNat : Int) / 2 = ((cstep s).toNat : Int) := by
  have hb : Go.bits .and .u32 (s.toNat : Int) 1 = ((s &&& 1#32).toNat : Int) := bits_and s 1#32
  rw [hb] at h
  rw [half]
  unfold cstep
  rcases low s with h' | h'
  · rw [if_neg (by rw [h']; decide)]
  · rw [h'] at h; exact absurd rfl h

theorem wrap_one {x : Int} (h0 : 0 ≤ x) (h1 : x < 9223372036854775807) : wrap64 (x + 1) = x + 1 := by
  unfold wrap64; omega
def bstep (s : BitVec 32) (b : UInt8) : BitVec 32 := cstep (cstep (cstep (cstep (cstep (cstep (cstep (cstep (s ^^^ BitVec.ofNat 32 b.toNat))))))))
def run (s : BitVec 32) (l : List UInt8) : BitVec 32 := l.foldl bstep s
theorem bt_get (s : ByteArray) (i : Nat) (h : i < s.size) : bt s i = ((s.data.toList[i]'(by simpa using h)).toNat : Int) := by
  have := bt_at s i (by simpa using h)
  rw [← this]; simp; rfl
theorem bt_u32 (b : UInt8) : (b.toNat : Int) % 4294967296 = ((BitVec.ofNat 32 b.toNat).toNat : Int) := by
  have := b.toNat_lt
  rw [BitVec.toNat_ofNat]; omega
theorem not_eq (s : BitVec 32) : Go.bits .xor .u32 4294967295 (s.toNat : Int) = ((~~~s).toNat : Int) := by
  rw [show (4294967295 : Int) = ((4294967295#32 : BitVec 32).toNat : Int) from rfl, bits_xor]
  have : (4294967295#32 : BitVec 32) = BitVec.allOnes 32 := by decide
  rw [this, BitVec.allOnes_xor]
section
open Go.Proofs.Ytmabdfdmccbfnaa.P
/-- The eight rounds over a byte. -/
theorem l1_ev (x1 : ByteArray) (n i : Int) (r : Int) (s : BitVec 32)
    (h : Ev (fun k => sum_Sum.l0 k ((cstep (cstep (cstep (cstep (cstep (cstep (cstep (cstep s)))))))).toNat) x1 n (wrap64 (i + 1))) r) :
    Ev (fun k => sum_Sum.l1 k (s.toNat) x1 n i 0) r := by
  have one : ∀ (j : Int) (s : BitVec 32), 0 ≤ j → j < 8 → Ev (fun k => sum_Sum.l1 k ((cstep s).toNat) x1 n i (j + 1)) r → Ev (fun k => sum_Sum.l1 k (s.toNat) x1 n i j) r := by
    intro j s h0 h1 hh
    refine Ev.step (f := fun k => sum_Sum.l1 k ((cstep s).toNat) x1 n i (j + 1)) (fun k => ?_) hh
    simp only [sum_Sum.l1]
    rw [if_pos (by omega), pstep, wrap_one h0 (by omega)]
  refine one 0 _ (by omega) (by omega) (one 1 _ (by omega) (by omega) (one 2 _ (by omega) (by omega) (one 3 _ (by omega) (by omega) (one 4 _ (by omega) (by omega) (one 5 _ (by omega) (by omega) (one 6 _ (by omega) (by omega) (one 7 _ (by omega) (by omega) ?_)))))))
  refine Ev.step (fun k => ?_) h
  simp only [sum_Sum.l1]
  rw [if_neg (by omega)]
theorem l0_ev (x1 : ByteArray) (hx : x1.size ≤ 140737488351232) : ∀ (d i : Nat) (s : BitVec 32), x1.size = i + d →
    Ev (fun k => sum_Sum.l0 k (s.toNat) x1 (x1.size : Int) i) ((~~~ (run s (x1.data.toList.drop i))).toNat : Int)
  | 0, i, s, h => by
    refine Ev.step (f := fun _ => some _) (fun k => ?_) (Ev.now _)
    simp only [sum_Sum.l0]
    rw [if_neg (by omega), not_eq, List.drop_eq_nil_of_le (by simp; omega)]
    rfl
  | d + 1, i, s, h => by
    have hi : i < x1.size := by omega
    have ih := l0_ev x1 hx d (i + 1) (bstep s (x1.data.toList[i]'(by simpa using hi))) (by omega)
    refine Ev.step (f := fun k => sum_Sum.l1 k ((s ^^^ BitVec.ofNat 32 (x1.data.toList[i]'(by simpa using hi)).toNat).toNat) x1 (x1.size : Int) i 0) (fun k => ?_) (l1_ev x1 _ _ _ _ ?_)
    · simp only [sum_Sum.l0]
      rw [if_pos (by omega), if_pos (by omega), if_pos (by omega), bt_get x1 i hi, bt_u32, bits_xor]
    · rw [wrap_one (by omega) (by omega), List.drop_eq_getElem_cons (by simpa using hi)]
      exact ih
theorem sum_ev (s : BitVec 32) (x1 : ByteArray) (hx : x1.size ≤ 140737488351232) : Ev (fun k => sum_Sum.f k (s.toNat) x1) ((~~~ (run (~~~ s) x1.data.toList)).toNat : Int) := by
  unfold sum_Sum.f
  rw [not_eq]
  exact l0_ev x1 hx x1.size 0 (~~~s) (by omega)
/-- The eight rounds over a byte. -/
theorem rl1_ev (x1 : ByteArray) (i : Int) (r : Int) (s : BitVec 32)
    (h : Ev (fun k => fairwayref1_Sum.l0 k ((cstep (cstep (cstep (cstep (cstep (cstep (cstep (cstep s)))))))).toNat) x1 (wrap64 (i + 1))) r) :
    Ev (fun k => fairwayref1_Sum.l1 k (s.toNat) x1 i 0) r := by
  have one : ∀ (j : Int) (s : BitVec 32), 0 ≤ j → j < 8 → Ev (fun k => fairwayref1_Sum.l1 k ((cstep s).toNat) x1 i (j + 1)) r → Ev (fun k => fairwayref1_Sum.l1 k (s.toNat) x1 i j) r := by
    intro j s h0 h1 hh
    refine Ev.step (f := fun k => fairwayref1_Sum.l1 k ((cstep s).toNat) x1 i (j + 1)) (fun k => ?_) hh
    simp only [fairwayref1_Sum.l1]
    by_cases hb : Go.bits .and .u32 (s.toNat : Int) 1 = 1
    · rw [if_pos (by omega), if_pos hb, rstep1 s hb, wrap_one h0 (by omega)]
    · rw [if_pos (by omega), if_neg hb, rstep0 s hb, wrap_one h0 (by omega)]
  refine one 0 _ (by omega) (by omega) (one 1 _ (by omega) (by omega) (one 2 _ (by omega) (by omega) (one 3 _ (by omega) (by omega) (one 4 _ (by omega) (by omega) (one 5 _ (by omega) (by omega) (one 6 _ (by omega) (by omega) (one 7 _ (by omega) (by omega) ?_)))))))
  refine Ev.step (fun k => ?_) h
  simp only [fairwayref1_Sum.l1]
  rw [if_neg (by omega)]
theorem rl0_ev (x1 : ByteArray) (hx : x1.size ≤ 140737488351232) : ∀ (d i : Nat) (s : BitVec 32), x1.size = i + d →
    Ev (fun k => fairwayref1_Sum.l0 k (s.toNat) x1 i) ((~~~ (run s (x1.data.toList.drop i))).toNat : Int)
  | 0, i, s, h => by
    refine Ev.step (f := fun _ => some _) (fun k => ?_) (Ev.now _)
    simp only [fairwayref1_Sum.l0]
    rw [if_neg (by omega), not_eq, List.drop_eq_nil_of_le (by simp; omega)]
    rfl
  | d + 1, i, s, h => by
    have hi : i < x1.size := by omega
    have ih := rl0_ev x1 hx d (i + 1) (bstep s (x1.data.toList[i]'(by simpa using hi))) (by omega)
    refine Ev.step (f := fun k => fairwayref1_Sum.l1 k ((s ^^^ BitVec.ofNat 32 (x1.data.toList[i]'(by simpa using hi)).toNat).toNat) x1 i 0) (fun k => ?_) (rl1_ev x1 _ _ _ ?_)
    · simp only [fairwayref1_Sum.l0]
      rw [if_pos (by omega), if_pos (by omega), bt_get x1 i hi, bt_u32, bits_xor]
    · rw [wrap_one (by omega) (by omega), List.drop_eq_getElem_cons (by simpa using hi)]
      exact ih
theorem sumref_ev (s : BitVec 32) (x1 : ByteArray) (hx : x1.size ≤ 140737488351232) : Ev (fun k => fairwayref1_Sum.f k (s.toNat) x1) ((~~~ (run (~~~ s) x1.data.toList)).toNat : Int) := by
  unfold fairwayref1_Sum.f
  rw [not_eq]
  exact rl0_ev x1 hx x1.size 0 (~~~s) (by omega)
/-- A number of the kind u32 is a word's. -/
theorem of_wf {n : Int} (h : (Lit.int .u32 n).wf = true) : ∃ s : BitVec 32, n = (s.toNat : Int) := by
  simp [Lit.wf, IntKind.min, IntKind.max, IntKind.signed, IntKind.bits] at h
  refine ⟨BitVec.ofNat 32 n.toNat, ?_⟩
  rw [BitVec.toNat_ofNat]
  omega
end
end Go.Proofs.Ytmabdfdmccbfnaa.USum

/- Records as bytes: what the program puts together is what the page says. -/
namespace Go.Proofs.Ytmabdfdmccbfnaa.UBytes
open Go Go.RowKit Go.Proofs.Ytmabdfdmccbfnaa.P Go.Proofs.Ytmabdfdmccbfnaa.URec Go.Proofs.Ytmabdfdmccbfnaa.USum Go.Proofs.YtmabdfdmccbfnaaW.PrintWords Go.Proofs.YtmabdfdmccbfnaaW.PrintLast Go.Proofs.YtmabdfdmccbfnaaW.PrintMore
set_option linter.unusedVariables false
set_option linter.unusedSimpArgs false

/-- A number's bytes, the highest first. -/
def digits (x : Int) : Nat → List Int
  | 0 => []
  | n + 1 => (x / 2 ^ (8 * n)) % 256 :: digits x n
theorem digits_length (x : Int) : ∀ n, (digits x n).length = n
  | 0 => rfl
  | n + 1 => by simp [digits, digits_length x n]
def fixed (x : Int) (n : Nat) : ByteArray := strOfNums (digits x n)
theorem fixed_size (x : Int) (n : Nat) : (fixed x n).size = n := by rw [fixed, strOfNums_size, digits_length]
theorem shr_in (x : Int) (n : Nat) (h : n ≤ 64) : shr .i64 x (n : Int) = x / 2 ^ n := by
  unfold shr
  have : min (n : Int).toNat (IntKind.bits .i64) = n := by
    have : IntKind.bits .i64 = 64 := rfl
    omega
  rw [this]
theorem wrap8 (n : Nat) (h : n ≤ 8) : wrap64 (8 * (n : Int)) = ((8 * n : Nat) : Int) := by rw [wrap_in (by omega) (by omega)]; omega

theorem fixed_loop (x : Int) : ∀ (n : Nat) (acc : List Int), n ≤ 8 → acc.length + n ≤ 100 → Ev (fun k => fairwayref1_Fixed.l0 k x acc ((n : Int) - 1)) (strOfNums (acc ++ digits x n))
  | 0, acc, _, _ => by
    refine Ev.step (f := fun _ => some _) (fun k => ?_) (Ev.now _)
    simp only [fairwayref1_Fixed.l0]
    rw [if_neg (by omega)]
    simp [digits]
  | n + 1, acc, hn, hl => by
    have ih := fixed_loop x n (acc ++ [(x / 2 ^ (8 * n)) % 256]) (by omega) (by simp; omega)
    refine Ev.step (f := fun k => fairwayref1_Fixed.l0 k x (acc ++ [(x / 2 ^ (8 * n)) % 256]) ((n : Int) - 1)) (fun k => ?_) ?_
    · simp only [fairwayref1_Fixed.l0]
      have e : ((n + 1 : Nat) : Int) - 1 = (n : Int) := by omega
      rw [e, if_pos (by omega), wrap8 n (by omega), if_pos (by omega), if_pos (by omega), shr_in x (8 * n) (by omega), wrap_in (by omega) (by omega)]
    · simpa [digits] using ih
theorem fixed_ev (x : Int) (n : Nat) (h : n ≤ 8) : Ev (fun k => fairwayref1_Fixed.f k x n) (fixed x n) := by
  unfold fairwayref1_Fixed.f
  rw [wrap_in (by omega) (by omega)]
  simpa [fixed] using fixed_loop x n [] h (by simp; omega)

theorem set_row (m : Nat) (D : List Int) (v : Int) : ((List.replicate (m + 1) (0 : Int)) ++ D).set m v = List.replicate m 0 ++ (v :: D) := by
  rw [List.replicate_succ', List.append_assoc, List.set_append_right _ _ (by simp)]
  simp
theorem high_loop (x : Int) (wd : Nat) (hw : wd ≤ 8) : ∀ (d i : Nat), wd = i + d → Ev (fun k => vbi_high.l0 k x wd (List.replicate d 0 ++ digits x i) wd i) (fixed x wd, 0)
  | 0, i, h => by
    obtain rfl : wd = i := by omega
    refine Ev.step (f := fun _ => some _) (fun k => ?_) (Ev.now _)
    simp only [vbi_high.l0]
    rw [if_neg (by omega)]
    simp [fixed]
  | d + 1, i, h => by
    have ih := high_loop x wd hw d (i + 1) (by omega)
    refine Ev.step (f := fun k => vbi_high.l0 k x wd (List.replicate d 0 ++ digits x (i + 1)) wd ((i + 1 : Nat) : Int)) (fun k => ?_) ih
    simp only [vbi_high.l0]
    have e : wrap64 (wrap64 ((wd : Int) - 1) - (i : Int)) = ((d : Nat) : Int) := by rw [wrap_in (x := (wd : Int) - 1) (by omega) (by omega), wrap_in (by omega) (by omega)]; omega
    rw [if_pos (by omega), wrap8 i (by omega), if_pos (by omega), e, if_pos (by omega), if_pos (by simp [digits_length]; omega), shr_in x (8 * i) (by omega), wrap_in (by omega) (by omega), Int.toNat_natCast, set_row]
    rfl
theorem high_ev (x : Int) (wd : Nat) (hw : wd ≤ 8) (h0 : 0 ≤ x) (h1 : x / 2 ^ (8 * wd) = 0) : Ev (fun k => vbi_high.f k x wd) (fixed x wd, 0) := by
  have hl := high_loop x wd hw wd 0 (by omega)
  refine Ev.step (f := fun k => vbi_high.l0 k x wd (List.replicate wd 0) (wd : Int) 0) (fun k => ?_) (by simpa [digits] using hl)
  simp only [vbi_high.f, vbi_high.j0]
  rw [if_neg (by omega), wrap8 wd hw, if_pos (by omega), shr_in x (8 * wd) (by omega), h1, if_neg (by decide), if_pos (by omega), if_pos (by omega)]
  simp
theorem two_ev (x : Int) (h0 : 0 ≤ x) (h1 : x < 65536) : Ev (fun k => vbi_Two.f k x) (fixed x 2, 0) :=
  Ev.bind (g := fun k => vbi_high.f k x 2) (f := fun _ b => some (b.1, b.2)) (high_ev x 2 (by omega) h0 (by show x / 65536 = 0; omega)) (Ev.now _)
theorem four_ev (x : Int) (h0 : 0 ≤ x) (h1 : x < 4294967296) : Ev (fun k => vbi_Four.f k x) (fixed x 4, 0) :=
  Ev.bind (g := fun k => vbi_high.f k x 4) (f := fun _ b => some (b.1, b.2)) (high_ev x 4 (by omega) h0 (by show x / 4294967296 = 0; omega)) (Ev.now _)

theorem strOfNums_append (a b : List Int) : strOfNums (a ++ b) = strOfNums a ++ strOfNums b := by
  apply ByteArray.ext
  simp [strOfNums, ByteArray.data_append]
theorem low32 (x : Int) (h0 : 0 ≤ x) (h1 : x < 9223372036854775808) : Go.bits .and .i64 x 4294967295 = x % 4294967296 :=
  bits_mask .i64 63 (by decide) (fun n h0 h1 => by rw [IntKind.wrap_i64]; omega) 32 (by decide) x h0 h1
theorem digits8 (x : Int) (h0 : 0 ≤ x) : digits x 8 = digits (x / 4294967296) 4 ++ digits (x % 4294967296) 4 := by
  simp only [digits, List.cons_append, List.nil_append, List.cons.injEq, and_true]
  refine ⟨?_, ?_, ?_, ?_, ?_, ?_, ?_, ?_⟩ <;> omega
theorem eight_ev (x : Int) (h0 : 0 ≤ x) (h1 : x < 9223372036854775808) : Ev (fun k => rec_eight.f k x) (fixed x 8) := by
  refine Ev.bind (f := fun k b => (vbi_Four.f k (Go.bits .and .i64 x 4294967295)).bind fun c => (if b.1.size + c.1.size ≤ 9223372036854775807 then (some (b.1 ++ c.1)) else none)) (four_ev (x / 4294967296) (by omega) (by omega)) ?_
  rw [low32 x h0 h1]
  refine Ev.bind (f := fun k c => (if (fixed (x / 4294967296) 4).size + c.1.size ≤ 9223372036854775807 then (some ((fixed (x / 4294967296) 4) ++ c.1)) else none)) (four_ev (x % 4294967296) (by omega) (by omega)) ?_
  refine Ev.congr (f := fun _ => some _) (fun k => ?_) (Ev.now _)
  rw [if_pos (by simp [fixed_size])]
  rw [fixed, fixed, fixed, ← strOfNums_append, ← digits8 x h0]

/-- A record's first byte behind its numbers. -/
def flagOf (r : R) : Int := if r.f5 = true then r.f4 + 4 else r.f4
def bodyOf (r : R) : ByteArray := ((((fixed r.f0 8 ++ fixed r.f1 8) ++ strOfNums [flagOf r]) ++ fixed (r.f2.size : Int) 2) ++ r.f2) ++ r.f3
def headOf (r : R) : ByteArray := fixed ((bodyOf r).size : Int) 2
def sumOf (h b : ByteArray) : Int := ((~~~ (run (~~~ (0#32)) (h ++ b).data.toList)).toNat : Int)
/-- A record's bytes, by the page. -/
def recBytes (r : R) : ByteArray := (headOf r ++ fixed (sumOf (headOf r) (bodyOf r)) 4) ++ bodyOf r
theorem bodyOf_size (r : R) : (bodyOf r).size = 19 + r.f2.size + r.f3.size := by
  simp only [bodyOf, ByteArray.size_append, fixed_size, strOfNums_size, List.length_singleton]
theorem recBytes_size (r : R) : (recBytes r).size = recLen r := by
  simp only [recBytes, headOf, ByteArray.size_append, fixed_size, bodyOf_size, recLen]; omega
theorem sumOf_in (h b : ByteArray) : 0 ≤ sumOf h b ∧ sumOf h b < 4294967296 := by
  unfold sumOf
  have := (~~~ (run (~~~ (0#32)) (h ++ b).data.toList)).isLt
  omega

theorem ref_tail (r : R) (hr : recOk r) : Ev (fun k => fairwayref10_Bytes.j0 k (flagOf r) r.f0 r.f1 r.f2 r.f3 r.f4 r.f5) (recBytes r) := by
  obtain ⟨h0, h1, h2, h3, h4, h5, h6, h7, h8⟩ := hr
  have hb := bodyOf_size r
  have hf : 0 ≤ flagOf r ∧ flagOf r ≤ 6 := by unfold flagOf; split <;> omega
  have hs := sumOf_in (headOf r) (bodyOf r)
  have hh : (headOf r).size = 2 := fixed_size _ _
  refine Ev.step (fun k => by rw [fairwayref10_Bytes.j0]) ?_
  refine Ev.bind (fixed_ev r.f0 8 (by omega)) ?_
  refine Ev.bind (fixed_ev r.f1 8 (by omega)) ?_
  refine Ev.congr (fun k => if_pos (by simp [fixed_size])) ?_
  refine Ev.bind (Ev.now _) ?_
  rw [show flagOf r % 256 = flagOf r by omega]
  refine Ev.congr (fun k => if_pos (by simp [fixed_size, strOfNums_size])) ?_
  refine Ev.bind (fixed_ev (r.f2.size : Int) 2 (by omega)) ?_
  refine Ev.congr (fun k => if_pos (by simp [fixed_size, strOfNums_size])) ?_
  refine Ev.congr (fun k => if_pos (by simp [fixed_size, strOfNums_size]; omega)) ?_
  refine Ev.congr (fun k => if_pos (by simp [fixed_size, strOfNums_size]; omega)) ?_
  show Ev (fun k => (fairwayref1_Fixed.f k ((bodyOf r).size : Int) (2 : Nat)).bind fun t224 => (if t224.size + (bodyOf r).size ≤ 9223372036854775807 then ((fairwayref1_Sum.f k 0 (t224 ++ bodyOf r)).bind fun t225 => ((fairwayref1_Fixed.f k (wrap64 (t225)) (4 : Nat)).bind fun t226 => (if t224.size + t226.size ≤ 9223372036854775807 then (if (t224 ++ t226).size + (bodyOf r).size ≤ 9223372036854775807 then (some ((t224 ++ t226) ++ bodyOf r)) else (none)) else (none)))) else (none))) (recBytes r)
  refine Ev.bind (fixed_ev ((bodyOf r).size : Int) 2 (by omega)) ?_
  refine Ev.congr (fun k => if_pos (by rw [fixed_size]; omega)) ?_
  refine Ev.bind (sumref_ev 0#32 (headOf r ++ bodyOf r) (by rw [ByteArray.size_append]; omega)) ?_
  have hw : wrap64 ((~~~ (run (~~~ (0#32)) (headOf r ++ bodyOf r).data.toList)).toNat : Int) = sumOf (headOf r) (bodyOf r) := by
    rw [wrap_in (by have := hs; unfold sumOf at this; omega) (by have := hs; unfold sumOf at this; omega)]; rfl
  rw [hw]
  refine Ev.bind (fixed_ev (sumOf (headOf r) (bodyOf r)) 4 (by omega)) ?_
  refine Ev.congr (fun k => if_pos (by rw [fixed_size, fixed_size]; omega)) ?_
  refine Ev.congr (fun k => if_pos (by rw [ByteArray.size_append, fixed_size, fixed_size]; omega)) ?_
  exact Ev.now _
theorem refbytes_ev (r : R) (hr : recOk r) : Ev (fun k => fairwayref10_Bytes.f k r.f0 r.f1 r.f2 r.f3 r.f4 r.f5) (recBytes r) := by
  have ht := ref_tail r hr
  obtain ⟨h0, h1, h2, h3, h4, h5, h6, h7, h8⟩ := hr
  refine Ev.congr (fun k => ?_) ht
  unfold fairwayref10_Bytes.f flagOf
  split
  · rw [wrap_in (by omega) (by omega)]
  · rfl

theorem run_append (s : BitVec 32) (a b : List UInt8) : run s (a ++ b) = run (run s a) b := by simp [run]
theorem flag_u8 (r : R) (hr : recOk r) : (if r.f5 = true then Go.bits .or .u8 (r.f4 % 256) 4 else r.f4 % 256) = flagOf r := by
  obtain ⟨h0, h1, h2, h3, h4, h5, h6, h7, h8⟩ := hr
  have : r.f4 = 0 ∨ r.f4 = 1 ∨ r.f4 = 2 := by omega
  unfold flagOf
  rcases this with h | h | h <;> rw [h] <;> split <;> first | rfl | decide
theorem prog_tail (r : R) (hr : recOk r) : Ev (fun k => rec_Bytes.j0 k (flagOf r) r.f0 r.f1 r.f2 r.f3 r.f4 r.f5) (recBytes r, 0) := by
  obtain ⟨h0, h1, h2, h3, h4, h5, h6, h7, h8⟩ := hr
  have hb := bodyOf_size r
  have hs := sumOf_in (headOf r) (bodyOf r)
  have hh : (headOf r).size = 2 := fixed_size _ _
  refine Ev.step (fun k => by rw [rec_Bytes.j0]) ?_
  refine Ev.bind (two_ev (r.f2.size : Int) (by omega) (by omega)) ?_
  refine Ev.bind (eight_ev r.f0 (by omega) (by omega)) ?_
  refine Ev.bind (eight_ev r.f1 (by omega) (by omega)) ?_
  refine Ev.congr (fun k => if_pos (by simp [fixed_size])) ?_
  refine Ev.bind (Ev.now _) ?_
  refine Ev.congr (fun k => if_pos (by simp [fixed_size, strOfNums_size])) ?_
  refine Ev.congr (fun k => if_pos (by simp [fixed_size, strOfNums_size])) ?_
  refine Ev.congr (fun k => if_pos (by simp [fixed_size, strOfNums_size]; omega)) ?_
  refine Ev.congr (fun k => if_pos (by simp [fixed_size, strOfNums_size]; omega)) ?_
  show Ev (fun k => (vbi_Two.f k ((bodyOf r).size : Int)).bind fun b => ((sum_Sum.f k 0 b.1).bind fun t => ((sum_Sum.f k t (bodyOf r)).bind fun t2 => ((vbi_Four.f k (wrap64 t2)).bind fun c => (if b.1.size + c.1.size ≤ 9223372036854775807 then (if (b.1 ++ c.1).size + (bodyOf r).size ≤ 9223372036854775807 then (some ((b.1 ++ c.1) ++ bodyOf r, (0 : Int))) else none) else none))))) (recBytes r, 0)
  refine Ev.bind (two_ev ((bodyOf r).size : Int) (by omega) (by omega)) ?_
  refine Ev.bind (sum_ev 0#32 (headOf r) (by omega)) ?_
  refine Ev.bind (sum_ev (~~~ (run (~~~ (0#32)) (headOf r).data.toList)) (bodyOf r) (by omega)) ?_
  have hw : wrap64 ((~~~ (run (~~~ ~~~ (run (~~~ (0#32)) (headOf r).data.toList)) (bodyOf r).data.toList)).toNat : Int) = sumOf (headOf r) (bodyOf r) := by
    rw [BitVec.not_not, ← run_append]
    have e : (headOf r).data.toList ++ (bodyOf r).data.toList = (headOf r ++ bodyOf r).data.toList := by simp [ByteArray.data_append]
    rw [e]
    rw [wrap_in (by have := hs; unfold sumOf at this; omega) (by have := hs; unfold sumOf at this; omega)]; rfl
  rw [hw]
  refine Ev.bind (four_ev (sumOf (headOf r) (bodyOf r)) hs.1 hs.2) ?_
  refine Ev.congr (fun k => if_pos (by rw [fixed_size, fixed_size]; omega)) ?_
  refine Ev.congr (fun k => if_pos (by rw [ByteArray.size_append, fixed_size, fixed_size]; omega)) ?_
  exact Ev.now _
theorem bytes_yes (r : R) (hr : recOk r) : Ev (fun k => rec_Bytes.f k r.f0 r.f1 r.f2 r.f3 r.f4 r.f5) (recBytes r, 0) := by
  refine Ev.bind (check_yes r hr) (Ev.congr (fun k => if_pos rfl) ?_)
  have ht := prog_tail r hr
  rw [← flag_u8 r hr] at ht
  refine Ev.congr (fun k => ?_) ht
  split <;> rfl
theorem bytes_no (r : R) (hr : ¬ recOk r) : Ev (fun k => rec_Bytes.f k r.f0 r.f1 r.f2 r.f3 r.f4 r.f5) (⟨#[]⟩, 1) :=
  Ev.bind (check_no r hr) (Ev.congr (fun k => if_neg (by decide)) (Ev.now _))
end Go.Proofs.Ytmabdfdmccbfnaa.UBytes

/- Marks: what the program makes of a segment is what the page says; equality of lists of marks. -/
namespace Go.Proofs.Ytmabdfdmccbfnaa.UMarks
open Go Go.RowKit Go.Proofs.Ytmabdfdmccbfnaa.P Go.Proofs.Ytmabdfdmccbfnaa.URec Go.Proofs.Ytmabdfdmccbfnaa.USeg Go.Proofs.Ytmabdfdmccbfnaa.UBytes Go.Proofs.YtmabdfdmccbfnaaW.PrintWords Go.Proofs.YtmabdfdmccbfnaaW.PrintLast
set_option linter.unusedVariables false
set_option linter.unusedSimpArgs false

abbrev M := S77
/-- The marks of records from place i on, which so many bytes stand ahead of. -/
def mk : List R → Nat → Int → List M
  | [], _, _ => []
  | r :: l, i, n => (if i % 4 = 0 then [⟨r.f0, n⟩] else []) ++ mk l (i + 1) (n + recLen r)
theorem mk_length : ∀ (l : List R) (i : Nat) (n : Int), (mk l i n).length ≤ l.length
  | [], _, _ => Nat.le_refl _
  | r :: l, i, n => by
    have := mk_length l (i + 1) (n + recLen r)
    simp only [mk, List.length_append, List.length_cons]
    split <;> simp <;> omega
theorem tmod4 (i : Nat) : (Int.tmod (i : Int) 4 = 0) ↔ i % 4 = 0 := by
  rw [Int.tmod_eq_emod_of_nonneg (by omega)]; omega

theorem marks_loop (l : List R) (hl : l.length ≤ 200) (hok : ∀ i, i < l.length → recOk (rd_T25 l i)) : ∀ (d i : Nat) (acc : List M) (n : Nat), l.length = i + d → acc.length ≤ i → n ≤ i * 3000 →
    Ev (fun k => index_Marks.l0 k acc n l (l.length : Int) i) (acc ++ mk (l.drop i) i n, 0)
  | 0, i, acc, n, h, ha, hn => by
    refine Ev.step (f := fun _ => some _) (fun k => ?_) (Ev.now _)
    simp only [index_Marks.l0]
    rw [if_neg (by omega), List.drop_eq_nil_of_le (by omega)]
    simp [mk]
  | d + 1, i, acc, n, h, ha, hn => by
    have hi : i < l.length := by omega
    have hr := hok i hi
    have hrl : recLen (rd_T25 l i) ≤ 3000 := by obtain ⟨_, _, _, _, h4, h5, _⟩ := hr; unfold recLen; omega
    have hd : l.drop i = rd_T25 l i :: l.drop (i + 1) := by rw [rd_get hi]; exact List.drop_eq_getElem_cons hi
    rw [hd]
    by_cases h4 : i % 4 = 0
    · have ih := marks_loop l hl hok d (i + 1) (acc ++ [⟨(rd_T25 l i).f0, (n : Int)⟩]) (n + recLen (rd_T25 l i)) (by omega) (by simp; omega) (by omega)
      refine Ev.step (f := fun k => (rec_Size.f k ((rd_T25 l i).f0) ((rd_T25 l i).f1) ((rd_T25 l i).f2) ((rd_T25 l i).f3) ((rd_T25 l i).f4) ((rd_T25 l i).f5)).bind fun b => index_Marks.l0 k (acc ++ [⟨(rd_T25 l i).f0, (n : Int)⟩]) (wrap64 (n + b.1)) l (l.length : Int) (wrap64 (i + 1))) (fun k => ?_) ?_
      · simp only [index_Marks.l0]
        rw [if_pos (by omega), if_pos (by omega), if_pos (by omega), if_pos ((tmod4 i).2 h4), if_pos (by omega)]
      · refine Ev.bind (size_yes _ hr) ?_
        rw [wrap_in (by omega) (by omega), wrap_in (by omega) (by omega)]
        simpa [mk, h4] using ih
    · have ih := marks_loop l hl hok d (i + 1) acc (n + recLen (rd_T25 l i)) (by omega) (by omega) (by omega)
      refine Ev.step (f := fun k => (rec_Size.f k ((rd_T25 l i).f0) ((rd_T25 l i).f1) ((rd_T25 l i).f2) ((rd_T25 l i).f3) ((rd_T25 l i).f4) ((rd_T25 l i).f5)).bind fun b => index_Marks.l0 k acc (wrap64 (n + b.1)) l (l.length : Int) (wrap64 (i + 1))) (fun k => ?_) ?_
      · simp only [index_Marks.l0]
        rw [if_pos (by omega), if_pos (by omega), if_pos (by omega), if_neg (fun g => h4 ((tmod4 i).1 g))]
      · refine Ev.bind (size_yes _ hr) ?_
        rw [wrap_in (by omega) (by omega), wrap_in (by omega) (by omega)]
        simpa [mk, h4] using ih
theorem marks_yes (base : Int) (l : List R) (h : segOk base l) : Ev (fun k => index_Marks.f k base l) (mk l 0 0, 0) := by
  refine Ev.bind (segcheck_yes base l h) (Ev.congr (fun k => if_pos rfl) ?_)
  simpa using marks_loop l h.2.2.1 (fun i hi => segOk_rec h hi) l.length 0 [] 0 (by omega) (by simp) (by omega)
theorem marks_no (base : Int) (l : List R) (h : ¬ segOk base l) : Ev (fun k => index_Marks.f k base l) ([], 1) :=
  Ev.bind (segcheck_no base l h) (Ev.congr (fun k => if_neg (by decide)) (Ev.now _))

theorem refmarks_loop (base : Int) (l : List R) (hl : l.length ≤ 200) (hok : ∀ i, i < l.length → recOk (rd_T25 l i)) : ∀ (d i : Nat) (acc : List M) (n : Nat), l.length = i + d → acc.length ≤ i → n ≤ i * 3000 →
    Ev (fun k => fairwayref10_Marks.l0 k acc n i base l) (acc ++ mk (l.drop i) i n)
  | 0, i, acc, n, h, ha, hn => by
    refine Ev.step (f := fun _ => some _) (fun k => ?_) (Ev.now _)
    simp only [fairwayref10_Marks.l0]
    rw [if_neg (by omega), List.drop_eq_nil_of_le (by omega)]
    simp [mk]
  | d + 1, i, acc, n, h, ha, hn => by
    have hi : i < l.length := by omega
    have hr := hok i hi
    have hrl : recLen (rd_T25 l i) ≤ 3000 := by obtain ⟨_, _, _, _, h4, h5, _⟩ := hr; unfold recLen; omega
    have hd : l.drop i = rd_T25 l i :: l.drop (i + 1) := by rw [rd_get hi]; exact List.drop_eq_getElem_cons hi
    rw [hd]
    have hb := refbytes_ev _ hr
    by_cases h4 : i % 4 = 0
    · have ih := refmarks_loop base l hl hok d (i + 1) (acc ++ [⟨(rd_T25 l i).f0, (n : Int)⟩]) (n + recLen (rd_T25 l i)) (by omega) (by simp; omega) (by omega)
      refine Ev.step (f := fun k => (fairwayref10_Bytes.f k ((rd_T25 l i).f0) ((rd_T25 l i).f1) ((rd_T25 l i).f2) ((rd_T25 l i).f3) ((rd_T25 l i).f4) ((rd_T25 l i).f5)).bind fun b => fairwayref10_Marks.l0 k (acc ++ [⟨(rd_T25 l i).f0, (n : Int)⟩]) (wrap64 (n + (b.size : Int))) (wrap64 (i + 1)) base l) (fun k => ?_) ?_
      · simp only [fairwayref10_Marks.l0]
        rw [if_pos (by omega), if_pos ((tmod4 i).2 h4), if_pos (by omega), if_pos (by omega)]
      · refine Ev.bind hb ?_
        rw [recBytes_size, wrap_in (by omega) (by omega), wrap_in (by omega) (by omega)]
        simpa [mk, h4] using ih
    · have ih := refmarks_loop base l hl hok d (i + 1) acc (n + recLen (rd_T25 l i)) (by omega) (by omega) (by omega)
      refine Ev.step (f := fun k => (fairwayref10_Bytes.f k ((rd_T25 l i).f0) ((rd_T25 l i).f1) ((rd_T25 l i).f2) ((rd_T25 l i).f3) ((rd_T25 l i).f4) ((rd_T25 l i).f5)).bind fun b => fairwayref10_Marks.l0 k acc (wrap64 (n + (b.size : Int))) (wrap64 (i + 1)) base l) (fun k => ?_) ?_
      · simp only [fairwayref10_Marks.l0]
        rw [if_pos (by omega), if_neg (fun g => h4 ((tmod4 i).1 g)), if_pos (by omega)]
      · refine Ev.bind hb ?_
        rw [recBytes_size, wrap_in (by omega) (by omega), wrap_in (by omega) (by omega)]
        simpa [mk, h4] using ih
theorem refmarks_ev (base : Int) (l : List R) (h : segOk base l) : Ev (fun k => fairwayref10_Marks.f k base l) (mk l 0 0) := by
  unfold fairwayref10_Marks.f
  simpa using refmarks_loop base l h.2.2.1 (fun i hi => segOk_rec h hi) l.length 0 [] 0 (by omega) (by simp) (by omega)

/-! ### equality -/
theorem m_rd {l : List M} {i : Nat} (h : i < l.length) : rd_T77 l i = l[i] := by
  unfold rd_T77
  simp [List.getD_eq_getElem?_getD, List.getElem?_eq_getElem h]
theorem m_same (a b : M) : (!(a.f0 == b.f0) || !(a.f1 == b.f1)) = true ↔ a ≠ b := by
  rcases a with ⟨a0, a1⟩
  rcases b with ⟨b0, b1⟩
  by_cases h0 : a0 = b0 <;> by_cases h1 : a1 = b1 <;> simp [h0, h1]
theorem eq_of_rd {a b : List M} (hl : a.length = b.length) (h : ∀ i, i < a.length → rd_T77 a i = rd_T77 b i) : a = b :=
  List.ext_getElem hl fun i h1 h2 => by rw [← m_rd h1, ← m_rd h2]; exact h i h1
theorem eq_loop_yes (a b : List M) (hm : a.length ≤ 9223372036854775806) (hl : a.length = b.length) : ∀ (d i : Nat), a.length = i + d → (∀ j, i ≤ j → j < a.length → rd_T77 a j = rd_T77 b j) →
    Ev (fun k => api_Mark.l0 k a b (a.length : Int) i) true ∧ Ev (fun k => fairwayref0_EqMarks.l0 k a b i) true
  | 0, i, h, _ => by
    refine ⟨Ev.step (f := fun _ => some _) (fun k => ?_) (Ev.now _), Ev.step (f := fun _ => some _) (fun k => ?_) (Ev.now _)⟩
    · simp only [api_Mark.l0]; rw [if_neg (by omega)]
    · simp only [fairwayref0_EqMarks.l0]; rw [if_neg (by omega)]
  | d + 1, i, h, he => by
    obtain ⟨i1, i2⟩ := eq_loop_yes a b hm hl d (i + 1) (by omega) (fun j hj => he j (by omega))
    have hs : ¬ (!((rd_T77 a i).f0 == (rd_T77 b i).f0) || !((rd_T77 a i).f1 == (rd_T77 b i).f1)) = true := fun g => (m_same _ _).1 g (he i (Nat.le_refl _) (by omega))
    refine ⟨Ev.step (fun k => ?_) i1, Ev.step (fun k => ?_) i2⟩
    · simp only [api_Mark.l0]; rw [if_pos (by omega), if_pos (by omega), if_pos (by omega), if_pos (by omega), if_neg hs, wrap_in (by omega) (by omega)]; rfl
    · simp only [fairwayref0_EqMarks.l0]; rw [if_pos (by omega), if_pos (by omega), if_pos (by omega), if_neg hs, wrap_in (by omega) (by omega)]; rfl
theorem eq_loop_no (a b : List M) (hm : a.length ≤ 9223372036854775806) (hl : a.length = b.length) (j : Nat) (hj : j < a.length) (hne : rd_T77 a j ≠ rd_T77 b j) : ∀ (d i : Nat), j = i + d → (∀ q, i ≤ q → q < j → rd_T77 a q = rd_T77 b q) →
    Ev (fun k => api_Mark.l0 k a b (a.length : Int) i) false
  | 0, i, h, _ => by
    obtain rfl : j = i := by omega
    refine Ev.step (f := fun _ => some _) (fun k => ?_) (Ev.now _)
    simp only [api_Mark.l0]; rw [if_pos (by omega), if_pos (by omega), if_pos (by omega), if_pos (by omega), if_pos ((m_same _ _).2 hne)]
  | d + 1, i, h, he => by
    have i1 := eq_loop_no a b hm hl j hj hne d (i + 1) (by omega) (fun q hq => he q (by omega))
    have hs : ¬ (!((rd_T77 a i).f0 == (rd_T77 b i).f0) || !((rd_T77 a i).f1 == (rd_T77 b i).f1)) = true := fun g => (m_same _ _).1 g (he i (Nat.le_refl _) (by omega))
    refine Ev.step (fun k => ?_) i1
    simp only [api_Mark.l0]; rw [if_pos (by omega), if_pos (by omega), if_pos (by omega), if_pos (by omega), if_neg hs, wrap_in (by omega) (by omega)]; rfl
theorem equal_yes (a : List M) (hm : a.length ≤ 9223372036854775806) : Ev (fun k => api_Mark.f k a a) true := by
  unfold api_Mark.f
  exact Ev.congr (fun k => if_pos rfl) (eq_loop_yes a a hm rfl a.length 0 (by omega) (fun _ _ _ => rfl)).1
theorem refequal_yes (a : List M) (hm : a.length ≤ 9223372036854775806) : Ev (fun k => fairwayref0_EqMarks.f k a a) true := by
  unfold fairwayref0_EqMarks.f
  exact Ev.congr (fun k => if_pos rfl) (eq_loop_yes a a hm rfl a.length 0 (by omega) (fun _ _ _ => rfl)).2
theorem equal_no (a b : List M) (hm : a.length ≤ 9223372036854775806) (h : a ≠ b) : Ev (fun k => api_Mark.f k a b) false := by
  unfold api_Mark.f
  by_cases hl : a.length = b.length
  · refine Ev.congr (fun k => if_pos (by omega)) ?_
    obtain ⟨j, hj, hne, hall⟩ := least (p := fun i => rd_T77 a i = rd_T77 b i) a.length (Classical.byContradiction fun hn => h (eq_of_rd hl fun i hi => Classical.byContradiction fun hc => hn ⟨i, hi, hc⟩))
    exact eq_loop_no a b hm hl j hj hne j 0 (by omega) (fun q _ hq => hall q hq)
  · exact Ev.congr (fun k => if_neg (by omega)) (Ev.now _)

theorem copy_loop (l : List M) (hm : l.length ≤ 8000000000000) : ∀ (d i : Nat), l.length = i + d → Ev (fun k => fairwayref0_CopyMarks.l0 k l (l.take i) i) l
  | 0, i, h => by
    refine Ev.step (f := fun _ => some _) (fun k => ?_) (Ev.now _)
    simp only [fairwayref0_CopyMarks.l0]
    rw [if_neg (by omega), List.take_of_length_le (by omega)]
  | d + 1, i, h => by
    have hi : i < l.length := by omega
    have ih := copy_loop l hm d (i + 1) (by omega)
    refine Ev.step (fun k => ?_) ih
    simp only [fairwayref0_CopyMarks.l0]
    rw [if_pos (by omega), if_pos (by omega), if_pos (by rw [List.length_take]; omega), wrap_in (by omega) (by omega)]
    have : l.take (i + 1) = l.take i ++ [⟨(rd_T77 l i).f0, (rd_T77 l i).f1⟩] := by rw [m_rd hi]; exact List.take_succ_eq_append_getElem hi
    rw [this]; rfl
theorem copymarks_ev (l : List M) (hm : l.length ≤ 8000000000000) : Ev (fun k => fairwayref0_CopyMarks.f k l) l := by
  unfold fairwayref0_CopyMarks.f
  simpa using copy_loop l hm l.length 0 (by omega)

theorem icheck_yes (base : Int) (l : List R) (h : segOk base l) : Ev (fun k => index_Check.f k base l (mk l 0 0)) (true, 0) := by
  have hm := mk_length l 0 0
  have h2 := h.2.2.1
  exact Ev.bind (marks_yes base l h) (Ev.congr (fun k => if_pos rfl) (Ev.bind (equal_yes (mk l 0 0) (by omega)) (Ev.now _)))
theorem icheck_other (base : Int) (l : List R) (h : segOk base l) (m : List M) (hm : m.length ≤ 9223372036854775806) (hne : m ≠ mk l 0 0) : Ev (fun k => index_Check.f k base l m) (false, 0) :=
  Ev.bind (marks_yes base l h) (Ev.congr (fun k => if_pos rfl) (Ev.bind (equal_no m (mk l 0 0) hm hne) (Ev.now _)))
theorem icheck_no (base : Int) (l : List R) (h : ¬ segOk base l) (m : List M) : Ev (fun k => index_Check.f k base l m) (false, 1) :=
  Ev.bind (marks_no base l h) (Ev.congr (fun k => if_neg (by decide)) (Ev.now _))
end Go.Proofs.Ytmabdfdmccbfnaa.UMarks

/- From which mark on an offset is looked for: the program's and the page's; marks that rise. -/
namespace Go.Proofs.Ytmabdfdmccbfnaa.UFrom
open Go Go.RowKit Go.Proofs.Ytmabdfdmccbfnaa.P Go.Proofs.Ytmabdfdmccbfnaa.URec Go.Proofs.Ytmabdfdmccbfnaa.USeg Go.Proofs.Ytmabdfdmccbfnaa.UMarks Go.Proofs.YtmabdfdmccbfnaaW.PrintWords Go.Proofs.YtmabdfdmccbfnaaW.PrintLast
set_option linter.unusedVariables false
set_option linter.unusedSimpArgs false

theorem ar_n (n i : Nat) (hn : n ≤ 9223372036854775806) (hi : i < n) : wrap64 ((i : Int) + 1) = ((i + 1 : Nat) : Int) := by
  rw [wrap_in (by omega) (by omega)]; omega
theorem ar_p (n i : Nat) (hn : n ≤ 9223372036854775806) (hi : i < n) (h0 : 0 < i) : wrap64 ((i : Int) - 1) = ((i - 1 : Nat) : Int) := by
  rw [wrap_in (by omega) (by omega)]; omega
/-- The last place of which the mark isn't above q (the first place in any case). -/
def fromAt (q : Int) : List M → Nat → Int → Int
  | [], _, a => a
  | x :: t, i, a => fromAt q t (i + 1) (if i = 0 ∨ x.f0 ≤ q then (i : Int) else a)
theorem from_step (q : Int) (l : List M) (i : Nat) (a : Int) (h : i < l.length) : fromAt q (l.drop i) i a = fromAt q (l.drop (i + 1)) (i + 1) (if i = 0 ∨ (rd_T77 l i).f0 ≤ q then (i : Int) else a) := by
  rw [List.drop_eq_getElem_cons h, fromAt, m_rd h]
theorem reffrom_loop (q : Int) (l : List M) (hm : l.length ≤ 9223372036854775806) : ∀ (d i : Nat) (a : Int), l.length = i + d → Ev (fun k => fairwayref10_From.l0 k l q a i) (fromAt q (l.drop i) i a)
  | 0, i, a, h => by
    rw [List.drop_eq_nil_of_le (by omega), fromAt]
    exact Ev.step (fun k => by rw [fairwayref10_From.l0, if_neg (by omega)]) (Ev.now _)
  | d + 1, i, a, h => by
    have hi : i < l.length := by omega
    have hw := ar_n l.length i hm hi
    rw [from_step q l i a hi]
    by_cases h0 : i = 0
    · rw [if_pos (Or.inl h0)]
      exact Ev.step (fun k => by rw [fairwayref10_From.l0, if_pos (by omega), if_pos (by omega), hw]) (reffrom_loop q l hm d (i + 1) i (by omega))
    · by_cases hq : (rd_T77 l i).f0 ≤ q
      · rw [if_pos (Or.inr hq)]
        exact Ev.step (fun k => by rw [fairwayref10_From.l0, if_pos (by omega), if_neg (by omega), if_pos (by omega), if_pos hq, hw]) (reffrom_loop q l hm d (i + 1) i (by omega))
      · rw [if_neg (fun g => g.elim h0 hq)]
        exact Ev.step (fun k => by rw [fairwayref10_From.l0, if_pos (by omega), if_neg (by omega), if_pos (by omega), if_neg hq, hw]) (reffrom_loop q l hm d (i + 1) a (by omega))
theorem reffrom_ev (q : Int) (l : List M) (hm : l.length ≤ 9223372036854775806) : Ev (fun k => fairwayref10_From.f k l q) (fromAt q l 0 (-1)) :=
  reffrom_loop q l hm l.length 0 (-1) (by omega)

/-- What rises at a place. -/
def risesAt (l : List M) (i : Nat) : Prop := 0 < i → (rd_T77 l (i - 1 : Nat)).f0 < (rd_T77 l i).f0 ∧ (rd_T77 l (i - 1 : Nat)).f1 ≤ (rd_T77 l i).f1
def rises (l : List M) : Prop := ∀ i, i < l.length → risesAt l i
theorem risen_loop (l : List M) (hm : l.length ≤ 9223372036854775806) (n : Nat) (hn : n ≤ l.length) (hok : ∀ i, i < n → risesAt l i) {r : Bool} (hr : Ev (fun k => fairwayref10_Risen.l0 k l n) r) : ∀ (d i : Nat), n = i + d → 0 < i →
    Ev (fun k => fairwayref10_Risen.l0 k l i) r
  | 0, i, h, h0 => by
    obtain rfl : n = i := by omega
    exact hr
  | d + 1, i, h, h0 => by
    have hi : i < l.length := by omega
    have hw := ar_n l.length i hm hi
    have hp := ar_p l.length i hm hi h0
    obtain ⟨a1, a2⟩ := hok i (by omega) h0
    exact Ev.step (fun k => by rw [fairwayref10_Risen.l0, if_pos (by omega), hp, if_pos (by omega), if_pos (by omega), if_pos (by omega), if_neg (by omega), if_neg (by omega), hw]) (risen_loop l hm n hn hok hr d (i + 1) (by omega) (by omega))
theorem risen_yes (l : List M) (hm : l.length ≤ 9223372036854775806) (h : rises l) : Ev (fun k => fairwayref10_Risen.f k l) true := by
  have hend : ∀ n : Nat, l.length ≤ n → Ev (fun k => fairwayref10_Risen.l0 k l n) true := fun n hn => Ev.step (fun k => by rw [fairwayref10_Risen.l0, if_neg (by omega)]) (Ev.now _)
  by_cases h1 : l.length ≤ 1
  · exact hend 1 h1
  · exact risen_loop l hm l.length (Nat.le_refl _) h (hend _ (Nat.le_refl _)) (l.length - 1) 1 (by omega) (by omega)
theorem risen_no (l : List M) (hm : l.length ≤ 9223372036854775806) (j : Nat) (hj : j < l.length) (hb : ¬ risesAt l j) (hok : ∀ i, i < j → risesAt l i) : Ev (fun k => fairwayref10_Risen.f k l) false := by
  have h0 : 0 < j := by
    rcases Nat.eq_zero_or_pos j with h | h
    · subst h; exact absurd (fun g => absurd g (by omega)) hb
    · exact h
  have hp := ar_p l.length j hm hj h0
  refine risen_loop l hm j (by omega) hok ?_ (j - 1) 1 (by omega) (by omega)
  refine Ev.step (f := fun _ => some false) (fun k => ?_) (Ev.now _)
  rw [fairwayref10_Risen.l0, if_pos (by omega), hp, if_pos (by omega), if_pos (by omega), if_pos (by omega)]
  by_cases a1 : (rd_T77 l (j - 1 : Nat)).f0 ≥ (rd_T77 l j).f0
  · rw [if_pos a1]
  · rw [if_neg a1]
    by_cases a2 : (rd_T77 l (j - 1 : Nat)).f1 > (rd_T77 l j).f1
    · rw [if_pos a2]
    · exact absurd (fun _ => ⟨by omega, by omega⟩) hb

/-- The mark at a place; none: of nothing. -/
def mAt (l : List M) (a : Int) : M := if a < 0 then ⟨0, 0⟩ else rd_T77 l a
theorem mAt_nat (l : List M) (i : Nat) : mAt l (i : Int) = rd_T77 l i := by unfold mAt; rw [if_neg (by omega)]
theorem from_one (q : Int) (l : List M) (hm : l.length ≤ 9223372036854775806) (i : Nat) (hi : i < l.length) (a : Int) (h : risesAt l i) {r} (hr : Ev (fun k => index_From.l0 k l q l (l.length : Int) ((i + 1 : Nat) : Int) (mAt l (if i = 0 ∨ (rd_T77 l i).f0 ≤ q then (i : Int) else a)).f0 (mAt l (if i = 0 ∨ (rd_T77 l i).f0 ≤ q then (i : Int) else a)).f1) r) :
    Ev (fun k => index_From.l0 k l q l (l.length : Int) i (mAt l a).f0 (mAt l a).f1) r := by
  have hw := ar_n l.length i hm hi
  refine Ev.step (f := fun k => index_From.j1 k l q i l (l.length : Int) i false (mAt l a).f0 (mAt l a).f1 (rd_T77 l i).f0 (rd_T77 l i).f1) (fun k => ?_) ?_
  · rw [index_From.l0, if_pos (by omega), if_pos (by omega), if_pos (by omega)]
    by_cases h0 : (i : Int) > 0
    · obtain ⟨a1, a2⟩ := h (by omega)
      rw [if_pos h0, ar_p l.length i hm hi (by omega), if_pos (by omega), if_pos (by omega), if_neg (by omega), decide_eq_false (by omega)]
    · rw [if_neg h0]
  · by_cases h0 : i = 0
    · rw [if_pos (Or.inl h0), mAt_nat] at hr
      exact Ev.step (fun k => by rw [index_From.j1, if_neg Bool.false_ne_true, if_pos (by omega), hw]) hr
    · by_cases hq : (rd_T77 l i).f0 ≤ q
      · rw [if_pos (Or.inr hq), mAt_nat] at hr
        exact Ev.step (fun k => by rw [index_From.j1, if_neg Bool.false_ne_true, if_neg (by omega), if_pos hq, hw]) hr
      · rw [if_neg (fun g => g.elim h0 hq)] at hr
        exact Ev.step (fun k => by rw [index_From.j1, if_neg Bool.false_ne_true, if_neg (by omega), if_neg hq, hw]) hr
theorem from_yes_loop (q : Int) (l : List M) (hm : l.length ≤ 9223372036854775806) (h : rises l) : ∀ (d i : Nat) (a : Int), l.length = i + d →
    Ev (fun k => index_From.l0 k l q l (l.length : Int) i (mAt l a).f0 (mAt l a).f1) ((mAt l (fromAt q (l.drop i) i a)).f0, (mAt l (fromAt q (l.drop i) i a)).f1, 0)
  | 0, i, a, hd => by
    rw [List.drop_eq_nil_of_le (by omega), fromAt]
    exact Ev.step (fun k => by rw [index_From.l0, if_neg (by omega)]) (Ev.now _)
  | d + 1, i, a, hd => by
    have hi : i < l.length := by omega
    rw [from_step q l i a hi]
    exact from_one q l hm i hi a (h i hi) (from_yes_loop q l hm h d (i + 1) _ (by omega))
theorem from_yes (q : Int) (l : List M) (hm : l.length ≤ 9223372036854775806) (h : rises l) : Ev (fun k => index_From.f k l q) ((mAt l (fromAt q l 0 (-1))).f0, (mAt l (fromAt q l 0 (-1))).f1, 0) := by
  have := from_yes_loop q l hm h l.length 0 (-1) (by omega)
  exact this
theorem from_no_loop (q : Int) (l : List M) (hm : l.length ≤ 9223372036854775806) (j : Nat) (hj : j < l.length) (hb : ¬ risesAt l j) (hok : ∀ i, i < j → risesAt l i) : ∀ (d i : Nat) (a : Int), j = i + d →
    Ev (fun k => index_From.l0 k l q l (l.length : Int) i (mAt l a).f0 (mAt l a).f1) (0, 0, 1)
  | 0, i, a, hd => by
    obtain rfl : j = i := by omega
    have h0 : 0 < j := by
      rcases Nat.eq_zero_or_pos j with h | h
      · subst h; exact absurd (fun g => absurd g (by omega)) hb
      · exact h
    refine Ev.step (f := fun k => index_From.j1 k l q j l (l.length : Int) j true (mAt l a).f0 (mAt l a).f1 (rd_T77 l j).f0 (rd_T77 l j).f1) (fun k => ?_) (Ev.step (fun k => by rw [index_From.j1, if_pos rfl]) (Ev.now _))
    rw [index_From.l0, if_pos (by omega), if_pos (by omega), if_pos (by omega), if_pos (by omega), ar_p l.length j hm hj h0, if_pos (by omega), if_pos (by omega)]
    by_cases a1 : (rd_T77 l j).f0 ≤ (rd_T77 l (j - 1 : Nat)).f0
    · rw [if_pos a1]
    · rw [if_neg a1]
      by_cases a2 : (rd_T77 l j).f1 < (rd_T77 l (j - 1 : Nat)).f1
      · rw [decide_eq_true a2]
      · exact absurd (fun _ => ⟨by omega, by omega⟩) hb
  | d + 1, i, a, hd => from_one q l hm i (by omega) a (hok i (by omega)) (from_no_loop q l hm j hj hb hok d (i + 1) _ (by omega))
theorem from_no (q : Int) (l : List M) (hm : l.length ≤ 9223372036854775806) (j : Nat) (hj : j < l.length) (hb : ¬ risesAt l j) (hok : ∀ i, i < j → risesAt l i) : Ev (fun k => index_From.f k l q) (0, 0, 1) := by
  have := from_no_loop q l hm j hj hb hok j 0 (-1) (by omega)
  exact this
theorem not_rises (l : List M) (h : ¬ rises l) : ∃ j, j < l.length ∧ ¬ risesAt l j ∧ ∀ i, i < j → risesAt l i :=
  least l.length (Classical.byContradiction fun hn => h fun i hi => Classical.byContradiction fun hc => hn ⟨i, hi, hc⟩)
theorem from_in (q : Int) : ∀ (l : List M) (i : Nat) (a : Int), (0 < i → 0 ≤ a) → a < i → -1 ≤ a → (l ≠ [] ∨ 0 < i → 0 ≤ fromAt q l i a) ∧ fromAt q l i a < i + l.length ∧ -1 ≤ fromAt q l i a
  | [], i, a, h1, h2, h3 => ⟨fun h => h1 (h.resolve_left (fun g => g rfl)), by simp only [fromAt, List.length_nil]; omega, h3⟩
  | x :: t, i, a, h1, h2, h3 => by
    simp only [fromAt]
    obtain ⟨b1, b2, b3⟩ := from_in q t (i + 1) (if i = 0 ∨ x.f0 ≤ q then (i : Int) else a) (fun _ => by split <;> omega) (by split <;> omega) (by split <;> omega)
    exact ⟨fun _ => b1 (Or.inr (by omega)), by simp only [List.length_cons]; omega, b3⟩
end Go.Proofs.Ytmabdfdmccbfnaa.UFrom

/- The pure law IndexFroms: which mark is the last one not above any offset, of any marks, is the page's, or refused. -/
namespace Go.Proofs.Ytmabdfdmccbfnaa.Pure
open Go Go.RowKit Go.Proofs.Ytmabdfdmccbfnaa.P Go.Proofs.Ytmabdfdmccbfnaa.URec Go.Proofs.Ytmabdfdmccbfnaa.USeg Go.Proofs.Ytmabdfdmccbfnaa.UMarks Go.Proofs.Ytmabdfdmccbfnaa.UFrom Go.Proofs.Ytmabdfdmccbfnaa.UHeavy Go.Proofs.YtmabdfdmccbfnaaW.PrintWords Go.Proofs.YtmabdfdmccbfnaaW.PrintLast
set_option linter.unusedVariables false
set_option linter.unusedSimpArgs false

theorem wakes12_ev : Ev (fun k => fairwaylaw12_wakes.f k) true := Ev.of fairwaylaw12_wakes.mono (k := 60) (by decide +kernel)
theorem num12 (a : Int) : fairwaylaw12_num.f a = some a := rfl
theorem rd_tk (l : List M) (n : Nat) (i : Nat) (h : i < n) : rd_T77 (l.take n) i = rd_T77 l i := by
  unfold rd_T77
  simp [List.getD_eq_getElem?_getD, List.getElem?_take, h]
theorem m_no (a : M) : (!(a.f0 == a.f0) || (!(a.f1 == a.f1))) = false := by simp
theorem if_l2 (p : S55) (hm : p.f2.length ≤ 9223372036854775806) (l : List M) (hl : l.length ≤ 20) (i : Nat) (hi : i < p.f2.length) (h : Ev (fun k => fairwaylaw12_IndexFroms.l1 k l ((i + 1 : Nat) : Int) p.f0.f0 p.f0.f1 p.f1 p.f2 p.f3) true) :
    ∀ (d n : Nat), 21 = n + d → n ≤ l.length + 1 → Ev (fun k => fairwaylaw12_IndexFroms.l2 k l i n p.f0.f0 p.f0.f1 p.f1 p.f2 p.f3) true
  | d, n, hd, hnl => by
    have hw := ar_n p.f2.length i hm hi
    by_cases hn : n ≤ l.length
    · match d with
      | 0 => omega
      | d + 1 =>
        have ih := if_l2 p hm l hl i hi h d (n + 1) (by omega) (by omega)
        have hwn : wrap64 ((n : Int) + 1) = ((n + 1 : Nat) : Int) := by rw [wrap_in (by omega) (by omega)]; omega
        have hlen : (l.take n).length = n := by rw [List.length_take]; omega
        have hlm : (l.take n).length ≤ 9223372036854775806 := by omega
        refine Ev.step (fun k => by rw [fairwaylaw12_IndexFroms.l2, if_pos (by omega), if_pos (by omega), if_pos (by omega), if_pos (by omega), Int.toNat_natCast]) ?_
        by_cases hr : rises (l.take n)
        · obtain ⟨b1, b2, b3⟩ := from_in (rd p.f2 i) (l.take n) 0 (-1) (fun g => absurd g (by omega)) (by omega) (by omega)
          refine Ev.bind (from_yes _ _ hlm hr) (Ev.bind (risen_yes _ hlm hr) (Ev.congr (fun k => if_pos rfl) (Ev.bind (reffrom_ev _ _ hlm) ?_)))
          generalize fromAt (rd p.f2 i) (l.take n) 0 (-1) = a at *
          by_cases ha : a ≥ 0
          · obtain ⟨j, rfl⟩ : ∃ j : Nat, a = (j : Int) := ⟨a.toNat, by omega⟩
            have e : mAt (l.take n) (j : Int) = rd_T77 l j := by rw [mAt_nat, rd_tk _ _ _ (by omega)]
            rw [e]
            refine Ev.congr (fun k => by rw [if_pos ha, if_pos (by omega), if_pos (by omega)]) ?_
            simp only [num12, Option.bind_some]
            exact Ev.congr (fun k => by rw [if_pos trivial, m_no, if_neg Bool.false_ne_true, hwn]) ih
          · have e : mAt (l.take n) a = ⟨0, 0⟩ := by unfold mAt; rw [if_pos (by omega)]
            rw [e]
            refine Ev.congr (fun k => if_neg ha) ?_
            simp only [num12, Option.bind_some]
            exact Ev.congr (fun k => by rw [if_pos trivial, if_neg (by decide), hwn]) ih
        · obtain ⟨j, hj, hb, hok⟩ := not_rises _ hr
          refine Ev.bind (from_no _ _ hlm j hj hb hok) (Ev.bind (risen_no _ hlm j hj hb hok) (Ev.congr (fun k => if_neg Bool.false_ne_true) ?_))
          simp only [num12, Option.bind_some]
          exact Ev.congr (fun k => by rw [if_pos trivial, if_neg (by decide), hwn]) ih
    · exact Ev.step (fun k => by rw [fairwaylaw12_IndexFroms.l2, if_neg (by omega), hw]) h
theorem if_l1 (p : S55) (hm : p.f2.length ≤ 9223372036854775806) (l : List M) (hl : l.length ≤ 20) : ∀ (d i : Nat), 20 = i + d → Ev (fun k => fairwaylaw12_IndexFroms.l1 k l i p.f0.f0 p.f0.f1 p.f1 p.f2 p.f3) true
  | d, i, hd => by
    have stop : ∀ i : Int, Ev (fun k => fairwaylaw12_IndexFroms.j3 k l i false p.f0.f0 p.f0.f1 p.f1 p.f2 p.f3) true := fun i =>
      Ev.step (f := fun k => (fairwaylaw12_wakes.f k).bind fun t => some t) (fun k => by rw [fairwaylaw12_IndexFroms.j3, if_neg Bool.false_ne_true]) (Ev.bind wakes12_ev (Ev.now _))
    by_cases hil : i < p.f2.length
    · match d with
      | 0 => exact Ev.step (fun k => by rw [fairwaylaw12_IndexFroms.l1, if_pos (by omega), decide_eq_false (by omega)]) (stop i)
      | d + 1 =>
        refine Ev.step (fun k => by rw [fairwaylaw12_IndexFroms.l1, if_pos (by omega), decide_eq_true (by omega)]) ?_
        refine Ev.step (f := fun k => fairwaylaw12_IndexFroms.l2 k l i ((0 : Nat) : Int) p.f0.f0 p.f0.f1 p.f1 p.f2 p.f3) (fun k => by rw [fairwaylaw12_IndexFroms.j3, if_pos rfl]; rfl) ?_
        exact if_l2 p hm l hl i hil (if_l1 p hm l hl d (i + 1) (by omega)) 21 0 (by omega) (by omega)
    · exact Ev.step (fun k => by rw [fairwaylaw12_IndexFroms.l1, if_neg (by omega)]) (stop i)
theorem if_l0 (p : S55) (hm : p.f2.length ≤ 9223372036854775806) (hm1 : p.f1.length ≤ 9223372036854775806) : ∀ (d i : Nat) (l : List M), 20 = i + d → l.length = i → Ev (fun k => fairwaylaw12_IndexFroms.l0 k l i p.f0.f0 p.f0.f1 p.f1 p.f2 p.f3) true
  | d, i, l, hd, hl => by
    have stop : Ev (fun k => fairwaylaw12_IndexFroms.j1 k l p.f0.f0 p.f0.f1 p.f1 p.f2 p.f3) true :=
      Ev.step (f := fun k => fairwaylaw12_IndexFroms.l1 k l ((0 : Nat) : Int) p.f0.f0 p.f0.f1 p.f1 p.f2 p.f3) (fun k => by rw [fairwaylaw12_IndexFroms.j1]; rfl) (if_l1 p hm l (by omega) 20 0 (by omega))
    by_cases hil : i < p.f1.length
    · match d with
      | 0 => exact Ev.step (fun k => by rw [fairwaylaw12_IndexFroms.l0, if_pos (by omega), if_neg (by omega)]) stop
      | d + 1 =>
        have hw := ar_n p.f1.length i hm1 hil
        exact Ev.step (fun k => by rw [fairwaylaw12_IndexFroms.l0, if_pos (by omega), if_pos (by omega), if_pos (by omega), if_pos (by omega), hw]) (if_l0 p hm hm1 d (i + 1) _ (by omega) (by rw [List.length_append, List.length_singleton, hl]))
    · exact Ev.step (fun k => by rw [fairwaylaw12_IndexFroms.l0, if_neg (by omega)]) stop
theorem IndexFroms (p : S55) (hg : good55 p) : ∃ k, fairwaylaw12_IndexFroms.f k p.f0.f0 p.f0.f1 p.f1 p.f2 p.f3 = some true := by
  obtain ⟨⟨g0, g1, g2⟩, ⟨g3, g4⟩, ⟨g5, g6⟩, g7⟩ := hg
  obtain ⟨b, hb, _⟩ := heavy_ev p.f0.f0 p.f0.f1 p.f1 p.f2 p.f3 g1 g2 g3 g4
  refine Ev.rounds (r := true) ?_
  refine Ev.bind hb ?_
  cases b with
  | true => exact Ev.congr (fun k => if_pos rfl) (Ev.now _)
  | false => exact Ev.congr (fun k => if_neg (by decide)) (if_l0 p (by omega) (by omega) 20 0 [] (by omega) rfl)
end Go.Proofs.Ytmabdfdmccbfnaa.Pure

/- IndexFroms: for every input of the row the law returns true, and the input reads afterwards as before. Conditions: none beside the row's own. -/
namespace Go.Proofs.Ytmabdfdmccbfnaa.indexFroms
open Go.ChangeShapes Go.WideShapes Go.ChangeAt Go.RowKit Go.Proofs.YtmabdfdmccbfnaaW.PrintWords Go.Proofs.Ytmabdfdmccbfnaa.Open Go.Proofs.Ytmabdfdmccbfnaa.P
set_option linter.unusedVariables false
theorem own : ownKnob Try.prog.godebug = none := by kernel_rfl
theorem laidOut : laidOutB Try.prog = true := by kernel_rfl
theorem openK55 {w : World} {x : S55} {cs : List Value} (h : k55.K w x cs) : ∃ (A1 : Option Addr) (c1 : Nat) (A2 : Option Addr) (c2 : Nat) (A3 : Option Addr) (c3 : Nat), cs = [.int .i64 x.f0.f0, .slice A1 x.f0.f1.length c1, .slice A2 x.f1.length c2, .slice A3 x.f2.length c3, .string x.f3] ∧ Kd.C k25 w A1 x.f0.f1.length x.f0.f1 ∧ x.f0.f1.length ≤ c1 ∧ Kd.C k25 w A2 x.f1.length x.f1 ∧ x.f1.length ≤ c2 ∧ Kd.C (Kd.int .i64) w A3 x.f2.length x.f2 ∧ x.f2.length ≤ c3 := by
  obtain ⟨_, _, rfl, ⟨_, _, rfl, rfl, ⟨A1, c1, rfl, hc1, hr1⟩⟩, ⟨_, _, rfl, ⟨A2, c2, rfl, hc2, hr2⟩, ⟨_, _, rfl, ⟨A3, c3, rfl, hc3, hr3⟩, rfl⟩⟩⟩ := h
  exact ⟨A1, c1, A2, c2, A3, c3, rfl, hr1, hc1, hr2, hc2, hr3, hc3⟩
theorem purely (p : S55) (hg : good55 p) : ∃ k, fairwaylaw12_IndexFroms.f k p.f0.f0 p.f0.f1 p.f1 p.f2 p.f3 = some true := Pure.IndexFroms p hg
set_option maxRecDepth 100000 in
theorem lifted (os : Os) (started : os.Started) (H : Type) (enc : TypeId × Value → H) :
    ReturnsInHanded {} Try.checked os 11 .any (Rows.indexFromsSpec.pre6 enc Try.prog Try.f11 Rows.indexFromsRow.domain false) (Rows.indexFromsSpec.post enc Try.prog Try.f11 false true false false) := by
  refine returnsInHanded_of_change_sized (C := Try.checked) own started (by kernel_rfl) Try.func11
    (ChangeSpec.witness6 (enc := enc) (C := Try.checked) false ⟨#[], #[.agg #[.int .i64 0, .slice none 0 0, .slice none 0 0, .slice none 0 0, .string ByteArray.empty]], []⟩ 8 (by kernel_rfl) (by kernel_rfl) (by kernel_rfl) (by kernel_rfl)) ?_
  intro W base args ds gs before hval0 hW hcnd hsz0 _
  have hsz : (DataW.weightsEach Try.prog (Try.f11.params.toList ++ Rows.indexFromsSpec.plain.varTypes Try.prog) (ds ++ gs)).all (· ≤ reachBytes) = true := hsz0
  have hval : ∀ (j : Nat) t v, Try.f11.params[j]? = some t → args[j]? = some v → Value.okWide Try.prog W .any base t v := hval0
  have hW' := hW
  obtain ⟨p_, q_, hA0, hV, rfl, hfz, hnd⟩ := hW
  have hA : DataW.TrodAll enc Try.prog W 0 (fun _ => true) true Try.f11.params.toList args.toList ds p_ := hA0
  rw [Try.params11] at hA hval hsz
  obtain ⟨v0, vs0, d0, ds0, p0, q0, hargs, rfl, rfl, h0, r0⟩ := trodAll_cons hA
  obtain ⟨rfl, rfl, rfl⟩ := trodAll_nil r0
  obtain rfl : args = #[v0] := by cases args; simp_all
  obtain ⟨rfl, rfl⟩ := trodVars_none hV
  obtain ⟨cs0, rfl, hsz0_⟩ := okWide_struct Try.underlying55 (hval 0 55 v0 rfl rfl)
  have k0 := h0
  have lt0 : ∀ x ∈ p0, x.block < W.heap.size := by obtain ⟨m, hm⟩ := k0; exact DataW.trod_lt m _ _ _ hm
  obtain ⟨p, hg0, A1, c1, A2, c2, A3, c3, rfl, hr1, hc1, hr2, hc2, hr3, hc3⟩ : ∃ p : S55, good55 p ∧ ∃ (A1 : Option Addr) (c1 : Nat) (A2 : Option Addr) (c2 : Nat) (A3 : Option Addr) (c3 : Nat), cs0 = #[.int .i64 p.f0.f0, .slice A1 p.f0.f1.length c1, .slice A2 p.f1.length c2, .slice A3 p.f2.length c3, .string p.f3] ∧ Kd.C k25 W A1 p.f0.f1.length p.f0.f1 ∧ p.f0.f1.length ≤ c1 ∧ Kd.C k25 W A2 p.f1.length p.f1 ∧ p.f1.length ≤ c2 ∧ Kd.C (Kd.int .i64) W A3 p.f2.length p.f2 ∧ p.f2.length ≤ c3 := by
    obtain ⟨fuel, hf⟩ := h0
    obtain ⟨x, hK, hg⟩ := rd55.rd enc W fuel _ _ _ hf (fun m hm => of_decide_eq_true (List.all_eq_true.1 hsz m (DataW.weights_mem_each (j := 0) rfl rfl m hm)))
    obtain ⟨A1, c1, A2, c2, A3, c3, hcs, hr1, hc1, hr2, hc2, hr3, hc3⟩ := openK55 hK
    refine ⟨x, hg, A1, c1, A2, c2, A3, c3, ?_, hr1, hc1, hr2, hc2, hr3, hc3⟩
    have e_ := congrArg List.toArray hcs
    simpa [Value.cells] using e_
  clear hA0 hval0 hsz0 hsz
  obtain ⟨k, h⟩ := purely p hg0
  refine (fairwaylaw12_IndexFroms.calls k p.f0.f0 A1 c1 p.f0.f1 A2 c2 p.f1 A3 c3 p.f2 p.f3 true W hr1 hc1 hr2 hc2 hr3 hc3 h).mono fun e W' ⟨he, bel0⟩ => ?_
  have bel : Below W.heap.size W W' := bel0
  subst he
  exact ⟨_, rfl, _, _, _, [], _, [], hW', trodAll_mk1 (shut_bool Try.underlying4 _), (trodAll_cons_mk (Below.trod laidOut (by kernel_rfl) (of_decide_eq_true (by kernel_rfl)) k0 bel lt0) trodAll_mk0), rfl, bel.frame _, fun h => by cases h⟩
theorem over : Rows.indexFromsRow.holds Try.pinned (OpenSpec.ofChange Rows.indexFromsSpec) :=
  OpenClaim.holds_of_wide 11 Try.f11 rfl rfl rfl rfl rfl rfl rfl ⟨rfl, rfl, rfl, rfl, rfl⟩ rfl rfl rfl rfl rfl (by kernel_rfl) Try.func11 (by kernel_rfl)
    (of_decide_eq_true (by kernel_rfl)) (by unfold Func.isWrapper; first | (rw [if_pos (by decide +kernel)]; kernel_rfl) | (rw [if_neg (by decide +kernel)]; exact ⟨rfl, rfl⟩))
    (fun os started H enc _ => lifted os started H enc)
theorem proved : Rows.IndexFromsSaid := over
#print axioms proved
end Go.Proofs.Ytmabdfdmccbfnaa.indexFroms
namespace Go.Proofs.Ytmabdfdmccbfnaa
theorem indexFroms_holds : Rows.IndexFromsSaid := indexFroms.proved
end Go.Proofs.Ytmabdfdmccbfnaa

