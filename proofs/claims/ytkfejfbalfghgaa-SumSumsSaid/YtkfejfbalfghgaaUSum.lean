/- The check sum of bytes as a run over 32 bits: what sum.Sum and the page's Sum compute, and what the run is worth. -/
import Derived.Test.YtkfejfbalfghgaaPx1
import Derived.Test.YtkfejfbalfghgaaPx2
namespace Go.Proofs.Ytkfejfbalfghgaa.USum
open Go Go.RowKit Go.Proofs.YtkfejfbalfghgaaW.PrintWords Go.Proofs.YtkfejfbalfghgaaW.PrintLast
set_option linter.unusedVariables false
theorem ofI (a : BitVec 32) : BitVec.ofInt (IntKind.bits .u32) (a.toNat : Int) = a := by
  show BitVec.ofInt 32 _ = a
  rw [BitVec.ofInt_natCast, BitVec.ofNat_toNat, BitVec.setWidth_eq]
theorem wrapI (a : BitVec 32) : IntKind.wrap .u32 (a.toNat : Int) = a.toNat := by
  have := a.isLt
  simp [IntKind.wrap, IntKind.bits, IntKind.signed]
  omega
theorem bits_xor (a b : BitVec 32) : Go.bits .xor .u32 (a.toNat : Int) (b.toNat : Int) = ((a ^^^ b).toNat : Int) := by
  unfold Go.bits
  simp only [ofI]
  exact wrapI _
theorem bits_and (a b : BitVec 32) : Go.bits .and .u32 (a.toNat : Int) (b.toNat : Int) = ((a &&& b).toNat : Int) := by
  unfold Go.bits
  simp only [ofI]
  exact wrapI _
theorem half (a : BitVec 32) : (a.toNat : Int) / (2 : Int) = ((a >>> 1).toNat : Int) := by
  rw [BitVec.toNat_ushiftRight, Nat.shiftRight_eq_div_pow]; rfl
theorem low (a : BitVec 32) : a &&& 1#32 = 0#32 ∨ a &&& 1#32 = 1#32 := by
  have : (a &&& 1#32).toNat = a.toNat % 2 := by simp [BitVec.toNat_and, Nat.and_one_is_mod]
  rcases Nat.mod_two_eq_zero_or_one a.toNat with h | h
  · left; apply BitVec.eq_of_toNat_eq; rw [this, h]; rfl
  · right; apply BitVec.eq_of_toNat_eq; rw [this, h]; rfl
def cstep (s : BitVec 32) : BitVec 32 := if s &&& 1#32 = 1#32 then (s >>> 1) ^^^ 2197175160#32 else s >>> 1
theorem pstep (s : BitVec 32) : Go.bits .xor .u32 ((s.toNat : Int) / 2) (Go.bits .and .u32 2197175160 ((-(Go.bits .and .u32 (s.toNat : Int) 1)) % 4294967296)) = ((cstep s).toNat : Int) := by
  have e1 : (1 : Int) = ((1#32 : BitVec 32).toNat : Int) := rfl
  have e2 : (2197175160 : Int) = ((2197175160#32 : BitVec 32).toNat : Int) := rfl
  have hb : Go.bits .and .u32 (s.toNat : Int) 1 = ((s &&& 1#32).toNat : Int) := bits_and s 1#32
  rw [hb, half]
  unfold cstep
  rcases low s with h | h
  · rw [h, if_neg (by decide)]
    have : Go.bits .and .u32 2197175160 ((-(((0#32 : BitVec 32).toNat : Nat) : Int)) % 4294967296) = ((0#32 : BitVec 32).toNat : Int) := bits_and 2197175160#32 0#32
    rw [this, bits_xor]
    simp
  · rw [h, if_pos rfl]
    have : Go.bits .and .u32 2197175160 ((-(((1#32 : BitVec 32).toNat : Nat) : Int)) % 4294967296) = ((2197175160#32 : BitVec 32).toNat : Int) := bits_and 2197175160#32 4294967295#32
    rw [this, bits_xor]
theorem rstep1 (s : BitVec 32) (h : Go.bits .and .u32 (s.toNat : Int) 1 = 1) : Go.bits .xor .u32 ((s.toNat : Int) / 2) 2197175160 = ((cstep s).toNat : Int) := by
  have hb : Go.bits .and .u32 (s.toNat : Int) 1 = ((s &&& 1#32).toNat : Int) := bits_and s 1#32
  rw [hb] at h
  rw [half, show (2197175160 : Int) = ((2197175160#32 : BitVec 32).toNat : Int) from rfl, bits_xor]
  unfold cstep
  rcases low s with h' | h'
  · rw [h'] at h; exact absurd h (by decide)
  · rw [if_pos h']
theorem rstep0 (s : BitVec 32) (h : ¬ Go.bits .and .u32 (s.toNat : Int) 1 = 1) : (s.toNat : Int) / 2 = ((cstep s).toNat : Int) := by
  have hb : Go.bits .and .u32 (s.toNat : Int) 1 = ((s &&& 1#32).toNat : Int) := bits_and s 1#32
  rw [hb] at h
  rw [half]
  unfold cstep
  rcases low s with h' | h'
  · rw [if_neg (by rw [h']; decide)]
  · rw [h'] at h; exact absurd rfl h

theorem wrap_one {x : Int} (h0 : 0 ≤ x) (h1 : x < 9223372036854775807) : wrap64 (x + 1) = x + 1 := by
  unfold wrap64; omega
def bstep (s : BitVec 32) (b : UInt8) : BitVec 32 := cstep (cstep (cstep (cstep (cstep (cstep (cstep (cstep (s ^^^ BitVec.ofNat 32 b.toNat))))))))
def run (s : BitVec 32) (l : List UInt8) : BitVec 32 := l.foldl bstep s
theorem bt_get (s : ByteArray) (i : Nat) (h : i < s.size) : bt s i = ((s.data.toList[i]'(by simpa using h)).toNat : Int) := by
  have := bt_at s i (by simpa using h)
  rw [← this]; simp; rfl
theorem bt_u32 (b : UInt8) : (b.toNat : Int) % 4294967296 = ((BitVec.ofNat 32 b.toNat).toNat : Int) := by
  have := b.toNat_lt
  rw [BitVec.toNat_ofNat]; omega
theorem not_eq (s : BitVec 32) : Go.bits .xor .u32 4294967295 (s.toNat : Int) = ((~~~s).toNat : Int) := by
  rw [show (4294967295 : Int) = ((4294967295#32 : BitVec 32).toNat : Int) from rfl, bits_xor]
  have : (4294967295#32 : BitVec 32) = BitVec.allOnes 32 := by decide
  rw [this, BitVec.allOnes_xor]
section
open Go.Proofs.Ytkfejfbalfghgaa.P
/-- The eight rounds over a byte. -/
theorem l1_ev (x1 : ByteArray) (n i : Int) (r : Int) (s : BitVec 32)
    (h : Ev (fun k => sum_Sum.l0 k ((cstep (cstep (cstep (cstep (cstep (cstep (cstep (cstep s)))))))).toNat) x1 n (wrap64 (i + 1))) r) :
    Ev (fun k => sum_Sum.l1 k (s.toNat) x1 n i 0) r := by
  have one : ∀ (j : Int) (s : BitVec 32), 0 ≤ j → j < 8 → Ev (fun k => sum_Sum.l1 k ((cstep s).toNat) x1 n i (j + 1)) r → Ev (fun k => sum_Sum.l1 k (s.toNat) x1 n i j) r := by
    intro j s h0 h1 hh
    refine Ev.step (f := fun k => sum_Sum.l1 k ((cstep s).toNat) x1 n i (j + 1)) (fun k => ?_) hh
    simp only [sum_Sum.l1]
    rw [if_pos (by omega), pstep, wrap_one h0 (by omega)]
  refine one 0 _ (by omega) (by omega) (one 1 _ (by omega) (by omega) (one 2 _ (by omega) (by omega) (one 3 _ (by omega) (by omega) (one 4 _ (by omega) (by omega) (one 5 _ (by omega) (by omega) (one 6 _ (by omega) (by omega) (one 7 _ (by omega) (by omega) ?_)))))))
  refine Ev.step (fun k => ?_) h
  simp only [sum_Sum.l1]
  rw [if_neg (by omega)]
theorem l0_ev (x1 : ByteArray) (hx : x1.size ≤ 140737488351232) : ∀ (d i : Nat) (s : BitVec 32), x1.size = i + d →
    Ev (fun k => sum_Sum.l0 k (s.toNat) x1 (x1.size : Int) i) ((~~~ (run s (x1.data.toList.drop i))).toNat : Int)
  | 0, i, s, h => by
    refine Ev.step (f := fun _ => some _) (fun k => ?_) (Ev.now _)
    simp only [sum_Sum.l0]
    rw [if_neg (by omega), not_eq, List.drop_eq_nil_of_le (by simp; omega)]
    rfl
  | d + 1, i, s, h => by
    have hi : i < x1.size := by omega
    have ih := l0_ev x1 hx d (i + 1) (bstep s (x1.data.toList[i]'(by simpa using hi))) (by omega)
    refine Ev.step (f := fun k => sum_Sum.l1 k ((s ^^^ BitVec.ofNat 32 (x1.data.toList[i]'(by simpa using hi)).toNat).toNat) x1 (x1.size : Int) i 0) (fun k => ?_) (l1_ev x1 _ _ _ _ ?_)
    · simp only [sum_Sum.l0]
      rw [if_pos (by omega), if_pos (by omega), if_pos (by omega), bt_get x1 i hi, bt_u32, bits_xor]
    · rw [wrap_one (by omega) (by omega), List.drop_eq_getElem_cons (by simpa using hi)]
      exact ih
theorem sum_ev (s : BitVec 32) (x1 : ByteArray) (hx : x1.size ≤ 140737488351232) : Ev (fun k => sum_Sum.f k (s.toNat) x1) ((~~~ (run (~~~ s) x1.data.toList)).toNat : Int) := by
  unfold sum_Sum.f
  rw [not_eq]
  exact l0_ev x1 hx x1.size 0 (~~~s) (by omega)
/-- The eight rounds over a byte. -/
theorem rl1_ev (x1 : ByteArray) (i : Int) (r : Int) (s : BitVec 32)
    (h : Ev (fun k => fairwayref1_Sum.l0 k ((cstep (cstep (cstep (cstep (cstep (cstep (cstep (cstep s)))))))).toNat) x1 (wrap64 (i + 1))) r) :
    Ev (fun k => fairwayref1_Sum.l1 k (s.toNat) x1 i 0) r := by
  have one : ∀ (j : Int) (s : BitVec 32), 0 ≤ j → j < 8 → Ev (fun k => fairwayref1_Sum.l1 k ((cstep s).toNat) x1 i (j + 1)) r → Ev (fun k => fairwayref1_Sum.l1 k (s.toNat) x1 i j) r := by
    intro j s h0 h1 hh
    refine Ev.step (f := fun k => fairwayref1_Sum.l1 k ((cstep s).toNat) x1 i (j + 1)) (fun k => ?_) hh
    simp only [fairwayref1_Sum.l1]
    by_cases hb : Go.bits .and .u32 (s.toNat : Int) 1 = 1
    · rw [if_pos (by omega), if_pos hb, rstep1 s hb, wrap_one h0 (by omega)]
    · rw [if_pos (by omega), if_neg hb, rstep0 s hb, wrap_one h0 (by omega)]
  refine one 0 _ (by omega) (by omega) (one 1 _ (by omega) (by omega) (one 2 _ (by omega) (by omega) (one 3 _ (by omega) (by omega) (one 4 _ (by omega) (by omega) (one 5 _ (by omega) (by omega) (one 6 _ (by omega) (by omega) (one 7 _ (by omega) (by omega) ?_)))))))
  refine Ev.step (fun k => ?_) h
  simp only [fairwayref1_Sum.l1]
  rw [if_neg (by omega)]
theorem rl0_ev (x1 : ByteArray) (hx : x1.size ≤ 140737488351232) : ∀ (d i : Nat) (s : BitVec 32), x1.size = i + d →
    Ev (fun k => fairwayref1_Sum.l0 k (s.toNat) x1 i) ((~~~ (run s (x1.data.toList.drop i))).toNat : Int)
  | 0, i, s, h => by
    refine Ev.step (f := fun _ => some _) (fun k => ?_) (Ev.now _)
    simp only [fairwayref1_Sum.l0]
    rw [if_neg (by omega), not_eq, List.drop_eq_nil_of_le (by simp; omega)]
    rfl
  | d + 1, i, s, h => by
    have hi : i < x1.size := by omega
    have ih := rl0_ev x1 hx d (i + 1) (bstep s (x1.data.toList[i]'(by simpa using hi))) (by omega)
    refine Ev.step (f := fun k => fairwayref1_Sum.l1 k ((s ^^^ BitVec.ofNat 32 (x1.data.toList[i]'(by simpa using hi)).toNat).toNat) x1 i 0) (fun k => ?_) (rl1_ev x1 _ _ _ ?_)
    · simp only [fairwayref1_Sum.l0]
      rw [if_pos (by omega), if_pos (by omega), bt_get x1 i hi, bt_u32, bits_xor]
    · rw [wrap_one (by omega) (by omega), List.drop_eq_getElem_cons (by simpa using hi)]
      exact ih
theorem sumref_ev (s : BitVec 32) (x1 : ByteArray) (hx : x1.size ≤ 140737488351232) : Ev (fun k => fairwayref1_Sum.f k (s.toNat) x1) ((~~~ (run (~~~ s) x1.data.toList)).toNat : Int) := by
  unfold fairwayref1_Sum.f
  rw [not_eq]
  exact rl0_ev x1 hx x1.size 0 (~~~s) (by omega)
/-- A number of the kind u32 is a word's. -/
theorem of_wf {n : Int} (h : (Lit.int .u32 n).wf = true) : ∃ s : BitVec 32, n = (s.toNat : Int) := by
  simp [Lit.wf, IntKind.min, IntKind.max, IntKind.signed, IntKind.bits] at h
  refine ⟨BitVec.ofNat 32 n.toNat, ?_⟩
  rw [BitVec.toNat_ofNat]
  omega
end
end Go.Proofs.Ytkfejfbalfghgaa.USum
