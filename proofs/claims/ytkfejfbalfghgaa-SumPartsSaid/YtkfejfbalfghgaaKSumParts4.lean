/- SumParts: for every input of the row the law returns true, and the input reads afterwards as before. Conditions: none beside the row's own. -/
import Derived.Test.YtkfejfbalfghgaaProg
import Derived.Below
import Derived.Deep.Draws
import Derived.Deep.AppendLies
import Derived.Maps.AppendAt
import Derived.OwnWalk
import Derived.Laws.BytesArg
import Derived.Laws.MakeOwn
import Derived.Laws.OwnMore
import Derived.Deep.OwnRows
import Derived.Tactics
import Derived.Lib.ConvBytes
import Derived.Laws.Slices
import Derived.WalkKit
import Derived.KernelRfl
import Derived.RowKit3
import Derived.Deep.LoopGhost
import Derived.Deep.QuietTactic
import Derived.BigQuiet
import Derived.WideLaws
import Derived.Deep.DeepCutAuto
import Derived.Deep.CutBlock
import Derived.Deep.RegionHeld3
import Derived.Laws.Rows
import Derived.Lib.AppendStr
import Derived.ArgAppend
import Derived.Laws.IdiomCopy
import Derived.OrdersHeld
import Derived.Laws.BitsLemmas
import Derived.RowKit
import Derived.WalkSpells
import Derived.Test.YtkfejfbalfghgaaKSumParts2
import Derived.Test.YtkfejfbalfghgaaKSumParts0
import Derived.Test.YtkfejfbalfghgaaKSumParts1
import Derived.Test.YtkfejfbalfghgaaKSumParts3
import Derived.Laws.IdiomStrings
import Derived.ProofKit
import Derived.OpenShut
import Derived.SizedLaws
import Derived.Deep.Slices
import Derived.Test.YtkfejfbalfghgaaRows
import Derived.ShutString
import Derived.ChangeOld
-- written by a program of the proving session, out of the translation; Lean checks it
namespace Go.Proofs.Ytkfejfbalfghgaa.P
open Go.RowKit Go.Proofs.Ytkfejfbalfghgaa.Sq Go.Proofs.YtkfejfbalfghgaaW.PrintWords Go.Proofs.YtkfejfbalfghgaaW.PrintLast Go.Proofs.YtkfejfbalfghgaaW.PrintMore
attribute [local go_sem] max2_int min2_int max_two min_two max_three min_three max_four min_four   -- for this text's walks alone
set_option linter.unusedVariables false
set_option linter.unusedSimpArgs false



def errW : Option Int → Value
 | none => .nilIface
 | some c => .iface 0 (.int .i64 c)
theorem errW_none : errW none = .nilIface := rfl
theorem errW_some (c : Int) : errW (some c) = .iface 0 (.int .i64 c) := rfl

theorem info5 : (Try.prog.info? 5).map (fun i => (i.zero, i.size, i.bytes)) = some (some (.int .u8 0), 1, 1) := by kernel_rfl
-- the values' own types
/-! #### struct type 25 -/
structure S25 where
 f0 : Int
 f1 : ByteArray
 f2 : Int
def z25 : S25 := ⟨(0 : Int), (⟨#[]⟩ : ByteArray), (0 : Int)⟩
def k25 : Kd S25 := Kd.iso (Kd.pair (Kd.int .u32) (Kd.pair Kd.string (Kd.int .i64))) (fun x : S25 => (x.f0, x.f1, x.f2))
theorem k25_open {w : World} {x : S25} {cs : List Value} (h : k25.K w x cs) : cs = [.int .u32 x.f0, .string x.f1, .int .i64 x.f2] := by
 obtain ⟨_, _, rfl, rfl, ⟨_, _, rfl, rfl, rfl⟩⟩ := h
 exact rfl
theorem k25_openM {w : World} {base : Nat} {ok : Nat → Prop} {x : S25} {cs : List Value} (h : k25.M w base ok x cs) : cs = [.int .u32 x.f0, .string x.f1, .int .i64 x.f2] := by
 obtain ⟨_, _, rfl, rfl, ⟨_, _, rfl, rfl, rfl⟩⟩ := h
 exact rfl
theorem k25_mk (w : World) (x : S25)  : k25.K w x [.int .u32 x.f0, .string x.f1, .int .i64 x.f2] := ⟨[.int .u32 x.f0], [.string x.f1, .int .i64 x.f2], rfl, rfl, ⟨[.string x.f1], [.int .i64 x.f2], rfl, rfl, rfl⟩⟩
theorem k25_mkM (w : World) (base : Nat) (ok : Nat → Prop) (x : S25)  : k25.M w base ok x [.int .u32 x.f0, .string x.f1, .int .i64 x.f2] := ⟨[.int .u32 x.f0], [.string x.f1, .int .i64 x.f2], rfl, rfl, ⟨[.string x.f1], [.int .i64 x.f2], rfl, rfl, rfl⟩⟩
def rd_T25 (xs : List S25) (i : Int) : S25 := xs.getD i.toNat z25
theorem at_T25 {w : World} {A : Option Addr} {n : Nat} {xs : List S25} (h : Kd.C k25 w A n xs) (i : Int) (h0 : 0 ≤ i) (h1 : i < n) : ∃ ad , A = some ad ∧ w.cell? (ad.add (i.toNat * 3)) = some (.int .u32 (rd_T25 xs i).f0) ∧ w.cell? ⟨(ad.add (i.toNat * 3)).block, (ad.add (i.toNat * 3)).off + 1, none⟩ = some (.string (rd_T25 xs i).f1) ∧ w.cell? ⟨(ad.add (i.toNat * 3)).block, (ad.add (i.toNat * 3)).off + 2, none⟩ = some (.int .i64 (rd_T25 xs i).f2) := by
 obtain ⟨ad, c, e, _, hK, hc0⟩ := Kd.C_get h z25 i h0 h1
 have hc : ∀ j u, c[j]? = some u → w.cell? (ad.add (i.toNat * 3 + j)) = some u := hc0
 obtain rfl := k25_open hK
 exact ⟨ad, e, hc 0 _ rfl, by rw [← add_field _ _ 1 (by omega)]; exact hc 1 _ rfl, by rw [← add_field _ _ 2 (by omega)]; exact hc 2 _ rfl⟩

end Go.Proofs.Ytkfejfbalfghgaa.P

-- written by a program of the proving session, out of the translation; Lean checks it
namespace Go.Proofs.Ytkfejfbalfghgaa.P
open Go.RowKit Go.Proofs.Ytkfejfbalfghgaa.Sq Go.Proofs.YtkfejfbalfghgaaW.PrintWords Go.Proofs.YtkfejfbalfghgaaW.PrintLast Go.Proofs.YtkfejfbalfghgaaW.PrintMore
attribute [local go_sem] max2_int min2_int max_two min_two max_three min_three max_four min_four   -- for this text's walks alone
set_option linter.unusedVariables false
set_option linter.unusedSimpArgs false

/-! ### sum_Sum: function 5 -/
mutual
def sum_Sum.l0 : Nat → Int → ByteArray → Int → Int → Option (Int)
 | 0, _, _, _, _ => none
 | k + 1, x0, x1, x9, x10 => if x10 < x9 then (if 0 ≤ x10 then (if x10 < (x1.size : Int) then (sum_Sum.l1 k (Go.bits .xor .u32 x0 ((bt x1 x10) % 4294967296)) x1 x9 x10 0) else (none)) else (none)) else (some (Go.bits .xor .u32 4294967295 x0))
def sum_Sum.l1 : Nat → Int → ByteArray → Int → Int → Int → Option (Int)
 | 0, _, _, _, _, _ => none
 | k + 1, x0, x1, x9, x10, x19 => if x19 < 8 then (sum_Sum.l1 k (Go.bits .xor .u32 (x0 / 2) (Go.bits .and .u32 2197175160 ((-(Go.bits .and .u32 x0 1)) % 4294967296))) x1 x9 x10 (wrap64 (x19 + 1))) else (sum_Sum.l0 k x0 x1 x9 (wrap64 (x10 + 1)))
end
def sum_Sum.f (k : Nat) (a0 : Int) (a1 : ByteArray) : Option (Int) := sum_Sum.l0 k (Go.bits .xor .u32 4294967295 a0) a1 (a1.size : Int) 0
theorem sum_Sum.mono_l : ∀ k, (∀ y0 y1 y2 y3, LeO (sum_Sum.l0 k y0 y1 y2 y3) (sum_Sum.l0 (k + 1) y0 y1 y2 y3)) ∧ (∀ y0 y1 y2 y3 y4, LeO (sum_Sum.l1 k y0 y1 y2 y3 y4) (sum_Sum.l1 (k + 1) y0 y1 y2 y3 y4))
 | 0 => ⟨fun _ _ _ _ r h => by simp [sum_Sum.l0] at h, fun _ _ _ _ _ r h => by simp [sum_Sum.l1] at h⟩
 | k + 1 => by
  obtain ⟨ih0, ih1⟩ := sum_Sum.mono_l k
  refine ⟨?_, ?_⟩
  ·intro y0 y1 y2 y3
   unfold sum_Sum.l0
   repeat' first
   | (with_reducible exact ih0 _ _ _ _)
   | (with_reducible exact ih1 _ _ _ _ _)
   | (with_reducible exact LeO.refl _)
   | (with_reducible exact LeO.none _)
   | (with_reducible refine LeO.ite ?_ ?_)
   | (with_reducible refine LeO.bind ?_ (fun _ => ?_))
   | exact ih0 _ _ _ _
   | exact ih1 _ _ _ _ _
   | exact LeO.none _
   | refine LeO.ite ?_ ?_
   | refine LeO.bind ?_ (fun _ => ?_)
  ·intro y0 y1 y2 y3 y4
   unfold sum_Sum.l1
   repeat' first
   | (with_reducible exact ih0 _ _ _ _)
   | (with_reducible exact ih1 _ _ _ _ _)
   | (with_reducible exact LeO.refl _)
   | (with_reducible exact LeO.none _)
   | (with_reducible refine LeO.ite ?_ ?_)
   | (with_reducible refine LeO.bind ?_ (fun _ => ?_))
   | exact ih0 _ _ _ _
   | exact ih1 _ _ _ _ _
   | exact LeO.none _
   | refine LeO.ite ?_ ?_
   | refine LeO.bind ?_ (fun _ => ?_)
theorem sum_Sum.mono : ∀ a0 a1 k, LeO (sum_Sum.f k a0 a1) (sum_Sum.f (k + 1) a0 a1) := by
 intro a0 a1 k
 obtain ⟨ih0, ih1⟩ := sum_Sum.mono_l k
 unfold sum_Sum.f
 repeat' first
  | (with_reducible exact ih0 _ _ _ _)
  | (with_reducible exact ih1 _ _ _ _ _)
  | (with_reducible exact LeO.refl _)
  | (with_reducible exact LeO.none _)
  | (with_reducible refine LeO.ite ?_ ?_)
  | (with_reducible refine LeO.bind ?_ (fun _ => ?_))
  | exact ih0 _ _ _ _
  | exact ih1 _ _ _ _ _
  | exact LeO.none _
  | refine LeO.ite ?_ ?_
  | refine LeO.bind ?_ (fun _ => ?_)
set_option maxHeartbeats 8000000 in
set_option maxRecDepth 100000 in
theorem sum_Sum.calls (k : Nat) (a0 : Int) (a1 : ByteArray) (r : Int) (w : World) (h : sum_Sum.f k a0 a1 = some r) :
 Calls Try.prog 5 #[.int .u32 a0, .string a1] w fun e w' => e = .returned (.int .u32 r) ∧ Drawn0 w w' := by
 have H : (sum_Sum.l0 k (Go.bits .xor .u32 4294967295 a0) a1 (a1.size : Int) 0) = some r := h
 clear h
 have H' := Aside0.mk H
 clear H
 go_enter Try.func5, Try.ntmps5
 go_wp2
 go_loopg [0, 10] k (fun kq v0 v10 w' => ∃ (x0_1 : Int) (x10_1 : Int), v0 = .int .u32 x0_1 ∧ v10 = .int .i64 x10_1 ∧ Aside0 (sum_Sum.l0 kq x0_1 a1 (a1.size : Int) x10_1 = some r) ∧ Aside0 (kq ≤ k) ∧ Drawn0 w w')
 case atStart => exact ⟨(Go.bits .xor .u32 4294967295 a0), (0), ap, ap, H', ⟨Nat.le_refl _⟩, dr⟩
 case round =>
  clear H'
  try clear p2
  obtain ⟨x0_1, x10_1, rfl, rfl, HA, HK1, ⟨m1, rfl⟩⟩ := hrel
  cases gk with
  | zero => exact absurd HA.out (by simp [sum_Sum.l0])
  | succ k1 =>
   have H := HA.out
   clear HA
   simp only [sum_Sum.l0] at H
   by_cases c3 : x10_1 < (a1.size : Int)
   ·rw [if_pos c3] at H
    have c3b0 : decide (x10_1 < (a1.size : Int)) = true := decide_eq_true c3
    clear c3
    by_cases c4 : 0 ≤ x10_1
    ·rw [if_pos c4] at H
     have c4b0 : decide (0 ≤ x10_1) = true := decide_eq_true c4
     clear c4
     by_cases c5 : x10_1 < (a1.size : Int)
     ·rw [if_pos c5] at H
      have c5b0 : decide (x10_1 < (a1.size : Int)) = true := decide_eq_true c5
      clear c5
      have H' := Aside0.mk H
      clear H
      have p6 : 0 ≤ (x10_1 : Int) := od
      have q6 : x10_1 < (a1.size : Int) := od
      have hx6 := bt_at a1 x10_1
      replace p6 := eq_true p6
      replace q6 := eq_true q6
      go_wp2
      go_loopg [0, 19] k1 (fun kq v0 v19 w' => ∃ (x0_2 : Int) (x19_2 : Int), v0 = .int .u32 x0_2 ∧ v19 = .int .i64 x19_2 ∧ Aside0 (sum_Sum.l1 kq x0_2 a1 (a1.size : Int) x10_1 x19_2 = some r) ∧ Aside0 (kq ≤ k1) ∧ Drawn0 w w')
      case atStart => exact ⟨(Go.bits .xor .u32 x0_1 ((bt a1 x10_1) % 4294967296)), (0), ap, ap, H', ⟨Nat.le_refl _⟩, dr⟩
      case round =>
       clear H'
       try clear p2
       try clear c3
       try clear c3b0
       try clear c4
       try clear c4b0
       try clear c5
       try clear c5b0
       try clear p6
       try clear q6
       try clear hx6
       try clear p2
       try clear p6
       try clear q6
       obtain ⟨x0_2, x19_2, rfl, rfl, HA, HK2, ⟨m2, rfl⟩⟩ := hrel
       cases gk with
       | zero => exact absurd HA.out (by simp [sum_Sum.l1])
       | succ k2 =>
        have H := HA.out
        clear HA
        simp only [sum_Sum.l1] at H
        by_cases c7 : x19_2 < 8
        ·rw [if_pos c7] at H
         have c7b0 : decide (x19_2 < 8) = true := decide_eq_true c7
         clear c7
         have H' := Aside0.mk H
         clear H
         go_wp2
         go_roundg k2
         case measure => have := HK1.out; have := HK2.out; omega
         case rel => exact ⟨(Go.bits .xor .u32 (x0_2 / 2) (Go.bits .and .u32 2197175160 ((-(Go.bits .and .u32 x0_2 1)) % 4294967296))), (wrap64 (x19_2 + 1)), ap, ap, H', ⟨by have := HK1.out; have := HK2.out; omega⟩, dr⟩
        ·rw [if_neg c7] at H
         have c7b0 : decide (x19_2 < 8) = false := decide_eq_false c7
         clear c7
         have H' := Aside0.mk H
         clear H
         go_wp2
         go_roundg k2
         case measure => have := HK1.out; have := HK2.out; omega
         case rel => exact ⟨(x0_2), (wrap64 (x10_1 + 1)), ap, ap, H', ⟨by have := HK1.out; have := HK2.out; omega⟩, dr⟩
     ·rw [if_neg c5] at H
      exact absurd H (by simp)
    ·rw [if_neg c4] at H
     exact absurd H (by simp)
   ·rw [if_neg c3] at H
    have c3b0 : decide (x10_1 < (a1.size : Int)) = false := decide_eq_false c3
    clear c3
    obtain rfl := Option.some.inj H
    go_wp2
    go_ret
    exact ⟨ap, dr⟩

end Go.Proofs.Ytkfejfbalfghgaa.P

-- written by a program of the proving session, out of the translation; Lean checks it
namespace Go.Proofs.Ytkfejfbalfghgaa.P
open Go.RowKit Go.Proofs.Ytkfejfbalfghgaa.Sq Go.Proofs.YtkfejfbalfghgaaW.PrintWords Go.Proofs.YtkfejfbalfghgaaW.PrintLast Go.Proofs.YtkfejfbalfghgaaW.PrintMore
attribute [local go_sem] max2_int min2_int max_two min_two max_three min_three max_four min_four   -- for this text's walks alone
set_option linter.unusedVariables false
set_option linter.unusedSimpArgs false

/-! ### fairwaylaw3_wakes: function 7 -/
def fairwaylaw3_wakes.f (k : Nat)  : Option (Bool) := (sum_Sum.f k 0 (⟨#[49, 50, 51, 52, 53, 54, 55, 56, 57]⟩ : ByteArray)).bind fun t101 => (some (t101 == 3808858755))
theorem fairwaylaw3_wakes.mono : ∀ k, LeO (fairwaylaw3_wakes.f k ) (fairwaylaw3_wakes.f (k + 1) ) := by
 intro  k
 unfold fairwaylaw3_wakes.f
 repeat' first
  | (with_reducible exact sum_Sum.mono _ _ _)
  | (with_reducible exact LeO.refl _)
  | (with_reducible exact LeO.none _)
  | (with_reducible refine LeO.ite ?_ ?_)
  | (with_reducible refine LeO.bind ?_ (fun _ => ?_))
  | exact sum_Sum.mono _ _ _
  | exact LeO.none _
  | refine LeO.ite ?_ ?_
  | refine LeO.bind ?_ (fun _ => ?_)
set_option maxHeartbeats 8000000 in
set_option maxRecDepth 100000 in
theorem fairwaylaw3_wakes.calls (k : Nat)  (r : Bool) (w : World) (h : fairwaylaw3_wakes.f k  = some r) :
 Calls Try.prog 7 #[] w fun e w' => e = .returned (.bool r) ∧ Drawn0 w w' := by
 have H : ((sum_Sum.f k 0 (⟨#[49, 50, 51, 52, 53, 54, 55, 56, 57]⟩ : ByteArray)).bind fun t101 => (some (t101 == 3808858755))) = some r := h
 clear h
 replace H := Option.bind_eq_some_iff.mp H
 obtain ⟨t101, A10, H⟩ := H
 replace H : (some (t101 == 3808858755)) = some r := H
 have A1 := Aside0.mk A10
 clear A10
 obtain rfl := Option.some.inj H
 go_enter Try.func7, Try.ntmps7
 go_wp2_with (first | ((with_reducible refine gate_callee (f := 5) rfl ?_); refine goesL_ (some 1) rfl rfl Try.func5 (by kernel_rfl) rfl #[.int .u32 0, .string (⟨#[49, 50, 51, 52, 53, 54, 55, 56, 57]⟩ : ByteArray)] rfl aa ?_; (with_reducible refine (sum_Sum.calls k 0 (⟨#[49, 50, 51, 52, 53, 54, 55, 56, 57]⟩ : ByteArray) t101 _ A1.out).mono ?_); rintro e w' ⟨rfl, ⟨nd, rfl⟩⟩; refine ⟨_, rfl, ?_⟩))
 go_ret
 exact ⟨ap, dr⟩

end Go.Proofs.Ytkfejfbalfghgaa.P

-- written by a program of the proving session, out of the translation; Lean checks it
namespace Go.Proofs.Ytkfejfbalfghgaa.P
open Go.RowKit Go.Proofs.Ytkfejfbalfghgaa.Sq Go.Proofs.YtkfejfbalfghgaaW.PrintWords Go.Proofs.YtkfejfbalfghgaaW.PrintLast Go.Proofs.YtkfejfbalfghgaaW.PrintMore
attribute [local go_sem] max2_int min2_int max_two min_two max_three min_three max_four min_four   -- for this text's walks alone
set_option linter.unusedVariables false
set_option linter.unusedSimpArgs false

/-! ### fairwaylaw0_Within: function 8 -/
def fairwaylaw0_Within.f (a0 : Int) (a1 : Int) : Option (Int) := if (IntKind.u64.wrap (a1)) = 0 then (none) else (some (wrap64 (Int.tmod (IntKind.u64.wrap (a0)) (IntKind.u64.wrap (a1)))))
set_option maxHeartbeats 8000000 in
set_option maxRecDepth 100000 in
theorem fairwaylaw0_Within.calls (a0 : Int) (a1 : Int) (r : Int) (w : World) (h : fairwaylaw0_Within.f a0 a1 = some r) :
 Calls Try.prog 8 #[.int .i64 a0, .int .i64 a1] w fun e w' => e = .returned (.int .i64 r) ∧ Drawn0 w w' := by
 have H : (if (IntKind.u64.wrap (a1)) = 0 then (none) else (some (wrap64 (Int.tmod (IntKind.u64.wrap (a0)) (IntKind.u64.wrap (a1)))))) = some r := h
 clear h
 by_cases c3 : (IntKind.u64.wrap (a1)) = 0
 ·rw [if_pos c3] at H
  exact absurd H (by simp)
 ·rw [if_neg c3] at H
  have c3b0 : ((IntKind.u64.wrap (a1)) == 0) = false := beq_eq_false_iff_ne.mpr c3
  have c3b1 : ((IntKind.u64.wrap (a1)) != 0) = true := bne_iff_ne.mpr c3
  obtain rfl := Option.some.inj H
  go_enter Try.func8, Try.ntmps8
  go_wp2
  go_ret
  exact ⟨ap, dr⟩

end Go.Proofs.Ytkfejfbalfghgaa.P

/- Bytes that a conversion '[]byte(s)' made: a row of the call's own whose block bears a frozen range behind its elements. -/
namespace Go.Proofs.Ytkfejfbalfghgaa.Sq
open Go Go.RowKit Go.Proofs.YtkfejfbalfghgaaW.PrintWords Go.Proofs.YtkfejfbalfghgaaW.PrintLast Go.Proofs.YtkfejfbalfghgaaW.PrintMore
set_option linter.unusedVariables false
def fbytes (s : ByteArray) : List Int := s.data.toList.map (fun b => (b.toNat : Int))
theorem fbytes_length (s : ByteArray) : (fbytes s).length = s.size := by simp [fbytes]
/-- A row of bytes of the call's own; what is frozen of its block lies behind the elements. -/
def FR (e : Nat) (w : World) (base : Nat) (ok : Nat → Prop) (v : Value) (xs : List Int) : Prop :=
  (∀ k, v.ownBlock = some k → ok k) ∧ ∃ g cap cur fz, v = .slice (some ⟨g, 0, none⟩) xs.length cap ∧ base ≤ g ∧ w.heap[g]? = some (.cells cur e fz) ∧ xs.length ≤ fz.1 ∧ ∀ j : Nat, ∀ x : Int, xs[j]? = some x → cur[j]? = some (.int .u8 x)
section
variable {e base : Nat} {ok : Nat → Prop} {w w1 W : World} {v : Value} {xs : List Int}
theorem FR_step (h : FR e w base ok v xs) (hb : ∀ k, k < w.heap.size → w1.heap[k]? = w.heap[k]?) : FR e w1 base ok v xs := by
  obtain ⟨h0, g, cap, cur, fz, hv, hg, hh, hf, hx⟩ := h
  exact ⟨h0, g, cap, cur, fz, hv, hg, (hb g (Array.getElem?_eq_some_iff.1 hh).1).trans hh, hf, hx⟩
theorem FR_below (h : FR e w base ok v xs) (hb : Below w.heap.size w w1) : FR e w1 base ok v xs := FR_step h (fun k hk => hb.block k hk)
theorem FR_alloc (h : FR e w base ok v xs) (o : Obj) : FR e (w.alloc o) base ok v xs := FR_below h (below_alloc (Below.refl _ _) o)
theorem FR_drew (h : FR e w base ok v xs) : FR e w.drew base ok v xs := FR_below h (below_drew (Below.refl _ _))
theorem FR_drewN (h : FR e w base ok v xs) (m : Nat) : FR e (w.drewN m) base ok v xs := FR_below h (pw_below_drewN (Below.refl _ _) m)
theorem FR_at {m : Nat} (hq : w.drewN m = w1) (h : FR e w base ok v xs) : FR e w1 base ok v xs := by subst hq; exact FR_drewN h m
theorem FR_lower {base' : Nat} (h : FR e w base ok v xs) (hb : base' ≤ base) : FR e w base' ok v xs := by
  obtain ⟨h0, g, cap, cur, fz, hv, hg, hr⟩ := h
  exact ⟨h0, g, cap, cur, fz, hv, Nat.le_trans hb hg, hr⟩
theorem FR_mono {ok' : Nat → Prop} (h : FR e w base ok v xs) (hok : ∀ k, ok k → ok' k) : FR e w base ok' v xs := ⟨fun k hk => hok k (h.1 k hk), h.2⟩
theorem FR_lt (h : FR e w base ok v xs) : ∀ k, v.ownBlock = some k → k < w.heap.size := by
  obtain ⟨h0, g, cap, cur, fz, hv, hg, hh, hr⟩ := h
  intro k hk
  subst hv
  have : g = k := by simpa [Value.ownBlock] using hk
  subst this
  exact (Array.getElem?_eq_some_iff.1 hh).1
theorem FR_base (h : FR e w base ok v xs) : ∀ k, v.ownBlock = some k → base ≤ k := by
  obtain ⟨h0, g, cap, cur, fz, hv, hg, hh, hr⟩ := h
  intro k hk
  subst hv
  have : g = k := by simpa [Value.ownBlock] using hk
  subst this
  exact hg
theorem FR_slice (h : FR e w base ok v xs) : ∃ A c, v = .slice A xs.length c := by
  obtain ⟨h0, g, cap, cur, fz, hv, hr⟩ := h
  exact ⟨_, _, hv⟩
theorem FR_form (h : FR e w base ok v xs) (hp : 0 < xs.length) : ∃ g cap, v = .slice (some ⟨g, 0, none⟩) xs.length cap ∧ base ≤ g ∧ g < w.heap.size ∧ ∃ cells fz, w.heap[g]? = some (.cells cells e fz) := by
  obtain ⟨h0, g, cap, cur, fz, hv, hg, hh, hr⟩ := h
  exact ⟨g, cap, hv, hg, (Array.getElem?_eq_some_iff.1 hh).1, cur, fz, hh⟩
theorem FR_cells {g cap n : Nat} (h : FR e w base ok (.slice (some ⟨g, 0, none⟩) n cap) xs) (i : Nat) (hi : i < n) : w.cell? ⟨g, i, none⟩ = some (.int .u8 (rd xs i)) ∧ w.frozen? ⟨g, i, none⟩ = false := by
  obtain ⟨h0, g', cap', cur, fz, hv, hg, hh, hf, hx⟩ := h
  injection hv with h1 h2 h3
  injection h1 with h1
  injection h1 with h1
  subst h1 h2 h3
  have hr : xs[i]? = some (rd xs i) := by
    rw [List.getElem?_eq_getElem hi]
    simp [rd, List.getD_eq_getElem?_getD, List.getElem?_eq_getElem hi]
  refine ⟨?_, ?_⟩
  · have := hx i _ hr
    simp [World.cell?, hh, this]
  · obtain ⟨lo, hi'⟩ := fz
    simp only [World.frozen?, hh, Bool.and_eq_false_iff, decide_eq_false_iff_not]
    left
    simp only at hf
    omega
theorem FR_celln {g cap n : Nat} (d : Int) (h : FR e w base ok (.slice (some ⟨g, 0, none⟩) n cap) xs) (i : Int) (h0 : 0 ≤ i) (hi : i < n) : w.cell? ⟨g, i.toNat, none⟩ = some (.int .u8 (rd xs i)) ∧ w.frozen? ⟨g, i.toNat, none⟩ = false := by
  have := FR_cells h i.toNat (by omega)
  rwa [Int.toNat_of_nonneg h0] at this
theorem FR_at_ {A : Option Addr} {n c : Nat} (h : FR e w base ok (.slice A n c) xs) (i : Int) (h0 : 0 ≤ i) (hi : i < xs.length) : ∃ ad, A = some ad ∧ w.cell? (ad.add i.toNat) = some (.int .u8 (rd xs i)) := by
  obtain ⟨_, g, cap, cur, fz, hv, hr⟩ := id h
  injection hv with h1 h2 h3
  subst h1 h2 h3
  refine ⟨_, rfl, ?_⟩
  rw [add_plain]
  exact (FR_celln 0 h i h0 hi).1
theorem FR_putn {g cap n : Nat} (h : FR e w base ok (.slice (some ⟨g, 0, none⟩) n cap) xs) (i : Int) (x : Int) : FR e (w.setCell ⟨g, i.toNat, none⟩ (.int .u8 x)) base ok (.slice (some ⟨g, 0, none⟩) n cap) (xs.set i.toNat x) := by
  obtain ⟨h0, g', cap', cur, fz, hv, hg, hh, hf, hx⟩ := h
  injection hv with h1 h2 h3
  injection h1 with h1
  injection h1 with h1
  subst h1 h2 h3
  refine ⟨h0, g, cap, cur.setIfInBounds i.toNat (.int .u8 x), fz, by rw [List.length_set], hg, ?_, by rw [List.length_set]; exact hf, ?_⟩
  · simp [World.setCell, Array.getElem?_modify, hh]
  · intro j y hj
    by_cases he : i.toNat = j
    · subst he
      have hl : i.toNat < xs.length := by
        have := (List.getElem?_eq_some_iff.1 hj).1
        simpa using this
      rw [List.getElem?_set_self hl] at hj
      cases hj
      have := hx i.toNat _ (List.getElem?_eq_getElem hl)
      have hs := (Array.getElem?_eq_some_iff.1 this).1
      rw [Array.getElem?_setIfInBounds_self_of_lt hs]
    · rw [List.getElem?_set_ne he] at hj
      rw [Array.getElem?_setIfInBounds_ne he]
      exact hx j y hj
theorem FR_string {P : Program} {src dst b : TypeId} (hs : P.underlying src = some (.slice b)) (he : P.underlying b = some (.int .u8)) (hd : P.underlying dst = some .string)
    (h : FR e w base ok v xs) : (convert src dst v).run P w = .ok (.string (strOfNums xs)) w := by
  obtain ⟨_, g, cap, cur, fz, rfl, hr⟩ := id h
  refine run_convert_bytes_arg w src b hs he g 0 _ cap xs rfl (fun i hi => ?_) dst hd
  have := (FR_cells h i hi).1
  rw [Nat.zero_add, this]
  simp [rd]
end
theorem u8w (z : Int) : IntKind.u8.wrap z = z % 256 := by simp [IntKind.wrap, IntKind.bits, IntKind.signed]
theorem rf {p q : Prop} (h : q) (f : q → p := by intro h_; (with_reducible repeat (first | apply FR_alloc | apply FR_drewN | apply FR_drew)); exact h_) : p := f h
section
variable {P : Program} {ops : Array Oper} {rest : List Oper} {o : Oper} {a : Act} {Q : Exit → Act → World → Prop}
theorem FR_conv {w0 W : World} {base : Nat} (hgd : o.guard = none) {N : Tmp} (hd : o.dst = some N) (src dst e : TypeId) (x : Operand) (hop : o.op = .convert src dst x) (s : ByteArray) (hx : a.eval x = .string s)
    (hs : P.underlying src = some .string) (ht : P.underlying dst = some (.slice e)) (he : P.underlying e = some (.int .u8)) (HB : Below base w0 W) (hbase : base ≤ W.heap.size)
    (h : ∀ v1 w1, FR e w1 base (fun _ => True) v1 (fbytes s) → Below base w0 w1 → True → (∃ b, v1.ownBlock = some b ∧ W.heap.size ≤ b) → wpList P ops Q rest (a.put o.dst v1) w1) : wpList P ops Q (o :: rest) a W := by
  refine Kd.event_run hgd (v := .slice (some ⟨W.heap.size, 0, none⟩) s.size (grownCap W s.size 0 e)) (w1 := W.drew.alloc (.cells (bytesRow s (grownCap W s.size 0 e)) e ((bytesRow s (grownCap W s.size 0 e)).size, (bytesRow s (grownCap W s.size 0 e)).size + 1))) ?_ (h _ _ ⟨fun _ _ => trivial, W.heap.size, _, bytesRow s (grownCap W s.size 0 e), ((bytesRow s (grownCap W s.size 0 e)).size, (bytesRow s (grownCap W s.size 0 e)).size + 1), by rw [fbytes_length], hbase, ?_, ?_, ?_⟩ ((below_drew HB).alloc hbase _) trivial ⟨W.heap.size, by simp [Value.ownBlock], Nat.le_refl _⟩)
  · have := run_bytes_of_string (P := P) W src dst e s hs ht he
    unfold execOp
    simp only [hop, hx, Sem.run_bind, this, Result.andThen_ok, Sem.run_pure]
  · show (W.drew.heap.push _)[W.heap.size]? = _
    have : W.heap.size = W.drew.heap.size := rfl
    rw [this]
    exact Array.getElem?_push_size
  · rw [fbytes_length]
    simp [bytesRow]
  · intro j y hj
    simp only [fbytes, List.getElem?_map] at hj
    obtain ⟨b, hb, rfl⟩ := Option.map_eq_some_iff.1 hj
    have hb' : s.data[j]? = some b := by simpa using hb
    unfold bytesRow
    rw [Array.getElem?_append_left (by simpa using (Array.getElem?_eq_some_iff.1 hb').1)]
    simp [hb']
end
end Go.Proofs.Ytkfejfbalfghgaa.Sq

-- written by a program of the proving session, out of the translation; Lean checks it
namespace Go.Proofs.Ytkfejfbalfghgaa.P
open Go.RowKit Go.Proofs.Ytkfejfbalfghgaa.Sq Go.Proofs.YtkfejfbalfghgaaW.PrintWords Go.Proofs.YtkfejfbalfghgaaW.PrintLast Go.Proofs.YtkfejfbalfghgaaW.PrintMore
attribute [local go_sem] max2_int min2_int max_two min_two max_three min_three max_four min_four   -- for this text's walks alone
set_option linter.unusedVariables false
set_option linter.unusedSimpArgs false

/-! ### fairwaylaw3_SumParts: function 4 -/
mutual
def fairwaylaw3_SumParts.l0 : Nat → List (S25) → Int → Option (Bool)
 | 0, _, _ => none
 | k + 1, x0, x3 => if x3 < (x0.length : Int) then (fairwaylaw3_SumParts.j1 k x0 x3 (decide (x3 < 15))) else (fairwaylaw3_SumParts.j1 k x0 x3 false)
def fairwaylaw3_SumParts.j1 : Nat → List (S25) → Int → Bool → Option (Bool)
 | 0, _, _, _ => none
 | k + 1, x0, x3, x16 => if x16 = true then (if 0 ≤ x3 then (if x3 < (x0.length : Int) then (if (((rd_T25 x0 x3).f1).size : Int) > 3000 then (some true) else ((fairwaylaw0_Within.f ((rd_T25 x0 x3).f2) (wrap64 ((((rd_T25 x0 x3).f1).size : Int) + 1))).bind fun t113 => ((sum_Sum.f k ((rd_T25 x0 x3).f0) ((rd_T25 x0 x3).f1)).bind fun t115 => (if 0 ≤ t113 then (if t113 ≤ (((rd_T25 x0 x3).f1).size : Int) then ((sum_Sum.f k ((rd_T25 x0 x3).f0) (((rd_T25 x0 x3).f1).extract 0 (t113 : Int).toNat)).bind fun t117 => ((sum_Sum.f k t117 (((rd_T25 x0 x3).f1).extract (t113 : Int).toNat ((rd_T25 x0 x3).f1).size)).bind fun t118 => (if t118 = t115 then ((sum_Sum.f k ((rd_T25 x0 x3).f0) (⟨#[]⟩ : ByteArray)).bind fun t120 => (fairwaylaw3_SumParts.j2 k x0 x3 ((rd_T25 x0 x3).f1) t115 (t120 != ((rd_T25 x0 x3).f0)))) else (fairwaylaw3_SumParts.j2 k x0 x3 ((rd_T25 x0 x3).f1) t115 true)))) else (none)) else (none))))) else (none)) else (none)) else ((fairwaylaw3_wakes.f k).bind fun t110 => (some t110))
def fairwaylaw3_SumParts.j2 : Nat → List (S25) → Int → ByteArray → Int → Bool → Option (Bool)
 | 0, _, _, _, _, _ => none
 | k + 1, x0, x3, x4, x6, x71 => if x71 = true then (some false) else (if (x4.size : Int) = 0 then (fairwaylaw3_SumParts.l0 k x0 (wrap64 (x3 + 1))) else ((some (fbytes x4 : List Int)).bind fun y122 => (if 0 ≤ x3 then (if x3 < (x0.length : Int) then ((fairwaylaw0_Within.f ((rd_T25 x0 x3).f2) (x4.size : Int)).bind fun t126 => (if 0 ≤ t126 then (if t126 < (y122.length : Int) then ((fairwaylaw0_Within.f ((rd_T25 x0 x3).f2) 8).bind fun t129 => (if 0 ≤ t129 then ((some (y122.set (t126 : Int).toNat (Go.bits .xor .u8 (rd y122 t126) (shl .u8 1 t129)) : List Int)).bind fun y130 => ((sum_Sum.f k ((rd_T25 x0 x3).f0) (strOfNums y130)).bind fun t132 => (if t132 = x6 then (some false) else (if (wrap64 (t126 + 1)) < (x4.size : Int) then (if 0 ≤ (wrap64 (t126 + 1)) then (if (wrap64 (t126 + 1)) < (y122.length : Int) then ((sum_Sum.f k ((rd_T25 x0 x3).f0) (strOfNums (y130.set ((wrap64 (t126 + 1)) : Int).toNat (Go.bits .xor .u8 (rd y130 (wrap64 (t126 + 1))) (((rd_T25 x0 x3).f2) % 256))))).bind fun t137 => (if t137 = x6 then (some false) else (fairwaylaw3_SumParts.l0 k x0 (wrap64 (x3 + 1))))) else (none)) else (none)) else (fairwaylaw3_SumParts.l0 k x0 (wrap64 (x3 + 1))))))) else (none))) else (none)) else (none))) else (none)) else (none))))
end
def fairwaylaw3_SumParts.f (k : Nat) (l0 : List (S25)) : Option (Bool) := fairwaylaw3_SumParts.l0 k l0 0
theorem fairwaylaw3_SumParts.mono_l : ∀ k, (∀ y0 y1, LeO (fairwaylaw3_SumParts.l0 k y0 y1) (fairwaylaw3_SumParts.l0 (k + 1) y0 y1)) ∧ (∀ y0 y1 y2, LeO (fairwaylaw3_SumParts.j1 k y0 y1 y2) (fairwaylaw3_SumParts.j1 (k + 1) y0 y1 y2)) ∧ (∀ y0 y1 y2 y3 y4, LeO (fairwaylaw3_SumParts.j2 k y0 y1 y2 y3 y4) (fairwaylaw3_SumParts.j2 (k + 1) y0 y1 y2 y3 y4))
 | 0 => ⟨fun _ _ r h => by simp [fairwaylaw3_SumParts.l0] at h, fun _ _ _ r h => by simp [fairwaylaw3_SumParts.j1] at h, fun _ _ _ _ _ r h => by simp [fairwaylaw3_SumParts.j2] at h⟩
 | k + 1 => by
  obtain ⟨ih0, ih1, ih2⟩ := fairwaylaw3_SumParts.mono_l k
  refine ⟨?_, ?_, ?_⟩
  ·intro y0 y1
   unfold fairwaylaw3_SumParts.l0
   repeat' first
   | (with_reducible exact ih0 _ _)
   | (with_reducible exact ih1 _ _ _)
   | (with_reducible exact ih2 _ _ _ _ _)
   | (with_reducible exact fairwaylaw3_wakes.mono _)
   | (with_reducible exact sum_Sum.mono _ _ _)
   | (with_reducible exact LeO.refl _)
   | (with_reducible exact LeO.none _)
   | (with_reducible refine LeO.ite ?_ ?_)
   | (with_reducible refine LeO.bind ?_ (fun _ => ?_))
   | exact ih0 _ _
   | exact ih1 _ _ _
   | exact ih2 _ _ _ _ _
   | exact fairwaylaw3_wakes.mono _
   | exact sum_Sum.mono _ _ _
   | exact LeO.none _
   | refine LeO.ite ?_ ?_
   | refine LeO.bind ?_ (fun _ => ?_)
  ·intro y0 y1 y2
   unfold fairwaylaw3_SumParts.j1
   repeat' first
   | (with_reducible exact ih0 _ _)
   | (with_reducible exact ih1 _ _ _)
   | (with_reducible exact ih2 _ _ _ _ _)
   | (with_reducible exact fairwaylaw3_wakes.mono _)
   | (with_reducible exact sum_Sum.mono _ _ _)
   | (with_reducible exact LeO.refl _)
   | (with_reducible exact LeO.none _)
   | (with_reducible refine LeO.ite ?_ ?_)
   | (with_reducible refine LeO.bind ?_ (fun _ => ?_))
   | exact ih0 _ _
   | exact ih1 _ _ _
   | exact ih2 _ _ _ _ _
   | exact fairwaylaw3_wakes.mono _
   | exact sum_Sum.mono _ _ _
   | exact LeO.none _
   | refine LeO.ite ?_ ?_
   | refine LeO.bind ?_ (fun _ => ?_)
  ·intro y0 y1 y2 y3 y4
   unfold fairwaylaw3_SumParts.j2
   repeat' first
   | (with_reducible exact ih0 _ _)
   | (with_reducible exact ih1 _ _ _)
   | (with_reducible exact ih2 _ _ _ _ _)
   | (with_reducible exact fairwaylaw3_wakes.mono _)
   | (with_reducible exact sum_Sum.mono _ _ _)
   | (with_reducible exact LeO.refl _)
   | (with_reducible exact LeO.none _)
   | (with_reducible refine LeO.ite ?_ ?_)
   | (with_reducible refine LeO.bind ?_ (fun _ => ?_))
   | exact ih0 _ _
   | exact ih1 _ _ _
   | exact ih2 _ _ _ _ _
   | exact fairwaylaw3_wakes.mono _
   | exact sum_Sum.mono _ _ _
   | exact LeO.none _
   | refine LeO.ite ?_ ?_
   | refine LeO.bind ?_ (fun _ => ?_)
theorem fairwaylaw3_SumParts.mono : ∀ a0 k, LeO (fairwaylaw3_SumParts.f k a0) (fairwaylaw3_SumParts.f (k + 1) a0) := by
 intro a0 k
 obtain ⟨ih0, ih1, ih2⟩ := fairwaylaw3_SumParts.mono_l k
 unfold fairwaylaw3_SumParts.f
 repeat' first
  | (with_reducible exact ih0 _ _)
  | (with_reducible exact ih1 _ _ _)
  | (with_reducible exact ih2 _ _ _ _ _)
  | (with_reducible exact fairwaylaw3_wakes.mono _)
  | (with_reducible exact sum_Sum.mono _ _ _)
  | (with_reducible exact LeO.refl _)
  | (with_reducible exact LeO.none _)
  | (with_reducible refine LeO.ite ?_ ?_)
  | (with_reducible refine LeO.bind ?_ (fun _ => ?_))
  | exact ih0 _ _
  | exact ih1 _ _ _
  | exact ih2 _ _ _ _ _
  | exact fairwaylaw3_wakes.mono _
  | exact sum_Sum.mono _ _ _
  | exact LeO.none _
  | refine LeO.ite ?_ ?_
  | refine LeO.bind ?_ (fun _ => ?_)
def fairwaylaw3_SumParts.T9 : Bool × List (List Nat × List Nat) := (true, [([], []), ([], []), ([0, 1], [0, 1]), ([2], [2]), ([3], [3]), ([], []), ([], []), ([5, 6], [5, 6]), ([4, 7], [4, 7]), ([], []), ([], []), ([9, 10], [9, 10]), ([8, 11, 8], [8, 11]), ([], []), ([12, 13], [12, 13]), ([14, 12], [14]), ([15], [15]), ([15], [15]), ([16, 17, 15], [15, 16, 17]), ([18, 15], [15, 18]), ([19, 15], [15, 19]), ([20, 15, 15], [15, 20]), ([15], [15]), ([15], [15]), ([22, 23, 15], [15, 22, 23]), ([24, 15], [15, 24]), ([25, 15], [15, 25]), ([21, 26, 15], [15, 21, 26]), ([15, 27], [15, 27])])
def fairwaylaw3_SumParts.B9 : List Nat := [0, 0, 3, 7, 15, 0, 0, 96, 255, 0, 0, 1536, 4095, 0, 16383, 32767, 65535, 65535, 262143, 524287, 1048575, 2097151, 65535, 65535, 12648447, 29425663, 62980095, 134217727, 268435455]
theorem fairwaylaw3_SumParts.tab9 : rtab .any (opsOf Try.f4 9) = fairwaylaw3_SumParts.T9 := by kernel_rfl
theorem fairwaylaw3_SumParts.bits9 : waitsOk fairwaylaw3_SumParts.T9.2 fairwaylaw3_SumParts.B9 = true := by kernel_rfl
def fairwaylaw3_SumParts.T14 : Bool × List (List Nat × List Nat) := (true, [([], []), ([], []), ([], []), ([], []), ([2, 3], [2, 3]), ([4], [4]), ([], []), ([], []), ([6, 7], [6, 7]), ([8], [8]), ([9], [9]), ([10], [10]), ([11], [11]), ([5, 12], [5, 12]), ([0, 1, 0, 1, 2, 3, 4, 5, 6, 7, 8, 9, 10, 11, 12, 13], [0, 1]), ([14, 13, 11, 0, 1, 2, 3, 4, 5, 6, 7, 8, 9, 10, 11, 12, 13], [13, 14])])
def fairwaylaw3_SumParts.B14 : List Nat := [0, 0, 0, 0, 12, 28, 0, 0, 192, 448, 960, 1984, 4032, 8188, 16383, 32767]
theorem fairwaylaw3_SumParts.tab14 : rtab .any (opsOf Try.f4 14) = fairwaylaw3_SumParts.T14 := by kernel_rfl
theorem fairwaylaw3_SumParts.bits14 : waitsOk fairwaylaw3_SumParts.T14.2 fairwaylaw3_SumParts.B14 = true := by kernel_rfl
def fairwaylaw3_SumParts.T15 : Bool × List (List Nat × List Nat) := (true, [([], []), ([], []), ([0, 1], [0, 1]), ([2], [2]), ([3], [3]), ([], []), ([5], [5]), ([4, 6], [4, 6]), ([], []), ([7, 8], [7, 8])])
def fairwaylaw3_SumParts.B15 : List Nat := [0, 0, 3, 7, 15, 0, 32, 127, 0, 511]
theorem fairwaylaw3_SumParts.tab15 : rtab .any (opsOf Try.f4 15) = fairwaylaw3_SumParts.T15 := by kernel_rfl
theorem fairwaylaw3_SumParts.bits15 : waitsOk fairwaylaw3_SumParts.T15.2 fairwaylaw3_SumParts.B15 = true := by kernel_rfl
def fairwaylaw3_SumParts.T18 : Bool × List (List Nat × List Nat) := (true, [([], []), ([], []), ([1], [1]), ([], []), ([], []), ([4], [4]), ([3, 5], [3, 5]), ([6], [6]), ([], []), ([], []), ([8, 9], [8, 9]), ([10], [10]), ([11], [11]), ([12], [12]), ([7, 13], [7, 13]), ([0, 2, 0, 1, 2, 3, 4, 5, 6, 7, 8, 9, 10, 11, 12, 13, 14], [0, 2]), ([15, 14, 0, 1, 2, 3, 4, 5, 6, 7, 8, 9, 10, 11, 12, 13, 14], [14, 15])])
def fairwaylaw3_SumParts.B18 : List Nat := [0, 0, 2, 0, 0, 16, 56, 120, 0, 0, 768, 1792, 3840, 7936, 16376, 32767, 65535]
theorem fairwaylaw3_SumParts.tab18 : rtab .any (opsOf Try.f4 18) = fairwaylaw3_SumParts.T18 := by kernel_rfl
theorem fairwaylaw3_SumParts.bits18 : waitsOk fairwaylaw3_SumParts.T18.2 fairwaylaw3_SumParts.B18 = true := by kernel_rfl
def fairwaylaw3_SumParts.T19 : Bool × List (List Nat × List Nat) := (true, [([], []), ([], []), ([0, 1], [0, 1]), ([2], [2]), ([3], [3]), ([], []), ([5], [5]), ([4, 6], [4, 6]), ([], []), ([7, 8], [7, 8])])
def fairwaylaw3_SumParts.B19 : List Nat := [0, 0, 3, 7, 15, 0, 32, 127, 0, 511]
theorem fairwaylaw3_SumParts.tab19 : rtab .any (opsOf Try.f4 19) = fairwaylaw3_SumParts.T19 := by kernel_rfl
theorem fairwaylaw3_SumParts.bits19 : waitsOk fairwaylaw3_SumParts.T19.2 fairwaylaw3_SumParts.B19 = true := by kernel_rfl
set_option maxHeartbeats 8000000 in
set_option maxRecDepth 100000 in
theorem fairwaylaw3_SumParts.calls (k : Nat) (A0 : Option Addr) (c0 : Nat) (l0 : List (S25)) (r : Bool) (w : World) (hr0 : Kd.C k25 w A0 l0.length l0) (hc0 : l0.length ≤ c0) (h : fairwaylaw3_SumParts.f k l0 = some r) :
 Calls Try.prog 4 #[.slice A0 l0.length c0] w fun e w' => e = .returned (.bool r) ∧ Below w.heap.size w w' := by
 have HR0 := Aside0.mk hr0
 have HC0 := Aside0.mk hc0
 clear hr0 hc0
 have HB := Aside0.mk (Below.refl w.heap.size w)
 have H : (fairwaylaw3_SumParts.l0 k l0 0) = some r := h
 clear h
 have H' := Aside0.mk H
 clear H
 go_enter Try.func4, Try.ntmps4
 go_wp2
 go_loopg [3] k (fun kq v3 w' => ∃ (x3_1 : Int), v3 = .int .i64 x3_1 ∧ Aside0 (fairwaylaw3_SumParts.l0 kq l0 x3_1 = some r) ∧ Aside0 (kq ≤ k) ∧ Aside0 (Below w.heap.size w w'))
 case atStart => exact ⟨(0), ap, H', ⟨Nat.le_refl _⟩, ⟨bo⟩⟩
 case round =>
  clear H'
  obtain ⟨x3_1, rfl, HA, HK1, HB⟩ := hrel
  cases gk with
  | zero => exact absurd HA.out (by simp [fairwaylaw3_SumParts.l0])
  | succ k1 =>
   have H := HA.out
   clear HA
   simp only [fairwaylaw3_SumParts.l0] at H
   have HC2 := Aside0.mk H
   clear H
   go_upto_region 2 with (fail)
   go_cut [16] (fun v16 wc => ∃ (kq : Nat) (x16_1 : Bool), v16 = .bool x16_1 ∧ Aside0 (fairwaylaw3_SumParts.j1 kq l0 x3_1 x16_1 = some r) ∧ Aside0 (kq ≤ k1) ∧ Aside0 (Below w.heap.size w wc))
   case first =>
    have H := HC2.out
    clear HC2
    by_cases c3 : x3_1 < (l0.length : Int)
    ·rw [if_pos c3] at H
     have c3b0 : decide (x3_1 < (l0.length : Int)) = true := decide_eq_true c3
     clear c3
     (first | rw [c3b0] | (simp only [i64_w, i32_w]; rw [c3b0]) | skip)
     have H' := Aside0.mk H
     clear H
     go_wp2
     go_meet
     case rel => exact ⟨_, (decide (x3_1 < 15)), ap, H', ⟨by have := HK1.out; first | omega | exact Nat.le_refl _⟩, ⟨bo⟩⟩
    ·rw [if_neg c3] at H
     have c3b0 : decide (x3_1 < (l0.length : Int)) = false := decide_eq_false c3
     clear c3
     (first | rw [c3b0] | (simp only [i64_w, i32_w]; rw [c3b0]) | skip)
     have H' := Aside0.mk H
     clear H
     go_wp2
     go_meet
     case rel => exact ⟨_, (false), ap, H', ⟨by have := HK1.out; first | omega | exact Nat.le_refl _⟩, ⟨bo⟩⟩
   case rest =>
    clear HC2
    try clear p2
    try clear c3
    try clear c3b0
    obtain ⟨kq, x16_1, rfl, HA, HJ1, HB⟩ := hcut
    cases kq with
    | zero => exact absurd HA.out (by simp [fairwaylaw3_SumParts.j1])
    | succ kj1 =>
     have H := HA.out
     clear HA
     simp only [fairwaylaw3_SumParts.j1] at H
     by_cases c4 : x16_1 = true
     ·subst c4
      have H1 : (if 0 ≤ x3_1 then (if x3_1 < (l0.length : Int) then (if (((rd_T25 l0 x3_1).f1).size : Int) > 3000 then (some true) else ((fairwaylaw0_Within.f ((rd_T25 l0 x3_1).f2) (wrap64 ((((rd_T25 l0 x3_1).f1).size : Int) + 1))).bind fun t113 => ((sum_Sum.f kj1 ((rd_T25 l0 x3_1).f0) ((rd_T25 l0 x3_1).f1)).bind fun t115 => (if 0 ≤ t113 then (if t113 ≤ (((rd_T25 l0 x3_1).f1).size : Int) then ((sum_Sum.f kj1 ((rd_T25 l0 x3_1).f0) (((rd_T25 l0 x3_1).f1).extract 0 (t113 : Int).toNat)).bind fun t117 => ((sum_Sum.f kj1 t117 (((rd_T25 l0 x3_1).f1).extract (t113 : Int).toNat ((rd_T25 l0 x3_1).f1).size)).bind fun t118 => (if t118 = t115 then ((sum_Sum.f kj1 ((rd_T25 l0 x3_1).f0) (⟨#[]⟩ : ByteArray)).bind fun t120 => (fairwaylaw3_SumParts.j2 kj1 l0 x3_1 ((rd_T25 l0 x3_1).f1) t115 (t120 != ((rd_T25 l0 x3_1).f0)))) else (fairwaylaw3_SumParts.j2 kj1 l0 x3_1 ((rd_T25 l0 x3_1).f1) t115 true)))) else (none)) else (none))))) else (none)) else (none)) = some r := by rw [if_pos rfl] at H; exact H
      clear H
      have H := H1
      clear H1
      by_cases c5 : 0 ≤ x3_1
      ·rw [if_pos c5] at H
       have c5b0 : decide (0 ≤ x3_1) = true := decide_eq_true c5
       clear c5
       by_cases c6 : x3_1 < (l0.length : Int)
       ·rw [if_pos c6] at H
        have c6b0 : decide (x3_1 < (l0.length : Int)) = true := decide_eq_true c6
        clear c6
        by_cases c7 : (((rd_T25 l0 x3_1).f1).size : Int) > 3000
        ·rw [if_pos c7] at H
         have c7b0 : decide (3000 < (((rd_T25 l0 x3_1).f1).size : Int)) = true := decide_eq_true c7
         have c7b1 : decide (3000 < ((rd_T25 l0 x3_1).f1).size) = true := decide_eq_true (by omega)
         clear c7
         obtain rfl := Option.some.inj H
         have p111 : 0 ≤ (x3_1 : Int) := od
         have q111 : x3_1 < (l0.length : Int) := od
         obtain ⟨ad111, e111, hx111_0, hx111_1, hx111_2⟩ := at_T25 HR0.out x3_1 p111 q111
         cases e111
         replace hx111_0 := cx HB.out hx111_0
         replace hx111_1 := cx HB.out hx111_1
         replace hx111_2 := cx HB.out hx111_2
         replace p111 := eq_true p111
         replace q111 := eq_true q111
         go_wp2
         go_ret
         exact ⟨er, bo⟩
        ·rw [if_neg c7] at H
         have c7b0 : decide (3000 < (((rd_T25 l0 x3_1).f1).size : Int)) = false := decide_eq_false c7
         have c7b1 : decide (3000 < ((rd_T25 l0 x3_1).f1).size) = false := decide_eq_false (by omega)
         clear c7
         replace H := Option.bind_eq_some_iff.mp H
         obtain ⟨t113, A80, H⟩ := H
         replace H : ((sum_Sum.f kj1 ((rd_T25 l0 x3_1).f0) ((rd_T25 l0 x3_1).f1)).bind fun t115 => (if 0 ≤ t113 then (if t113 ≤ (((rd_T25 l0 x3_1).f1).size : Int) then ((sum_Sum.f kj1 ((rd_T25 l0 x3_1).f0) (((rd_T25 l0 x3_1).f1).extract 0 (t113 : Int).toNat)).bind fun t117 => ((sum_Sum.f kj1 t117 (((rd_T25 l0 x3_1).f1).extract (t113 : Int).toNat ((rd_T25 l0 x3_1).f1).size)).bind fun t118 => (if t118 = t115 then ((sum_Sum.f kj1 ((rd_T25 l0 x3_1).f0) (⟨#[]⟩ : ByteArray)).bind fun t120 => (fairwaylaw3_SumParts.j2 kj1 l0 x3_1 ((rd_T25 l0 x3_1).f1) t115 (t120 != ((rd_T25 l0 x3_1).f0)))) else (fairwaylaw3_SumParts.j2 kj1 l0 x3_1 ((rd_T25 l0 x3_1).f1) t115 true)))) else (none)) else (none))) = some r := H
         have A8 := Aside0.mk A80
         clear A80
         replace H := Option.bind_eq_some_iff.mp H
         obtain ⟨t115, A90, H⟩ := H
         replace H : (if 0 ≤ t113 then (if t113 ≤ (((rd_T25 l0 x3_1).f1).size : Int) then ((sum_Sum.f kj1 ((rd_T25 l0 x3_1).f0) (((rd_T25 l0 x3_1).f1).extract 0 (t113 : Int).toNat)).bind fun t117 => ((sum_Sum.f kj1 t117 (((rd_T25 l0 x3_1).f1).extract (t113 : Int).toNat ((rd_T25 l0 x3_1).f1).size)).bind fun t118 => (if t118 = t115 then ((sum_Sum.f kj1 ((rd_T25 l0 x3_1).f0) (⟨#[]⟩ : ByteArray)).bind fun t120 => (fairwaylaw3_SumParts.j2 kj1 l0 x3_1 ((rd_T25 l0 x3_1).f1) t115 (t120 != ((rd_T25 l0 x3_1).f0)))) else (fairwaylaw3_SumParts.j2 kj1 l0 x3_1 ((rd_T25 l0 x3_1).f1) t115 true)))) else (none)) else (none)) = some r := H
         have A9 := Aside0.mk A90
         clear A90
         have HC10 := Aside0.mk H
         clear H
         have p111 : 0 ≤ (x3_1 : Int) := od
         have q111 : x3_1 < (l0.length : Int) := od
         obtain ⟨ad111, e111, hx111_0, hx111_1, hx111_2⟩ := at_T25 HR0.out x3_1 p111 q111
         cases e111
         replace hx111_0 := cx HB.out hx111_0
         replace hx111_1 := cx HB.out hx111_1
         replace hx111_2 := cx HB.out hx111_2
         replace p111 := eq_true p111
         replace q111 := eq_true q111
         have p112 : 0 ≤ (x3_1 : Int) := od
         have q112 : x3_1 < (l0.length : Int) := od
         obtain ⟨ad112, e112, hx112_0, hx112_1, hx112_2⟩ := at_T25 HR0.out x3_1 p112 q112
         obtain rfl : ad111 = ad112 := (by injection e112)
         replace hx112_0 := cx HB.out hx112_0
         replace hx112_1 := cx HB.out hx112_1
         replace hx112_2 := cx HB.out hx112_2
         replace p112 := eq_true p112
         replace q112 := eq_true q112
         go_upto_region 9 with (first | ((with_reducible refine gate_callee (f := 8) rfl ?_); refine goesL_ (some 35) rfl rfl Try.func8 (by kernel_rfl) rfl #[.int .i64 ((rd_T25 l0 x3_1).f2), .int .i64 (wrap64 ((((rd_T25 l0 x3_1).f1).size : Int) + 1))] rfl aa ?_; (with_reducible refine (fairwaylaw0_Within.calls ((rd_T25 l0 x3_1).f2) (wrap64 ((((rd_T25 l0 x3_1).f1).size : Int) + 1)) t113 _ A8.out).mono ?_); rintro e w' ⟨rfl, ⟨nd, rfl⟩⟩; refine ⟨_, rfl, ?_⟩; have p114 : 0 ≤ (x3_1 : Int) := od; have q114 : x3_1 < (l0.length : Int) := od; obtain ⟨ad114, e114, hx114_0, hx114_1, hx114_2⟩ := at_T25 HR0.out x3_1 p114 q114; obtain rfl : ad111 = ad114 := (by injection e114); replace hx114_0 := cx HB.out hx114_0; replace hx114_1 := cx HB.out hx114_1; replace hx114_2 := cx HB.out hx114_2; replace p114 := eq_true p114; replace q114 := eq_true q114) | ((with_reducible refine gate_callee (f := 5) rfl ?_); refine goesL_ (some 42) rfl rfl Try.func5 (by kernel_rfl) rfl #[.int .u32 ((rd_T25 l0 x3_1).f0), .string ((rd_T25 l0 x3_1).f1)] rfl aa ?_; (with_reducible refine (sum_Sum.calls kj1 ((rd_T25 l0 x3_1).f0) ((rd_T25 l0 x3_1).f1) t115 _ A9.out).mono ?_); rintro e w' ⟨rfl, ⟨nd, rfl⟩⟩; refine ⟨_, rfl, ?_⟩))
         (try simp only [Act.put, List.setIfInBounds_toArray, List.set_cons_zero, List.set_cons_succ])
         go_cut [71] (fun v71 wc => ∃ (kq : Nat) (x71_9 : Bool), v71 = .bool x71_9 ∧ Aside0 (fairwaylaw3_SumParts.j2 kq l0 x3_1 ((rd_T25 l0 x3_1).f1) t115 x71_9 = some r) ∧ Aside0 (kq ≤ kj1) ∧ Aside0 (Below w.heap.size w wc))
         case first =>
          have H := HC10.out
          clear HC10
          by_cases c11 : 0 ≤ t113
          ·rw [if_pos c11] at H
           have c11b0 := eq_true c11
           have c11b1 : decide (0 ≤ t113) = true := decide_eq_true c11
           clear c11
           by_cases c12 : t113 ≤ (((rd_T25 l0 x3_1).f1).size : Int)
           ·rw [if_pos c12] at H
            have c12b0 := eq_true c12
            have c12b1 : decide (t113 ≤ (((rd_T25 l0 x3_1).f1).size : Int)) = true := decide_eq_true c12
            clear c12
            replace H := Option.bind_eq_some_iff.mp H
            obtain ⟨t117, A130, H⟩ := H
            replace H : ((sum_Sum.f kj1 t117 (((rd_T25 l0 x3_1).f1).extract (t113 : Int).toNat ((rd_T25 l0 x3_1).f1).size)).bind fun t118 => (if t118 = t115 then ((sum_Sum.f kj1 ((rd_T25 l0 x3_1).f0) (⟨#[]⟩ : ByteArray)).bind fun t120 => (fairwaylaw3_SumParts.j2 kj1 l0 x3_1 ((rd_T25 l0 x3_1).f1) t115 (t120 != ((rd_T25 l0 x3_1).f0)))) else (fairwaylaw3_SumParts.j2 kj1 l0 x3_1 ((rd_T25 l0 x3_1).f1) t115 true))) = some r := H
            have A13 := Aside0.mk A130
            clear A130
            have c14b0 := eq_true (od : 0 ≤ t113)
            have c15b0 := eq_true (od : t113 ≤ (((rd_T25 l0 x3_1).f1).size : Int))
            replace H := Option.bind_eq_some_iff.mp H
            obtain ⟨t118, A160, H⟩ := H
            replace H : (if t118 = t115 then ((sum_Sum.f kj1 ((rd_T25 l0 x3_1).f0) (⟨#[]⟩ : ByteArray)).bind fun t120 => (fairwaylaw3_SumParts.j2 kj1 l0 x3_1 ((rd_T25 l0 x3_1).f1) t115 (t120 != ((rd_T25 l0 x3_1).f0)))) else (fairwaylaw3_SumParts.j2 kj1 l0 x3_1 ((rd_T25 l0 x3_1).f1) t115 true)) = some r := H
            have A16 := Aside0.mk A160
            clear A160
            by_cases c17 : t118 = t115
            ·rw [if_pos c17] at H
             have c17b0 : (t118 == t115) = true := beq_iff_eq.mpr c17
             have c17b1 : (t118 != t115) = false := bne_eq_false_iff_eq.mpr c17
             clear c17
             (first | rw [c17b0] | (simp only [i64_w, i32_w]; rw [c17b0]) | skip)
             replace H := Option.bind_eq_some_iff.mp H
             obtain ⟨t120, A180, H⟩ := H
             replace H : (fairwaylaw3_SumParts.j2 kj1 l0 x3_1 ((rd_T25 l0 x3_1).f1) t115 (t120 != ((rd_T25 l0 x3_1).f0))) = some r := H
             have A18 := Aside0.mk A180
             clear A180
             have H' := Aside0.mk H
             clear H
             try go_wp2
             (try (rw [drewN_self wc]; generalize hq_ : World.drewN wc _ = wc; have n0_ : Aside0 (Below w.heap.size w wc) := ⟨by rw [← hq_]; exact bo⟩; clear HB hq_; have HB := n0_; clear n0_))
             replace HB := Aside0.mk (below_drew1 HB.out)
             have p116 : 0 ≤ (x3_1 : Int) := od
             have q116 : x3_1 < (l0.length : Int) := od
             obtain ⟨ad116, e116, hx116_0, hx116_1, hx116_2⟩ := at_T25 HR0.out x3_1 p116 q116
             have hw116_2 := hx116_2
             have hw116_1 := hx116_1
             have hw116_0 := hx116_0
             obtain rfl : ad111 = ad116 := (by injection e116)
             replace hx116_0 := cx HB.out hx116_0
             replace hx116_1 := cx HB.out hx116_1
             replace hx116_2 := cx HB.out hx116_2
             replace p116 := eq_true p116
             replace q116 := eq_true q116
             have p119 : 0 ≤ (x3_1 : Int) := od
             have q119 : x3_1 < (l0.length : Int) := od
             obtain ⟨ad119, e119, hx119_0, hx119_1, hx119_2⟩ := at_T25 HR0.out x3_1 p119 q119
             have hw119_2 := hx119_2
             have hw119_1 := hx119_1
             have hw119_0 := hx119_0
             obtain rfl : ad111 = ad119 := (by injection e119)
             replace hx119_0 := cx HB.out hx119_0
             replace hx119_1 := cx HB.out hx119_1
             replace hx119_2 := cx HB.out hx119_2
             replace p119 := eq_true p119
             replace q119 := eq_true q119
             have p121 : 0 ≤ (x3_1 : Int) := od
             have q121 : x3_1 < (l0.length : Int) := od
             obtain ⟨ad121, e121, hx121_0, hx121_1, hx121_2⟩ := at_T25 HR0.out x3_1 p121 q121
             have hw121_2 := hx121_2
             have hw121_1 := hx121_1
             have hw121_0 := hx121_0
             obtain rfl : ad111 = ad121 := (by injection e121)
             replace hx121_0 := cx HB.out hx121_0
             replace hx121_1 := cx HB.out hx121_1
             replace hx121_2 := cx HB.out hx121_2
             replace p121 := eq_true p121
             replace q121 := eq_true q121
             refine start_ (n := 29) (S := fun w' => w'.cell? (ad111.add ((x3_1).toNat * 3)) = some (.int .u32 ((rd_T25 l0 x3_1).f0)) ∧ w'.cell? ⟨(ad111.add ((x3_1).toNat * 3)).block, (ad111.add ((x3_1).toNat * 3)).off + 1, none⟩ = some (.string ((rd_T25 l0 x3_1).f1)) ∧ w'.cell? ⟨(ad111.add ((x3_1).toNat * 3)).block, (ad111.add ((x3_1).toNat * 3)).off + 2, none⟩ = some (.int .i64 ((rd_T25 l0 x3_1).f2)) ∧ w'.cell? (ad111.add ((x3_1).toNat * 3)) = some (.int .u32 ((rd_T25 l0 x3_1).f0)) ∧ w'.cell? ⟨(ad111.add ((x3_1).toNat * 3)).block, (ad111.add ((x3_1).toNat * 3)).off + 1, none⟩ = some (.string ((rd_T25 l0 x3_1).f1)) ∧ w'.cell? ⟨(ad111.add ((x3_1).toNat * 3)).block, (ad111.add ((x3_1).toNat * 3)).off + 2, none⟩ = some (.int .i64 ((rd_T25 l0 x3_1).f2)) ∧ w'.cell? (ad111.add ((x3_1).toNat * 3)) = some (.int .u32 ((rd_T25 l0 x3_1).f0)) ∧ w'.cell? ⟨(ad111.add ((x3_1).toNat * 3)).block, (ad111.add ((x3_1).toNat * 3)).off + 1, none⟩ = some (.string ((rd_T25 l0 x3_1).f1)) ∧ w'.cell? ⟨(ad111.add ((x3_1).toNat * 3)).block, (ad111.add ((x3_1).toNat * 3)).off + 2, none⟩ = some (.int .i64 ((rd_T25 l0 x3_1).f2))) (ds := []) #[O,O,O,O,O,O,O,O,O,O,O,O,O,O,O,O,O,O,O,O,O,O,O,O,O,O,O,O,O] (by kernel_rfl) rfl rfl ⟨((HB.out.cell (World.block_lt_of_cell? w _ hw116_0)).trans hw116_0), ((HB.out.cell (World.block_lt_of_cell? w _ hw116_1)).trans hw116_1), ((HB.out.cell (World.block_lt_of_cell? w _ hw116_2)).trans hw116_2), ((HB.out.cell (World.block_lt_of_cell? w _ hw119_0)).trans hw119_0), ((HB.out.cell (World.block_lt_of_cell? w _ hw119_1)).trans hw119_1), ((HB.out.cell (World.block_lt_of_cell? w _ hw119_2)).trans hw119_2), ((HB.out.cell (World.block_lt_of_cell? w _ hw121_0)).trans hw121_0), ((HB.out.cell (World.block_lt_of_cell? w _ hw121_1)).trans hw121_1), ((HB.out.cell (World.block_lt_of_cell? w _ hw121_2)).trans hw121_2)⟩ (fun hHeld => ?_); refine with_tabW fairwaylaw3_SumParts.tab9 fairwaylaw3_SumParts.bits9 (fun HT_ HW_ => ?_)
             generalize wc.drew = w19 at HB hx116_0 hx116_1 hx116_2 hx119_0 hx119_1 hx119_2 hx121_0 hx121_1 hx121_2 hHeld ⊢
             refine pz (i := 0) (N := some 43) #[I,O,O,O,O,O,O,O,O,O,O,O,O,O,O,O,O,O,O,O,O,O,O,O,O,O,O,O,O] ?_
             refine pz (i := 1) (N := some 44) #[I,I,O,O,O,O,O,O,O,O,O,O,O,O,O,O,O,O,O,O,O,O,O,O,O,O,O,O,O] ?_
             refine pz (i := 2) (N := some 45) #[I,I,I,O,O,O,O,O,O,O,O,O,O,O,O,O,O,O,O,O,O,O,O,O,O,O,O,O,O] ?_
             refine pz (i := 3) (N := some 46) #[I,I,I,I,O,O,O,O,O,O,O,O,O,O,O,O,O,O,O,O,O,O,O,O,O,O,O,O,O] ?_
             refine pz (i := 5) (N := some 48) #[I,I,I,I,O,I,O,O,O,O,O,O,O,O,O,O,O,O,O,O,O,O,O,O,O,O,O,O,O] ?_
             refine pz (i := 6) (N := some 49) #[I,I,I,I,O,I,I,O,O,O,O,O,O,O,O,O,O,O,O,O,O,O,O,O,O,O,O,O,O] ?_
             refine pz (i := 7) (N := some 50) #[I,I,I,I,O,I,I,I,O,O,O,O,O,O,O,O,O,O,O,O,O,O,O,O,O,O,O,O,O] ?_
             refine pz (i := 9) (N := some 52) #[I,I,I,I,O,I,I,I,O,I,O,O,O,O,O,O,O,O,O,O,O,O,O,O,O,O,O,O,O] ?_
             refine pz (i := 10) (N := some 53) #[I,I,I,I,O,I,I,I,O,I,I,O,O,O,O,O,O,O,O,O,O,O,O,O,O,O,O,O,O] ?_
             refine pz (i := 11) (N := some 54) #[I,I,I,I,O,I,I,I,O,I,I,I,O,O,O,O,O,O,O,O,O,O,O,O,O,O,O,O,O] ?_
             refine pz (i := 13) (N := some 56) #[I,I,I,I,O,I,I,I,O,I,I,I,O,I,O,O,O,O,O,O,O,O,O,O,O,O,O,O,O] ?_
             refine tz (i := 4) (N := some 47) #[I,I,I,I,I,I,I,I,O,I,I,I,O,I,O,O,O,O,O,O,O,O,O,O,O,O,O,O,O] ?_
             refine one_ (i := 8) (N := some 51) #[I,I,I,I,I,I,I,I,I,I,I,I,O,I,O,O,O,O,O,O,O,O,O,O,O,O,O,O,O] rfl rfl (one_of HT_.out (by kernel_rfl)) (by decide) (fun K hK => ?_)
             refine goes_ Try.func5 (by kernel_rfl) rfl #[.int .u32 ((rd_T25 l0 x3_1).f0), .string (((rd_T25 l0 x3_1).f1).extract 0 (t113 : Int).toNat)] (by rfl) rfl rfl aa ?_
             with_reducible refine (sum_Sum.calls kj1 ((rd_T25 l0 x3_1).f0) (((rd_T25 l0 x3_1).f1).extract 0 (t113 : Int).toNat) t117 _ A13.out).mono ?_
             rintro e w' ⟨rfl, ⟨nd, rfl⟩⟩
             refine ⟨_, rfl, ?_⟩
             refine hK.out _ _ ⟨((HB.out.cell (World.block_lt_of_cell? w _ hw116_0)).trans hw116_0), ((HB.out.cell (World.block_lt_of_cell? w _ hw116_1)).trans hw116_1), ((HB.out.cell (World.block_lt_of_cell? w _ hw116_2)).trans hw116_2), ((HB.out.cell (World.block_lt_of_cell? w _ hw119_0)).trans hw119_0), ((HB.out.cell (World.block_lt_of_cell? w _ hw119_1)).trans hw119_1), ((HB.out.cell (World.block_lt_of_cell? w _ hw119_2)).trans hw119_2), ((HB.out.cell (World.block_lt_of_cell? w _ hw121_0)).trans hw121_0), ((HB.out.cell (World.block_lt_of_cell? w _ hw121_1)).trans hw121_1), ((HB.out.cell (World.block_lt_of_cell? w _ hw121_2)).trans hw121_2)⟩ (fun hHeld => ?_)
             clear hK K
             refine norm_ (a' := ?_) ?_ ?_
             rotate_left
             ·show Act.put _ (some 51) _ = _
              simp only [Act.put, List.setIfInBounds_toArray, List.set_cons_zero, List.set_cons_succ, i64_w, i32_w]
              rfl
             refine one_ (i := 12) (N := some 55) #[I,I,I,I,I,I,I,I,I,I,I,I,I,I,O,O,O,O,O,O,O,O,O,O,O,O,O,O,O] rfl rfl (one_of HT_.out (by kernel_rfl)) (by decide) (fun K hK => ?_)
             refine goes_ Try.func5 (by kernel_rfl) rfl #[.int .u32 t117, .string (((rd_T25 l0 x3_1).f1).extract (t113 : Int).toNat ((rd_T25 l0 x3_1).f1).size)] (by rfl) rfl rfl aa ?_
             with_reducible refine (sum_Sum.calls kj1 t117 (((rd_T25 l0 x3_1).f1).extract (t113 : Int).toNat ((rd_T25 l0 x3_1).f1).size) t118 _ A16.out).mono ?_
             rintro e w' ⟨rfl, ⟨nd, rfl⟩⟩
             refine ⟨_, rfl, ?_⟩
             refine hK.out _ _ ⟨((HB.out.cell (World.block_lt_of_cell? w _ hw116_0)).trans hw116_0), ((HB.out.cell (World.block_lt_of_cell? w _ hw116_1)).trans hw116_1), ((HB.out.cell (World.block_lt_of_cell? w _ hw116_2)).trans hw116_2), ((HB.out.cell (World.block_lt_of_cell? w _ hw119_0)).trans hw119_0), ((HB.out.cell (World.block_lt_of_cell? w _ hw119_1)).trans hw119_1), ((HB.out.cell (World.block_lt_of_cell? w _ hw119_2)).trans hw119_2), ((HB.out.cell (World.block_lt_of_cell? w _ hw121_0)).trans hw121_0), ((HB.out.cell (World.block_lt_of_cell? w _ hw121_1)).trans hw121_1), ((HB.out.cell (World.block_lt_of_cell? w _ hw121_2)).trans hw121_2)⟩ (fun hHeld => ?_)
             clear hK K
             refine norm_ (a' := ?_) ?_ ?_
             rotate_left
             ·show Act.put _ (some 55) _ = _
              simp only [Act.put, List.setIfInBounds_toArray, List.set_cons_zero, List.set_cons_succ, i64_w, i32_w]
              rfl
             refine pz (i := 14) (N := some 57) #[I,I,I,I,I,I,I,I,I,I,I,I,I,I,I,O,O,O,O,O,O,O,O,O,O,O,O,O,O] ?_
             refine pz (i := 15) (N := some 58) #[I,I,I,I,I,I,I,I,I,I,I,I,I,I,I,I,O,O,O,O,O,O,O,O,O,O,O,O,O] ?_
             refine pz (i := 16) (N := some 59) #[I,I,I,I,I,I,I,I,I,I,I,I,I,I,I,I,I,O,O,O,O,O,O,O,O,O,O,O,O] ?_
             refine pz (i := 17) (N := some 60) #[I,I,I,I,I,I,I,I,I,I,I,I,I,I,I,I,I,I,O,O,O,O,O,O,O,O,O,O,O] ?_
             refine pz (i := 18) (N := some 61) #[I,I,I,I,I,I,I,I,I,I,I,I,I,I,I,I,I,I,I,O,O,O,O,O,O,O,O,O,O] ?_
             refine pz (i := 19) (N := some 62) #[I,I,I,I,I,I,I,I,I,I,I,I,I,I,I,I,I,I,I,I,O,O,O,O,O,O,O,O,O] ?_
             refine pz (i := 22) (N := some 65) #[I,I,I,I,I,I,I,I,I,I,I,I,I,I,I,I,I,I,I,I,O,O,I,O,O,O,O,O,O] ?_
             refine pz (i := 23) (N := some 66) #[I,I,I,I,I,I,I,I,I,I,I,I,I,I,I,I,I,I,I,I,O,O,I,I,O,O,O,O,O] ?_
             refine pz (i := 24) (N := some 67) #[I,I,I,I,I,I,I,I,I,I,I,I,I,I,I,I,I,I,I,I,O,O,I,I,I,O,O,O,O] ?_
             refine pz (i := 25) (N := some 68) #[I,I,I,I,I,I,I,I,I,I,I,I,I,I,I,I,I,I,I,I,O,O,I,I,I,I,O,O,O] ?_
             refine tz (i := 20) (N := some 63) #[I,I,I,I,I,I,I,I,I,I,I,I,I,I,I,I,I,I,I,I,I,O,I,I,I,I,O,O,O] ?_
             refine tz (i := 26) (N := some 69) #[I,I,I,I,I,I,I,I,I,I,I,I,I,I,I,I,I,I,I,I,I,O,I,I,I,I,I,O,O] ?_
             refine one_ (i := 21) (N := some 64) #[I,I,I,I,I,I,I,I,I,I,I,I,I,I,I,I,I,I,I,I,I,I,I,I,I,I,I,O,O] rfl rfl (one_of HT_.out (by kernel_rfl)) (by decide) (fun K hK => ?_)
             refine goes_ Try.func5 (by kernel_rfl) rfl #[.int .u32 ((rd_T25 l0 x3_1).f0), .string (⟨#[]⟩ : ByteArray)] (by rfl) rfl rfl aa ?_
             with_reducible refine (sum_Sum.calls kj1 ((rd_T25 l0 x3_1).f0) (⟨#[]⟩ : ByteArray) t120 _ A18.out).mono ?_
             rintro e w' ⟨rfl, ⟨nd, rfl⟩⟩
             refine ⟨_, rfl, ?_⟩
             refine hK.out _ _ ⟨((HB.out.cell (World.block_lt_of_cell? w _ hw116_0)).trans hw116_0), ((HB.out.cell (World.block_lt_of_cell? w _ hw116_1)).trans hw116_1), ((HB.out.cell (World.block_lt_of_cell? w _ hw116_2)).trans hw116_2), ((HB.out.cell (World.block_lt_of_cell? w _ hw119_0)).trans hw119_0), ((HB.out.cell (World.block_lt_of_cell? w _ hw119_1)).trans hw119_1), ((HB.out.cell (World.block_lt_of_cell? w _ hw119_2)).trans hw119_2), ((HB.out.cell (World.block_lt_of_cell? w _ hw121_0)).trans hw121_0), ((HB.out.cell (World.block_lt_of_cell? w _ hw121_1)).trans hw121_1), ((HB.out.cell (World.block_lt_of_cell? w _ hw121_2)).trans hw121_2)⟩ (fun hHeld => ?_)
             clear hK K
             refine norm_ (a' := ?_) ?_ ?_
             rotate_left
             ·show Act.put _ (some 64) _ = _
              simp only [Act.put, List.setIfInBounds_toArray, List.set_cons_zero, List.set_cons_succ, i64_w, i32_w]
              rfl
             refine pz (i := 27) (N := some 70) #[I,I,I,I,I,I,I,I,I,I,I,I,I,I,I,I,I,I,I,I,I,I,I,I,I,I,I,I,O] ?_
             refine pz (i := 28) (N := some 71) #[I,I,I,I,I,I,I,I,I,I,I,I,I,I,I,I,I,I,I,I,I,I,I,I,I,I,I,I,I] ?_
             refine done_ (done_of HT_.out (by kernel_rfl)) ?_
             try go_wp2
             go_meet
             case rel => exact ⟨_, ((t120 != ((rd_T25 l0 x3_1).f0))), ap, H', ⟨by have := HK1.out; have := HJ1.out; first | omega | exact Nat.le_refl _⟩, ⟨bo⟩⟩
            ·rw [if_neg c17] at H
             have c17b0 : (t118 == t115) = false := beq_eq_false_iff_ne.mpr c17
             have c17b1 : (t118 != t115) = true := bne_iff_ne.mpr c17
             (first | rw [c17b0] | (simp only [i64_w, i32_w]; rw [c17b0]) | skip)
             have H' := Aside0.mk H
             clear H
             try go_wp2
             (try (rw [drewN_self wc]; generalize hq_ : World.drewN wc _ = wc; have n0_ : Aside0 (Below w.heap.size w wc) := ⟨by rw [← hq_]; exact bo⟩; clear HB hq_; have HB := n0_; clear n0_))
             replace HB := Aside0.mk (below_drew1 HB.out)
             have p116 : 0 ≤ (x3_1 : Int) := od
             have q116 : x3_1 < (l0.length : Int) := od
             obtain ⟨ad116, e116, hx116_0, hx116_1, hx116_2⟩ := at_T25 HR0.out x3_1 p116 q116
             have hw116_2 := hx116_2
             have hw116_1 := hx116_1
             have hw116_0 := hx116_0
             obtain rfl : ad111 = ad116 := (by injection e116)
             replace hx116_0 := cx HB.out hx116_0
             replace hx116_1 := cx HB.out hx116_1
             replace hx116_2 := cx HB.out hx116_2
             replace p116 := eq_true p116
             replace q116 := eq_true q116
             refine start_ (n := 29) (S := fun w' => w'.cell? (ad111.add ((x3_1).toNat * 3)) = some (.int .u32 ((rd_T25 l0 x3_1).f0)) ∧ w'.cell? ⟨(ad111.add ((x3_1).toNat * 3)).block, (ad111.add ((x3_1).toNat * 3)).off + 1, none⟩ = some (.string ((rd_T25 l0 x3_1).f1)) ∧ w'.cell? ⟨(ad111.add ((x3_1).toNat * 3)).block, (ad111.add ((x3_1).toNat * 3)).off + 2, none⟩ = some (.int .i64 ((rd_T25 l0 x3_1).f2))) (ds := []) #[O,O,O,O,O,O,O,O,O,O,O,O,O,O,O,O,O,O,O,O,O,O,O,O,O,O,O,O,O] (by kernel_rfl) rfl rfl ⟨((HB.out.cell (World.block_lt_of_cell? w _ hw116_0)).trans hw116_0), ((HB.out.cell (World.block_lt_of_cell? w _ hw116_1)).trans hw116_1), ((HB.out.cell (World.block_lt_of_cell? w _ hw116_2)).trans hw116_2)⟩ (fun hHeld => ?_); refine with_tabW fairwaylaw3_SumParts.tab9 fairwaylaw3_SumParts.bits9 (fun HT_ HW_ => ?_)
             generalize wc.drew = w20 at HB hx116_0 hx116_1 hx116_2 hHeld ⊢
             refine pz (i := 0) (N := some 43) #[I,O,O,O,O,O,O,O,O,O,O,O,O,O,O,O,O,O,O,O,O,O,O,O,O,O,O,O,O] ?_
             refine pz (i := 1) (N := some 44) #[I,I,O,O,O,O,O,O,O,O,O,O,O,O,O,O,O,O,O,O,O,O,O,O,O,O,O,O,O] ?_
             refine pz (i := 2) (N := some 45) #[I,I,I,O,O,O,O,O,O,O,O,O,O,O,O,O,O,O,O,O,O,O,O,O,O,O,O,O,O] ?_
             refine pz (i := 3) (N := some 46) #[I,I,I,I,O,O,O,O,O,O,O,O,O,O,O,O,O,O,O,O,O,O,O,O,O,O,O,O,O] ?_
             refine pz (i := 5) (N := some 48) #[I,I,I,I,O,I,O,O,O,O,O,O,O,O,O,O,O,O,O,O,O,O,O,O,O,O,O,O,O] ?_
             refine pz (i := 6) (N := some 49) #[I,I,I,I,O,I,I,O,O,O,O,O,O,O,O,O,O,O,O,O,O,O,O,O,O,O,O,O,O] ?_
             refine pz (i := 7) (N := some 50) #[I,I,I,I,O,I,I,I,O,O,O,O,O,O,O,O,O,O,O,O,O,O,O,O,O,O,O,O,O] ?_
             refine pz (i := 9) (N := some 52) #[I,I,I,I,O,I,I,I,O,I,O,O,O,O,O,O,O,O,O,O,O,O,O,O,O,O,O,O,O] ?_
             refine pz (i := 10) (N := some 53) #[I,I,I,I,O,I,I,I,O,I,I,O,O,O,O,O,O,O,O,O,O,O,O,O,O,O,O,O,O] ?_
             refine pz (i := 11) (N := some 54) #[I,I,I,I,O,I,I,I,O,I,I,I,O,O,O,O,O,O,O,O,O,O,O,O,O,O,O,O,O] ?_
             refine pz (i := 13) (N := some 56) #[I,I,I,I,O,I,I,I,O,I,I,I,O,I,O,O,O,O,O,O,O,O,O,O,O,O,O,O,O] ?_
             refine tz (i := 4) (N := some 47) #[I,I,I,I,I,I,I,I,O,I,I,I,O,I,O,O,O,O,O,O,O,O,O,O,O,O,O,O,O] ?_
             refine one_ (i := 8) (N := some 51) #[I,I,I,I,I,I,I,I,I,I,I,I,O,I,O,O,O,O,O,O,O,O,O,O,O,O,O,O,O] rfl rfl (one_of HT_.out (by kernel_rfl)) (by decide) (fun K hK => ?_)
             refine goes_ Try.func5 (by kernel_rfl) rfl #[.int .u32 ((rd_T25 l0 x3_1).f0), .string (((rd_T25 l0 x3_1).f1).extract 0 (t113 : Int).toNat)] (by rfl) rfl rfl aa ?_
             with_reducible refine (sum_Sum.calls kj1 ((rd_T25 l0 x3_1).f0) (((rd_T25 l0 x3_1).f1).extract 0 (t113 : Int).toNat) t117 _ A13.out).mono ?_
             rintro e w' ⟨rfl, ⟨nd, rfl⟩⟩
             refine ⟨_, rfl, ?_⟩
             refine hK.out _ _ ⟨((HB.out.cell (World.block_lt_of_cell? w _ hw116_0)).trans hw116_0), ((HB.out.cell (World.block_lt_of_cell? w _ hw116_1)).trans hw116_1), ((HB.out.cell (World.block_lt_of_cell? w _ hw116_2)).trans hw116_2)⟩ (fun hHeld => ?_)
             clear hK K
             refine norm_ (a' := ?_) ?_ ?_
             rotate_left
             ·show Act.put _ (some 51) _ = _
              simp only [Act.put, List.setIfInBounds_toArray, List.set_cons_zero, List.set_cons_succ, i64_w, i32_w]
              rfl
             refine one_ (i := 12) (N := some 55) #[I,I,I,I,I,I,I,I,I,I,I,I,I,I,O,O,O,O,O,O,O,O,O,O,O,O,O,O,O] rfl rfl (one_of HT_.out (by kernel_rfl)) (by decide) (fun K hK => ?_)
             refine goes_ Try.func5 (by kernel_rfl) rfl #[.int .u32 t117, .string (((rd_T25 l0 x3_1).f1).extract (t113 : Int).toNat ((rd_T25 l0 x3_1).f1).size)] (by rfl) rfl rfl aa ?_
             with_reducible refine (sum_Sum.calls kj1 t117 (((rd_T25 l0 x3_1).f1).extract (t113 : Int).toNat ((rd_T25 l0 x3_1).f1).size) t118 _ A16.out).mono ?_
             rintro e w' ⟨rfl, ⟨nd, rfl⟩⟩
             refine ⟨_, rfl, ?_⟩
             refine hK.out _ _ ⟨((HB.out.cell (World.block_lt_of_cell? w _ hw116_0)).trans hw116_0), ((HB.out.cell (World.block_lt_of_cell? w _ hw116_1)).trans hw116_1), ((HB.out.cell (World.block_lt_of_cell? w _ hw116_2)).trans hw116_2)⟩ (fun hHeld => ?_)
             clear hK K
             refine norm_ (a' := ?_) ?_ ?_
             rotate_left
             ·show Act.put _ (some 55) _ = _
              simp only [Act.put, List.setIfInBounds_toArray, List.set_cons_zero, List.set_cons_succ, i64_w, i32_w]
              rfl
             refine pz (i := 14) (N := some 57) #[I,I,I,I,I,I,I,I,I,I,I,I,I,I,I,O,O,O,O,O,O,O,O,O,O,O,O,O,O] ?_
             refine pz (i := 15) (N := some 58) #[I,I,I,I,I,I,I,I,I,I,I,I,I,I,I,I,O,O,O,O,O,O,O,O,O,O,O,O,O] ?_
             refine pu (i := 16) (N := some 59) #[I,I,I,I,I,I,I,I,I,I,I,I,I,I,I,I,I,O,O,O,O,O,O,O,O,O,O,O,O] ?_
             refine pu (i := 17) (N := some 60) #[I,I,I,I,I,I,I,I,I,I,I,I,I,I,I,I,I,I,O,O,O,O,O,O,O,O,O,O,O] ?_
             refine pu (i := 18) (N := some 61) #[I,I,I,I,I,I,I,I,I,I,I,I,I,I,I,I,I,I,I,O,O,O,O,O,O,O,O,O,O] ?_
             refine pu (i := 19) (N := some 62) #[I,I,I,I,I,I,I,I,I,I,I,I,I,I,I,I,I,I,I,I,O,O,O,O,O,O,O,O,O] ?_
             refine pu (i := 20) (N := some 63) #[I,I,I,I,I,I,I,I,I,I,I,I,I,I,I,I,I,I,I,I,I,O,O,O,O,O,O,O,O] ?_
             refine pu (i := 21) (N := some 64) #[I,I,I,I,I,I,I,I,I,I,I,I,I,I,I,I,I,I,I,I,I,I,O,O,O,O,O,O,O] ?_
             refine pu (i := 22) (N := some 65) #[I,I,I,I,I,I,I,I,I,I,I,I,I,I,I,I,I,I,I,I,I,I,I,O,O,O,O,O,O] ?_
             refine pu (i := 23) (N := some 66) #[I,I,I,I,I,I,I,I,I,I,I,I,I,I,I,I,I,I,I,I,I,I,I,I,O,O,O,O,O] ?_
             refine pu (i := 24) (N := some 67) #[I,I,I,I,I,I,I,I,I,I,I,I,I,I,I,I,I,I,I,I,I,I,I,I,I,O,O,O,O] ?_
             refine pu (i := 25) (N := some 68) #[I,I,I,I,I,I,I,I,I,I,I,I,I,I,I,I,I,I,I,I,I,I,I,I,I,I,O,O,O] ?_
             refine pu (i := 26) (N := some 69) #[I,I,I,I,I,I,I,I,I,I,I,I,I,I,I,I,I,I,I,I,I,I,I,I,I,I,I,O,O] ?_
             refine pu (i := 27) (N := some 70) #[I,I,I,I,I,I,I,I,I,I,I,I,I,I,I,I,I,I,I,I,I,I,I,I,I,I,I,I,O] ?_
             refine pz (i := 28) (N := some 71) #[I,I,I,I,I,I,I,I,I,I,I,I,I,I,I,I,I,I,I,I,I,I,I,I,I,I,I,I,I] ?_
             refine done_ (done_of HT_.out (by kernel_rfl)) ?_
             try go_wp2
             go_meet
             case rel => exact ⟨_, (true), ap, H', ⟨by have := HK1.out; have := HJ1.out; first | omega | exact Nat.le_refl _⟩, ⟨bo⟩⟩
           ·rw [if_neg c12] at H
            exact absurd H (by simp)
          ·rw [if_neg c11] at H
           exact absurd H (by simp)
         case rest =>
          clear HC10
          try clear c1
          try clear p1
          try clear q1
          try clear hx1
          try clear p2
          try clear c5
          try clear p6
          try clear c7
          try clear c7b0
          try clear c7b1
          try clear c8
          try clear c11
          try clear c11b0
          try clear c11b1
          try clear p11
          try clear q11
          try clear hx11
          try clear c12
          try clear c12b0
          try clear c12b1
          try clear p12
          try clear q12
          try clear hx12
          try clear c14
          try clear c14b0
          try clear c15
          try clear c15b0
          try clear c17
          try clear c17b0
          try clear c17b1
          try clear hx111_0
          try clear hx111_1
          try clear hx111_2
          try clear hx112_0
          try clear hx112_1
          try clear hx112_2
          try clear hx114_0
          try clear hx114_1
          try clear hx114_2
          try clear hx116_0
          try clear hx116_1
          try clear hx116_2
          try clear hx119_0
          try clear hx119_1
          try clear hx119_2
          try clear hx121_0
          try clear hx121_1
          try clear hx121_2
          try clear p111
          try clear p112
          try clear p114
          try clear p116
          try clear p119
          try clear p121
          try clear q111
          try clear q112
          try clear q114
          try clear q116
          try clear q119
          try clear q121
          obtain ⟨kq, x71_9, rfl, HA, HJ9, HB⟩ := hcut
          cases kq with
          | zero => exact absurd HA.out (by simp [fairwaylaw3_SumParts.j2])
          | succ kj9 =>
           have H := HA.out
           clear HA
           simp only [fairwaylaw3_SumParts.j2] at H
           by_cases c21 : x71_9 = true
           ·subst c21
            have H1 : (some false) = some r := by rw [if_pos rfl] at H; exact H
            clear H
            have H := H1
            clear H1
            obtain rfl := Option.some.inj H
            go_wp2
            go_ret
            exact ⟨er, bo⟩
           ·replace c21 := Bool.eq_false_iff.mpr c21
            subst c21
            have H1 : (if (((rd_T25 l0 x3_1).f1).size : Int) = 0 then (fairwaylaw3_SumParts.l0 kj9 l0 (wrap64 (x3_1 + 1))) else ((some (fbytes ((rd_T25 l0 x3_1).f1) : List Int)).bind fun y122 => (if 0 ≤ x3_1 then (if x3_1 < (l0.length : Int) then ((fairwaylaw0_Within.f ((rd_T25 l0 x3_1).f2) (((rd_T25 l0 x3_1).f1).size : Int)).bind fun t126 => (if 0 ≤ t126 then (if t126 < (y122.length : Int) then ((fairwaylaw0_Within.f ((rd_T25 l0 x3_1).f2) 8).bind fun t129 => (if 0 ≤ t129 then ((some (y122.set (t126 : Int).toNat (Go.bits .xor .u8 (rd y122 t126) (shl .u8 1 t129)) : List Int)).bind fun y130 => ((sum_Sum.f kj9 ((rd_T25 l0 x3_1).f0) (strOfNums y130)).bind fun t132 => (if t132 = t115 then (some false) else (if (wrap64 (t126 + 1)) < (((rd_T25 l0 x3_1).f1).size : Int) then (if 0 ≤ (wrap64 (t126 + 1)) then (if (wrap64 (t126 + 1)) < (y122.length : Int) then ((sum_Sum.f kj9 ((rd_T25 l0 x3_1).f0) (strOfNums (y130.set ((wrap64 (t126 + 1)) : Int).toNat (Go.bits .xor .u8 (rd y130 (wrap64 (t126 + 1))) (((rd_T25 l0 x3_1).f2) % 256))))).bind fun t137 => (if t137 = t115 then (some false) else (fairwaylaw3_SumParts.l0 kj9 l0 (wrap64 (x3_1 + 1))))) else (none)) else (none)) else (fairwaylaw3_SumParts.l0 kj9 l0 (wrap64 (x3_1 + 1))))))) else (none))) else (none)) else (none))) else (none)) else (none)))) = some r := by rw [if_neg (show ¬ (false = true) by decide)] at H; exact H
            clear H
            have H := H1
            clear H1
            by_cases c22 : (((rd_T25 l0 x3_1).f1).size : Int) = 0
            ·rw [if_pos c22] at H
             have c22b0 : ((((rd_T25 l0 x3_1).f1).size : Int) == 0) = true := beq_iff_eq.mpr c22
             have c22b1 : ((((rd_T25 l0 x3_1).f1).size : Int) != 0) = false := bne_eq_false_iff_eq.mpr c22
             clear c22
             have H' := Aside0.mk H
             clear H
             go_wp2
             go_roundg kj9
             case measure => have := HK1.out; have := HJ1.out; have := HJ9.out; omega
             case rel => exact ⟨(wrap64 (x3_1 + 1)), ap, H', ⟨by have := HK1.out; have := HJ1.out; have := HJ9.out; omega⟩, ⟨bo⟩⟩
            ·rw [if_neg c22] at H
             have c22b0 : ((((rd_T25 l0 x3_1).f1).size : Int) == 0) = false := beq_eq_false_iff_ne.mpr c22
             have c22b1 : ((((rd_T25 l0 x3_1).f1).size : Int) != 0) = true := bne_iff_ne.mpr c22
             obtain ⟨y122, hy122⟩ : ∃ y_ : List Int, y_ = (fbytes ((rd_T25 l0 x3_1).f1)) := ⟨_, rfl⟩
             replace H : (if 0 ≤ x3_1 then (if x3_1 < (l0.length : Int) then ((fairwaylaw0_Within.f ((rd_T25 l0 x3_1).f2) (((rd_T25 l0 x3_1).f1).size : Int)).bind fun t126 => (if 0 ≤ t126 then (if t126 < (y122.length : Int) then ((fairwaylaw0_Within.f ((rd_T25 l0 x3_1).f2) 8).bind fun t129 => (if 0 ≤ t129 then ((some (y122.set (t126 : Int).toNat (Go.bits .xor .u8 (rd y122 t126) (shl .u8 1 t129)) : List Int)).bind fun y130 => ((sum_Sum.f kj9 ((rd_T25 l0 x3_1).f0) (strOfNums y130)).bind fun t132 => (if t132 = t115 then (some false) else (if (wrap64 (t126 + 1)) < (((rd_T25 l0 x3_1).f1).size : Int) then (if 0 ≤ (wrap64 (t126 + 1)) then (if (wrap64 (t126 + 1)) < (y122.length : Int) then ((sum_Sum.f kj9 ((rd_T25 l0 x3_1).f0) (strOfNums (y130.set ((wrap64 (t126 + 1)) : Int).toNat (Go.bits .xor .u8 (rd y130 (wrap64 (t126 + 1))) (((rd_T25 l0 x3_1).f2) % 256))))).bind fun t137 => (if t137 = t115 then (some false) else (fairwaylaw3_SumParts.l0 kj9 l0 (wrap64 (x3_1 + 1))))) else (none)) else (none)) else (fairwaylaw3_SumParts.l0 kj9 l0 (wrap64 (x3_1 + 1))))))) else (none))) else (none)) else (none))) else (none)) else (none)) = some r := by first | (rw [hy122]; with_reducible exact H) | (have H2_ := (Option.bind_some _ _).symm.trans H; rw [hy122]; with_reducible exact H2_) | (have H2_ := (Option.bind_some _ _).symm.trans H; with_reducible exact H2_) | with_reducible exact H | (rw [hy122]; exact H) | exact H
             have Ny122 := Aside0.mk hy122
             clear hy122
             by_cases c23 : 0 ≤ x3_1
             ·rw [if_pos c23] at H
              have c23b0 : decide (0 ≤ x3_1) = true := decide_eq_true c23
              clear c23
              by_cases c24 : x3_1 < (l0.length : Int)
              ·rw [if_pos c24] at H
               have c24b0 : decide (x3_1 < (l0.length : Int)) = true := decide_eq_true c24
               clear c24
               replace H := Option.bind_eq_some_iff.mp H
               obtain ⟨t126, A250, H⟩ := H
               replace H : (if 0 ≤ t126 then (if t126 < (y122.length : Int) then ((fairwaylaw0_Within.f ((rd_T25 l0 x3_1).f2) 8).bind fun t129 => (if 0 ≤ t129 then ((some (y122.set (t126 : Int).toNat (Go.bits .xor .u8 (rd y122 t126) (shl .u8 1 t129)) : List Int)).bind fun y130 => ((sum_Sum.f kj9 ((rd_T25 l0 x3_1).f0) (strOfNums y130)).bind fun t132 => (if t132 = t115 then (some false) else (if (wrap64 (t126 + 1)) < (((rd_T25 l0 x3_1).f1).size : Int) then (if 0 ≤ (wrap64 (t126 + 1)) then (if (wrap64 (t126 + 1)) < (y122.length : Int) then ((sum_Sum.f kj9 ((rd_T25 l0 x3_1).f0) (strOfNums (y130.set ((wrap64 (t126 + 1)) : Int).toNat (Go.bits .xor .u8 (rd y130 (wrap64 (t126 + 1))) (((rd_T25 l0 x3_1).f2) % 256))))).bind fun t137 => (if t137 = t115 then (some false) else (fairwaylaw3_SumParts.l0 kj9 l0 (wrap64 (x3_1 + 1))))) else (none)) else (none)) else (fairwaylaw3_SumParts.l0 kj9 l0 (wrap64 (x3_1 + 1))))))) else (none))) else (none)) else (none)) = some r := H
               have A25 := Aside0.mk A250
               clear A250
               by_cases c26 : 0 ≤ t126
               ·rw [if_pos c26] at H
                have c26b0 : decide (0 ≤ t126) = true := decide_eq_true c26
                clear c26
                by_cases c27 : t126 < (y122.length : Int)
                ·rw [if_pos c27] at H
                 have c27b0 : decide (t126 < (y122.length : Int)) = true := decide_eq_true c27
                 clear c27
                 replace H := Option.bind_eq_some_iff.mp H
                 obtain ⟨t129, A280, H⟩ := H
                 replace H : (if 0 ≤ t129 then ((some (y122.set (t126 : Int).toNat (Go.bits .xor .u8 (rd y122 t126) (shl .u8 1 t129)) : List Int)).bind fun y130 => ((sum_Sum.f kj9 ((rd_T25 l0 x3_1).f0) (strOfNums y130)).bind fun t132 => (if t132 = t115 then (some false) else (if (wrap64 (t126 + 1)) < (((rd_T25 l0 x3_1).f1).size : Int) then (if 0 ≤ (wrap64 (t126 + 1)) then (if (wrap64 (t126 + 1)) < (y122.length : Int) then ((sum_Sum.f kj9 ((rd_T25 l0 x3_1).f0) (strOfNums (y130.set ((wrap64 (t126 + 1)) : Int).toNat (Go.bits .xor .u8 (rd y130 (wrap64 (t126 + 1))) (((rd_T25 l0 x3_1).f2) % 256))))).bind fun t137 => (if t137 = t115 then (some false) else (fairwaylaw3_SumParts.l0 kj9 l0 (wrap64 (x3_1 + 1))))) else (none)) else (none)) else (fairwaylaw3_SumParts.l0 kj9 l0 (wrap64 (x3_1 + 1))))))) else (none)) = some r := H
                 have A28 := Aside0.mk A280
                 clear A280
                 by_cases c29 : 0 ≤ t129
                 ·rw [if_pos c29] at H
                  have c29b0 := eq_true c29
                  have c29b1 : decide (0 ≤ t129) = true := decide_eq_true c29
                  clear c29
                  obtain ⟨ji30, hji30⟩ : ∃ j_ : Int, (shl .u8 1 t129) = j_ := ⟨_, rfl⟩
                  replace H : ((some (y122.set (t126 : Int).toNat (Go.bits .xor .u8 (rd y122 t126) (ji30)) : List Int)).bind fun y130 => ((sum_Sum.f kj9 ((rd_T25 l0 x3_1).f0) (strOfNums y130)).bind fun t132 => (if t132 = t115 then (some false) else (if (wrap64 (t126 + 1)) < (((rd_T25 l0 x3_1).f1).size : Int) then (if 0 ≤ (wrap64 (t126 + 1)) then (if (wrap64 (t126 + 1)) < (y122.length : Int) then ((sum_Sum.f kj9 ((rd_T25 l0 x3_1).f0) (strOfNums (y130.set ((wrap64 (t126 + 1)) : Int).toNat (Go.bits .xor .u8 (rd y130 (wrap64 (t126 + 1))) (((rd_T25 l0 x3_1).f2) % 256))))).bind fun t137 => (if t137 = t115 then (some false) else (fairwaylaw3_SumParts.l0 kj9 l0 (wrap64 (x3_1 + 1))))) else (none)) else (none)) else (fairwaylaw3_SumParts.l0 kj9 l0 (wrap64 (x3_1 + 1))))))) = some r := by first | (rw [hji30] at H; exact H) | (simp only [hji30] at H ⊢; exact H)
                  (try rw [hji30] at A25)
                  (try rw [hji30] at A28)
                  have hji30_ : (IntKind.u8.wrap (1 * 2 ^ min t129.toNat 8)) = ji30 := hji30
                  have hji30z : t129 ≤ 8 → (IntKind.u8.wrap (1 * 2 ^ t129.toNat)) = ji30 := shl_small hji30
                  have hji30u : (IntKind.u8.wrap (2 ^ min t129.toNat 8)) = ji30 := by have h_ := hji30_; rw [Int.one_mul] at h_; exact h_
                  have hji30v : t129 ≤ 8 → (IntKind.u8.wrap (2 ^ t129.toNat)) = ji30 := fun hle_ => by have h_ := hji30z hle_; rw [Int.one_mul] at h_; exact h_
                  obtain ⟨y130, hy130⟩ : ∃ y_ : List Int, y_ = (y122.set (t126 : Int).toNat (Go.bits .xor .u8 (rd y122 t126) (ji30))) := ⟨_, rfl⟩
                  replace H : ((sum_Sum.f kj9 ((rd_T25 l0 x3_1).f0) (strOfNums y130)).bind fun t132 => (if t132 = t115 then (some false) else (if (wrap64 (t126 + 1)) < (((rd_T25 l0 x3_1).f1).size : Int) then (if 0 ≤ (wrap64 (t126 + 1)) then (if (wrap64 (t126 + 1)) < (y122.length : Int) then ((sum_Sum.f kj9 ((rd_T25 l0 x3_1).f0) (strOfNums (y130.set ((wrap64 (t126 + 1)) : Int).toNat (Go.bits .xor .u8 (rd y130 (wrap64 (t126 + 1))) (((rd_T25 l0 x3_1).f2) % 256))))).bind fun t137 => (if t137 = t115 then (some false) else (fairwaylaw3_SumParts.l0 kj9 l0 (wrap64 (x3_1 + 1))))) else (none)) else (none)) else (fairwaylaw3_SumParts.l0 kj9 l0 (wrap64 (x3_1 + 1)))))) = some r := by first | (rw [hy130]; with_reducible exact H) | (have H2_ := (Option.bind_some _ _).symm.trans H; rw [hy130]; with_reducible exact H2_) | (have H2_ := (Option.bind_some _ _).symm.trans H; with_reducible exact H2_) | with_reducible exact H | (rw [hy130]; exact H) | exact H
                  have Ny130 := Aside0.mk hy130
                  clear hy130
                  replace H := Option.bind_eq_some_iff.mp H
                  obtain ⟨t132, A320, H⟩ := H
                  replace H : (if t132 = t115 then (some false) else (if (wrap64 (t126 + 1)) < (((rd_T25 l0 x3_1).f1).size : Int) then (if 0 ≤ (wrap64 (t126 + 1)) then (if (wrap64 (t126 + 1)) < (y122.length : Int) then ((sum_Sum.f kj9 ((rd_T25 l0 x3_1).f0) (strOfNums (y130.set ((wrap64 (t126 + 1)) : Int).toNat (Go.bits .xor .u8 (rd y130 (wrap64 (t126 + 1))) (((rd_T25 l0 x3_1).f2) % 256))))).bind fun t137 => (if t137 = t115 then (some false) else (fairwaylaw3_SumParts.l0 kj9 l0 (wrap64 (x3_1 + 1))))) else (none)) else (none)) else (fairwaylaw3_SumParts.l0 kj9 l0 (wrap64 (x3_1 + 1))))) = some r := H
                  have A32 := Aside0.mk A320
                  clear A320
                  by_cases c33 : t132 = t115
                  ·rw [if_pos c33] at H
                   have c33b0 : (t132 == t115) = true := beq_iff_eq.mpr c33
                   have c33b1 : (t132 != t115) = false := bne_eq_false_iff_eq.mpr c33
                   clear c33
                   obtain rfl := Option.some.inj H
                   try go_wp2_with (first | ((with_reducible refine gate_dst (N := 76) rfl ?_); refine FR_conv (P := Try.prog) rfl (N := 76) rfl 9 30 5 _ rfl ((rd_T25 l0 x3_1).f1) rfl Try.underlying9 Try.underlying30 Try.underlying5 (Below.refl _ _) (Nat.le_refl _) ?_; intro v123 w34 ho35 hb hg_ hnew_; clear hg_ hnew_; (first | rw [← Ny122.out] at ho35 | (simp only [Int.reduceToNat] at ho35; rw [← Ny122.out] at ho35)); have HO124 := Aside0.mk (FR_lower ho35 (below_size bo)); replace HB := Aside0.mk (below_step bo hb); clear hb ho35; have p125 : 0 ≤ (x3_1 : Int) := od; have q125 : x3_1 < (l0.length : Int) := od; obtain ⟨ad125, e125, hx125_0, hx125_1, hx125_2⟩ := at_T25 HR0.out x3_1 p125 q125; obtain rfl : ad111 = ad125 := (by injection e125); replace hx125_0 := cx HB.out hx125_0; replace hx125_1 := cx HB.out hx125_1; replace hx125_2 := cx HB.out hx125_2; replace p125 := eq_true p125; replace q125 := eq_true q125) | ((with_reducible refine gate_callee (f := 8) rfl ?_); refine goesL_ (some 84) rfl rfl Try.func8 (by kernel_rfl) rfl #[.int .i64 ((rd_T25 l0 x3_1).f2), .int .i64 (((rd_T25 l0 x3_1).f1).size : Int)] rfl aa ?_; (with_reducible refine (fairwaylaw0_Within.calls ((rd_T25 l0 x3_1).f2) (((rd_T25 l0 x3_1).f1).size : Int) t126 _ A25.out).mono ?_); rintro e w' ⟨rfl, ⟨nd, rfl⟩⟩; refine ⟨_, rfl, ?_⟩; (try (rw [drewN_self w34]; generalize hq_ : World.drewN w34 _ = w34; have n0_ : Aside0 (FR 5 w34 w.heap.size (fun _ => True) v123 y122) := ⟨by rw [← hq_]; exact (rf HO124.out)⟩; have n1_ : Aside0 (Below w.heap.size w w34) := ⟨by rw [← hq_]; exact bo⟩; clear HO124 HB hq_; have HO124 := n0_; have HB := n1_; clear n0_ n1_))))
                   replace HO124 := Aside0.mk (FR_drew HO124.out)
                   replace HB := Aside0.mk (below_drew1 HB.out)
                   obtain ⟨Ao37, co37, eo37⟩ := FR_slice HO124.out
                   (first | subst eo37 | (injection eo37 with f1_ f2_ f3_; have f4_ := f1_.symm; have f5_ := f3_.symm; clear f1_ f2_ f3_; subst f4_; subst f5_))
                   have p127 : 0 ≤ (t126 : Int) := od
                   have q127 : t126 < (y122.length : Int) := od
                   obtain ⟨ad127, e127, hx127_0⟩ := FR_at_ HO124.out t126 p127 q127
                   cases e127
                   replace p127 := eq_true p127
                   replace q127 := eq_true q127
                   have p128 : 0 ≤ (x3_1 : Int) := od
                   have q128 : x3_1 < (l0.length : Int) := od
                   obtain ⟨ad128, e128, hx128_0, hx128_1, hx128_2⟩ := at_T25 HR0.out x3_1 p128 q128
                   have hw128_2 := hx128_2
                   have hw128_1 := hx128_1
                   have hw128_0 := hx128_0
                   obtain rfl : ad111 = ad128 := (by injection e128)
                   replace hx128_0 := cx HB.out hx128_0
                   replace hx128_1 := cx HB.out hx128_1
                   replace hx128_2 := cx HB.out hx128_2
                   replace p128 := eq_true p128
                   replace q128 := eq_true q128
                   refine start_ (n := 16) (S := fun w' => w'.cell? (ad127.add (t126).toNat) = some (.int .u8 (rd y122 t126)) ∧ w'.cell? (ad111.add ((x3_1).toNat * 3)) = some (.int .u32 ((rd_T25 l0 x3_1).f0)) ∧ w'.cell? ⟨(ad111.add ((x3_1).toNat * 3)).block, (ad111.add ((x3_1).toNat * 3)).off + 1, none⟩ = some (.string ((rd_T25 l0 x3_1).f1)) ∧ w'.cell? ⟨(ad111.add ((x3_1).toNat * 3)).block, (ad111.add ((x3_1).toNat * 3)).off + 2, none⟩ = some (.int .i64 ((rd_T25 l0 x3_1).f2))) (ds := [15]) #[O,O,O,O,O,O,O,O,O,O,O,O,O,O,O,O] (by kernel_rfl) rfl rfl ⟨hx127_0, ((HB.out.cell (World.block_lt_of_cell? w _ hw128_0)).trans hw128_0), ((HB.out.cell (World.block_lt_of_cell? w _ hw128_1)).trans hw128_1), ((HB.out.cell (World.block_lt_of_cell? w _ hw128_2)).trans hw128_2)⟩ (fun hHeld => ?_); refine with_tabW fairwaylaw3_SumParts.tab14 fairwaylaw3_SumParts.bits14 (fun HT_ HW_ => ?_)
                   generalize w34.drew = w36 at HO124 HB hx127_0 hx128_0 hx128_1 hx128_2 hHeld ⊢
                   refine pz (i := 0) (N := some 85) #[I,O,O,O,O,O,O,O,O,O,O,O,O,O,O,O] ?_
                   refine pz (i := 1) (N := some 86) #[I,I,O,O,O,O,O,O,O,O,O,O,O,O,O,O] ?_
                   refine pz (i := 2) (N := some 87) #[I,I,I,O,O,O,O,O,O,O,O,O,O,O,O,O] ?_
                   refine pz (i := 3) (N := some 88) #[I,I,I,I,O,O,O,O,O,O,O,O,O,O,O,O] ?_
                   refine pz (i := 4) (N := some 89) #[I,I,I,I,I,O,O,O,O,O,O,O,O,O,O,O] ?_
                   refine pz (i := 6) (N := some 91) #[I,I,I,I,I,O,I,O,O,O,O,O,O,O,O,O] ?_
                   refine pz (i := 7) (N := some 92) #[I,I,I,I,I,O,I,I,O,O,O,O,O,O,O,O] ?_
                   refine pz (i := 8) (N := some 93) #[I,I,I,I,I,O,I,I,I,O,O,O,O,O,O,O] ?_
                   refine pz (i := 9) (N := some 94) #[I,I,I,I,I,O,I,I,I,I,O,O,O,O,O,O] ?_
                   refine tz (i := 5) (N := some 90) #[I,I,I,I,I,I,I,I,I,I,O,O,O,O,O,O] ?_
                   refine tz (i := 10) (N := some 95) #[I,I,I,I,I,I,I,I,I,I,I,O,O,O,O,O] ?_
                   refine one_ (i := 11) (N := some 96) #[I,I,I,I,I,I,I,I,I,I,I,I,O,O,O,O] rfl rfl (one_of HT_.out (by kernel_rfl)) (by decide) (fun K hK => ?_)
                   refine goes_ Try.func8 (by kernel_rfl) rfl #[.int .i64 ((rd_T25 l0 x3_1).f2), .int .i64 8] (by rfl) rfl rfl aa ?_
                   with_reducible refine (fairwaylaw0_Within.calls ((rd_T25 l0 x3_1).f2) 8 t129 _ A28.out).mono ?_
                   rintro e w' ⟨rfl, ⟨nd, rfl⟩⟩
                   refine ⟨_, rfl, ?_⟩
                   have p31 : 0 ≤ (t126 : Int) := od
                   have q31 : (t126 : Int) < ((y122.length : Int) : Int) := od
                   obtain ⟨go31, co31, eo31, gb31, gl31, cl31, HG31⟩ := FR_form HO124.out (by omega)
                   (first | cases eo31 | (injection eo31 with ea_ en_ ec_; (first | subst ea_ | (injection ea_ with ea_; subst ea_)); subst ec_; clear en_))
                   have GB31 := Aside0.mk gb31
                   have GG31 := Aside0.mk HG31
                   clear gb31 gl31 HG31
                   (first | simp only [add_plain] at hx127_0 | skip)
                   obtain ⟨hx31_0, hf31_0⟩ := FR_celln 0 HO124.out (t126 : Int) p31 q31
                   replace p31 := eq_true p31
                   replace q31 := eq_true q31
                   have HP38 := FR_putn HO124.out (t126 : Int) (Go.bits .xor .u8 (rd y122 t126) (ji30))
                   rw [← Ny130.out] at HP38
                   have HQ38 := Aside0.mk HP38
                   clear HP38
                   refine hK.out _ _ ⟨hHeld.1, ((HB.out.cell (World.block_lt_of_cell? w _ hw128_0)).trans hw128_0), ((HB.out.cell (World.block_lt_of_cell? w _ hw128_1)).trans hw128_1), ((HB.out.cell (World.block_lt_of_cell? w _ hw128_2)).trans hw128_2)⟩ (fun hHeld => ?_)
                   clear hK K
                   refine norm_ (a' := ?_) ?_ ?_
                   rotate_left
                   ·show Act.put _ (some 96) _ = _
                    simp only [Act.put, List.setIfInBounds_toArray, List.set_cons_zero, List.set_cons_succ, i64_w, i32_w]
                    rfl
                   refine pz (i := 12) (N := some 97) #[I,I,I,I,I,I,I,I,I,I,I,I,I,O,O,O] ?_
                   refine pz (i := 13) (N := some 98) #[I,I,I,I,I,I,I,I,I,I,I,I,I,I,O,O] ?_
                   refine pz (i := 14) (N := some 99) #[I,I,I,I,I,I,I,I,I,I,I,I,I,I,I,O] ?_
                   refine last_ (i := 15) (N := none) #[I,I,I,I,I,I,I,I,I,I,I,I,I,I,I,I] rfl rfl (one_of HT_.out (by kernel_rfl)) (by decide) (fun K hK => ?_)
                   refine skip_ (w1 := ?_) (by rfl) rfl ?_ ?_
                   rotate_left
                   ·go_simp
                    rfl
                   refine hK.out _ _ ?_
                   clear hK K
                   refine done_ (done_of HT_.out (by kernel_rfl)) ?_
                   try go_wp2
                   (try (rw [drewN_self w36]; generalize hq_ : World.drewN w36 _ = w36; have n0_ := Aside0.mk (FR_at hq_ HO124.out); have n1_ := Aside0.mk (below_at hq_ HB.out); clear hq_ HO124 HB; have HO124 := n0_; have HB := n1_; clear n0_ n1_))
                   (try simp only [u8w])
                   have n0_ : Aside0 (FR 5 (w36.setCell ⟨go31, (t126 : Int).toNat, none⟩ (.int .u8 (Go.bits .xor .u8 (rd y122 t126) (ji30)))) w.heap.size (fun _ => True) (.slice (some ⟨go31, 0, none⟩) y122.length co37) y130) := ⟨by (with_reducible repeat (first | apply Kd.R_alloc | apply Kd.R_drewN | apply Kd.R_drew | apply FR_alloc | apply FR_drewN | apply FR_drew)); first | exact HQ38.out | (rw [Ny130.out]; exact FR_putn HO124.out _ _)⟩
                   have n1_ : Aside0 (Below w.heap.size w (w36.setCell ⟨go31, (t126 : Int).toNat, none⟩ (.int .u8 (Go.bits .xor .u8 (rd y122 t126) (ji30))))) := ⟨by repeat (first | (with_reducible first | exact HB.out | apply below_alloc | apply pw_below_drewN | apply below_drew1 | refine below_set ?_ GB31.out) | exact HB.out)⟩
                   (try clear HO124)
                   (try clear HB)
                   generalize (w36.setCell ⟨go31, (t126 : Int).toNat, none⟩ (.int .u8 (Go.bits .xor .u8 (rd y122 t126) (ji30)))) = w39 at n0_ n1_ ⊢
                   have HO124 := n0_
                   have HB := n1_
                   clear n0_ n1_
                   (try (rw [drewN_self w39]; generalize hq_ : World.drewN w39 _ = w39; have n0_ : Aside0 (FR 5 w39 w.heap.size (fun _ => True) (.slice (some ⟨go31, 0, none⟩) y122.length co37) y130) := ⟨by rw [← hq_]; exact (rf HO124.out)⟩; have n1_ : Aside0 (Below w.heap.size w w39) := ⟨by rw [← hq_]; exact bo⟩; clear HO124 HB hq_; have HO124 := n0_; have HB := n1_; clear n0_ n1_))
                   replace HO124 := Aside0.mk (FR_drew HO124.out)
                   replace HB := Aside0.mk (below_drew1 HB.out)
                   have p131 : 0 ≤ (x3_1 : Int) := od
                   have q131 : x3_1 < (l0.length : Int) := od
                   obtain ⟨ad131, e131, hx131_0, hx131_1, hx131_2⟩ := at_T25 HR0.out x3_1 p131 q131
                   have hw131_2 := hx131_2
                   have hw131_1 := hx131_1
                   have hw131_0 := hx131_0
                   obtain rfl : ad111 = ad131 := (by injection e131)
                   replace hx131_0 := cx HB.out hx131_0
                   replace hx131_1 := cx HB.out hx131_1
                   replace hx131_2 := cx HB.out hx131_2
                   replace p131 := eq_true p131
                   replace q131 := eq_true q131
                   refine start_ (n := 10) (S := fun w' => w'.cell? (ad111.add ((x3_1).toNat * 3)) = some (.int .u32 ((rd_T25 l0 x3_1).f0)) ∧ w'.cell? ⟨(ad111.add ((x3_1).toNat * 3)).block, (ad111.add ((x3_1).toNat * 3)).off + 1, none⟩ = some (.string ((rd_T25 l0 x3_1).f1)) ∧ w'.cell? ⟨(ad111.add ((x3_1).toNat * 3)).block, (ad111.add ((x3_1).toNat * 3)).off + 2, none⟩ = some (.int .i64 ((rd_T25 l0 x3_1).f2)) ∧ (convert 30 9 (.slice (some ⟨go31, 0, none⟩) y122.length co37)).run Try.prog w' = .ok (.string (strOfNums y130)) w') (ds := []) #[O,O,O,O,O,O,O,O,O,O] (by kernel_rfl) rfl rfl ⟨((HB.out.cell (World.block_lt_of_cell? w _ hw131_0)).trans hw131_0), ((HB.out.cell (World.block_lt_of_cell? w _ hw131_1)).trans hw131_1), ((HB.out.cell (World.block_lt_of_cell? w _ hw131_2)).trans hw131_2), (FR_string (P := Try.prog) Try.underlying30 Try.underlying5 Try.underlying9 HO124.out)⟩ (fun hHeld => ?_); refine with_tabW fairwaylaw3_SumParts.tab15 fairwaylaw3_SumParts.bits15 (fun HT_ HW_ => ?_)
                   generalize w39.drew = w40 at HO124 HB HQ38 hx131_0 hx131_1 hx131_2 hHeld ⊢
                   refine pz (i := 0) (N := some 100) #[I,O,O,O,O,O,O,O,O,O] ?_
                   refine pz (i := 1) (N := some 101) #[I,I,O,O,O,O,O,O,O,O] ?_
                   refine pz (i := 2) (N := some 102) #[I,I,I,O,O,O,O,O,O,O] ?_
                   refine pz (i := 3) (N := some 103) #[I,I,I,I,O,O,O,O,O,O] ?_
                   refine pz (i := 5) (N := some 105) #[I,I,I,I,O,I,O,O,O,O] ?_
                   refine pz (i := 8) (N := some 108) #[I,I,I,I,O,I,O,O,I,O] ?_
                   refine tz (i := 4) (N := some 104) #[I,I,I,I,I,I,O,O,I,O] ?_
                   refine tz (i := 6) (N := some 106) #[I,I,I,I,I,I,I,O,I,O] ?_
                   refine one_ (i := 7) (N := some 107) #[I,I,I,I,I,I,I,I,I,O] rfl rfl (one_of HT_.out (by kernel_rfl)) (by decide) (fun K hK => ?_)
                   refine goes_ Try.func5 (by kernel_rfl) rfl #[.int .u32 ((rd_T25 l0 x3_1).f0), .string (strOfNums y130)] (by rfl) rfl rfl aa ?_
                   with_reducible refine (sum_Sum.calls kj9 ((rd_T25 l0 x3_1).f0) (strOfNums y130) t132 _ A32.out).mono ?_
                   rintro e w' ⟨rfl, ⟨nd, rfl⟩⟩
                   refine ⟨_, rfl, ?_⟩
                   refine hK.out _ _ ⟨((HB.out.cell (World.block_lt_of_cell? w _ hw131_0)).trans hw131_0), ((HB.out.cell (World.block_lt_of_cell? w _ hw131_1)).trans hw131_1), ((HB.out.cell (World.block_lt_of_cell? w _ hw131_2)).trans hw131_2), (FR_string (P := Try.prog) Try.underlying30 Try.underlying5 Try.underlying9 HO124.out)⟩ (fun hHeld => ?_)
                   clear hK K
                   refine norm_ (a' := ?_) ?_ ?_
                   rotate_left
                   ·show Act.put _ (some 107) _ = _
                    simp only [Act.put, List.setIfInBounds_toArray, List.set_cons_zero, List.set_cons_succ, i64_w, i32_w]
                    rfl
                   refine pz (i := 9) (N := some 109) #[I,I,I,I,I,I,I,I,I,I] ?_
                   refine done_ (done_of HT_.out (by kernel_rfl)) ?_
                   try go_wp2
                   go_ret
                   exact ⟨by first | rfl | (simp [errW_none, errW_some] <;> rfl) | (simp only [← hji30]; first | rfl | (simp [errW_none, errW_some] <;> rfl)) | (simp [*, errW_none, errW_some] <;> rfl), bo⟩
                  ·rw [if_neg c33] at H
                   have c33b0 : (t132 == t115) = false := beq_eq_false_iff_ne.mpr c33
                   have c33b1 : (t132 != t115) = true := bne_iff_ne.mpr c33
                   by_cases c41 : (wrap64 (t126 + 1)) < (((rd_T25 l0 x3_1).f1).size : Int)
                   ·rw [if_pos c41] at H
                    have c41b0 : decide ((wrap64 (t126 + 1)) < (((rd_T25 l0 x3_1).f1).size : Int)) = true := decide_eq_true c41
                    clear c41
                    obtain ⟨ji42, hji42⟩ : ∃ j_ : Int, (wrap64 (t126 + 1)) = j_ := ⟨_, rfl⟩
                    replace H : (if 0 ≤ (ji42) then (if (ji42) < (y122.length : Int) then ((sum_Sum.f kj9 ((rd_T25 l0 x3_1).f0) (strOfNums (y130.set ((ji42) : Int).toNat (Go.bits .xor .u8 (rd y130 (ji42)) (((rd_T25 l0 x3_1).f2) % 256))))).bind fun t137 => (if t137 = t115 then (some false) else (fairwaylaw3_SumParts.l0 kj9 l0 (wrap64 (x3_1 + 1))))) else (none)) else (none)) = some r := by first | (rw [hji42] at H; exact H) | (simp only [hji42] at H ⊢; exact H)
                    (try rw [hji42] at c41b0)
                    (try rw [hji42] at A25)
                    (try rw [hji42] at A28)
                    (try rw [hji42] at A32)
                    have hji42w : (IntKind.i64.wrap (t126 + 1)) = ji42 := (i64_w _).trans hji42
                    by_cases c43 : 0 ≤ (ji42)
                    ·rw [if_pos c43] at H
                     have c43b0 : decide (0 ≤ (ji42)) = true := decide_eq_true c43
                     clear c43
                     by_cases c44 : (ji42) < (y122.length : Int)
                     ·rw [if_pos c44] at H
                      have c44b0 : decide ((ji42) < (y122.length : Int)) = true := decide_eq_true c44
                      clear c44
                      obtain ⟨y135, hy135⟩ : ∃ y_ : List Int, y_ = (y130.set ((ji42) : Int).toNat (Go.bits .xor .u8 (rd y130 (ji42)) (((rd_T25 l0 x3_1).f2) % 256))) := ⟨_, rfl⟩
                      replace H : ((sum_Sum.f kj9 ((rd_T25 l0 x3_1).f0) (strOfNums y135)).bind fun t137 => (if t137 = t115 then (some false) else (fairwaylaw3_SumParts.l0 kj9 l0 (wrap64 (x3_1 + 1))))) = some r := by first | (rw [hy135]; with_reducible exact H) | (have H2_ := (Option.bind_some _ _).symm.trans H; rw [hy135]; with_reducible exact H2_) | (have H2_ := (Option.bind_some _ _).symm.trans H; with_reducible exact H2_) | with_reducible exact H | (rw [hy135]; exact H) | exact H
                      have Ny135 := Aside0.mk hy135
                      clear hy135
                      replace H := Option.bind_eq_some_iff.mp H
                      obtain ⟨t137, A460, H⟩ := H
                      replace H : (if t137 = t115 then (some false) else (fairwaylaw3_SumParts.l0 kj9 l0 (wrap64 (x3_1 + 1)))) = some r := H
                      have A46 := Aside0.mk A460
                      clear A460
                      by_cases c47 : t137 = t115
                      ·rw [if_pos c47] at H
                       have c47b0 : (t137 == t115) = true := beq_iff_eq.mpr c47
                       have c47b1 : (t137 != t115) = false := bne_eq_false_iff_eq.mpr c47
                       clear c47
                       obtain rfl := Option.some.inj H
                       try go_wp2_with (first | ((with_reducible refine gate_dst (N := 76) rfl ?_); refine FR_conv (P := Try.prog) rfl (N := 76) rfl 9 30 5 _ rfl ((rd_T25 l0 x3_1).f1) rfl Try.underlying9 Try.underlying30 Try.underlying5 (Below.refl _ _) (Nat.le_refl _) ?_; intro v123 w48 ho49 hb hg_ hnew_; clear hg_ hnew_; (first | rw [← Ny122.out] at ho49 | (simp only [Int.reduceToNat] at ho49; rw [← Ny122.out] at ho49)); have HO124 := Aside0.mk (FR_lower ho49 (below_size bo)); replace HB := Aside0.mk (below_step bo hb); clear hb ho49; have p125 : 0 ≤ (x3_1 : Int) := od; have q125 : x3_1 < (l0.length : Int) := od; obtain ⟨ad125, e125, hx125_0, hx125_1, hx125_2⟩ := at_T25 HR0.out x3_1 p125 q125; obtain rfl : ad111 = ad125 := (by injection e125); replace hx125_0 := cx HB.out hx125_0; replace hx125_1 := cx HB.out hx125_1; replace hx125_2 := cx HB.out hx125_2; replace p125 := eq_true p125; replace q125 := eq_true q125) | ((with_reducible refine gate_callee (f := 8) rfl ?_); refine goesL_ (some 84) rfl rfl Try.func8 (by kernel_rfl) rfl #[.int .i64 ((rd_T25 l0 x3_1).f2), .int .i64 (((rd_T25 l0 x3_1).f1).size : Int)] rfl aa ?_; (with_reducible refine (fairwaylaw0_Within.calls ((rd_T25 l0 x3_1).f2) (((rd_T25 l0 x3_1).f1).size : Int) t126 _ A25.out).mono ?_); rintro e w' ⟨rfl, ⟨nd, rfl⟩⟩; refine ⟨_, rfl, ?_⟩; (try (rw [drewN_self w48]; generalize hq_ : World.drewN w48 _ = w48; have n0_ : Aside0 (FR 5 w48 w.heap.size (fun _ => True) v123 y122) := ⟨by rw [← hq_]; exact (rf HO124.out)⟩; have n1_ : Aside0 (Below w.heap.size w w48) := ⟨by rw [← hq_]; exact bo⟩; clear HO124 HB hq_; have HO124 := n0_; have HB := n1_; clear n0_ n1_))))
                       replace HO124 := Aside0.mk (FR_drew HO124.out)
                       replace HB := Aside0.mk (below_drew1 HB.out)
                       obtain ⟨Ao51, co51, eo51⟩ := FR_slice HO124.out
                       (first | subst eo51 | (injection eo51 with f1_ f2_ f3_; have f4_ := f1_.symm; have f5_ := f3_.symm; clear f1_ f2_ f3_; subst f4_; subst f5_))
                       have p127 : 0 ≤ (t126 : Int) := od
                       have q127 : t126 < (y122.length : Int) := od
                       obtain ⟨ad127, e127, hx127_0⟩ := FR_at_ HO124.out t126 p127 q127
                       cases e127
                       replace p127 := eq_true p127
                       replace q127 := eq_true q127
                       have p128 : 0 ≤ (x3_1 : Int) := od
                       have q128 : x3_1 < (l0.length : Int) := od
                       obtain ⟨ad128, e128, hx128_0, hx128_1, hx128_2⟩ := at_T25 HR0.out x3_1 p128 q128
                       have hw128_2 := hx128_2
                       have hw128_1 := hx128_1
                       have hw128_0 := hx128_0
                       obtain rfl : ad111 = ad128 := (by injection e128)
                       replace hx128_0 := cx HB.out hx128_0
                       replace hx128_1 := cx HB.out hx128_1
                       replace hx128_2 := cx HB.out hx128_2
                       replace p128 := eq_true p128
                       replace q128 := eq_true q128
                       refine start_ (n := 16) (S := fun w' => w'.cell? (ad127.add (t126).toNat) = some (.int .u8 (rd y122 t126)) ∧ w'.cell? (ad111.add ((x3_1).toNat * 3)) = some (.int .u32 ((rd_T25 l0 x3_1).f0)) ∧ w'.cell? ⟨(ad111.add ((x3_1).toNat * 3)).block, (ad111.add ((x3_1).toNat * 3)).off + 1, none⟩ = some (.string ((rd_T25 l0 x3_1).f1)) ∧ w'.cell? ⟨(ad111.add ((x3_1).toNat * 3)).block, (ad111.add ((x3_1).toNat * 3)).off + 2, none⟩ = some (.int .i64 ((rd_T25 l0 x3_1).f2))) (ds := [15]) #[O,O,O,O,O,O,O,O,O,O,O,O,O,O,O,O] (by kernel_rfl) rfl rfl ⟨hx127_0, ((HB.out.cell (World.block_lt_of_cell? w _ hw128_0)).trans hw128_0), ((HB.out.cell (World.block_lt_of_cell? w _ hw128_1)).trans hw128_1), ((HB.out.cell (World.block_lt_of_cell? w _ hw128_2)).trans hw128_2)⟩ (fun hHeld => ?_); refine with_tabW fairwaylaw3_SumParts.tab14 fairwaylaw3_SumParts.bits14 (fun HT_ HW_ => ?_)
                       generalize w48.drew = w50 at HO124 HB hx127_0 hx128_0 hx128_1 hx128_2 hHeld ⊢
                       refine pz (i := 0) (N := some 85) #[I,O,O,O,O,O,O,O,O,O,O,O,O,O,O,O] ?_
                       refine pz (i := 1) (N := some 86) #[I,I,O,O,O,O,O,O,O,O,O,O,O,O,O,O] ?_
                       refine pz (i := 2) (N := some 87) #[I,I,I,O,O,O,O,O,O,O,O,O,O,O,O,O] ?_
                       refine pz (i := 3) (N := some 88) #[I,I,I,I,O,O,O,O,O,O,O,O,O,O,O,O] ?_
                       refine pz (i := 4) (N := some 89) #[I,I,I,I,I,O,O,O,O,O,O,O,O,O,O,O] ?_
                       refine pz (i := 6) (N := some 91) #[I,I,I,I,I,O,I,O,O,O,O,O,O,O,O,O] ?_
                       refine pz (i := 7) (N := some 92) #[I,I,I,I,I,O,I,I,O,O,O,O,O,O,O,O] ?_
                       refine pz (i := 8) (N := some 93) #[I,I,I,I,I,O,I,I,I,O,O,O,O,O,O,O] ?_
                       refine pz (i := 9) (N := some 94) #[I,I,I,I,I,O,I,I,I,I,O,O,O,O,O,O] ?_
                       refine tz (i := 5) (N := some 90) #[I,I,I,I,I,I,I,I,I,I,O,O,O,O,O,O] ?_
                       refine tz (i := 10) (N := some 95) #[I,I,I,I,I,I,I,I,I,I,I,O,O,O,O,O] ?_
                       refine one_ (i := 11) (N := some 96) #[I,I,I,I,I,I,I,I,I,I,I,I,O,O,O,O] rfl rfl (one_of HT_.out (by kernel_rfl)) (by decide) (fun K hK => ?_)
                       refine goes_ Try.func8 (by kernel_rfl) rfl #[.int .i64 ((rd_T25 l0 x3_1).f2), .int .i64 8] (by rfl) rfl rfl aa ?_
                       with_reducible refine (fairwaylaw0_Within.calls ((rd_T25 l0 x3_1).f2) 8 t129 _ A28.out).mono ?_
                       rintro e w' ⟨rfl, ⟨nd, rfl⟩⟩
                       refine ⟨_, rfl, ?_⟩
                       have p31 : 0 ≤ (t126 : Int) := od
                       have q31 : (t126 : Int) < ((y122.length : Int) : Int) := od
                       obtain ⟨go31, co31, eo31, gb31, gl31, cl31, HG31⟩ := FR_form HO124.out (by omega)
                       (first | cases eo31 | (injection eo31 with ea_ en_ ec_; (first | subst ea_ | (injection ea_ with ea_; subst ea_)); subst ec_; clear en_))
                       have GB31 := Aside0.mk gb31
                       have GG31 := Aside0.mk HG31
                       clear gb31 gl31 HG31
                       (first | simp only [add_plain] at hx127_0 | skip)
                       obtain ⟨hx31_0, hf31_0⟩ := FR_celln 0 HO124.out (t126 : Int) p31 q31
                       replace p31 := eq_true p31
                       replace q31 := eq_true q31
                       have HP52 := FR_putn HO124.out (t126 : Int) (Go.bits .xor .u8 (rd y122 t126) (ji30))
                       rw [← Ny130.out] at HP52
                       have HQ52 := Aside0.mk HP52
                       clear HP52
                       refine hK.out _ _ ⟨hHeld.1, ((HB.out.cell (World.block_lt_of_cell? w _ hw128_0)).trans hw128_0), ((HB.out.cell (World.block_lt_of_cell? w _ hw128_1)).trans hw128_1), ((HB.out.cell (World.block_lt_of_cell? w _ hw128_2)).trans hw128_2)⟩ (fun hHeld => ?_)
                       clear hK K
                       refine norm_ (a' := ?_) ?_ ?_
                       rotate_left
                       ·show Act.put _ (some 96) _ = _
                        simp only [Act.put, List.setIfInBounds_toArray, List.set_cons_zero, List.set_cons_succ, i64_w, i32_w]
                        rfl
                       refine pz (i := 12) (N := some 97) #[I,I,I,I,I,I,I,I,I,I,I,I,I,O,O,O] ?_
                       refine pz (i := 13) (N := some 98) #[I,I,I,I,I,I,I,I,I,I,I,I,I,I,O,O] ?_
                       refine pz (i := 14) (N := some 99) #[I,I,I,I,I,I,I,I,I,I,I,I,I,I,I,O] ?_
                       refine last_ (i := 15) (N := none) #[I,I,I,I,I,I,I,I,I,I,I,I,I,I,I,I] rfl rfl (one_of HT_.out (by kernel_rfl)) (by decide) (fun K hK => ?_)
                       refine skip_ (w1 := ?_) (by rfl) rfl ?_ ?_
                       rotate_left
                       ·go_simp
                        rfl
                       refine hK.out _ _ ?_
                       clear hK K
                       refine done_ (done_of HT_.out (by kernel_rfl)) ?_
                       try go_wp2
                       (try (rw [drewN_self w50]; generalize hq_ : World.drewN w50 _ = w50; have n0_ := Aside0.mk (FR_at hq_ HO124.out); have n1_ := Aside0.mk (below_at hq_ HB.out); clear hq_ HO124 HB; have HO124 := n0_; have HB := n1_; clear n0_ n1_))
                       (try simp only [u8w])
                       have n0_ : Aside0 (FR 5 (w50.setCell ⟨go31, (t126 : Int).toNat, none⟩ (.int .u8 (Go.bits .xor .u8 (rd y122 t126) (ji30)))) w.heap.size (fun _ => True) (.slice (some ⟨go31, 0, none⟩) y122.length co51) y130) := ⟨by (with_reducible repeat (first | apply Kd.R_alloc | apply Kd.R_drewN | apply Kd.R_drew | apply FR_alloc | apply FR_drewN | apply FR_drew)); first | exact HQ52.out | (rw [Ny130.out]; exact FR_putn HO124.out _ _)⟩
                       have n1_ : Aside0 (Below w.heap.size w (w50.setCell ⟨go31, (t126 : Int).toNat, none⟩ (.int .u8 (Go.bits .xor .u8 (rd y122 t126) (ji30))))) := ⟨by repeat (first | (with_reducible first | exact HB.out | apply below_alloc | apply pw_below_drewN | apply below_drew1 | refine below_set ?_ GB31.out) | exact HB.out)⟩
                       (try clear HO124)
                       (try clear HB)
                       generalize (w50.setCell ⟨go31, (t126 : Int).toNat, none⟩ (.int .u8 (Go.bits .xor .u8 (rd y122 t126) (ji30)))) = w53 at n0_ n1_ ⊢
                       have HO124 := n0_
                       have HB := n1_
                       clear n0_ n1_
                       (try (rw [drewN_self w53]; generalize hq_ : World.drewN w53 _ = w53; have n0_ : Aside0 (FR 5 w53 w.heap.size (fun _ => True) (.slice (some ⟨go31, 0, none⟩) y122.length co51) y130) := ⟨by rw [← hq_]; exact (rf HO124.out)⟩; have n1_ : Aside0 (Below w.heap.size w w53) := ⟨by rw [← hq_]; exact bo⟩; clear HO124 HB hq_; have HO124 := n0_; have HB := n1_; clear n0_ n1_))
                       replace HO124 := Aside0.mk (FR_drew HO124.out)
                       replace HB := Aside0.mk (below_drew1 HB.out)
                       have p131 : 0 ≤ (x3_1 : Int) := od
                       have q131 : x3_1 < (l0.length : Int) := od
                       obtain ⟨ad131, e131, hx131_0, hx131_1, hx131_2⟩ := at_T25 HR0.out x3_1 p131 q131
                       have hw131_2 := hx131_2
                       have hw131_1 := hx131_1
                       have hw131_0 := hx131_0
                       obtain rfl : ad111 = ad131 := (by injection e131)
                       replace hx131_0 := cx HB.out hx131_0
                       replace hx131_1 := cx HB.out hx131_1
                       replace hx131_2 := cx HB.out hx131_2
                       replace p131 := eq_true p131
                       replace q131 := eq_true q131
                       refine start_ (n := 10) (S := fun w' => w'.cell? (ad111.add ((x3_1).toNat * 3)) = some (.int .u32 ((rd_T25 l0 x3_1).f0)) ∧ w'.cell? ⟨(ad111.add ((x3_1).toNat * 3)).block, (ad111.add ((x3_1).toNat * 3)).off + 1, none⟩ = some (.string ((rd_T25 l0 x3_1).f1)) ∧ w'.cell? ⟨(ad111.add ((x3_1).toNat * 3)).block, (ad111.add ((x3_1).toNat * 3)).off + 2, none⟩ = some (.int .i64 ((rd_T25 l0 x3_1).f2)) ∧ (convert 30 9 (.slice (some ⟨go31, 0, none⟩) y122.length co51)).run Try.prog w' = .ok (.string (strOfNums y130)) w') (ds := []) #[O,O,O,O,O,O,O,O,O,O] (by kernel_rfl) rfl rfl ⟨((HB.out.cell (World.block_lt_of_cell? w _ hw131_0)).trans hw131_0), ((HB.out.cell (World.block_lt_of_cell? w _ hw131_1)).trans hw131_1), ((HB.out.cell (World.block_lt_of_cell? w _ hw131_2)).trans hw131_2), (FR_string (P := Try.prog) Try.underlying30 Try.underlying5 Try.underlying9 HO124.out)⟩ (fun hHeld => ?_); refine with_tabW fairwaylaw3_SumParts.tab15 fairwaylaw3_SumParts.bits15 (fun HT_ HW_ => ?_)
                       generalize w53.drew = w54 at HO124 HB HQ52 hx131_0 hx131_1 hx131_2 hHeld ⊢
                       refine pz (i := 0) (N := some 100) #[I,O,O,O,O,O,O,O,O,O] ?_
                       refine pz (i := 1) (N := some 101) #[I,I,O,O,O,O,O,O,O,O] ?_
                       refine pz (i := 2) (N := some 102) #[I,I,I,O,O,O,O,O,O,O] ?_
                       refine pz (i := 3) (N := some 103) #[I,I,I,I,O,O,O,O,O,O] ?_
                       refine pz (i := 5) (N := some 105) #[I,I,I,I,O,I,O,O,O,O] ?_
                       refine pz (i := 8) (N := some 108) #[I,I,I,I,O,I,O,O,I,O] ?_
                       refine tz (i := 4) (N := some 104) #[I,I,I,I,I,I,O,O,I,O] ?_
                       refine tz (i := 6) (N := some 106) #[I,I,I,I,I,I,I,O,I,O] ?_
                       refine one_ (i := 7) (N := some 107) #[I,I,I,I,I,I,I,I,I,O] rfl rfl (one_of HT_.out (by kernel_rfl)) (by decide) (fun K hK => ?_)
                       refine goes_ Try.func5 (by kernel_rfl) rfl #[.int .u32 ((rd_T25 l0 x3_1).f0), .string (strOfNums y130)] (by rfl) rfl rfl aa ?_
                       with_reducible refine (sum_Sum.calls kj9 ((rd_T25 l0 x3_1).f0) (strOfNums y130) t132 _ A32.out).mono ?_
                       rintro e w' ⟨rfl, ⟨nd, rfl⟩⟩
                       refine ⟨_, rfl, ?_⟩
                       refine hK.out _ _ ⟨((HB.out.cell (World.block_lt_of_cell? w _ hw131_0)).trans hw131_0), ((HB.out.cell (World.block_lt_of_cell? w _ hw131_1)).trans hw131_1), ((HB.out.cell (World.block_lt_of_cell? w _ hw131_2)).trans hw131_2), (FR_string (P := Try.prog) Try.underlying30 Try.underlying5 Try.underlying9 HO124.out)⟩ (fun hHeld => ?_)
                       clear hK K
                       refine norm_ (a' := ?_) ?_ ?_
                       rotate_left
                       ·show Act.put _ (some 107) _ = _
                        simp only [Act.put, List.setIfInBounds_toArray, List.set_cons_zero, List.set_cons_succ, i64_w, i32_w]
                        rfl
                       refine pz (i := 9) (N := some 109) #[I,I,I,I,I,I,I,I,I,I] ?_
                       refine done_ (done_of HT_.out (by kernel_rfl)) ?_
                       try go_wp2
                       (try (rw [drewN_self w54]; generalize hq_ : World.drewN w54 _ = w54; have n0_ : Aside0 (FR 5 w54 w.heap.size (fun _ => True) (.slice (some ⟨go31, 0, none⟩) y122.length co51) y130) := ⟨by rw [← hq_]; exact (rf HO124.out)⟩; have n1_ : Aside0 (Below w.heap.size w w54) := ⟨by rw [← hq_]; exact bo⟩; clear HO124 HB hq_; have HO124 := n0_; have HB := n1_; clear n0_ n1_))
                       replace HO124 := Aside0.mk (FR_drew HO124.out)
                       replace HB := Aside0.mk (below_drew1 HB.out)
                       have p133 : 0 ≤ ((ji42) : Int) := od
                       have q133 : (ji42) < (y130.length : Int) := (by have h_ : ((ji42) : Int) < ((y122.length : Int) : Int) := od; first | (have e_ := (Kd.R_reads' HO124.out).1; omega) | simpa only [Ny130.out, List.length_set] using h_)
                       have ql133 : (((ji42) : Int) < ((y122.length : Int) : Int)) = True := eq_true (od)
                       obtain ⟨ad133, e133, hx133_0⟩ := FR_at_ HO124.out (ji42) p133 q133
                       obtain rfl : (⟨go31, 0, none⟩ : Addr) = ad133 := (by injection e133)
                       (first | simp only [add_plain] at hx133_0 | simp only [add_at] at hx133_0 | simp only [Addr.add, Nat.zero_add] at hx133_0 | skip)
                       replace p133 := eq_true p133
                       replace q133 := eq_true q133
                       have p134 : 0 ≤ (x3_1 : Int) := od
                       have q134 : x3_1 < (l0.length : Int) := od
                       obtain ⟨ad134, e134, hx134_0, hx134_1, hx134_2⟩ := at_T25 HR0.out x3_1 p134 q134
                       have hw134_2 := hx134_2
                       have hw134_1 := hx134_1
                       have hw134_0 := hx134_0
                       obtain rfl : ad111 = ad134 := (by injection e134)
                       replace hx134_0 := cx HB.out hx134_0
                       replace hx134_1 := cx HB.out hx134_1
                       replace hx134_2 := cx HB.out hx134_2
                       replace p134 := eq_true p134
                       replace q134 := eq_true q134
                       have p45 : 0 ≤ ((ji42) : Int) := od
                       have q45 : ((ji42) : Int) < ((y122.length : Int) : Int) := od
                       obtain ⟨hx45_0, hf45_0⟩ := FR_celln 0 HO124.out ((ji42) : Int) p45 q45
                       replace p45 := eq_true p45
                       replace q45 := eq_true q45
                       have HP56 := FR_putn HO124.out ((ji42) : Int) (Go.bits .xor .u8 (rd y130 (ji42)) (((rd_T25 l0 x3_1).f2) % 256))
                       rw [← Ny135.out] at HP56
                       have HQ56 := Aside0.mk HP56
                       clear HP56
                       refine start_ (n := 17) (S := fun w' => w'.cell? ⟨go31, ((ji42)).toNat, none⟩ = some (.int .u8 (rd y130 (ji42))) ∧ w'.cell? (ad111.add ((x3_1).toNat * 3)) = some (.int .u32 ((rd_T25 l0 x3_1).f0)) ∧ w'.cell? ⟨(ad111.add ((x3_1).toNat * 3)).block, (ad111.add ((x3_1).toNat * 3)).off + 1, none⟩ = some (.string ((rd_T25 l0 x3_1).f1)) ∧ w'.cell? ⟨(ad111.add ((x3_1).toNat * 3)).block, (ad111.add ((x3_1).toNat * 3)).off + 2, none⟩ = some (.int .i64 ((rd_T25 l0 x3_1).f2))) (ds := [16]) #[O,O,O,O,O,O,O,O,O,O,O,O,O,O,O,O,O] (by kernel_rfl) rfl rfl ⟨hx133_0, ((HB.out.cell (World.block_lt_of_cell? w _ hw134_0)).trans hw134_0), ((HB.out.cell (World.block_lt_of_cell? w _ hw134_1)).trans hw134_1), ((HB.out.cell (World.block_lt_of_cell? w _ hw134_2)).trans hw134_2)⟩ (fun hHeld => ?_); refine with_tabW fairwaylaw3_SumParts.tab18 fairwaylaw3_SumParts.bits18 (fun HT_ HW_ => ?_)
                       generalize w54.drew = w55 at HO124 HB HQ56 hf45_0 hx133_0 hx134_0 hx134_1 hx134_2 hx45_0 hHeld ⊢
                       refine pz (i := 0) (N := some 115) #[I,O,O,O,O,O,O,O,O,O,O,O,O,O,O,O,O] ?_
                       refine pz (i := 1) (N := some 116) #[I,I,O,O,O,O,O,O,O,O,O,O,O,O,O,O,O] ?_
                       refine pz (i := 2) (N := some 117) #[I,I,I,O,O,O,O,O,O,O,O,O,O,O,O,O,O] ?_
                       refine pz (i := 3) (N := some 118) #[I,I,I,I,O,O,O,O,O,O,O,O,O,O,O,O,O] ?_
                       refine pz (i := 4) (N := some 119) #[I,I,I,I,I,O,O,O,O,O,O,O,O,O,O,O,O] ?_
                       refine pz (i := 5) (N := some 120) #[I,I,I,I,I,I,O,O,O,O,O,O,O,O,O,O,O] ?_
                       refine pz (i := 6) (N := some 121) #[I,I,I,I,I,I,I,O,O,O,O,O,O,O,O,O,O] ?_
                       refine pz (i := 8) (N := some 123) #[I,I,I,I,I,I,I,O,I,O,O,O,O,O,O,O,O] ?_
                       refine pz (i := 9) (N := some 124) #[I,I,I,I,I,I,I,O,I,I,O,O,O,O,O,O,O] ?_
                       refine pz (i := 10) (N := some 125) #[I,I,I,I,I,I,I,O,I,I,I,O,O,O,O,O,O] ?_
                       refine pz (i := 11) (N := some 126) #[I,I,I,I,I,I,I,O,I,I,I,I,O,O,O,O,O] ?_
                       refine tz (i := 7) (N := some 122) #[I,I,I,I,I,I,I,I,I,I,I,I,O,O,O,O,O] ?_
                       refine tz (i := 12) (N := some 127) #[I,I,I,I,I,I,I,I,I,I,I,I,I,O,O,O,O] ?_
                       refine pz (i := 13) (N := some 128) #[I,I,I,I,I,I,I,I,I,I,I,I,I,I,O,O,O] ?_
                       refine pz (i := 14) (N := some 129) #[I,I,I,I,I,I,I,I,I,I,I,I,I,I,I,O,O] ?_
                       refine pz (i := 15) (N := some 130) #[I,I,I,I,I,I,I,I,I,I,I,I,I,I,I,I,O] ?_
                       refine last_ (i := 16) (N := none) #[I,I,I,I,I,I,I,I,I,I,I,I,I,I,I,I,I] rfl rfl (one_of HT_.out (by kernel_rfl)) (by decide) (fun K hK => ?_)
                       refine skip_ (w1 := ?_) (by rfl) rfl ?_ ?_
                       rotate_left
                       ·go_simp
                        rfl
                       refine hK.out _ _ ?_
                       clear hK K
                       refine done_ (done_of HT_.out (by kernel_rfl)) ?_
                       try go_wp2
                       (try (rw [drewN_self w55]; generalize hq_ : World.drewN w55 _ = w55; have n0_ := Aside0.mk (FR_at hq_ HO124.out); have n1_ := Aside0.mk (below_at hq_ HB.out); clear hq_ HO124 HB; have HO124 := n0_; have HB := n1_; clear n0_ n1_))
                       (try simp only [u8w])
                       have n0_ : Aside0 (FR 5 (w55.setCell ⟨go31, ((ji42) : Int).toNat, none⟩ (.int .u8 (Go.bits .xor .u8 (rd y130 (ji42)) (((rd_T25 l0 x3_1).f2) % 256)))) w.heap.size (fun _ => True) (.slice (some ⟨go31, 0, none⟩) y122.length co51) y135) := ⟨by (with_reducible repeat (first | apply Kd.R_alloc | apply Kd.R_drewN | apply Kd.R_drew | apply FR_alloc | apply FR_drewN | apply FR_drew)); first | exact HQ56.out | (rw [Ny135.out]; exact FR_putn HO124.out _ _)⟩
                       have n1_ : Aside0 (Below w.heap.size w (w55.setCell ⟨go31, ((ji42) : Int).toNat, none⟩ (.int .u8 (Go.bits .xor .u8 (rd y130 (ji42)) (((rd_T25 l0 x3_1).f2) % 256))))) := ⟨by repeat (first | (with_reducible first | exact HB.out | apply below_alloc | apply pw_below_drewN | apply below_drew1 | refine below_set ?_ GB31.out) | exact HB.out)⟩
                       (try clear HO124)
                       (try clear HB)
                       generalize (w55.setCell ⟨go31, ((ji42) : Int).toNat, none⟩ (.int .u8 (Go.bits .xor .u8 (rd y130 (ji42)) (((rd_T25 l0 x3_1).f2) % 256)))) = w57 at n0_ n1_ ⊢
                       have HO124 := n0_
                       have HB := n1_
                       clear n0_ n1_
                       replace HO124 := Aside0.mk (FR_drew HO124.out)
                       replace HB := Aside0.mk (below_drew1 HB.out)
                       have p136 : 0 ≤ (x3_1 : Int) := od
                       have q136 : x3_1 < (l0.length : Int) := od
                       obtain ⟨ad136, e136, hx136_0, hx136_1, hx136_2⟩ := at_T25 HR0.out x3_1 p136 q136
                       have hw136_2 := hx136_2
                       have hw136_1 := hx136_1
                       have hw136_0 := hx136_0
                       obtain rfl : ad111 = ad136 := (by injection e136)
                       replace hx136_0 := cx HB.out hx136_0
                       replace hx136_1 := cx HB.out hx136_1
                       replace hx136_2 := cx HB.out hx136_2
                       replace p136 := eq_true p136
                       replace q136 := eq_true q136
                       refine start_ (n := 10) (S := fun w' => w'.cell? (ad111.add ((x3_1).toNat * 3)) = some (.int .u32 ((rd_T25 l0 x3_1).f0)) ∧ w'.cell? ⟨(ad111.add ((x3_1).toNat * 3)).block, (ad111.add ((x3_1).toNat * 3)).off + 1, none⟩ = some (.string ((rd_T25 l0 x3_1).f1)) ∧ w'.cell? ⟨(ad111.add ((x3_1).toNat * 3)).block, (ad111.add ((x3_1).toNat * 3)).off + 2, none⟩ = some (.int .i64 ((rd_T25 l0 x3_1).f2)) ∧ (convert 30 9 (.slice (some ⟨go31, 0, none⟩) y122.length co51)).run Try.prog w' = .ok (.string (strOfNums y135)) w') (ds := []) #[O,O,O,O,O,O,O,O,O,O] (by kernel_rfl) rfl rfl ⟨((HB.out.cell (World.block_lt_of_cell? w _ hw136_0)).trans hw136_0), ((HB.out.cell (World.block_lt_of_cell? w _ hw136_1)).trans hw136_1), ((HB.out.cell (World.block_lt_of_cell? w _ hw136_2)).trans hw136_2), (FR_string (P := Try.prog) Try.underlying30 Try.underlying5 Try.underlying9 HO124.out)⟩ (fun hHeld => ?_); refine with_tabW fairwaylaw3_SumParts.tab19 fairwaylaw3_SumParts.bits19 (fun HT_ HW_ => ?_)
                       generalize w57.drew = w58 at HO124 HB HQ56 hx136_0 hx136_1 hx136_2 hHeld ⊢
                       refine pz (i := 0) (N := some 131) #[I,O,O,O,O,O,O,O,O,O] ?_
                       refine pz (i := 1) (N := some 132) #[I,I,O,O,O,O,O,O,O,O] ?_
                       refine pz (i := 2) (N := some 133) #[I,I,I,O,O,O,O,O,O,O] ?_
                       refine pz (i := 3) (N := some 134) #[I,I,I,I,O,O,O,O,O,O] ?_
                       refine pz (i := 5) (N := some 136) #[I,I,I,I,O,I,O,O,O,O] ?_
                       refine pz (i := 8) (N := some 139) #[I,I,I,I,O,I,O,O,I,O] ?_
                       refine tz (i := 4) (N := some 135) #[I,I,I,I,I,I,O,O,I,O] ?_
                       refine tz (i := 6) (N := some 137) #[I,I,I,I,I,I,I,O,I,O] ?_
                       refine one_ (i := 7) (N := some 138) #[I,I,I,I,I,I,I,I,I,O] rfl rfl (one_of HT_.out (by kernel_rfl)) (by decide) (fun K hK => ?_)
                       refine goes_ Try.func5 (by kernel_rfl) rfl #[.int .u32 ((rd_T25 l0 x3_1).f0), .string (strOfNums y135)] (by rfl) rfl rfl aa ?_
                       with_reducible refine (sum_Sum.calls kj9 ((rd_T25 l0 x3_1).f0) (strOfNums y135) t137 _ A46.out).mono ?_
                       rintro e w' ⟨rfl, ⟨nd, rfl⟩⟩
                       refine ⟨_, rfl, ?_⟩
                       refine hK.out _ _ ⟨((HB.out.cell (World.block_lt_of_cell? w _ hw136_0)).trans hw136_0), ((HB.out.cell (World.block_lt_of_cell? w _ hw136_1)).trans hw136_1), ((HB.out.cell (World.block_lt_of_cell? w _ hw136_2)).trans hw136_2), (FR_string (P := Try.prog) Try.underlying30 Try.underlying5 Try.underlying9 HO124.out)⟩ (fun hHeld => ?_)
                       clear hK K
                       refine norm_ (a' := ?_) ?_ ?_
                       rotate_left
                       ·show Act.put _ (some 138) _ = _
                        simp only [Act.put, List.setIfInBounds_toArray, List.set_cons_zero, List.set_cons_succ, i64_w, i32_w]
                        rfl
                       refine pz (i := 9) (N := some 140) #[I,I,I,I,I,I,I,I,I,I] ?_
                       refine done_ (done_of HT_.out (by kernel_rfl)) ?_
                       try go_wp2
                       go_ret
                       exact ⟨by first | rfl | (simp [errW_none, errW_some] <;> rfl) | (simp only [← hji30, ← hji42]; first | rfl | (simp [errW_none, errW_some] <;> rfl)) | (simp [*, errW_none, errW_some] <;> rfl), bo⟩
                      ·rw [if_neg c47] at H
                       have c47b0 : (t137 == t115) = false := beq_eq_false_iff_ne.mpr c47
                       have c47b1 : (t137 != t115) = true := bne_iff_ne.mpr c47
                       have H' := Aside0.mk H
                       clear H
                       try go_wp2_with (first | ((with_reducible refine gate_dst (N := 76) rfl ?_); refine FR_conv (P := Try.prog) rfl (N := 76) rfl 9 30 5 _ rfl ((rd_T25 l0 x3_1).f1) rfl Try.underlying9 Try.underlying30 Try.underlying5 (Below.refl _ _) (Nat.le_refl _) ?_; intro v123 w59 ho60 hb hg_ hnew_; clear hg_ hnew_; (first | rw [← Ny122.out] at ho60 | (simp only [Int.reduceToNat] at ho60; rw [← Ny122.out] at ho60)); have HO124 := Aside0.mk (FR_lower ho60 (below_size bo)); replace HB := Aside0.mk (below_step bo hb); clear hb ho60; have p125 : 0 ≤ (x3_1 : Int) := od; have q125 : x3_1 < (l0.length : Int) := od; obtain ⟨ad125, e125, hx125_0, hx125_1, hx125_2⟩ := at_T25 HR0.out x3_1 p125 q125; obtain rfl : ad111 = ad125 := (by injection e125); replace hx125_0 := cx HB.out hx125_0; replace hx125_1 := cx HB.out hx125_1; replace hx125_2 := cx HB.out hx125_2; replace p125 := eq_true p125; replace q125 := eq_true q125) | ((with_reducible refine gate_callee (f := 8) rfl ?_); refine goesL_ (some 84) rfl rfl Try.func8 (by kernel_rfl) rfl #[.int .i64 ((rd_T25 l0 x3_1).f2), .int .i64 (((rd_T25 l0 x3_1).f1).size : Int)] rfl aa ?_; (with_reducible refine (fairwaylaw0_Within.calls ((rd_T25 l0 x3_1).f2) (((rd_T25 l0 x3_1).f1).size : Int) t126 _ A25.out).mono ?_); rintro e w' ⟨rfl, ⟨nd, rfl⟩⟩; refine ⟨_, rfl, ?_⟩; (try (rw [drewN_self w59]; generalize hq_ : World.drewN w59 _ = w59; have n0_ : Aside0 (FR 5 w59 w.heap.size (fun _ => True) v123 y122) := ⟨by rw [← hq_]; exact (rf HO124.out)⟩; have n1_ : Aside0 (Below w.heap.size w w59) := ⟨by rw [← hq_]; exact bo⟩; clear HO124 HB hq_; have HO124 := n0_; have HB := n1_; clear n0_ n1_))))
                       replace HO124 := Aside0.mk (FR_drew HO124.out)
                       replace HB := Aside0.mk (below_drew1 HB.out)
                       obtain ⟨Ao62, co62, eo62⟩ := FR_slice HO124.out
                       (first | subst eo62 | (injection eo62 with f1_ f2_ f3_; have f4_ := f1_.symm; have f5_ := f3_.symm; clear f1_ f2_ f3_; subst f4_; subst f5_))
                       have p127 : 0 ≤ (t126 : Int) := od
                       have q127 : t126 < (y122.length : Int) := od
                       obtain ⟨ad127, e127, hx127_0⟩ := FR_at_ HO124.out t126 p127 q127
                       cases e127
                       replace p127 := eq_true p127
                       replace q127 := eq_true q127
                       have p128 : 0 ≤ (x3_1 : Int) := od
                       have q128 : x3_1 < (l0.length : Int) := od
                       obtain ⟨ad128, e128, hx128_0, hx128_1, hx128_2⟩ := at_T25 HR0.out x3_1 p128 q128
                       have hw128_2 := hx128_2
                       have hw128_1 := hx128_1
                       have hw128_0 := hx128_0
                       obtain rfl : ad111 = ad128 := (by injection e128)
                       replace hx128_0 := cx HB.out hx128_0
                       replace hx128_1 := cx HB.out hx128_1
                       replace hx128_2 := cx HB.out hx128_2
                       replace p128 := eq_true p128
                       replace q128 := eq_true q128
                       refine start_ (n := 16) (S := fun w' => w'.cell? (ad127.add (t126).toNat) = some (.int .u8 (rd y122 t126)) ∧ w'.cell? (ad111.add ((x3_1).toNat * 3)) = some (.int .u32 ((rd_T25 l0 x3_1).f0)) ∧ w'.cell? ⟨(ad111.add ((x3_1).toNat * 3)).block, (ad111.add ((x3_1).toNat * 3)).off + 1, none⟩ = some (.string ((rd_T25 l0 x3_1).f1)) ∧ w'.cell? ⟨(ad111.add ((x3_1).toNat * 3)).block, (ad111.add ((x3_1).toNat * 3)).off + 2, none⟩ = some (.int .i64 ((rd_T25 l0 x3_1).f2))) (ds := [15]) #[O,O,O,O,O,O,O,O,O,O,O,O,O,O,O,O] (by kernel_rfl) rfl rfl ⟨hx127_0, ((HB.out.cell (World.block_lt_of_cell? w _ hw128_0)).trans hw128_0), ((HB.out.cell (World.block_lt_of_cell? w _ hw128_1)).trans hw128_1), ((HB.out.cell (World.block_lt_of_cell? w _ hw128_2)).trans hw128_2)⟩ (fun hHeld => ?_); refine with_tabW fairwaylaw3_SumParts.tab14 fairwaylaw3_SumParts.bits14 (fun HT_ HW_ => ?_)
                       generalize w59.drew = w61 at HO124 HB hx127_0 hx128_0 hx128_1 hx128_2 hHeld ⊢
                       refine pz (i := 0) (N := some 85) #[I,O,O,O,O,O,O,O,O,O,O,O,O,O,O,O] ?_
                       refine pz (i := 1) (N := some 86) #[I,I,O,O,O,O,O,O,O,O,O,O,O,O,O,O] ?_
                       refine pz (i := 2) (N := some 87) #[I,I,I,O,O,O,O,O,O,O,O,O,O,O,O,O] ?_
                       refine pz (i := 3) (N := some 88) #[I,I,I,I,O,O,O,O,O,O,O,O,O,O,O,O] ?_
                       refine pz (i := 4) (N := some 89) #[I,I,I,I,I,O,O,O,O,O,O,O,O,O,O,O] ?_
                       refine pz (i := 6) (N := some 91) #[I,I,I,I,I,O,I,O,O,O,O,O,O,O,O,O] ?_
                       refine pz (i := 7) (N := some 92) #[I,I,I,I,I,O,I,I,O,O,O,O,O,O,O,O] ?_
                       refine pz (i := 8) (N := some 93) #[I,I,I,I,I,O,I,I,I,O,O,O,O,O,O,O] ?_
                       refine pz (i := 9) (N := some 94) #[I,I,I,I,I,O,I,I,I,I,O,O,O,O,O,O] ?_
                       refine tz (i := 5) (N := some 90) #[I,I,I,I,I,I,I,I,I,I,O,O,O,O,O,O] ?_
                       refine tz (i := 10) (N := some 95) #[I,I,I,I,I,I,I,I,I,I,I,O,O,O,O,O] ?_
                       refine one_ (i := 11) (N := some 96) #[I,I,I,I,I,I,I,I,I,I,I,I,O,O,O,O] rfl rfl (one_of HT_.out (by kernel_rfl)) (by decide) (fun K hK => ?_)
                       refine goes_ Try.func8 (by kernel_rfl) rfl #[.int .i64 ((rd_T25 l0 x3_1).f2), .int .i64 8] (by rfl) rfl rfl aa ?_
                       with_reducible refine (fairwaylaw0_Within.calls ((rd_T25 l0 x3_1).f2) 8 t129 _ A28.out).mono ?_
                       rintro e w' ⟨rfl, ⟨nd, rfl⟩⟩
                       refine ⟨_, rfl, ?_⟩
                       have p31 : 0 ≤ (t126 : Int) := od
                       have q31 : (t126 : Int) < ((y122.length : Int) : Int) := od
                       obtain ⟨go31, co31, eo31, gb31, gl31, cl31, HG31⟩ := FR_form HO124.out (by omega)
                       (first | cases eo31 | (injection eo31 with ea_ en_ ec_; (first | subst ea_ | (injection ea_ with ea_; subst ea_)); subst ec_; clear en_))
                       have GB31 := Aside0.mk gb31
                       have GG31 := Aside0.mk HG31
                       clear gb31 gl31 HG31
                       (first | simp only [add_plain] at hx127_0 | skip)
                       obtain ⟨hx31_0, hf31_0⟩ := FR_celln 0 HO124.out (t126 : Int) p31 q31
                       replace p31 := eq_true p31
                       replace q31 := eq_true q31
                       have HP63 := FR_putn HO124.out (t126 : Int) (Go.bits .xor .u8 (rd y122 t126) (ji30))
                       rw [← Ny130.out] at HP63
                       have HQ63 := Aside0.mk HP63
                       clear HP63
                       refine hK.out _ _ ⟨hHeld.1, ((HB.out.cell (World.block_lt_of_cell? w _ hw128_0)).trans hw128_0), ((HB.out.cell (World.block_lt_of_cell? w _ hw128_1)).trans hw128_1), ((HB.out.cell (World.block_lt_of_cell? w _ hw128_2)).trans hw128_2)⟩ (fun hHeld => ?_)
                       clear hK K
                       refine norm_ (a' := ?_) ?_ ?_
                       rotate_left
                       ·show Act.put _ (some 96) _ = _
                        simp only [Act.put, List.setIfInBounds_toArray, List.set_cons_zero, List.set_cons_succ, i64_w, i32_w]
                        rfl
                       refine pz (i := 12) (N := some 97) #[I,I,I,I,I,I,I,I,I,I,I,I,I,O,O,O] ?_
                       refine pz (i := 13) (N := some 98) #[I,I,I,I,I,I,I,I,I,I,I,I,I,I,O,O] ?_
                       refine pz (i := 14) (N := some 99) #[I,I,I,I,I,I,I,I,I,I,I,I,I,I,I,O] ?_
                       refine last_ (i := 15) (N := none) #[I,I,I,I,I,I,I,I,I,I,I,I,I,I,I,I] rfl rfl (one_of HT_.out (by kernel_rfl)) (by decide) (fun K hK => ?_)
                       refine skip_ (w1 := ?_) (by rfl) rfl ?_ ?_
                       rotate_left
                       ·go_simp
                        rfl
                       refine hK.out _ _ ?_
                       clear hK K
                       refine done_ (done_of HT_.out (by kernel_rfl)) ?_
                       try go_wp2
                       (try (rw [drewN_self w61]; generalize hq_ : World.drewN w61 _ = w61; have n0_ := Aside0.mk (FR_at hq_ HO124.out); have n1_ := Aside0.mk (below_at hq_ HB.out); clear hq_ HO124 HB; have HO124 := n0_; have HB := n1_; clear n0_ n1_))
                       (try simp only [u8w])
                       have n0_ : Aside0 (FR 5 (w61.setCell ⟨go31, (t126 : Int).toNat, none⟩ (.int .u8 (Go.bits .xor .u8 (rd y122 t126) (ji30)))) w.heap.size (fun _ => True) (.slice (some ⟨go31, 0, none⟩) y122.length co62) y130) := ⟨by (with_reducible repeat (first | apply Kd.R_alloc | apply Kd.R_drewN | apply Kd.R_drew | apply FR_alloc | apply FR_drewN | apply FR_drew)); first | exact HQ63.out | (rw [Ny130.out]; exact FR_putn HO124.out _ _)⟩
                       have n1_ : Aside0 (Below w.heap.size w (w61.setCell ⟨go31, (t126 : Int).toNat, none⟩ (.int .u8 (Go.bits .xor .u8 (rd y122 t126) (ji30))))) := ⟨by repeat (first | (with_reducible first | exact HB.out | apply below_alloc | apply pw_below_drewN | apply below_drew1 | refine below_set ?_ GB31.out) | exact HB.out)⟩
                       (try clear HO124)
                       (try clear HB)
                       generalize (w61.setCell ⟨go31, (t126 : Int).toNat, none⟩ (.int .u8 (Go.bits .xor .u8 (rd y122 t126) (ji30)))) = w64 at n0_ n1_ ⊢
                       have HO124 := n0_
                       have HB := n1_
                       clear n0_ n1_
                       (try (rw [drewN_self w64]; generalize hq_ : World.drewN w64 _ = w64; have n0_ : Aside0 (FR 5 w64 w.heap.size (fun _ => True) (.slice (some ⟨go31, 0, none⟩) y122.length co62) y130) := ⟨by rw [← hq_]; exact (rf HO124.out)⟩; have n1_ : Aside0 (Below w.heap.size w w64) := ⟨by rw [← hq_]; exact bo⟩; clear HO124 HB hq_; have HO124 := n0_; have HB := n1_; clear n0_ n1_))
                       replace HO124 := Aside0.mk (FR_drew HO124.out)
                       replace HB := Aside0.mk (below_drew1 HB.out)
                       have p131 : 0 ≤ (x3_1 : Int) := od
                       have q131 : x3_1 < (l0.length : Int) := od
                       obtain ⟨ad131, e131, hx131_0, hx131_1, hx131_2⟩ := at_T25 HR0.out x3_1 p131 q131
                       have hw131_2 := hx131_2
                       have hw131_1 := hx131_1
                       have hw131_0 := hx131_0
                       obtain rfl : ad111 = ad131 := (by injection e131)
                       replace hx131_0 := cx HB.out hx131_0
                       replace hx131_1 := cx HB.out hx131_1
                       replace hx131_2 := cx HB.out hx131_2
                       replace p131 := eq_true p131
                       replace q131 := eq_true q131
                       refine start_ (n := 10) (S := fun w' => w'.cell? (ad111.add ((x3_1).toNat * 3)) = some (.int .u32 ((rd_T25 l0 x3_1).f0)) ∧ w'.cell? ⟨(ad111.add ((x3_1).toNat * 3)).block, (ad111.add ((x3_1).toNat * 3)).off + 1, none⟩ = some (.string ((rd_T25 l0 x3_1).f1)) ∧ w'.cell? ⟨(ad111.add ((x3_1).toNat * 3)).block, (ad111.add ((x3_1).toNat * 3)).off + 2, none⟩ = some (.int .i64 ((rd_T25 l0 x3_1).f2)) ∧ (convert 30 9 (.slice (some ⟨go31, 0, none⟩) y122.length co62)).run Try.prog w' = .ok (.string (strOfNums y130)) w') (ds := []) #[O,O,O,O,O,O,O,O,O,O] (by kernel_rfl) rfl rfl ⟨((HB.out.cell (World.block_lt_of_cell? w _ hw131_0)).trans hw131_0), ((HB.out.cell (World.block_lt_of_cell? w _ hw131_1)).trans hw131_1), ((HB.out.cell (World.block_lt_of_cell? w _ hw131_2)).trans hw131_2), (FR_string (P := Try.prog) Try.underlying30 Try.underlying5 Try.underlying9 HO124.out)⟩ (fun hHeld => ?_); refine with_tabW fairwaylaw3_SumParts.tab15 fairwaylaw3_SumParts.bits15 (fun HT_ HW_ => ?_)
                       generalize w64.drew = w65 at HO124 HB HQ63 hx131_0 hx131_1 hx131_2 hHeld ⊢
                       refine pz (i := 0) (N := some 100) #[I,O,O,O,O,O,O,O,O,O] ?_
                       refine pz (i := 1) (N := some 101) #[I,I,O,O,O,O,O,O,O,O] ?_
                       refine pz (i := 2) (N := some 102) #[I,I,I,O,O,O,O,O,O,O] ?_
                       refine pz (i := 3) (N := some 103) #[I,I,I,I,O,O,O,O,O,O] ?_
                       refine pz (i := 5) (N := some 105) #[I,I,I,I,O,I,O,O,O,O] ?_
                       refine pz (i := 8) (N := some 108) #[I,I,I,I,O,I,O,O,I,O] ?_
                       refine tz (i := 4) (N := some 104) #[I,I,I,I,I,I,O,O,I,O] ?_
                       refine tz (i := 6) (N := some 106) #[I,I,I,I,I,I,I,O,I,O] ?_
                       refine one_ (i := 7) (N := some 107) #[I,I,I,I,I,I,I,I,I,O] rfl rfl (one_of HT_.out (by kernel_rfl)) (by decide) (fun K hK => ?_)
                       refine goes_ Try.func5 (by kernel_rfl) rfl #[.int .u32 ((rd_T25 l0 x3_1).f0), .string (strOfNums y130)] (by rfl) rfl rfl aa ?_
                       with_reducible refine (sum_Sum.calls kj9 ((rd_T25 l0 x3_1).f0) (strOfNums y130) t132 _ A32.out).mono ?_
                       rintro e w' ⟨rfl, ⟨nd, rfl⟩⟩
                       refine ⟨_, rfl, ?_⟩
                       refine hK.out _ _ ⟨((HB.out.cell (World.block_lt_of_cell? w _ hw131_0)).trans hw131_0), ((HB.out.cell (World.block_lt_of_cell? w _ hw131_1)).trans hw131_1), ((HB.out.cell (World.block_lt_of_cell? w _ hw131_2)).trans hw131_2), (FR_string (P := Try.prog) Try.underlying30 Try.underlying5 Try.underlying9 HO124.out)⟩ (fun hHeld => ?_)
                       clear hK K
                       refine norm_ (a' := ?_) ?_ ?_
                       rotate_left
                       ·show Act.put _ (some 107) _ = _
                        simp only [Act.put, List.setIfInBounds_toArray, List.set_cons_zero, List.set_cons_succ, i64_w, i32_w]
                        rfl
                       refine pz (i := 9) (N := some 109) #[I,I,I,I,I,I,I,I,I,I] ?_
                       refine done_ (done_of HT_.out (by kernel_rfl)) ?_
                       try go_wp2
                       (try (rw [drewN_self w65]; generalize hq_ : World.drewN w65 _ = w65; have n0_ : Aside0 (FR 5 w65 w.heap.size (fun _ => True) (.slice (some ⟨go31, 0, none⟩) y122.length co62) y130) := ⟨by rw [← hq_]; exact (rf HO124.out)⟩; have n1_ : Aside0 (Below w.heap.size w w65) := ⟨by rw [← hq_]; exact bo⟩; clear HO124 HB hq_; have HO124 := n0_; have HB := n1_; clear n0_ n1_))
                       replace HO124 := Aside0.mk (FR_drew HO124.out)
                       replace HB := Aside0.mk (below_drew1 HB.out)
                       have p133 : 0 ≤ ((ji42) : Int) := od
                       have q133 : (ji42) < (y130.length : Int) := (by have h_ : ((ji42) : Int) < ((y122.length : Int) : Int) := od; first | (have e_ := (Kd.R_reads' HO124.out).1; omega) | simpa only [Ny130.out, List.length_set] using h_)
                       have ql133 : (((ji42) : Int) < ((y122.length : Int) : Int)) = True := eq_true (od)
                       obtain ⟨ad133, e133, hx133_0⟩ := FR_at_ HO124.out (ji42) p133 q133
                       obtain rfl : (⟨go31, 0, none⟩ : Addr) = ad133 := (by injection e133)
                       (first | simp only [add_plain] at hx133_0 | simp only [add_at] at hx133_0 | simp only [Addr.add, Nat.zero_add] at hx133_0 | skip)
                       replace p133 := eq_true p133
                       replace q133 := eq_true q133
                       have p134 : 0 ≤ (x3_1 : Int) := od
                       have q134 : x3_1 < (l0.length : Int) := od
                       obtain ⟨ad134, e134, hx134_0, hx134_1, hx134_2⟩ := at_T25 HR0.out x3_1 p134 q134
                       have hw134_2 := hx134_2
                       have hw134_1 := hx134_1
                       have hw134_0 := hx134_0
                       obtain rfl : ad111 = ad134 := (by injection e134)
                       replace hx134_0 := cx HB.out hx134_0
                       replace hx134_1 := cx HB.out hx134_1
                       replace hx134_2 := cx HB.out hx134_2
                       replace p134 := eq_true p134
                       replace q134 := eq_true q134
                       have p45 : 0 ≤ ((ji42) : Int) := od
                       have q45 : ((ji42) : Int) < ((y122.length : Int) : Int) := od
                       obtain ⟨hx45_0, hf45_0⟩ := FR_celln 0 HO124.out ((ji42) : Int) p45 q45
                       replace p45 := eq_true p45
                       replace q45 := eq_true q45
                       have HP67 := FR_putn HO124.out ((ji42) : Int) (Go.bits .xor .u8 (rd y130 (ji42)) (((rd_T25 l0 x3_1).f2) % 256))
                       rw [← Ny135.out] at HP67
                       have HQ67 := Aside0.mk HP67
                       clear HP67
                       refine start_ (n := 17) (S := fun w' => w'.cell? ⟨go31, ((ji42)).toNat, none⟩ = some (.int .u8 (rd y130 (ji42))) ∧ w'.cell? (ad111.add ((x3_1).toNat * 3)) = some (.int .u32 ((rd_T25 l0 x3_1).f0)) ∧ w'.cell? ⟨(ad111.add ((x3_1).toNat * 3)).block, (ad111.add ((x3_1).toNat * 3)).off + 1, none⟩ = some (.string ((rd_T25 l0 x3_1).f1)) ∧ w'.cell? ⟨(ad111.add ((x3_1).toNat * 3)).block, (ad111.add ((x3_1).toNat * 3)).off + 2, none⟩ = some (.int .i64 ((rd_T25 l0 x3_1).f2))) (ds := [16]) #[O,O,O,O,O,O,O,O,O,O,O,O,O,O,O,O,O] (by kernel_rfl) rfl rfl ⟨hx133_0, ((HB.out.cell (World.block_lt_of_cell? w _ hw134_0)).trans hw134_0), ((HB.out.cell (World.block_lt_of_cell? w _ hw134_1)).trans hw134_1), ((HB.out.cell (World.block_lt_of_cell? w _ hw134_2)).trans hw134_2)⟩ (fun hHeld => ?_); refine with_tabW fairwaylaw3_SumParts.tab18 fairwaylaw3_SumParts.bits18 (fun HT_ HW_ => ?_)
                       generalize w65.drew = w66 at HO124 HB HQ67 hf45_0 hx133_0 hx134_0 hx134_1 hx134_2 hx45_0 hHeld ⊢
                       refine pz (i := 0) (N := some 115) #[I,O,O,O,O,O,O,O,O,O,O,O,O,O,O,O,O] ?_
                       refine pz (i := 1) (N := some 116) #[I,I,O,O,O,O,O,O,O,O,O,O,O,O,O,O,O] ?_
                       refine pz (i := 2) (N := some 117) #[I,I,I,O,O,O,O,O,O,O,O,O,O,O,O,O,O] ?_
                       refine pz (i := 3) (N := some 118) #[I,I,I,I,O,O,O,O,O,O,O,O,O,O,O,O,O] ?_
                       refine pz (i := 4) (N := some 119) #[I,I,I,I,I,O,O,O,O,O,O,O,O,O,O,O,O] ?_
                       refine pz (i := 5) (N := some 120) #[I,I,I,I,I,I,O,O,O,O,O,O,O,O,O,O,O] ?_
                       refine pz (i := 6) (N := some 121) #[I,I,I,I,I,I,I,O,O,O,O,O,O,O,O,O,O] ?_
                       refine pz (i := 8) (N := some 123) #[I,I,I,I,I,I,I,O,I,O,O,O,O,O,O,O,O] ?_
                       refine pz (i := 9) (N := some 124) #[I,I,I,I,I,I,I,O,I,I,O,O,O,O,O,O,O] ?_
                       refine pz (i := 10) (N := some 125) #[I,I,I,I,I,I,I,O,I,I,I,O,O,O,O,O,O] ?_
                       refine pz (i := 11) (N := some 126) #[I,I,I,I,I,I,I,O,I,I,I,I,O,O,O,O,O] ?_
                       refine tz (i := 7) (N := some 122) #[I,I,I,I,I,I,I,I,I,I,I,I,O,O,O,O,O] ?_
                       refine tz (i := 12) (N := some 127) #[I,I,I,I,I,I,I,I,I,I,I,I,I,O,O,O,O] ?_
                       refine pz (i := 13) (N := some 128) #[I,I,I,I,I,I,I,I,I,I,I,I,I,I,O,O,O] ?_
                       refine pz (i := 14) (N := some 129) #[I,I,I,I,I,I,I,I,I,I,I,I,I,I,I,O,O] ?_
                       refine pz (i := 15) (N := some 130) #[I,I,I,I,I,I,I,I,I,I,I,I,I,I,I,I,O] ?_
                       refine last_ (i := 16) (N := none) #[I,I,I,I,I,I,I,I,I,I,I,I,I,I,I,I,I] rfl rfl (one_of HT_.out (by kernel_rfl)) (by decide) (fun K hK => ?_)
                       refine skip_ (w1 := ?_) (by rfl) rfl ?_ ?_
                       rotate_left
                       ·go_simp
                        rfl
                       refine hK.out _ _ ?_
                       clear hK K
                       refine done_ (done_of HT_.out (by kernel_rfl)) ?_
                       try go_wp2
                       (try (rw [drewN_self w66]; generalize hq_ : World.drewN w66 _ = w66; have n0_ := Aside0.mk (FR_at hq_ HO124.out); have n1_ := Aside0.mk (below_at hq_ HB.out); clear hq_ HO124 HB; have HO124 := n0_; have HB := n1_; clear n0_ n1_))
                       (try simp only [u8w])
                       have n0_ : Aside0 (FR 5 (w66.setCell ⟨go31, ((ji42) : Int).toNat, none⟩ (.int .u8 (Go.bits .xor .u8 (rd y130 (ji42)) (((rd_T25 l0 x3_1).f2) % 256)))) w.heap.size (fun _ => True) (.slice (some ⟨go31, 0, none⟩) y122.length co62) y135) := ⟨by (with_reducible repeat (first | apply Kd.R_alloc | apply Kd.R_drewN | apply Kd.R_drew | apply FR_alloc | apply FR_drewN | apply FR_drew)); first | exact HQ67.out | (rw [Ny135.out]; exact FR_putn HO124.out _ _)⟩
                       have n1_ : Aside0 (Below w.heap.size w (w66.setCell ⟨go31, ((ji42) : Int).toNat, none⟩ (.int .u8 (Go.bits .xor .u8 (rd y130 (ji42)) (((rd_T25 l0 x3_1).f2) % 256))))) := ⟨by repeat (first | (with_reducible first | exact HB.out | apply below_alloc | apply pw_below_drewN | apply below_drew1 | refine below_set ?_ GB31.out) | exact HB.out)⟩
                       (try clear HO124)
                       (try clear HB)
                       generalize (w66.setCell ⟨go31, ((ji42) : Int).toNat, none⟩ (.int .u8 (Go.bits .xor .u8 (rd y130 (ji42)) (((rd_T25 l0 x3_1).f2) % 256)))) = w68 at n0_ n1_ ⊢
                       have HO124 := n0_
                       have HB := n1_
                       clear n0_ n1_
                       replace HO124 := Aside0.mk (FR_drew HO124.out)
                       replace HB := Aside0.mk (below_drew1 HB.out)
                       have p136 : 0 ≤ (x3_1 : Int) := od
                       have q136 : x3_1 < (l0.length : Int) := od
                       obtain ⟨ad136, e136, hx136_0, hx136_1, hx136_2⟩ := at_T25 HR0.out x3_1 p136 q136
                       have hw136_2 := hx136_2
                       have hw136_1 := hx136_1
                       have hw136_0 := hx136_0
                       obtain rfl : ad111 = ad136 := (by injection e136)
                       replace hx136_0 := cx HB.out hx136_0
                       replace hx136_1 := cx HB.out hx136_1
                       replace hx136_2 := cx HB.out hx136_2
                       replace p136 := eq_true p136
                       replace q136 := eq_true q136
                       refine start_ (n := 10) (S := fun w' => w'.cell? (ad111.add ((x3_1).toNat * 3)) = some (.int .u32 ((rd_T25 l0 x3_1).f0)) ∧ w'.cell? ⟨(ad111.add ((x3_1).toNat * 3)).block, (ad111.add ((x3_1).toNat * 3)).off + 1, none⟩ = some (.string ((rd_T25 l0 x3_1).f1)) ∧ w'.cell? ⟨(ad111.add ((x3_1).toNat * 3)).block, (ad111.add ((x3_1).toNat * 3)).off + 2, none⟩ = some (.int .i64 ((rd_T25 l0 x3_1).f2)) ∧ (convert 30 9 (.slice (some ⟨go31, 0, none⟩) y122.length co62)).run Try.prog w' = .ok (.string (strOfNums y135)) w') (ds := []) #[O,O,O,O,O,O,O,O,O,O] (by kernel_rfl) rfl rfl ⟨((HB.out.cell (World.block_lt_of_cell? w _ hw136_0)).trans hw136_0), ((HB.out.cell (World.block_lt_of_cell? w _ hw136_1)).trans hw136_1), ((HB.out.cell (World.block_lt_of_cell? w _ hw136_2)).trans hw136_2), (FR_string (P := Try.prog) Try.underlying30 Try.underlying5 Try.underlying9 HO124.out)⟩ (fun hHeld => ?_); refine with_tabW fairwaylaw3_SumParts.tab19 fairwaylaw3_SumParts.bits19 (fun HT_ HW_ => ?_)
                       generalize w68.drew = w69 at HO124 HB HQ67 hx136_0 hx136_1 hx136_2 hHeld ⊢
                       refine pz (i := 0) (N := some 131) #[I,O,O,O,O,O,O,O,O,O] ?_
                       refine pz (i := 1) (N := some 132) #[I,I,O,O,O,O,O,O,O,O] ?_
                       refine pz (i := 2) (N := some 133) #[I,I,I,O,O,O,O,O,O,O] ?_
                       refine pz (i := 3) (N := some 134) #[I,I,I,I,O,O,O,O,O,O] ?_
                       refine pz (i := 5) (N := some 136) #[I,I,I,I,O,I,O,O,O,O] ?_
                       refine pz (i := 8) (N := some 139) #[I,I,I,I,O,I,O,O,I,O] ?_
                       refine tz (i := 4) (N := some 135) #[I,I,I,I,I,I,O,O,I,O] ?_
                       refine tz (i := 6) (N := some 137) #[I,I,I,I,I,I,I,O,I,O] ?_
                       refine one_ (i := 7) (N := some 138) #[I,I,I,I,I,I,I,I,I,O] rfl rfl (one_of HT_.out (by kernel_rfl)) (by decide) (fun K hK => ?_)
                       refine goes_ Try.func5 (by kernel_rfl) rfl #[.int .u32 ((rd_T25 l0 x3_1).f0), .string (strOfNums y135)] (by rfl) rfl rfl aa ?_
                       with_reducible refine (sum_Sum.calls kj9 ((rd_T25 l0 x3_1).f0) (strOfNums y135) t137 _ A46.out).mono ?_
                       rintro e w' ⟨rfl, ⟨nd, rfl⟩⟩
                       refine ⟨_, rfl, ?_⟩
                       refine hK.out _ _ ⟨((HB.out.cell (World.block_lt_of_cell? w _ hw136_0)).trans hw136_0), ((HB.out.cell (World.block_lt_of_cell? w _ hw136_1)).trans hw136_1), ((HB.out.cell (World.block_lt_of_cell? w _ hw136_2)).trans hw136_2), (FR_string (P := Try.prog) Try.underlying30 Try.underlying5 Try.underlying9 HO124.out)⟩ (fun hHeld => ?_)
                       clear hK K
                       refine norm_ (a' := ?_) ?_ ?_
                       rotate_left
                       ·show Act.put _ (some 138) _ = _
                        simp only [Act.put, List.setIfInBounds_toArray, List.set_cons_zero, List.set_cons_succ, i64_w, i32_w]
                        rfl
                       refine pz (i := 9) (N := some 140) #[I,I,I,I,I,I,I,I,I,I] ?_
                       refine done_ (done_of HT_.out (by kernel_rfl)) ?_
                       try go_wp2
                       go_roundg kj9
                       case measure => have := HK1.out; have := HJ1.out; have := HJ9.out; omega
                       case rel => exact ⟨(wrap64 (x3_1 + 1)), ap, H', ⟨by have := HK1.out; have := HJ1.out; have := HJ9.out; omega⟩, ⟨bo⟩⟩
                     ·rw [if_neg c44] at H
                      exact absurd H (by simp)
                    ·rw [if_neg c43] at H
                     exact absurd H (by simp)
                   ·rw [if_neg c41] at H
                    have c41b0 : decide ((wrap64 (t126 + 1)) < (((rd_T25 l0 x3_1).f1).size : Int)) = false := decide_eq_false c41
                    clear c41
                    have H' := Aside0.mk H
                    clear H
                    try go_wp2_with (first | ((with_reducible refine gate_dst (N := 76) rfl ?_); refine FR_conv (P := Try.prog) rfl (N := 76) rfl 9 30 5 _ rfl ((rd_T25 l0 x3_1).f1) rfl Try.underlying9 Try.underlying30 Try.underlying5 (Below.refl _ _) (Nat.le_refl _) ?_; intro v123 w70 ho71 hb hg_ hnew_; clear hg_ hnew_; (first | rw [← Ny122.out] at ho71 | (simp only [Int.reduceToNat] at ho71; rw [← Ny122.out] at ho71)); have HO124 := Aside0.mk (FR_lower ho71 (below_size bo)); replace HB := Aside0.mk (below_step bo hb); clear hb ho71; have p125 : 0 ≤ (x3_1 : Int) := od; have q125 : x3_1 < (l0.length : Int) := od; obtain ⟨ad125, e125, hx125_0, hx125_1, hx125_2⟩ := at_T25 HR0.out x3_1 p125 q125; obtain rfl : ad111 = ad125 := (by injection e125); replace hx125_0 := cx HB.out hx125_0; replace hx125_1 := cx HB.out hx125_1; replace hx125_2 := cx HB.out hx125_2; replace p125 := eq_true p125; replace q125 := eq_true q125) | ((with_reducible refine gate_callee (f := 8) rfl ?_); refine goesL_ (some 84) rfl rfl Try.func8 (by kernel_rfl) rfl #[.int .i64 ((rd_T25 l0 x3_1).f2), .int .i64 (((rd_T25 l0 x3_1).f1).size : Int)] rfl aa ?_; (with_reducible refine (fairwaylaw0_Within.calls ((rd_T25 l0 x3_1).f2) (((rd_T25 l0 x3_1).f1).size : Int) t126 _ A25.out).mono ?_); rintro e w' ⟨rfl, ⟨nd, rfl⟩⟩; refine ⟨_, rfl, ?_⟩; (try (rw [drewN_self w70]; generalize hq_ : World.drewN w70 _ = w70; have n0_ : Aside0 (FR 5 w70 w.heap.size (fun _ => True) v123 y122) := ⟨by rw [← hq_]; exact (rf HO124.out)⟩; have n1_ : Aside0 (Below w.heap.size w w70) := ⟨by rw [← hq_]; exact bo⟩; clear HO124 HB hq_; have HO124 := n0_; have HB := n1_; clear n0_ n1_))))
                    replace HO124 := Aside0.mk (FR_drew HO124.out)
                    replace HB := Aside0.mk (below_drew1 HB.out)
                    obtain ⟨Ao73, co73, eo73⟩ := FR_slice HO124.out
                    (first | subst eo73 | (injection eo73 with f1_ f2_ f3_; have f4_ := f1_.symm; have f5_ := f3_.symm; clear f1_ f2_ f3_; subst f4_; subst f5_))
                    have p127 : 0 ≤ (t126 : Int) := od
                    have q127 : t126 < (y122.length : Int) := od
                    obtain ⟨ad127, e127, hx127_0⟩ := FR_at_ HO124.out t126 p127 q127
                    cases e127
                    replace p127 := eq_true p127
                    replace q127 := eq_true q127
                    have p128 : 0 ≤ (x3_1 : Int) := od
                    have q128 : x3_1 < (l0.length : Int) := od
                    obtain ⟨ad128, e128, hx128_0, hx128_1, hx128_2⟩ := at_T25 HR0.out x3_1 p128 q128
                    have hw128_2 := hx128_2
                    have hw128_1 := hx128_1
                    have hw128_0 := hx128_0
                    obtain rfl : ad111 = ad128 := (by injection e128)
                    replace hx128_0 := cx HB.out hx128_0
                    replace hx128_1 := cx HB.out hx128_1
                    replace hx128_2 := cx HB.out hx128_2
                    replace p128 := eq_true p128
                    replace q128 := eq_true q128
                    refine start_ (n := 16) (S := fun w' => w'.cell? (ad127.add (t126).toNat) = some (.int .u8 (rd y122 t126)) ∧ w'.cell? (ad111.add ((x3_1).toNat * 3)) = some (.int .u32 ((rd_T25 l0 x3_1).f0)) ∧ w'.cell? ⟨(ad111.add ((x3_1).toNat * 3)).block, (ad111.add ((x3_1).toNat * 3)).off + 1, none⟩ = some (.string ((rd_T25 l0 x3_1).f1)) ∧ w'.cell? ⟨(ad111.add ((x3_1).toNat * 3)).block, (ad111.add ((x3_1).toNat * 3)).off + 2, none⟩ = some (.int .i64 ((rd_T25 l0 x3_1).f2))) (ds := [15]) #[O,O,O,O,O,O,O,O,O,O,O,O,O,O,O,O] (by kernel_rfl) rfl rfl ⟨hx127_0, ((HB.out.cell (World.block_lt_of_cell? w _ hw128_0)).trans hw128_0), ((HB.out.cell (World.block_lt_of_cell? w _ hw128_1)).trans hw128_1), ((HB.out.cell (World.block_lt_of_cell? w _ hw128_2)).trans hw128_2)⟩ (fun hHeld => ?_); refine with_tabW fairwaylaw3_SumParts.tab14 fairwaylaw3_SumParts.bits14 (fun HT_ HW_ => ?_)
                    generalize w70.drew = w72 at HO124 HB hx127_0 hx128_0 hx128_1 hx128_2 hHeld ⊢
                    refine pz (i := 0) (N := some 85) #[I,O,O,O,O,O,O,O,O,O,O,O,O,O,O,O] ?_
                    refine pz (i := 1) (N := some 86) #[I,I,O,O,O,O,O,O,O,O,O,O,O,O,O,O] ?_
                    refine pz (i := 2) (N := some 87) #[I,I,I,O,O,O,O,O,O,O,O,O,O,O,O,O] ?_
                    refine pz (i := 3) (N := some 88) #[I,I,I,I,O,O,O,O,O,O,O,O,O,O,O,O] ?_
                    refine pz (i := 4) (N := some 89) #[I,I,I,I,I,O,O,O,O,O,O,O,O,O,O,O] ?_
                    refine pz (i := 6) (N := some 91) #[I,I,I,I,I,O,I,O,O,O,O,O,O,O,O,O] ?_
                    refine pz (i := 7) (N := some 92) #[I,I,I,I,I,O,I,I,O,O,O,O,O,O,O,O] ?_
                    refine pz (i := 8) (N := some 93) #[I,I,I,I,I,O,I,I,I,O,O,O,O,O,O,O] ?_
                    refine pz (i := 9) (N := some 94) #[I,I,I,I,I,O,I,I,I,I,O,O,O,O,O,O] ?_
                    refine tz (i := 5) (N := some 90) #[I,I,I,I,I,I,I,I,I,I,O,O,O,O,O,O] ?_
                    refine tz (i := 10) (N := some 95) #[I,I,I,I,I,I,I,I,I,I,I,O,O,O,O,O] ?_
                    refine one_ (i := 11) (N := some 96) #[I,I,I,I,I,I,I,I,I,I,I,I,O,O,O,O] rfl rfl (one_of HT_.out (by kernel_rfl)) (by decide) (fun K hK => ?_)
                    refine goes_ Try.func8 (by kernel_rfl) rfl #[.int .i64 ((rd_T25 l0 x3_1).f2), .int .i64 8] (by rfl) rfl rfl aa ?_
                    with_reducible refine (fairwaylaw0_Within.calls ((rd_T25 l0 x3_1).f2) 8 t129 _ A28.out).mono ?_
                    rintro e w' ⟨rfl, ⟨nd, rfl⟩⟩
                    refine ⟨_, rfl, ?_⟩
                    have p31 : 0 ≤ (t126 : Int) := od
                    have q31 : (t126 : Int) < ((y122.length : Int) : Int) := od
                    obtain ⟨go31, co31, eo31, gb31, gl31, cl31, HG31⟩ := FR_form HO124.out (by omega)
                    (first | cases eo31 | (injection eo31 with ea_ en_ ec_; (first | subst ea_ | (injection ea_ with ea_; subst ea_)); subst ec_; clear en_))
                    have GB31 := Aside0.mk gb31
                    have GG31 := Aside0.mk HG31
                    clear gb31 gl31 HG31
                    (first | simp only [add_plain] at hx127_0 | skip)
                    obtain ⟨hx31_0, hf31_0⟩ := FR_celln 0 HO124.out (t126 : Int) p31 q31
                    replace p31 := eq_true p31
                    replace q31 := eq_true q31
                    have HP74 := FR_putn HO124.out (t126 : Int) (Go.bits .xor .u8 (rd y122 t126) (ji30))
                    rw [← Ny130.out] at HP74
                    have HQ74 := Aside0.mk HP74
                    clear HP74
                    refine hK.out _ _ ⟨hHeld.1, ((HB.out.cell (World.block_lt_of_cell? w _ hw128_0)).trans hw128_0), ((HB.out.cell (World.block_lt_of_cell? w _ hw128_1)).trans hw128_1), ((HB.out.cell (World.block_lt_of_cell? w _ hw128_2)).trans hw128_2)⟩ (fun hHeld => ?_)
                    clear hK K
                    refine norm_ (a' := ?_) ?_ ?_
                    rotate_left
                    ·show Act.put _ (some 96) _ = _
                     simp only [Act.put, List.setIfInBounds_toArray, List.set_cons_zero, List.set_cons_succ, i64_w, i32_w]
                     rfl
                    refine pz (i := 12) (N := some 97) #[I,I,I,I,I,I,I,I,I,I,I,I,I,O,O,O] ?_
                    refine pz (i := 13) (N := some 98) #[I,I,I,I,I,I,I,I,I,I,I,I,I,I,O,O] ?_
                    refine pz (i := 14) (N := some 99) #[I,I,I,I,I,I,I,I,I,I,I,I,I,I,I,O] ?_
                    refine last_ (i := 15) (N := none) #[I,I,I,I,I,I,I,I,I,I,I,I,I,I,I,I] rfl rfl (one_of HT_.out (by kernel_rfl)) (by decide) (fun K hK => ?_)
                    refine skip_ (w1 := ?_) (by rfl) rfl ?_ ?_
                    rotate_left
                    ·go_simp
                     rfl
                    refine hK.out _ _ ?_
                    clear hK K
                    refine done_ (done_of HT_.out (by kernel_rfl)) ?_
                    try go_wp2
                    (try (rw [drewN_self w72]; generalize hq_ : World.drewN w72 _ = w72; have n0_ := Aside0.mk (FR_at hq_ HO124.out); have n1_ := Aside0.mk (below_at hq_ HB.out); clear hq_ HO124 HB; have HO124 := n0_; have HB := n1_; clear n0_ n1_))
                    (try simp only [u8w])
                    have n0_ : Aside0 (FR 5 (w72.setCell ⟨go31, (t126 : Int).toNat, none⟩ (.int .u8 (Go.bits .xor .u8 (rd y122 t126) (ji30)))) w.heap.size (fun _ => True) (.slice (some ⟨go31, 0, none⟩) y122.length co73) y130) := ⟨by (with_reducible repeat (first | apply Kd.R_alloc | apply Kd.R_drewN | apply Kd.R_drew | apply FR_alloc | apply FR_drewN | apply FR_drew)); first | exact HQ74.out | (rw [Ny130.out]; exact FR_putn HO124.out _ _)⟩
                    have n1_ : Aside0 (Below w.heap.size w (w72.setCell ⟨go31, (t126 : Int).toNat, none⟩ (.int .u8 (Go.bits .xor .u8 (rd y122 t126) (ji30))))) := ⟨by repeat (first | (with_reducible first | exact HB.out | apply below_alloc | apply pw_below_drewN | apply below_drew1 | refine below_set ?_ GB31.out) | exact HB.out)⟩
                    (try clear HO124)
                    (try clear HB)
                    generalize (w72.setCell ⟨go31, (t126 : Int).toNat, none⟩ (.int .u8 (Go.bits .xor .u8 (rd y122 t126) (ji30)))) = w75 at n0_ n1_ ⊢
                    have HO124 := n0_
                    have HB := n1_
                    clear n0_ n1_
                    (try (rw [drewN_self w75]; generalize hq_ : World.drewN w75 _ = w75; have n0_ : Aside0 (FR 5 w75 w.heap.size (fun _ => True) (.slice (some ⟨go31, 0, none⟩) y122.length co73) y130) := ⟨by rw [← hq_]; exact (rf HO124.out)⟩; have n1_ : Aside0 (Below w.heap.size w w75) := ⟨by rw [← hq_]; exact bo⟩; clear HO124 HB hq_; have HO124 := n0_; have HB := n1_; clear n0_ n1_))
                    replace HO124 := Aside0.mk (FR_drew HO124.out)
                    replace HB := Aside0.mk (below_drew1 HB.out)
                    have p131 : 0 ≤ (x3_1 : Int) := od
                    have q131 : x3_1 < (l0.length : Int) := od
                    obtain ⟨ad131, e131, hx131_0, hx131_1, hx131_2⟩ := at_T25 HR0.out x3_1 p131 q131
                    have hw131_2 := hx131_2
                    have hw131_1 := hx131_1
                    have hw131_0 := hx131_0
                    obtain rfl : ad111 = ad131 := (by injection e131)
                    replace hx131_0 := cx HB.out hx131_0
                    replace hx131_1 := cx HB.out hx131_1
                    replace hx131_2 := cx HB.out hx131_2
                    replace p131 := eq_true p131
                    replace q131 := eq_true q131
                    refine start_ (n := 10) (S := fun w' => w'.cell? (ad111.add ((x3_1).toNat * 3)) = some (.int .u32 ((rd_T25 l0 x3_1).f0)) ∧ w'.cell? ⟨(ad111.add ((x3_1).toNat * 3)).block, (ad111.add ((x3_1).toNat * 3)).off + 1, none⟩ = some (.string ((rd_T25 l0 x3_1).f1)) ∧ w'.cell? ⟨(ad111.add ((x3_1).toNat * 3)).block, (ad111.add ((x3_1).toNat * 3)).off + 2, none⟩ = some (.int .i64 ((rd_T25 l0 x3_1).f2)) ∧ (convert 30 9 (.slice (some ⟨go31, 0, none⟩) y122.length co73)).run Try.prog w' = .ok (.string (strOfNums y130)) w') (ds := []) #[O,O,O,O,O,O,O,O,O,O] (by kernel_rfl) rfl rfl ⟨((HB.out.cell (World.block_lt_of_cell? w _ hw131_0)).trans hw131_0), ((HB.out.cell (World.block_lt_of_cell? w _ hw131_1)).trans hw131_1), ((HB.out.cell (World.block_lt_of_cell? w _ hw131_2)).trans hw131_2), (FR_string (P := Try.prog) Try.underlying30 Try.underlying5 Try.underlying9 HO124.out)⟩ (fun hHeld => ?_); refine with_tabW fairwaylaw3_SumParts.tab15 fairwaylaw3_SumParts.bits15 (fun HT_ HW_ => ?_)
                    generalize w75.drew = w76 at HO124 HB HQ74 hx131_0 hx131_1 hx131_2 hHeld ⊢
                    refine pz (i := 0) (N := some 100) #[I,O,O,O,O,O,O,O,O,O] ?_
                    refine pz (i := 1) (N := some 101) #[I,I,O,O,O,O,O,O,O,O] ?_
                    refine pz (i := 2) (N := some 102) #[I,I,I,O,O,O,O,O,O,O] ?_
                    refine pz (i := 3) (N := some 103) #[I,I,I,I,O,O,O,O,O,O] ?_
                    refine pz (i := 5) (N := some 105) #[I,I,I,I,O,I,O,O,O,O] ?_
                    refine pz (i := 8) (N := some 108) #[I,I,I,I,O,I,O,O,I,O] ?_
                    refine tz (i := 4) (N := some 104) #[I,I,I,I,I,I,O,O,I,O] ?_
                    refine tz (i := 6) (N := some 106) #[I,I,I,I,I,I,I,O,I,O] ?_
                    refine one_ (i := 7) (N := some 107) #[I,I,I,I,I,I,I,I,I,O] rfl rfl (one_of HT_.out (by kernel_rfl)) (by decide) (fun K hK => ?_)
                    refine goes_ Try.func5 (by kernel_rfl) rfl #[.int .u32 ((rd_T25 l0 x3_1).f0), .string (strOfNums y130)] (by rfl) rfl rfl aa ?_
                    with_reducible refine (sum_Sum.calls kj9 ((rd_T25 l0 x3_1).f0) (strOfNums y130) t132 _ A32.out).mono ?_
                    rintro e w' ⟨rfl, ⟨nd, rfl⟩⟩
                    refine ⟨_, rfl, ?_⟩
                    refine hK.out _ _ ⟨((HB.out.cell (World.block_lt_of_cell? w _ hw131_0)).trans hw131_0), ((HB.out.cell (World.block_lt_of_cell? w _ hw131_1)).trans hw131_1), ((HB.out.cell (World.block_lt_of_cell? w _ hw131_2)).trans hw131_2), (FR_string (P := Try.prog) Try.underlying30 Try.underlying5 Try.underlying9 HO124.out)⟩ (fun hHeld => ?_)
                    clear hK K
                    refine norm_ (a' := ?_) ?_ ?_
                    rotate_left
                    ·show Act.put _ (some 107) _ = _
                     simp only [Act.put, List.setIfInBounds_toArray, List.set_cons_zero, List.set_cons_succ, i64_w, i32_w]
                     rfl
                    refine pz (i := 9) (N := some 109) #[I,I,I,I,I,I,I,I,I,I] ?_
                    refine done_ (done_of HT_.out (by kernel_rfl)) ?_
                    try go_wp2
                    go_roundg kj9
                    case measure => have := HK1.out; have := HJ1.out; have := HJ9.out; omega
                    case rel => exact ⟨(wrap64 (x3_1 + 1)), ap, H', ⟨by have := HK1.out; have := HJ1.out; have := HJ9.out; omega⟩, ⟨bo⟩⟩
                 ·rw [if_neg c29] at H
                  exact absurd H (by simp)
                ·rw [if_neg c27] at H
                 exact absurd H (by simp)
               ·rw [if_neg c26] at H
                exact absurd H (by simp)
              ·rw [if_neg c24] at H
               exact absurd H (by simp)
             ·rw [if_neg c23] at H
              exact absurd H (by simp)
       ·rw [if_neg c6] at H
        exact absurd H (by simp)
      ·rw [if_neg c5] at H
       exact absurd H (by simp)
     ·replace c4 := Bool.eq_false_iff.mpr c4
      subst c4
      have H1 : ((fairwaylaw3_wakes.f kj1).bind fun t110 => (some t110)) = some r := by rw [if_neg (show ¬ (false = true) by decide)] at H; exact H
      clear H
      have H := H1
      clear H1
      replace H := Option.bind_eq_some_iff.mp H
      obtain ⟨t110, A770, H⟩ := H
      replace H : (some t110) = some r := H
      have A77 := Aside0.mk A770
      clear A770
      obtain rfl := Option.some.inj H
      go_wp2_with (first | ((with_reducible refine gate_callee (f := 7) rfl ?_); refine goesL_ (some 141) rfl rfl Try.func7 (by kernel_rfl) rfl #[] rfl aa ?_; (with_reducible refine (fairwaylaw3_wakes.calls kj1  t110 _ A77.out).mono ?_); rintro e w' ⟨rfl, ⟨nd, rfl⟩⟩; refine ⟨_, rfl, ?_⟩))
      go_ret
      exact ⟨er, bo⟩

end Go.Proofs.Ytkfejfbalfghgaa.P

/- From data to typed values: whatever the claim's reader reads at a type is told by the print's kinds, with the bounds of the reach. -/
namespace Go.Proofs.Ytkfejfbalfghgaa.Open
open Go.RowKit Go.Proofs.YtkfejfbalfghgaaW.PrintWords Go.Proofs.YtkfejfbalfghgaaW.PrintLast
set_option linter.unusedVariables false

/-- What is read at type t is told by kind k, and is good. -/
structure Rd {α : Type} (P : Program) (t : TypeId) (k : Kd α) (good : α → Prop) : Prop where
  sz : P.cellsOf t = k.sz
  rd : ∀ {H : Type} (enc : TypeId × Value → H) (w : World) (fuel : Nat) (cs : List Value) (d : DataW H) (ps : List MemPlace),
    DataW.trod enc P w 0 (fun _ => true) true fuel t cs = some (d, ps) → (∀ n ∈ d.weights P t, n ≤ reachBytes) → ∃ x, k.K w x cs ∧ good x

theorem rd_int {P : Program} {t : TypeId} {k : IntKind} (hu : P.underlying t = some (.int k)) (hc : P.cellsOf t = 1) : Rd P t (Kd.int k) (fun n => (Lit.int k n).wf = true) where
  sz := hc
  rd := by
    intro H enc w fuel cs d ps h _
    obtain ⟨n, rfl, _, hw⟩ := DataW.trod_int hu h
    exact ⟨n, rfl, hw⟩

theorem rd_bool {P : Program} {t : TypeId} (hu : P.underlying t = some .bool) (hc : P.cellsOf t = 1) : Rd P t Kd.bool (fun _ => True) where
  sz := hc
  rd := by
    intro H enc w fuel cs d ps h _
    obtain ⟨b, rfl, _⟩ := DataW.trod_bool hu h
    exact ⟨b, rfl, trivial⟩

theorem rd_string {P : Program} {t : TypeId} (hu : P.underlying t = some .string) (hc : P.cellsOf t = 1) : Rd P t Kd.string (fun s => s.size ≤ 140737488351232) where
  sz := hc
  rd := by
    intro H enc w fuel cs d ps h hw
    obtain ⟨s, rfl, hx, _⟩ := DataW.trod_string hu h
    obtain ⟨rfl, rfl⟩ := Prod.mk.inj hx
    refine ⟨s, rfl, ?_⟩
    have := hw s.data.toList.length (by simp [DataW.weights])
    simpa [reachBytes] using this

/-- A struct's fields, from one on: their cells in line. -/
structure Fs {α : Type} (P : Program) (fs : List Field) (off : Nat) (k : Kd α) (good : α → Prop) : Prop where
  rd : ∀ {H : Type} (enc : TypeId × Value → H) (w : World) (fuel : Nat) (cs : List Value) (ds : List (DataW H × List MemPlace)),
    ds.length = fs.length → (∀ (i : Nat) f, fs[i]? = some f → DataW.trod enc P w 0 (fun _ => true) true fuel f.type ((cs.drop f.offset).take (P.cellsOf f.type)) = ds[i]?) →
    (∀ n ∈ DataW.weightsEach P (fs.map (·.type)) (ds.map (·.1)), n ≤ reachBytes) → cs.length = off + k.sz → ∃ x, k.K w x (cs.drop off) ∧ good x

theorem fs_last {α : Type} {P : Program} {f : Field} {k : Kd α} {good : α → Prop} (h : Rd P f.type k good) : Fs P [f] f.offset k good where
  rd := by
    intro H enc w fuel cs ds hl hd hw hc
    match ds, hl with
    | [y], _ =>
      have h0 := hd 0 f rfl
      simp only [List.getElem?_cons_zero] at h0
      obtain ⟨x, hk, hg⟩ := h.rd enc w fuel _ y.1 y.2 h0 (fun n hn => hw n (by simp [DataW.weightsEach]; exact hn))
      rw [h.sz, List.take_of_length_le (by rw [List.length_drop]; omega)] at hk
      exact ⟨x, hk, hg⟩

theorem fs_cons {α β : Type} {P : Program} {f : Field} {fs : List Field} {off : Nat} {k : Kd α} {k' : Kd β} {good : α → Prop} {good' : β → Prop} (h : Rd P f.type k good) (hs : Fs P fs off k' good')
    (ho : f.offset + k.sz = off) : Fs P (f :: fs) f.offset (Kd.pair k k') (fun x => good x.1 ∧ good' x.2) where
  rd := by
    intro H enc w fuel cs ds hl hd hw hc
    match ds, hl with
    | y :: ys, hl =>
      have hsz : (Kd.pair k k').sz = k.sz + k'.sz := rfl
      rw [hsz] at hc
      have h0 := hd 0 f rfl
      simp only [List.getElem?_cons_zero] at h0
      obtain ⟨x, hk, hg⟩ := h.rd enc w fuel _ y.1 y.2 h0 (fun n hn => hw n (by simp only [List.map_cons, DataW.weightsEach, List.mem_append]; exact .inl hn))
      obtain ⟨x', hk', hg'⟩ := hs.rd enc w fuel cs ys (by simpa using hl) (fun i g hi => by simpa using hd (i + 1) g (by simpa using hi))
        (fun n hn => hw n (by simp only [List.map_cons, DataW.weightsEach, List.mem_append]; exact .inr hn)) (by omega)
      rw [h.sz] at hk
      refine ⟨(x, x'), ⟨_, _, ?_, hk, hk'⟩, hg, hg'⟩
      rw [← ho, ← List.drop_drop, List.take_append_drop]

theorem rd_struct {α β : Type} {P : Program} {t : TypeId} {fs : Array Field} {k : Kd β} {good : β → Prop} {fw : α → β} {back : β → α} (hu : P.underlying t = some (.struct fs)) (h : Fs P fs.toList 0 k good)
    (hc : P.cellsOf t = k.sz) (hb : ∀ y, fw (back y) = y) : Rd P t (Kd.iso k fw) (fun x => good (fw x)) where
  sz := hc
  rd := by
    intro H enc w fuel cs d ps hr hw
    obtain ⟨xs, n, _, hx, hl, hlen, hf⟩ := DataW.trod_struct hu hr
    obtain ⟨rfl, rfl⟩ := Prod.mk.inj hx
    obtain ⟨x, hk, hg⟩ := h.rd enc w n cs xs (by simpa using hlen) (fun i f hi => by simpa using hf i f (by simpa using hi))
      (fun m hm => hw m (by simp only [DataW.weights, hu]; exact hm)) (by rw [hl, hc]; omega)
    refine ⟨back x, ?_, ?_⟩
    · show k.K w (fw (back x)) cs
      rw [hb]
      simpa using hk
    · show good (fw (back x))
      rw [hb]; exact hg

theorem list_of {α : Type} {p : Nat → α → Prop} : ∀ n, (∀ i, i < n → ∃ x, p i x) → ∃ xs : List α, xs.length = n ∧ ∀ i x, xs[i]? = some x → p i x
  | 0, _ => ⟨[], rfl, fun i x h => by simp at h⟩
  | n + 1, h => by
    obtain ⟨xs, hl, hx⟩ := list_of n (fun i hi => h i (by omega))
    obtain ⟨y, hy⟩ := h n (by omega)
    refine ⟨xs ++ [y], by simp [hl], fun i x hi => ?_⟩
    by_cases hin : i < xs.length
    · rw [List.getElem?_append_left hin] at hi
      exact hx i x hi
    · rw [List.getElem?_append_right (by omega)] at hi
      have : i = xs.length := by
        by_cases e : i - xs.length = 0
        · omega
        · rw [List.getElem?_eq_none (by simp; omega)] at hi
          exact absurd hi (by simp)
      subst this
      simp at hi
      rw [hl, ← hi]
      exact hy

theorem weights_all {H : Type} {P : Program} {e : TypeId} : ∀ {l : List (DataW H)} {d : DataW H}, d ∈ l → ∀ n ∈ d.weights P e, n ∈ DataW.weightsAll P e l
  | [], _, h, _, _ => by simp at h
  | x :: l, d, h, n, hn => by
    simp only [DataW.weightsAll, List.mem_append]
    rcases List.mem_cons.1 h with rfl | h
    · exact .inl hn
    · exact .inr (weights_all h n hn)

theorem rd_slice {α : Type} {P : Program} {t e : TypeId} {k : Kd α} {good : α → Prop} (B : Nat) (hu : P.underlying t = some (.slice e)) (hc : P.cellsOf t = 1) (hB : P.bytesOf e = B) (h : Rd P e k good) :
    Rd P t (Kd.slice e k) (fun xs => (∀ x ∈ xs, good x) ∧ xs.length * B ≤ 140737488351232) where
  sz := hc
  rd := by
    intro H enc w fuel cs d ps hr hw
    rcases DataW.trod_slice hu hr with ⟨rfl, hx⟩ | ⟨a, len, cap, elems, rest, n, _, rfl, hx, _, hl, hm, hlen, hel, _, _⟩
    · exact ⟨[], ⟨none, 0, rfl, Nat.le_refl 0, Kd.C_nil k w⟩, by simp, by simp⟩
    · obtain ⟨rfl, rfl⟩ := Prod.mk.inj hx
      have hw1 : ∀ x ∈ elems, ∀ n ∈ x.1.weights P e, n ≤ reachBytes := fun x hx n hn =>
        hw n (by simp only [DataW.weights, hu, List.mem_cons, List.mem_append]; exact .inr (.inl (weights_all (List.mem_map_of_mem hx) n hn)))
      have hw2 : (elems.length + rest.length) * P.bytesOf e ≤ reachBytes := hw _ (by simp only [DataW.weights, hu, List.mem_cons, List.length_map]; simp)
      have key : ∀ i, i < len → ∃ x, good x ∧ ∃ c, c.length = k.sz ∧ k.K w x c ∧ ∀ j u, c[j]? = some u → w.cell? (a.add (i * k.sz + j)) = some u := by
        intro i hi
        have h1 := hel i hi
        rw [List.getElem?_eq_getElem (by omega)] at h1
        obtain ⟨c, hcs, htr⟩ := Option.bind_eq_some_iff.1 h1
        obtain ⟨x, hk, hg⟩ := h.rd enc w n c _ _ htr (hw1 _ (List.getElem_mem _))
        obtain ⟨_, hcl, hcell⟩ := World.cells?_some hcs
        rw [h.sz] at hcl hcell
        refine ⟨x, hg, c, hcl, hk, fun j u hu => ?_⟩
        have hj : j < k.sz := by
          rw [← hcl]
          exact (List.getElem?_eq_some_iff.1 hu).1
        rw [← Go.Deep.add_add, hcell j hj, hu]
      obtain ⟨xs, hxl, hxs⟩ := list_of (α := α) len key
      subst hxl
      refine ⟨xs, ⟨some a, cap, rfl, hl, rfl, by unfold maxLen at hm; omega, fun _ => ⟨a, rfl, fun j p hp => ?_⟩⟩, fun x hx => ?_, ?_⟩
      · obtain ⟨_, c, h1, h2, h3⟩ := hxs j p hp
        exact ⟨c, h1, h2, h3⟩
      · obtain ⟨i, hi, rfl⟩ := List.mem_iff_getElem.1 hx
        exact (hxs i _ (List.getElem?_eq_getElem hi)).1
      · have : xs.length * P.bytesOf e ≤ (elems.length + rest.length) * P.bytesOf e := Nat.mul_le_mul_right _ (by omega)
        unfold reachBytes at hw2
        rw [hB] at hw2 this
        omega
end Go.Proofs.Ytkfejfbalfghgaa.Open

/- Readers of the types that this seat's laws take. -/
namespace Go.Proofs.Ytkfejfbalfghgaa.P
open Go.RowKit Go.Proofs.YtkfejfbalfghgaaW.PrintWords Go.Proofs.YtkfejfbalfghgaaW.PrintLast Go.Proofs.Ytkfejfbalfghgaa.Open
set_option linter.unusedVariables false
def good25 (x : S25) : Prop := (Lit.int .u32 x.f0).wf = true ∧ x.f1.size ≤ 140737488351232 ∧ (Lit.int .i64 x.f2).wf = true
theorem rd25 : Rd Try.prog 25 k25 good25 := rd_struct (back := fun y => ⟨y.1, y.2.1, y.2.2⟩) Try.underlying25 (fs_cons (rd_int Try.underlying23 (by kernel_rfl)) (fs_cons (rd_string Try.underlying9 (by kernel_rfl)) (fs_last (rd_int Try.underlying3 (by kernel_rfl))) rfl) rfl) (by kernel_rfl) (fun _ => rfl)
end Go.Proofs.Ytkfejfbalfghgaa.P

-- written by a program of the proving session, out of the translation; Lean checks it
namespace Go.Proofs.Ytkfejfbalfghgaa.P
open Go.RowKit Go.Proofs.Ytkfejfbalfghgaa.Sq Go.Proofs.YtkfejfbalfghgaaW.PrintWords Go.Proofs.YtkfejfbalfghgaaW.PrintLast Go.Proofs.YtkfejfbalfghgaaW.PrintMore
attribute [local go_sem] max2_int min2_int max_two min_two max_three min_three max_four min_four   -- for this text's walks alone
set_option linter.unusedVariables false
set_option linter.unusedSimpArgs false

/-! ### fairwayref1_Sum: function 6 -/
mutual
def fairwayref1_Sum.l0 : Nat → Int → ByteArray → Int → Option (Int)
 | 0, _, _, _ => none
 | k + 1, x0, x1, x5 => if x5 < (x1.size : Int) then (if 0 ≤ x5 then (fairwayref1_Sum.l1 k (Go.bits .xor .u32 x0 ((bt x1 x5) % 4294967296)) x1 x5 0) else (none)) else (some (Go.bits .xor .u32 4294967295 x0))
def fairwayref1_Sum.l1 : Nat → Int → ByteArray → Int → Int → Option (Int)
 | 0, _, _, _, _ => none
 | k + 1, x0, x1, x5, x6 => if x6 < 8 then (if (Go.bits .and .u32 x0 1) = 1 then (fairwayref1_Sum.l1 k (Go.bits .xor .u32 (x0 / 2) 2197175160) x1 x5 (wrap64 (x6 + 1))) else (fairwayref1_Sum.l1 k (x0 / 2) x1 x5 (wrap64 (x6 + 1)))) else (fairwayref1_Sum.l0 k x0 x1 (wrap64 (x5 + 1)))
end
def fairwayref1_Sum.f (k : Nat) (a0 : Int) (a1 : ByteArray) : Option (Int) := fairwayref1_Sum.l0 k (Go.bits .xor .u32 4294967295 a0) a1 0
theorem fairwayref1_Sum.mono_l : ∀ k, (∀ y0 y1 y2, LeO (fairwayref1_Sum.l0 k y0 y1 y2) (fairwayref1_Sum.l0 (k + 1) y0 y1 y2)) ∧ (∀ y0 y1 y2 y3, LeO (fairwayref1_Sum.l1 k y0 y1 y2 y3) (fairwayref1_Sum.l1 (k + 1) y0 y1 y2 y3))
 | 0 => ⟨fun _ _ _ r h => by simp [fairwayref1_Sum.l0] at h, fun _ _ _ _ r h => by simp [fairwayref1_Sum.l1] at h⟩
 | k + 1 => by
  obtain ⟨ih0, ih1⟩ := fairwayref1_Sum.mono_l k
  refine ⟨?_, ?_⟩
  ·intro y0 y1 y2
   unfold fairwayref1_Sum.l0
   repeat' first
   | (with_reducible exact ih0 _ _ _)
   | (with_reducible exact ih1 _ _ _ _)
   | (with_reducible exact LeO.refl _)
   | (with_reducible exact LeO.none _)
   | (with_reducible refine LeO.ite ?_ ?_)
   | (with_reducible refine LeO.bind ?_ (fun _ => ?_))
   | exact ih0 _ _ _
   | exact ih1 _ _ _ _
   | exact LeO.none _
   | refine LeO.ite ?_ ?_
   | refine LeO.bind ?_ (fun _ => ?_)
  ·intro y0 y1 y2 y3
   unfold fairwayref1_Sum.l1
   repeat' first
   | (with_reducible exact ih0 _ _ _)
   | (with_reducible exact ih1 _ _ _ _)
   | (with_reducible exact LeO.refl _)
   | (with_reducible exact LeO.none _)
   | (with_reducible refine LeO.ite ?_ ?_)
   | (with_reducible refine LeO.bind ?_ (fun _ => ?_))
   | exact ih0 _ _ _
   | exact ih1 _ _ _ _
   | exact LeO.none _
   | refine LeO.ite ?_ ?_
   | refine LeO.bind ?_ (fun _ => ?_)
theorem fairwayref1_Sum.mono : ∀ a0 a1 k, LeO (fairwayref1_Sum.f k a0 a1) (fairwayref1_Sum.f (k + 1) a0 a1) := by
 intro a0 a1 k
 obtain ⟨ih0, ih1⟩ := fairwayref1_Sum.mono_l k
 unfold fairwayref1_Sum.f
 repeat' first
  | (with_reducible exact ih0 _ _ _)
  | (with_reducible exact ih1 _ _ _ _)
  | (with_reducible exact LeO.refl _)
  | (with_reducible exact LeO.none _)
  | (with_reducible refine LeO.ite ?_ ?_)
  | (with_reducible refine LeO.bind ?_ (fun _ => ?_))
  | exact ih0 _ _ _
  | exact ih1 _ _ _ _
  | exact LeO.none _
  | refine LeO.ite ?_ ?_
  | refine LeO.bind ?_ (fun _ => ?_)
set_option maxHeartbeats 8000000 in
set_option maxRecDepth 100000 in
theorem fairwayref1_Sum.calls (k : Nat) (a0 : Int) (a1 : ByteArray) (r : Int) (w : World) (h : fairwayref1_Sum.f k a0 a1 = some r) :
 Calls Try.prog 6 #[.int .u32 a0, .string a1] w fun e w' => e = .returned (.int .u32 r) ∧ Drawn0 w w' := by
 have H : (fairwayref1_Sum.l0 k (Go.bits .xor .u32 4294967295 a0) a1 0) = some r := h
 clear h
 have H' := Aside0.mk H
 clear H
 go_enter Try.func6, Try.ntmps6
 go_wp2
 go_loopg [0, 5] k (fun kq v0 v5 w' => ∃ (x0_1 : Int) (x5_1 : Int), v0 = .int .u32 x0_1 ∧ v5 = .int .i64 x5_1 ∧ Aside0 (fairwayref1_Sum.l0 kq x0_1 a1 x5_1 = some r) ∧ Aside0 (kq ≤ k) ∧ Drawn0 w w')
 case atStart => exact ⟨(Go.bits .xor .u32 4294967295 a0), (0), ap, ap, H', ⟨Nat.le_refl _⟩, dr⟩
 case round =>
  clear H'
  try clear p2
  obtain ⟨x0_1, x5_1, rfl, rfl, HA, HK1, ⟨m1, rfl⟩⟩ := hrel
  cases gk with
  | zero => exact absurd HA.out (by simp [fairwayref1_Sum.l0])
  | succ k1 =>
   have H := HA.out
   clear HA
   simp only [fairwayref1_Sum.l0] at H
   by_cases c3 : x5_1 < (a1.size : Int)
   ·rw [if_pos c3] at H
    have c3b0 : decide (x5_1 < (a1.size : Int)) = true := decide_eq_true c3
    clear c3
    by_cases c4 : 0 ≤ x5_1
    ·rw [if_pos c4] at H
     have c4b0 : decide (0 ≤ x5_1) = true := decide_eq_true c4
     clear c4
     have H' := Aside0.mk H
     clear H
     have p5 : 0 ≤ (x5_1 : Int) := od
     have q5 : x5_1 < (a1.size : Int) := od
     have hx5 := bt_at a1 x5_1
     replace p5 := eq_true p5
     replace q5 := eq_true q5
     go_wp2
     go_loopg [0, 6] k1 (fun kq v0 v6 w' => ∃ (x0_2 : Int) (x6_2 : Int), v0 = .int .u32 x0_2 ∧ v6 = .int .i64 x6_2 ∧ Aside0 (fairwayref1_Sum.l1 kq x0_2 a1 x5_1 x6_2 = some r) ∧ Aside0 (kq ≤ k1) ∧ Drawn0 w w')
     case atStart => exact ⟨(Go.bits .xor .u32 x0_1 ((bt a1 x5_1) % 4294967296)), (0), ap, ap, H', ⟨Nat.le_refl _⟩, dr⟩
     case round =>
      clear H'
      try clear p2
      try clear c3
      try clear c3b0
      try clear c4
      try clear c4b0
      try clear p5
      try clear q5
      try clear hx5
      try clear p2
      try clear p5
      try clear q5
      obtain ⟨x0_2, x6_2, rfl, rfl, HA, HK2, ⟨m2, rfl⟩⟩ := hrel
      cases gk with
      | zero => exact absurd HA.out (by simp [fairwayref1_Sum.l1])
      | succ k2 =>
       have H := HA.out
       clear HA
       simp only [fairwayref1_Sum.l1] at H
       by_cases c6 : x6_2 < 8
       ·rw [if_pos c6] at H
        have c6b0 : decide (x6_2 < 8) = true := decide_eq_true c6
        clear c6
        by_cases c7 : (Go.bits .and .u32 x0_2 1) = 1
        ·rw [if_pos c7] at H
         have c7b0 : ((Go.bits .and .u32 x0_2 1) == 1) = true := beq_iff_eq.mpr c7
         have c7b1 : ((Go.bits .and .u32 x0_2 1) != 1) = false := bne_eq_false_iff_eq.mpr c7
         clear c7
         have H' := Aside0.mk H
         clear H
         go_wp2
         go_roundg k2
         case measure => have := HK1.out; have := HK2.out; omega
         case rel => exact ⟨(Go.bits .xor .u32 (x0_2 / 2) 2197175160), (wrap64 (x6_2 + 1)), ap, ap, H', ⟨by have := HK1.out; have := HK2.out; omega⟩, dr⟩
        ·rw [if_neg c7] at H
         have c7b0 : ((Go.bits .and .u32 x0_2 1) == 1) = false := beq_eq_false_iff_ne.mpr c7
         have c7b1 : ((Go.bits .and .u32 x0_2 1) != 1) = true := bne_iff_ne.mpr c7
         have H' := Aside0.mk H
         clear H
         go_wp2
         go_roundg k2
         case measure => have := HK1.out; have := HK2.out; omega
         case rel => exact ⟨(x0_2 / 2), (wrap64 (x6_2 + 1)), ap, ap, H', ⟨by have := HK1.out; have := HK2.out; omega⟩, dr⟩
       ·rw [if_neg c6] at H
        have c6b0 : decide (x6_2 < 8) = false := decide_eq_false c6
        clear c6
        have H' := Aside0.mk H
        clear H
        go_wp2
        go_roundg k2
        case measure => have := HK1.out; have := HK2.out; omega
        case rel => exact ⟨(x0_2), (wrap64 (x5_1 + 1)), ap, ap, H', ⟨by have := HK1.out; have := HK2.out; omega⟩, dr⟩
    ·rw [if_neg c4] at H
     exact absurd H (by simp)
   ·rw [if_neg c3] at H
    have c3b0 : decide (x5_1 < (a1.size : Int)) = false := decide_eq_false c3
    clear c3
    obtain rfl := Option.some.inj H
    go_wp2
    go_ret
    exact ⟨ap, dr⟩

end Go.Proofs.Ytkfejfbalfghgaa.P

/- The check sum of bytes as a run over 32 bits: what sum.Sum and the page's Sum compute, and what the run is worth. -/
namespace Go.Proofs.Ytkfejfbalfghgaa.USum
open Go Go.RowKit Go.Proofs.YtkfejfbalfghgaaW.PrintWords Go.Proofs.YtkfejfbalfghgaaW.PrintLast
set_option linter.unusedVariables false
theorem ofI (a : BitVec 32) : BitVec.ofInt (IntKind.bits .u32) (a.toNat : Int) = a := by
  show BitVec.ofInt 32 _ = a
  rw [BitVec.ofInt_natCast, BitVec.ofNat_toNat, BitVec.setWidth_eq]
theorem wrapI (a : BitVec 32) : IntKind.wrap .u32 (a.toNat : Int) = a.toNat := by
  have := a.isLt
  simp [IntKind.wrap, IntKind.bits, IntKind.signed]
  omega
theorem bits_xor (a b : BitVec 32) : Go.bits .xor .u32 (a.toNat : Int) (b.toNat : Int) = ((a ^^^ b).toNat : Int) := by
  unfold Go.bits
  simp only [ofI]
  exact wrapI _
theorem bits_and (a b : BitVec 32) : Go.bits .and .u32 (a.toNat : Int) (b.toNat : Int) = ((a &&& b).toNat : Int) := by
  unfold Go.bits
  simp only [ofI]
  exact wrapI _
theorem half (a : BitVec 32) : (a.toNat : Int) / (2 : Int) = ((a >>> 1).toNat : Int) := by
  rw [BitVec.toNat_ushiftRight, Nat.shiftRight_eq_div_pow]; rfl
theorem low (a : BitVec 32) : a &&& 1#32 = 0#32 ∨ a &&& 1#32 = 1#32 := by
  have : (a &&& 1#32).toNat = a.toNat % 2 := by simp [BitVec.toNat_and, Nat.and_one_is_mod]
  rcases Nat.mod_two_eq_zero_or_one a.toNat with h | h
  · left; apply BitVec.eq_of_toNat_eq; rw [this, h]; rfl
  · right; apply BitVec.eq_of_toNat_eq; rw [this, h]; rfl
def cstep (s : BitVec 32) : BitVec 32 := if s &&& 1#32 = 1#32 then (s >>> 1) ^^^ 2197175160#32 else s >>> 1
theorem pstep (s : BitVec 32) : Go.bits .xor .u32 ((s.toNat : Int) / 2) (Go.bits .and .u32 2197175160 ((-(Go.bits .and .u32 (s.toNat : Int) 1)) % 4294967296)) = ((cstep s).toNat : Int) := by
  have e1 : (1 : Int) = ((1#32 : BitVec 32).toNat : Int) := rfl
  have e2 : (2197175160 : Int) = ((2197175160#32 : BitVec 32).toNat : Int) := rfl
  have hb : Go.bits .and .u32 (s.toNat : Int) 1 = ((s &&& 1#32).toNat : Int) := bits_and s 1#32
  rw [hb, half]
  unfold cstep
  rcases low s with h | h
  · rw [h, if_neg (by decide)]
    have : Go.bits .and .u32 2197175160 ((-(((0#32 : BitVec 32).toNat : Nat) : Int)) % 4294967296) = ((0#32 : BitVec 32).toNat : Int) := bits_and 2197175160#32 0#32
    rw [this, bits_xor]
    simp
  · rw [h, if_pos rfl]
    have : Go.bits .and .u32 2197175160 ((-(((1#32 : BitVec 32).toNat : Nat) : Int)) % 4294967296) = ((2197175160#32 : BitVec 32).toNat : Int) := bits_and 2197175160#32 4294967295#32
    rw [this, bits_xor]
theorem rstep1 (s : BitVec 32) (h : Go.bits .and .u32 (s.toNat : Int) 1 = 1) : Go.bits .xor .u32 ((s.toNat : Int) / 2) 2197175160 = ((cstep s).toNat : Int) := by
  have hb : Go.bits .and .u32 (s.toNat : Int) 1 = ((s &&& 1#32).toNat : Int) := bits_and s 1#32
  rw [hb] at h
  rw [half, show (2197175160 : Int) = ((2197175160#32 : BitVec 32).toNat : Int) from rfl, bits_xor]
  unfold cstep
  rcases low s with h' | h'
  · rw [h'] at h; exact absurd h (by decide)
  · rw [if_pos h']
theorem rstep0 (s : BitVec 32) (h : ¬ Go.bits .and .u32 (s.toNat : Int) 1 = 1) : (s.toNat : Int) / 2 = ((cstep s).toNat : Int) := by
  have hb : Go.bits .and .u32 (s.toNat : Int) 1 = ((s &&& 1#32).toNat : Int) := bits_and s 1#32
  rw [hb] at h
  rw [half]
  unfold cstep
  rcases low s with h' | h'
  · rw [if_neg (by rw [h']; decide)]
  · rw [h'] at h; exact absurd rfl h

theorem wrap_one {x : Int} (h0 : 0 ≤ x) (h1 : x < 9223372036854775807) : wrap64 (x + 1) = x + 1 := by
  unfold wrap64; omega
def bstep (s : BitVec 32) (b : UInt8) : BitVec 32 := cstep (cstep (cstep (cstep (cstep (cstep (cstep (cstep (s ^^^ BitVec.ofNat 32 b.toNat))))))))
def run (s : BitVec 32) (l : List UInt8) : BitVec 32 := l.foldl bstep s
theorem bt_get (s : ByteArray) (i : Nat) (h : i < s.size) : bt s i = ((s.data.toList[i]'(by simpa using h)).toNat : Int) := by
  have := bt_at s i (by simpa using h)
  rw [← this]; simp; rfl
theorem bt_u32 (b : UInt8) : (b.toNat : Int) % 4294967296 = ((BitVec.ofNat 32 b.toNat).toNat : Int) := by
  have := b.toNat_lt
  rw [BitVec.toNat_ofNat]; omega
theorem not_eq (s : BitVec 32) : Go.bits .xor .u32 4294967295 (s.toNat : Int) = ((~~~s).toNat : Int) := by
  rw [show (4294967295 : Int) = ((4294967295#32 : BitVec 32).toNat : Int) from rfl, bits_xor]
  have : (4294967295#32 : BitVec 32) = BitVec.allOnes 32 := by decide
  rw [this, BitVec.allOnes_xor]
section
open Go.Proofs.Ytkfejfbalfghgaa.P
/-- The eight rounds over a byte. -/
theorem l1_ev (x1 : ByteArray) (n i : Int) (r : Int) (s : BitVec 32)
    (h : Ev (fun k => sum_Sum.l0 k ((cstep (cstep (cstep (cstep (cstep (cstep (cstep (cstep s)))))))).toNat) x1 n (wrap64 (i + 1))) r) :
    Ev (fun k => sum_Sum.l1 k (s.toNat) x1 n i 0) r := by
  have one : ∀ (j : Int) (s : BitVec 32), 0 ≤ j → j < 8 → Ev (fun k => sum_Sum.l1 k ((cstep s).toNat) x1 n i (j + 1)) r → Ev (fun k => sum_Sum.l1 k (s.toNat) x1 n i j) r := by
    intro j s h0 h1 hh
    refine Ev.step (f := fun k => sum_Sum.l1 k ((cstep s).toNat) x1 n i (j + 1)) (fun k => ?_) hh
    simp only [sum_Sum.l1]
    rw [if_pos (by omega), pstep, wrap_one h0 (by omega)]
  refine one 0 _ (by omega) (by omega) (one 1 _ (by omega) (by omega) (one 2 _ (by omega) (by omega) (one 3 _ (by omega) (by omega) (one 4 _ (by omega) (by omega) (one 5 _ (by omega) (by omega) (one 6 _ (by omega) (by omega) (one 7 _ (by omega) (by omega) ?_)))))))
  refine Ev.step (fun k => ?_) h
  simp only [sum_Sum.l1]
  rw [if_neg (by omega)]
theorem l0_ev (x1 : ByteArray) (hx : x1.size ≤ 140737488351232) : ∀ (d i : Nat) (s : BitVec 32), x1.size = i + d →
    Ev (fun k => sum_Sum.l0 k (s.toNat) x1 (x1.size : Int) i) ((~~~ (run s (x1.data.toList.drop i))).toNat : Int)
  | 0, i, s, h => by
    refine Ev.step (f := fun _ => some _) (fun k => ?_) (Ev.now _)
    simp only [sum_Sum.l0]
    rw [if_neg (by omega), not_eq, List.drop_eq_nil_of_le (by simp; omega)]
    rfl
  | d + 1, i, s, h => by
    have hi : i < x1.size := by omega
    have ih := l0_ev x1 hx d (i + 1) (bstep s (x1.data.toList[i]'(by simpa using hi))) (by omega)
    refine Ev.step (f := fun k => sum_Sum.l1 k ((s ^^^ BitVec.ofNat 32 (x1.data.toList[i]'(by simpa using hi)).toNat).toNat) x1 (x1.size : Int) i 0) (fun k => ?_) (l1_ev x1 _ _ _ _ ?_)
    · simp only [sum_Sum.l0]
      rw [if_pos (by omega), if_pos (by omega), if_pos (by omega), bt_get x1 i hi, bt_u32, bits_xor]
    · rw [wrap_one (by omega) (by omega), List.drop_eq_getElem_cons (by simpa using hi)]
      exact ih
theorem sum_ev (s : BitVec 32) (x1 : ByteArray) (hx : x1.size ≤ 140737488351232) : Ev (fun k => sum_Sum.f k (s.toNat) x1) ((~~~ (run (~~~ s) x1.data.toList)).toNat : Int) := by
  unfold sum_Sum.f
  rw [not_eq]
  exact l0_ev x1 hx x1.size 0 (~~~s) (by omega)
/-- The eight rounds over a byte. -/
theorem rl1_ev (x1 : ByteArray) (i : Int) (r : Int) (s : BitVec 32)
    (h : Ev (fun k => fairwayref1_Sum.l0 k ((cstep (cstep (cstep (cstep (cstep (cstep (cstep (cstep s)))))))).toNat) x1 (wrap64 (i + 1))) r) :
    Ev (fun k => fairwayref1_Sum.l1 k (s.toNat) x1 i 0) r := by
  have one : ∀ (j : Int) (s : BitVec 32), 0 ≤ j → j < 8 → Ev (fun k => fairwayref1_Sum.l1 k ((cstep s).toNat) x1 i (j + 1)) r → Ev (fun k => fairwayref1_Sum.l1 k (s.toNat) x1 i j) r := by
    intro j s h0 h1 hh
    refine Ev.step (f := fun k => fairwayref1_Sum.l1 k ((cstep s).toNat) x1 i (j + 1)) (fun k => ?_) hh
    simp only [fairwayref1_Sum.l1]
    by_cases hb : Go.bits .and .u32 (s.toNat : Int) 1 = 1
    · rw [if_pos (by omega), if_pos hb, rstep1 s hb, wrap_one h0 (by omega)]
    · rw [if_pos (by omega), if_neg hb, rstep0 s hb, wrap_one h0 (by omega)]
  refine one 0 _ (by omega) (by omega) (one 1 _ (by omega) (by omega) (one 2 _ (by omega) (by omega) (one 3 _ (by omega) (by omega) (one 4 _ (by omega) (by omega) (one 5 _ (by omega) (by omega) (one 6 _ (by omega) (by omega) (one 7 _ (by omega) (by omega) ?_)))))))
  refine Ev.step (fun k => ?_) h
  simp only [fairwayref1_Sum.l1]
  rw [if_neg (by omega)]
theorem rl0_ev (x1 : ByteArray) (hx : x1.size ≤ 140737488351232) : ∀ (d i : Nat) (s : BitVec 32), x1.size = i + d →
    Ev (fun k => fairwayref1_Sum.l0 k (s.toNat) x1 i) ((~~~ (run s (x1.data.toList.drop i))).toNat : Int)
  | 0, i, s, h => by
    refine Ev.step (f := fun _ => some _) (fun k => ?_) (Ev.now _)
    simp only [fairwayref1_Sum.l0]
    rw [if_neg (by omega), not_eq, List.drop_eq_nil_of_le (by simp; omega)]
    rfl
  | d + 1, i, s, h => by
    have hi : i < x1.size := by omega
    have ih := rl0_ev x1 hx d (i + 1) (bstep s (x1.data.toList[i]'(by simpa using hi))) (by omega)
    refine Ev.step (f := fun k => fairwayref1_Sum.l1 k ((s ^^^ BitVec.ofNat 32 (x1.data.toList[i]'(by simpa using hi)).toNat).toNat) x1 i 0) (fun k => ?_) (rl1_ev x1 _ _ _ ?_)
    · simp only [fairwayref1_Sum.l0]
      rw [if_pos (by omega), if_pos (by omega), bt_get x1 i hi, bt_u32, bits_xor]
    · rw [wrap_one (by omega) (by omega), List.drop_eq_getElem_cons (by simpa using hi)]
      exact ih
theorem sumref_ev (s : BitVec 32) (x1 : ByteArray) (hx : x1.size ≤ 140737488351232) : Ev (fun k => fairwayref1_Sum.f k (s.toNat) x1) ((~~~ (run (~~~ s) x1.data.toList)).toNat : Int) := by
  unfold fairwayref1_Sum.f
  rw [not_eq]
  exact rl0_ev x1 hx x1.size 0 (~~~s) (by omega)
/-- A number of the kind u32 is a word's. -/
theorem of_wf {n : Int} (h : (Lit.int .u32 n).wf = true) : ∃ s : BitVec 32, n = (s.toNat : Int) := by
  simp [Lit.wf, IntKind.min, IntKind.max, IntKind.signed, IntKind.bits] at h
  refine ⟨BitVec.ofNat 32 n.toNat, ?_⟩
  rw [BitVec.toNat_ofNat]
  omega
end
end Go.Proofs.Ytkfejfbalfghgaa.USum

/- The check sum's step is linear and loses nothing: one byte that is another changes the sum, and a turned bit does whatever the byte behind it is. -/
namespace Go.Proofs.Ytkfejfbalfghgaa.UFlip
open Go Go.RowKit Go.Proofs.Ytkfejfbalfghgaa.USum
set_option linter.unusedVariables false
theorem and_xor (a b : BitVec 32) : (a ^^^ b) &&& 1#32 = (a &&& 1#32) ^^^ (b &&& 1#32) := by
  apply BitVec.eq_of_getLsbD_eq
  intro i hi
  simp only [BitVec.getLsbD_and, BitVec.getLsbD_xor]
  cases a.getLsbD i <;> cases b.getLsbD i <;> cases (1#32).getLsbD i <;> rfl
theorem shr_xor (a b : BitVec 32) : (a ^^^ b) >>> 1 = (a >>> 1) ^^^ (b >>> 1) := by
  apply BitVec.eq_of_getLsbD_eq
  intro i hi
  simp only [BitVec.getLsbD_ushiftRight, BitVec.getLsbD_xor]
theorem x1 (a b c : BitVec 32) : (a ^^^ c) ^^^ b = (a ^^^ b) ^^^ c := by
  rw [BitVec.xor_assoc, BitVec.xor_comm c b, BitVec.xor_assoc]
theorem cstep_xor (a b : BitVec 32) : cstep (a ^^^ b) = cstep a ^^^ cstep b := by
  unfold cstep
  rw [and_xor, shr_xor]
  rcases low a with ha | ha <;> rcases low b with hb | hb <;> rw [ha, hb]
  · rw [if_neg (by decide), if_neg (by decide), if_neg (by decide)]
  · rw [if_pos (by decide), if_neg (by decide), if_pos rfl, BitVec.xor_assoc]
  · rw [if_pos (by decide), if_pos rfl, if_neg (by decide), x1]
  · rw [if_neg (by decide), if_pos rfl, if_pos rfl, x1, BitVec.xor_assoc, BitVec.xor_assoc, BitVec.xor_self, BitVec.xor_zero]
theorem shr0 (a : BitVec 32) (h : a >>> 1 = 0#32) (h0 : a &&& 1#32 = 0#32) : a = 0#32 := by
  have e1 : (a >>> 1).toNat = 0 := by rw [h]; rfl
  have e2 : (a &&& 1#32).toNat = 0 := by rw [h0]; rfl
  have : (a &&& 1#32).toNat = a.toNat % 2 := by simp [BitVec.toNat_and, Nat.and_one_is_mod]
  rw [BitVec.toNat_ushiftRight, Nat.shiftRight_eq_div_pow] at e1
  apply BitVec.eq_of_toNat_eq
  show a.toNat = 0
  omega
theorem cstep0 (a : BitVec 32) (h : cstep a = 0#32) : a = 0#32 := by
  unfold cstep at h
  rcases low a with ha | ha
  · rw [if_neg (by rw [ha]; decide)] at h
    exact shr0 a h ha
  · rw [if_pos ha] at h
    have hb := congrArg (fun z : BitVec 32 => z.getLsbD 31) h
    simp only [BitVec.getLsbD_xor, BitVec.getLsbD_ushiftRight] at hb
    rw [BitVec.getLsbD_of_ge a (1 + 31) (by decide)] at hb
    exact absurd hb (by decide)
theorem xor0 {a b : BitVec 32} (h : a ^^^ b = 0#32) : a = b := by
  have : (a ^^^ b) ^^^ b = 0#32 ^^^ b := by rw [h]
  rwa [BitVec.xor_assoc, BitVec.xor_self, BitVec.xor_zero, BitVec.zero_xor] at this
def c8 (s : BitVec 32) : BitVec 32 := cstep (cstep (cstep (cstep (cstep (cstep (cstep (cstep s)))))))
theorem c8_xor (a b : BitVec 32) : c8 (a ^^^ b) = c8 a ^^^ c8 b := by simp only [c8, cstep_xor]
theorem c80 (a : BitVec 32) (h : c8 a = 0#32) : a = 0#32 := cstep0 _ (cstep0 _ (cstep0 _ (cstep0 _ (cstep0 _ (cstep0 _ (cstep0 _ (cstep0 _ h)))))))
def by_ (b : UInt8) : BitVec 32 := BitVec.ofNat 32 b.toNat
theorem bstep_eq (s : BitVec 32) (b : UInt8) : bstep s b = c8 (s ^^^ by_ b) := rfl
theorem x4 (a b c d : BitVec 32) : (a ^^^ b) ^^^ (c ^^^ d) = (a ^^^ c) ^^^ (b ^^^ d) := by
  rw [BitVec.xor_assoc, BitVec.xor_assoc, ← BitVec.xor_assoc b c d, BitVec.xor_comm b c, BitVec.xor_assoc]
theorem bstep_dif (s s' : BitVec 32) (b b' : UInt8) : bstep s b ^^^ bstep s' b' = c8 ((s ^^^ s') ^^^ (by_ b ^^^ by_ b')) := by
  rw [bstep_eq, bstep_eq, ← c8_xor, x4]
theorem run_inj (l : List UInt8) : ∀ s s' : BitVec 32, run s l = run s' l → s = s' := by
  induction l with
  | nil => exact fun _ _ h => h
  | cons b l ih =>
    intro s s' h
    have h2 : bstep s b ^^^ bstep s' b = 0#32 := by rw [show bstep s b = bstep s' b from ih _ _ h, BitVec.xor_self]
    rw [bstep_dif, BitVec.xor_self, BitVec.xor_zero] at h2
    exact xor0 (c80 _ h2)
theorem run_append (s : BitVec 32) (a b : List UInt8) : run s (a ++ b) = run (run s a) b := List.foldl_append ..
/-- One byte that is another. -/
theorem run_one (s : BitVec 32) (a b : List UInt8) (x y : UInt8) (h : by_ x ≠ by_ y) : run s (a ++ x :: b) ≠ run s (a ++ y :: b) := by
  intro e
  rw [run_append, run_append] at e
  have e1 := run_inj b _ _ e
  have h2 : bstep (run s a) x ^^^ bstep (run s a) y = 0#32 := by rw [e1, BitVec.xor_self]
  rw [bstep_dif, BitVec.xor_self, BitVec.zero_xor] at h2
  exact h (xor0 (c80 _ h2))
/-- A turned bit, and the byte behind it. -/
theorem high : ∀ j : Fin 8, (c8 (1#32 <<< j.val)) >>> 8 ≠ 0#32 := by decide +kernel
theorem run_two (s : BitVec 32) (a b : List UInt8) (x y x' y' : UInt8) (j : Nat) (hj : j < 8) (h : by_ x ^^^ by_ x' = 1#32 <<< j) : run s (a ++ x :: y :: b) ≠ run s (a ++ x' :: y' :: b) := by
  intro e
  rw [run_append, run_append] at e
  have e1 : bstep (bstep (run s a) x) y = bstep (bstep (run s a) x') y' := run_inj b _ _ e
  have h2 : bstep (bstep (run s a) x) y ^^^ bstep (bstep (run s a) x') y' = 0#32 := by rw [e1, BitVec.xor_self]
  rw [bstep_dif, bstep_dif, BitVec.xor_self, BitVec.zero_xor, h] at h2
  have h3 := c80 _ h2
  have h4 : (c8 (1#32 <<< j) ^^^ (by_ y ^^^ by_ y')) >>> 8 = 0#32 >>> 8 := by rw [h3]
  have small : ∀ z : UInt8, by_ z >>> 8 = 0#32 := by
    intro z
    apply BitVec.eq_of_toNat_eq
    have := z.toNat_lt
    rw [BitVec.toNat_ushiftRight, Nat.shiftRight_eq_div_pow, by_, BitVec.toNat_ofNat]
    show z.toNat % 2 ^ 32 / 2 ^ 8 = 0
    omega
  have dist : ∀ p q : BitVec 32, (p ^^^ q) >>> 8 = (p >>> 8) ^^^ (q >>> 8) := by
    intro p q
    apply BitVec.eq_of_getLsbD_eq
    intro i hi
    simp only [BitVec.getLsbD_ushiftRight, BitVec.getLsbD_xor]
  rw [dist, dist, small, small, BitVec.xor_self, BitVec.xor_zero] at h4
  exact high ⟨j, hj⟩ h4
theorem by_inj {x y : UInt8} (h : by_ x = by_ y) : x = y := by
  have := congrArg BitVec.toNat h
  rw [by_, by_, BitVec.toNat_ofNat, BitVec.toNat_ofNat] at this
  have := x.toNat_lt; have := y.toNat_lt
  exact UInt8.toNat_inj.1 (by omega)
end Go.Proofs.Ytkfejfbalfghgaa.UFlip

/- The pure law SumParts: of two parts the second one's sum, behind the first one's, is that of both; a turned bit, and the byte behind it, change it. -/
namespace Go.Proofs.Ytkfejfbalfghgaa.Pure
set_option linter.unusedVariables false
set_option linter.unusedSimpArgs false
open Go Go.RowKit Go.Proofs.Ytkfejfbalfghgaa.Sq Go.Proofs.Ytkfejfbalfghgaa.P Go.Proofs.Ytkfejfbalfghgaa.USum Go.Proofs.Ytkfejfbalfghgaa.UFlip Go.Proofs.YtkfejfbalfghgaaW.PrintWords Go.Proofs.YtkfejfbalfghgaaW.PrintLast

theorem wakes_ev : Ev (fun k => fairwaylaw3_wakes.f k) true := Ev.of (fairwaylaw3_wakes.mono) (k := 120) (by decide +kernel)
theorem rd_mem {l0 : List S25} {i : Nat} (h : i < l0.length) : rd_T25 l0 i ∈ l0 := by
  unfold rd_T25
  simp [List.getD_eq_getElem?_getD, List.getElem?_eq_getElem h]
theorem wrapU (x : Int) : IntKind.wrap .u64 x = x % 18446744073709551616 := by simp [IntKind.wrap, IntKind.bits, IntKind.signed]
theorem within (n m : Int) (h0 : 0 < m) (h1 : m < 9223372036854775807) : ∃ t : Nat, (t : Int) < m ∧ fairwaylaw0_Within.f n m = some (t : Int) := by
  have hm : IntKind.wrap .u64 m = m := by rw [wrapU]; omega
  have hn : 0 ≤ IntKind.wrap .u64 n := by rw [wrapU]; omega
  have ht : Int.tmod (IntKind.wrap .u64 n) m = (IntKind.wrap .u64 n) % m := Int.tmod_eq_emod_of_nonneg hn
  have hp := Int.emod_nonneg (IntKind.wrap .u64 n) (show m ≠ 0 by omega)
  have hq := Int.emod_lt_of_pos (IntKind.wrap .u64 n) h0
  refine ⟨((IntKind.wrap .u64 n) % m).toNat, by omega, ?_⟩
  unfold fairwaylaw0_Within.f
  rw [hm, if_neg (by omega), ht]
  congr 1
  rw [Int.toNat_of_nonneg hp]
  unfold wrap64
  omega
theorem tl_ext (s : ByteArray) (a b : Nat) : (s.extract a b).data.toList = (s.data.toList.drop a).take (b - a) := by
  simp only [ByteArray.data_extract, Array.toList_extract, List.extract_eq_take_drop]
theorem len_eq (s : ByteArray) : s.data.toList.length = s.size := by simp
theorem flip_tab : ∀ x : Fin 256, ∀ j : Fin 8, BitVec.ofNat 32 x.val ^^^ BitVec.ofNat 32 (UInt8.ofNat (Go.bits .xor .u8 (x.val : Int) (shl .u8 1 (j.val : Int))).toNat).toNat = 1#32 <<< j.val := by decide +kernel
theorem flip (x : UInt8) (j : Nat) (hj : j < 8) : by_ x ^^^ by_ (UInt8.ofNat (Go.bits .xor .u8 (x.toNat : Int) (shl .u8 1 (j : Int))).toNat) = 1#32 <<< j := flip_tab ⟨x.toNat, x.toNat_lt⟩ ⟨j, hj⟩
theorem one_ne (j : Nat) (hj : j < 8) : (1#32 <<< j) ≠ 0#32 := by
  have : ∀ j : Fin 8, (1#32 <<< j.val) ≠ 0#32 := by decide
  exact this ⟨j, hj⟩
theorem flip_ne (x y : UInt8) (j : Nat) (hj : j < 8) (h : by_ x ^^^ by_ y = 1#32 <<< j) : by_ x ≠ by_ y := by
  intro e
  rw [e, BitVec.xor_self] at h
  exact one_ne j hj h.symm
theorem str_back (xs : List UInt8) : (strOfNums (xs.map (fun b => (b.toNat : Int)))).data.toList = xs := by
  rw [strOfNums_data, List.map_map]
  conv => rhs; rw [← List.map_id xs]
  apply List.map_congr_left
  intro b _
  simp
theorem str_set (xs : List Int) (t : Nat) (v : Int) : (strOfNums (xs.set t v)).data.toList = (strOfNums xs).data.toList.set t (UInt8.ofNat v.toNat) := by
  rw [strOfNums_data, strOfNums_data, List.map_set]
theorem str_bytes (s : ByteArray) : (strOfNums (fbytes s)).data.toList = s.data.toList := str_back _
theorem rd_bytes (s : ByteArray) (t : Nat) (h : t < s.size) : rd (fbytes s) (t : Int) = ((s.data.toList[t]'(by rw [len_eq]; exact h)).toNat : Int) := by
  have h' : t < s.data.toList.length := by rw [len_eq]; exact h
  simp only [rd, fbytes, Int.toNat_natCast, List.getD_eq_getElem?_getD, List.getElem?_map, List.getElem?_eq_getElem h', Option.map_some, Option.getD_some]
theorem cut1 {α : Type} (l : List α) (t : Nat) (h : t < l.length) : l = l.take t ++ l[t] :: l.drop (t + 1) := by
  rw [← List.drop_eq_getElem_cons h, List.take_append_drop]
theorem set1 {α : Type} (l : List α) (t : Nat) (x : α) (h : t < l.length) : l.set t x = l.take t ++ x :: l.drop (t + 1) := by
  rw [List.set_eq_take_append_cons_drop, if_pos h]
theorem set2 {α : Type} (l : List α) (t : Nat) (x y : α) (h : t + 1 < l.length) : (l.set t x).set (t + 1) y = l.take t ++ x :: y :: l.drop (t + 2) := by
  rw [set1 (l.set t x) (t + 1) y (by rw [List.length_set]; exact h), List.drop_set_of_lt (by omega), set1 l t x (by omega)]
  rw [List.take_append, List.take_of_length_le (by rw [List.length_take]; omega), List.length_take, show t + 1 - min t l.length = 1 by omega]
  simp
theorem cut2 {α : Type} (l : List α) (t : Nat) (h : t + 1 < l.length) : l = l.take t ++ l[t] :: l[t + 1] :: l.drop (t + 2) := by
  conv => lhs; rw [cut1 l t (by omega), List.drop_eq_getElem_cons h]
theorem not_inj {a b : BitVec 32} (h : ((~~~a).toNat : Int) = ((~~~b).toNat : Int)) : a = b := by
  have h1 : ~~~a = ~~~b := BitVec.eq_of_toNat_eq (by omega)
  have h2 : ~~~(~~~a) = ~~~(~~~b) := by rw [h1]
  rwa [BitVec.not_not, BitVec.not_not] at h2
/-- The sum of bytes that are others in one place is another. -/
theorem sum_one (s : BitVec 32) (b : ByteArray) (t j : Nat) (ht : t < b.size) (hj : j < 8) : ((~~~ (run (~~~ s) (strOfNums ((fbytes b).set t (Go.bits .xor .u8 (rd (fbytes b) (t : Int)) (shl .u8 1 (j : Int))))).data.toList)).toNat : Int) ≠ ((~~~ (run (~~~ s) b.data.toList)).toNat : Int) := by
  intro h
  have h1 := not_inj h
  have hl : t < b.data.toList.length := by rw [len_eq]; exact ht
  rw [str_set, str_bytes, rd_bytes b t ht, set1 _ t _ hl] at h1
  conv at h1 => rhs; rw [cut1 b.data.toList t hl]
  exact run_one _ _ _ _ _ (flip_ne _ _ j hj (flip _ j hj)) h1.symm
theorem sum_two (s : BitVec 32) (b : ByteArray) (t j : Nat) (v : Int) (ht : t + 1 < b.size) (hj : j < 8) : ((~~~ (run (~~~ s) (strOfNums (((fbytes b).set t (Go.bits .xor .u8 (rd (fbytes b) (t : Int)) (shl .u8 1 (j : Int)))).set (t + 1) v)).data.toList)).toNat : Int) ≠ ((~~~ (run (~~~ s) b.data.toList)).toNat : Int) := by
  intro h
  have h1 := not_inj h
  have hl : t + 1 < b.data.toList.length := by rw [len_eq]; exact ht
  rw [str_set, str_set, str_bytes, rd_bytes b t (by omega), set2 _ t _ _ hl] at h1
  conv at h1 => rhs; rw [cut2 b.data.toList t hl]
  exact run_two _ _ _ _ _ _ _ j hj (flip _ j hj) h1.symm
theorem str_size (xs : List Int) : (strOfNums xs).size = xs.length := strOfNums_size xs

/-- One ask whose bytes aren't too many: the loop goes on. -/
theorem ask_ev (l0 : List S25) (hl : l0.length * 32 ≤ 140737488351232) (hg : ∀ x ∈ l0, good25 x) (i : Nat) (hi : i < l0.length) (h3 : ¬ ((rd_T25 l0 i).f1.size : Int) > 3000)
    (next : Ev (fun k => fairwaylaw3_SumParts.l0 k l0 (i + 1)) true) : Ev (fun k => fairwaylaw3_SumParts.j1 k l0 i true) true := by
  have hx := hg _ (rd_mem hi)
  obtain ⟨g0, g1, g2⟩ := hx
  obtain ⟨s, hs⟩ := of_wf g0
  generalize hrd : rd_T25 l0 i = x at *
  have hb : x.f1.size ≤ 3000 := by omega
  have hw1 : wrap64 ((x.f1.size : Int) + 1) = ((x.f1.size : Nat) : Int) + 1 := wrap_one (by omega) (by omega)
  obtain ⟨t1, ht1, hW1⟩ := within x.f2 ((x.f1.size : Int) + 1) (by omega) (by omega)
  have hz1 : (x.f1.extract 0 t1).size ≤ 140737488351232 := by rw [ByteArray.size_extract]; omega
  have hz2 : (x.f1.extract t1 x.f1.size).size ≤ 140737488351232 := by rw [ByteArray.size_extract]; omega
  have hz0 : (⟨#[]⟩ : ByteArray).size ≤ 140737488351232 := by decide
  have e1 := sum_ev s x.f1 (by omega)
  have e2 := sum_ev s (x.f1.extract 0 t1) hz1
  have e3 := sum_ev (~~~ (run (~~~ s) (x.f1.extract 0 t1).data.toList)) (x.f1.extract t1 x.f1.size) hz2
  have e4 := sum_ev s (⟨#[]⟩ : ByteArray) hz0
  have same : ((~~~ (run (~~~ (~~~ (run (~~~ s) (x.f1.extract 0 t1).data.toList))) (x.f1.extract t1 x.f1.size).data.toList)).toNat : Int) = ((~~~ (run (~~~ s) x.f1.data.toList)).toNat : Int) := by
    rw [BitVec.not_not, ← run_append, tl_ext, tl_ext, List.drop_zero, Nat.sub_zero, List.take_of_length_le (l := x.f1.data.toList.drop t1) (by rw [List.length_drop, len_eq]; omega), List.take_append_drop]
  have back : ((~~~ (run (~~~ s) (⟨#[]⟩ : ByteArray).data.toList)).toNat : Int) = (s.toNat : Int) := by
    show ((~~~ (~~~ s)).toNat : Int) = _
    rw [BitVec.not_not]
  have j2 : Ev (fun k => fairwaylaw3_SumParts.j2 k l0 i x.f1 ((~~~ (run (~~~ s) x.f1.data.toList)).toNat : Int) false) true := by
    by_cases h0 : (x.f1.size : Int) = 0
    · refine Ev.step (f := fun k => fairwaylaw3_SumParts.l0 k l0 (i + 1)) (fun k => ?_) next
      simp only [fairwaylaw3_SumParts.j2]
      rw [if_neg (by decide), if_pos h0, wrap_one (by omega) (by omega)]
    · obtain ⟨t2, ht2, hW2⟩ := within x.f2 (x.f1.size : Int) (by omega) (by omega)
      obtain ⟨t3, ht3, hW3⟩ := within x.f2 8 (by omega) (by omega)
      have hlen : (fbytes x.f1).length = x.f1.size := fbytes_length _
      generalize hy : (fbytes x.f1).set t2 (Go.bits .xor .u8 (rd (fbytes x.f1) (t2 : Int)) (shl .u8 1 (t3 : Int))) = y
      have hyl : y.length = x.f1.size := by rw [← hy, List.length_set]; exact hlen
      have e5 := sum_ev s (strOfNums y) (by rw [str_size, hyl]; omega)
      have n5 : ((~~~ (run (~~~ s) (strOfNums y).data.toList)).toNat : Int) ≠ ((~~~ (run (~~~ s) x.f1.data.toList)).toNat : Int) := by
        rw [← hy]; exact sum_one s x.f1 t2 t3 (by omega) (by omega)
      refine Ev.step (f := fun k => (sum_Sum.f k x.f0 (strOfNums y)).bind fun t132 => (if t132 = ((~~~ (run (~~~ s) x.f1.data.toList)).toNat : Int) then (some false) else (if (wrap64 ((t2 : Int) + 1)) < (x.f1.size : Int) then (if 0 ≤ (wrap64 ((t2 : Int) + 1)) then (if (wrap64 ((t2 : Int) + 1)) < ((fbytes x.f1).length : Int) then ((sum_Sum.f k x.f0 (strOfNums (y.set ((wrap64 ((t2 : Int) + 1)) : Int).toNat (Go.bits .xor .u8 (rd y (wrap64 ((t2 : Int) + 1))) (x.f2 % 256))))).bind fun t137 => (if t137 = ((~~~ (run (~~~ s) x.f1.data.toList)).toNat : Int) then (some false) else (fairwaylaw3_SumParts.l0 k l0 (wrap64 ((i : Int) + 1))))) else (none)) else (none)) else (fairwaylaw3_SumParts.l0 k l0 (wrap64 ((i : Int) + 1)))))) (fun k => ?_) ?_
      · simp only [fairwaylaw3_SumParts.j2]
        rw [if_neg (by decide), if_neg h0]
        rw [Option.bind_some, if_pos (show (0 : Int) ≤ (i : Int) by omega), if_pos (show (i : Int) < (l0.length : Int) by omega), hrd, hW2, Option.bind_some, if_pos (show (0 : Int) ≤ (t2 : Int) by omega), if_pos (show (t2 : Int) < ((fbytes x.f1).length : Int) by omega), hW3, Option.bind_some, if_pos (show (0 : Int) ≤ (t3 : Int) by omega), Option.bind_some, Int.toNat_natCast, hy]
      · rw [hs] at *
        refine Ev.bind e5 ?_
        rw [wrap_one (x := (t2 : Int)) (by omega) (by omega), wrap_one (x := (i : Int)) (by omega) (by omega)]
        refine Ev.congr (fun k => if_neg n5) ?_
        by_cases h6 : (t2 : Int) + 1 < (x.f1.size : Int)
        · have e6 := sum_ev s (strOfNums (y.set ((t2 : Int) + 1).toNat (Go.bits .xor .u8 (rd y ((t2 : Int) + 1)) (x.f2 % 256)))) (by rw [str_size, List.length_set, hyl]; omega)
          have n6 : ((~~~ (run (~~~ s) (strOfNums (y.set ((t2 : Int) + 1).toNat (Go.bits .xor .u8 (rd y ((t2 : Int) + 1)) (x.f2 % 256)))).data.toList)).toNat : Int) ≠ ((~~~ (run (~~~ s) x.f1.data.toList)).toNat : Int) := by
            rw [← hy, show ((t2 : Int) + 1).toNat = t2 + 1 by omega]
            exact sum_two s x.f1 t2 t3 _ (by omega) (by omega)
          refine Ev.congr (fun k => (if_pos h6).trans ((if_pos (by omega)).trans (if_pos (by omega)))) ?_
          refine Ev.bind e6 ?_
          exact Ev.congr (fun k => if_neg n6) next
        · exact Ev.congr (fun k => if_neg h6) next
  refine Ev.step (f := fun k => (fairwaylaw0_Within.f x.f2 ((x.f1.size : Int) + 1)).bind fun t113 => ((sum_Sum.f k x.f0 x.f1).bind fun t115 => (if 0 ≤ t113 then (if t113 ≤ (x.f1.size : Int) then ((sum_Sum.f k x.f0 (x.f1.extract 0 (t113 : Int).toNat)).bind fun t117 => ((sum_Sum.f k t117 (x.f1.extract (t113 : Int).toNat x.f1.size)).bind fun t118 => (if t118 = t115 then ((sum_Sum.f k x.f0 (⟨#[]⟩ : ByteArray)).bind fun t120 => (fairwaylaw3_SumParts.j2 k l0 i x.f1 t115 (t120 != x.f0))) else (fairwaylaw3_SumParts.j2 k l0 i x.f1 t115 true)))) else (none)) else (none)))) (fun k => ?_) ?_
  · simp only [fairwaylaw3_SumParts.j1]
    rw [if_pos trivial, if_pos (by omega), if_pos (by omega), hrd, if_neg h3, hw1]
  · rw [hW1]
    show Ev (fun k => (sum_Sum.f k x.f0 x.f1).bind _) true
    rw [hs] at *
    refine Ev.bind e1 ?_
    refine Ev.congr (fun k => (if_pos (by omega)).trans (if_pos (by omega))) ?_
    rw [Int.toNat_natCast]
    refine Ev.bind e2 (Ev.bind e3 ?_)
    refine Ev.congr (fun k => if_pos same) ?_
    refine Ev.bind e4 ?_
    rw [back, show ((s.toNat : Int) != (s.toNat : Int)) = false from by simp]
    exact j2

theorem parts_loop (l0 : List S25) (hl : l0.length * 32 ≤ 140737488351232) (hg : ∀ x ∈ l0, good25 x) : ∀ d i : Nat, 15 ≤ i + d → Ev (fun k => fairwaylaw3_SumParts.l0 k l0 i) true := by
  have stop : ∀ i : Int, Ev (fun k => fairwaylaw3_SumParts.j1 k l0 i false) true := by
    intro i
    refine Ev.step (f := fun k => (fairwaylaw3_wakes.f k).bind fun t => some t) (fun k => ?_) (Ev.bind wakes_ev (Ev.now _))
    simp only [fairwaylaw3_SumParts.j1]
    rw [if_neg (by decide)]
  intro d
  induction d with
  | zero =>
    intro i hi
    refine Ev.step (f := fun k => fairwaylaw3_SumParts.j1 k l0 i false) (fun k => ?_) (stop i)
    simp only [fairwaylaw3_SumParts.l0]
    split
    · rw [show decide ((i : Int) < 15) = false from decide_eq_false (by omega)]
    · rfl
  | succ d ih =>
    intro i hi
    by_cases h1 : i < l0.length
    · by_cases h2 : i < 15
      · refine Ev.step (f := fun k => fairwaylaw3_SumParts.j1 k l0 i true) (fun k => ?_) ?_
        · simp only [fairwaylaw3_SumParts.l0]
          rw [if_pos (by omega), show decide ((i : Int) < 15) = true from decide_eq_true (by omega)]
        · by_cases h3 : ((rd_T25 l0 i).f1.size : Int) > 3000
          · refine Ev.step (f := fun _ => some true) (fun k => ?_) (Ev.now _)
            simp only [fairwaylaw3_SumParts.j1]
            rw [if_pos trivial, if_pos (by omega), if_pos (by omega), if_pos h3]
          · exact ask_ev l0 hl hg i h1 h3 (ih (i + 1) (by omega))
      · refine Ev.step (f := fun k => fairwaylaw3_SumParts.j1 k l0 i false) (fun k => ?_) (stop i)
        simp only [fairwaylaw3_SumParts.l0]
        rw [if_pos (by omega), show decide ((i : Int) < 15) = false from decide_eq_false (by omega)]
    · refine Ev.step (f := fun k => fairwaylaw3_SumParts.j1 k l0 i false) (fun k => ?_) (stop i)
      simp only [fairwaylaw3_SumParts.l0]
      rw [if_neg (by omega)]

theorem SumParts (l0 : List (S25)) (hl : l0.length * 32 ≤ 140737488351232) (hg : ∀ x ∈ l0, good25 x) : ∃ k, fairwaylaw3_SumParts.f k l0 = some true :=
  (parts_loop l0 hl hg 15 0 (by omega)).rounds

end Go.Proofs.Ytkfejfbalfghgaa.Pure

/- SumParts: for every input of the row the law returns true, and the input reads afterwards as before. Conditions: none beside the row's own. -/
namespace Go.Proofs.Ytkfejfbalfghgaa.sumParts
open Go.ChangeShapes Go.WideShapes Go.ChangeAt Go.RowKit Go.Proofs.YtkfejfbalfghgaaW.PrintWords Go.Proofs.Ytkfejfbalfghgaa.Open Go.Proofs.Ytkfejfbalfghgaa.P
set_option linter.unusedVariables false
theorem own : ownKnob Try.prog.godebug = none := by kernel_rfl
theorem laidOut : laidOutB Try.prog = true := by kernel_rfl
theorem purely (l0 : List (S25)) (hl : l0.length * 32 ≤ 140737488351232) (hg : ∀ x ∈ l0, good25 x) : ∃ k, fairwaylaw3_SumParts.f k l0 = some true := Pure.SumParts l0 hl hg
set_option maxRecDepth 100000 in
theorem lifted (os : Os) (started : os.Started) (H : Type) (enc : TypeId × Value → H) :
    ReturnsInHanded {} Try.checked os 4 .any (Rows.sumPartsSpec.pre6 enc Try.prog Try.f4 Rows.sumPartsRow.domain false) (Rows.sumPartsSpec.post enc Try.prog Try.f4 false true false false) := by
  refine returnsInHanded_of_change_sized (C := Try.checked) own started (by kernel_rfl) Try.func4
    (ChangeSpec.witness6 (enc := enc) (C := Try.checked) false ⟨#[], #[.slice none 0 0], []⟩ 8 (by kernel_rfl) (by kernel_rfl) (by kernel_rfl) (by kernel_rfl)) ?_
  intro W base args ds gs before hval0 hW hcnd hsz0 _
  have hsz : (DataW.weightsEach Try.prog (Try.f4.params.toList ++ Rows.sumPartsSpec.plain.varTypes Try.prog) (ds ++ gs)).all (· ≤ reachBytes) = true := hsz0
  have hval : ∀ (j : Nat) t v, Try.f4.params[j]? = some t → args[j]? = some v → Value.okWide Try.prog W .any base t v := hval0
  have hW' := hW
  obtain ⟨p_, q_, hA0, hV, rfl, hfz, hnd⟩ := hW
  have hA : DataW.TrodAll enc Try.prog W 0 (fun _ => true) true Try.f4.params.toList args.toList ds p_ := hA0
  rw [Try.params4] at hA hval hsz
  obtain ⟨v0, vs0, d0, ds0, p0, q0, hargs, rfl, rfl, h0, r0⟩ := trodAll_cons hA
  obtain ⟨rfl, rfl, rfl⟩ := trodAll_nil r0
  obtain rfl : args = #[v0] := by cases args; simp_all
  obtain ⟨rfl, rfl⟩ := trodVars_none hV
  obtain ⟨a0, len0, cap0, rfl⟩ := okWide_slice Try.underlying22 (hval 0 22 v0 rfl rfl)
  have k0 := h0
  have lt0 : ∀ x ∈ p0, x.block < W.heap.size := by obtain ⟨m, hm⟩ := k0; exact DataW.trod_lt m _ _ _ hm
  obtain ⟨l0, rfl, hr0, hc0, hg0, hl0⟩ : ∃ l : List (S25), len0 = l.length ∧ Kd.C k25 W a0 l.length l ∧ l.length ≤ cap0 ∧ (∀ x ∈ l, good25 x) ∧ l.length * 32 ≤ 140737488351232 := by
    obtain ⟨fuel, hf⟩ := h0
    obtain ⟨x, ⟨A, c, hcs, hl, hC⟩, hg, hb⟩ := (rd_slice 32 Try.underlying22 (by kernel_rfl) (by kernel_rfl) rd25).rd enc W fuel _ _ _ hf (fun m hm => of_decide_eq_true (List.all_eq_true.1 hsz m (DataW.weights_mem_each (j := 0) rfl rfl m hm)))
    simp [Value.cells] at hcs
    obtain ⟨rfl, rfl, rfl⟩ := hcs
    exact ⟨x, rfl, hC, hl, hg, hb⟩
  clear hA0 hval0 hsz0 hsz
  obtain ⟨k, h⟩ := purely l0 hl0 hg0
  refine (fairwaylaw3_SumParts.calls k _ _ l0 true W hr0 hc0 h).mono fun e W' ⟨he, bel0⟩ => ?_
  have bel : Below W.heap.size W W' := bel0
  subst he
  exact ⟨_, rfl, _, _, _, [], _, [], hW', trodAll_mk1 (shut_bool Try.underlying4 _), (trodAll_cons_mk (Below.trod laidOut (by kernel_rfl) (of_decide_eq_true (by kernel_rfl)) k0 bel lt0) trodAll_mk0), rfl, bel.frame _, fun h => by cases h⟩
theorem over : Rows.sumPartsRow.holds Try.pinned (OpenSpec.ofChange Rows.sumPartsSpec) :=
  OpenClaim.holds_of_wide 4 Try.f4 rfl rfl rfl rfl rfl rfl rfl ⟨rfl, rfl, rfl, rfl, rfl⟩ rfl rfl rfl rfl rfl (by kernel_rfl) Try.func4 (by kernel_rfl)
    (of_decide_eq_true (by kernel_rfl)) (by unfold Func.isWrapper; first | (rw [if_pos (by decide +kernel)]; kernel_rfl) | (rw [if_neg (by decide +kernel)]; exact ⟨rfl, rfl⟩))
    (fun os started H enc _ => lifted os started H enc)
theorem proved : Rows.SumPartsSaid := over
#print axioms proved
end Go.Proofs.Ytkfejfbalfghgaa.sumParts
namespace Go.Proofs.Ytkfejfbalfghgaa
theorem sumParts_holds : Rows.SumPartsSaid := sumParts.proved
end Go.Proofs.Ytkfejfbalfghgaa

