/- The law IndexFroms: printed functions, their contracts, the plain laws and the row, part 4. -/
import Derived.Test.YtmabdfdmccbfnaaProg
import Derived.Below
import Derived.Deep.Draws
import Derived.Deep.AppendLies
import Derived.Maps.AppendAt
import Derived.OwnWalk
import Derived.Laws.BytesArg
import Derived.Laws.MakeOwn
import Derived.Laws.OwnMore
import Derived.Deep.OwnRows
import Derived.Tactics
import Derived.Lib.ConvBytes
import Derived.Laws.Slices
import Derived.WalkKit
import Derived.KernelRfl
import Derived.RowKit3
import Derived.Deep.LoopGhost
import Derived.Deep.QuietTactic
import Derived.BigQuiet
import Derived.WideLaws
import Derived.Deep.DeepCutAuto
import Derived.Deep.CutBlock
import Derived.Deep.RegionHeld3
import Derived.Laws.Rows
import Derived.Lib.AppendStr
import Derived.ArgAppend
import Derived.Laws.IdiomCopy
import Derived.OrdersHeld
import Derived.Laws.BitsLemmas
import Derived.RowKit
import Derived.WalkSpells
import Derived.Test.YtmabdfdmccbfnaaKIndexFroms2
import Derived.Test.YtmabdfdmccbfnaaKIndexFroms0
import Derived.Test.YtmabdfdmccbfnaaKIndexFroms1
import Derived.Test.YtmabdfdmccbfnaaKIndexFroms3
-- written by a program of the proving session, out of the translation; Lean checks it
namespace Go.Proofs.Ytmabdfdmccbfnaa.P
open Go.RowKit Go.Proofs.Ytmabdfdmccbfnaa.Sq Go.Proofs.YtmabdfdmccbfnaaW.PrintWords Go.Proofs.YtmabdfdmccbfnaaW.PrintLast Go.Proofs.YtmabdfdmccbfnaaW.PrintMore
attribute [local go_sem] max2_int min2_int max_two min_two max_three min_three max_four min_four   -- for this text's walks alone
set_option linter.unusedVariables false
set_option linter.unusedSimpArgs false



def errW : Option Int → Value
 | none => .nilIface
 | some c => .iface 0 (.int .i64 c)
theorem errW_none : errW none = .nilIface := rfl
theorem errW_some (c : Int) : errW (some c) = .iface 0 (.int .i64 c) := rfl

theorem info3 : (Try.prog.info? 3).map (fun i => (i.zero, i.size, i.bytes)) = some (some (.int .i64 0), 1, 8) := by kernel_rfl
theorem info5 : (Try.prog.info? 5).map (fun i => (i.zero, i.size, i.bytes)) = some (some (.int .u8 0), 1, 1) := by kernel_rfl
theorem info25 : (Try.prog.info? 25).map (fun i => (i.zero, i.size, i.bytes)) = some (some (.agg #[(.int .i64 0), (.int .i64 0), (.string ⟨#[]⟩), (.string ⟨#[]⟩), (.int .i64 0), (.bool false)]), 6, 64) := by kernel_rfl
theorem info77 : (Try.prog.info? 77).map (fun i => (i.zero, i.size, i.bytes)) = some (some (.agg #[(.int .i64 0), (.int .i64 0)]), 2, 16) := by kernel_rfl
-- the values' own types
/-! #### struct type 25 -/
structure S25 where
 f0 : Int
 f1 : Int
 f2 : ByteArray
 f3 : ByteArray
 f4 : Int
 f5 : Bool
def z25 : S25 := ⟨(0 : Int), (0 : Int), (⟨#[]⟩ : ByteArray), (⟨#[]⟩ : ByteArray), (0 : Int), false⟩
def k25 : Kd S25 := Kd.iso (Kd.pair (Kd.int .i64) (Kd.pair (Kd.int .i64) (Kd.pair Kd.string (Kd.pair Kd.string (Kd.pair (Kd.int .i64) Kd.bool))))) (fun x : S25 => (x.f0, x.f1, x.f2, x.f3, x.f4, x.f5))
theorem k25_open {w : World} {x : S25} {cs : List Value} (h : k25.K w x cs) : cs = [.int .i64 x.f0, .int .i64 x.f1, .string x.f2, .string x.f3, .int .i64 x.f4, .bool x.f5] := by
 obtain ⟨_, _, rfl, rfl, ⟨_, _, rfl, rfl, ⟨_, _, rfl, rfl, ⟨_, _, rfl, rfl, ⟨_, _, rfl, rfl, rfl⟩⟩⟩⟩⟩ := h
 exact rfl
theorem k25_openM {w : World} {base : Nat} {ok : Nat → Prop} {x : S25} {cs : List Value} (h : k25.M w base ok x cs) : cs = [.int .i64 x.f0, .int .i64 x.f1, .string x.f2, .string x.f3, .int .i64 x.f4, .bool x.f5] := by
 obtain ⟨_, _, rfl, rfl, ⟨_, _, rfl, rfl, ⟨_, _, rfl, rfl, ⟨_, _, rfl, rfl, ⟨_, _, rfl, rfl, rfl⟩⟩⟩⟩⟩ := h
 exact rfl
theorem k25_mk (w : World) (x : S25)  : k25.K w x [.int .i64 x.f0, .int .i64 x.f1, .string x.f2, .string x.f3, .int .i64 x.f4, .bool x.f5] := ⟨[.int .i64 x.f0], [.int .i64 x.f1, .string x.f2, .string x.f3, .int .i64 x.f4, .bool x.f5], rfl, rfl, ⟨[.int .i64 x.f1], [.string x.f2, .string x.f3, .int .i64 x.f4, .bool x.f5], rfl, rfl, ⟨[.string x.f2], [.string x.f3, .int .i64 x.f4, .bool x.f5], rfl, rfl, ⟨[.string x.f3], [.int .i64 x.f4, .bool x.f5], rfl, rfl, ⟨[.int .i64 x.f4], [.bool x.f5], rfl, rfl, rfl⟩⟩⟩⟩⟩
theorem k25_mkM (w : World) (base : Nat) (ok : Nat → Prop) (x : S25)  : k25.M w base ok x [.int .i64 x.f0, .int .i64 x.f1, .string x.f2, .string x.f3, .int .i64 x.f4, .bool x.f5] := ⟨[.int .i64 x.f0], [.int .i64 x.f1, .string x.f2, .string x.f3, .int .i64 x.f4, .bool x.f5], rfl, rfl, ⟨[.int .i64 x.f1], [.string x.f2, .string x.f3, .int .i64 x.f4, .bool x.f5], rfl, rfl, ⟨[.string x.f2], [.string x.f3, .int .i64 x.f4, .bool x.f5], rfl, rfl, ⟨[.string x.f3], [.int .i64 x.f4, .bool x.f5], rfl, rfl, ⟨[.int .i64 x.f4], [.bool x.f5], rfl, rfl, rfl⟩⟩⟩⟩⟩
def rd_T25 (xs : List S25) (i : Int) : S25 := xs.getD i.toNat z25
theorem at_T25 {w : World} {A : Option Addr} {n : Nat} {xs : List S25} (h : Kd.C k25 w A n xs) (i : Int) (h0 : 0 ≤ i) (h1 : i < n) : ∃ ad , A = some ad ∧ w.cell? (ad.add (i.toNat * 6)) = some (.int .i64 (rd_T25 xs i).f0) ∧ w.cell? ⟨(ad.add (i.toNat * 6)).block, (ad.add (i.toNat * 6)).off + 1, none⟩ = some (.int .i64 (rd_T25 xs i).f1) ∧ w.cell? ⟨(ad.add (i.toNat * 6)).block, (ad.add (i.toNat * 6)).off + 2, none⟩ = some (.string (rd_T25 xs i).f2) ∧ w.cell? ⟨(ad.add (i.toNat * 6)).block, (ad.add (i.toNat * 6)).off + 3, none⟩ = some (.string (rd_T25 xs i).f3) ∧ w.cell? ⟨(ad.add (i.toNat * 6)).block, (ad.add (i.toNat * 6)).off + 4, none⟩ = some (.int .i64 (rd_T25 xs i).f4) ∧ w.cell? ⟨(ad.add (i.toNat * 6)).block, (ad.add (i.toNat * 6)).off + 5, none⟩ = some (.bool (rd_T25 xs i).f5) := by
 obtain ⟨ad, c, e, _, hK, hc0⟩ := Kd.C_get h z25 i h0 h1
 have hc : ∀ j u, c[j]? = some u → w.cell? (ad.add (i.toNat * 6 + j)) = some u := hc0
 obtain rfl := k25_open hK
 exact ⟨ad, e, hc 0 _ rfl, by rw [← add_field _ _ 1 (by omega)]; exact hc 1 _ rfl, by rw [← add_field _ _ 2 (by omega)]; exact hc 2 _ rfl, by rw [← add_field _ _ 3 (by omega)]; exact hc 3 _ rfl, by rw [← add_field _ _ 4 (by omega)]; exact hc 4 _ rfl, by rw [← add_field _ _ 5 (by omega)]; exact hc 5 _ rfl⟩

def rd_L5 (xs : List (List S25)) (i : Int) : (List S25) := xs.getD i.toNat ([] : List S25)
theorem at_L5 {w : World} {A : Option Addr} {n : Nat} {xs : List (List S25)} (h : Kd.C (Kd.slice 25 k25) w A n xs) (i : Int) (h0 : 0 ≤ i) (h1 : i < n) : ∃ ad A0 c0, A = some ad ∧ w.cell? (ad.add i.toNat) = some (.slice A0 (rd_L5 xs i).length c0) ∧ (rd_L5 xs i).length ≤ c0 ∧ k25.C w A0 (rd_L5 xs i).length (rd_L5 xs i) := by
 obtain ⟨ad, c, e, _, hK, hc0⟩ := Kd.C_get h ([] : List S25) i h0 h1
 have hc : ∀ j u, c[j]? = some u → w.cell? (ad.add (i.toNat * 1 + j)) = some u := hc0
 obtain ⟨A0, c0, rfl, l0, g0⟩ := hK
 exact ⟨ad, A0, c0, e, by have hq := hc 0 _ rfl; rwa [Nat.mul_one, Nat.add_zero] at hq, l0, g0⟩

/-! #### struct type 38 -/
structure S38 where
 f0 : (List S25)
 f1 : ByteArray
def z38 : S38 := ⟨([] : List S25), (⟨#[]⟩ : ByteArray)⟩
def k38 : Kd S38 := Kd.iso (Kd.pair (Kd.slice 25 k25) Kd.string) (fun x : S38 => (x.f0, x.f1))
theorem k38_open {w : World} {x : S38} {cs : List Value} (h : k38.K w x cs) : ∃ A0 c0, cs = [.slice A0 x.f0.length c0, .string x.f1] ∧ x.f0.length ≤ c0 ∧ k25.C w A0 x.f0.length x.f0 := by
 obtain ⟨_, _, rfl, ⟨A0, c0, rfl, l0, g0⟩, rfl⟩ := h
 exact ⟨A0, c0, rfl, l0, g0⟩
theorem k38_openM {w : World} {base : Nat} {ok : Nat → Prop} {x : S38} {cs : List Value} (h : k38.M w base ok x cs) : ∃ v0, cs = [v0, .string x.f1] ∧ k25.R 25 w base ok v0 x.f0 := by
 obtain ⟨_, _, rfl, ⟨v0, rfl, g0⟩, rfl⟩ := h
 exact ⟨v0, rfl, g0⟩
theorem k38_mk (w : World) (x : S38) {A0 : Option Addr} {c0 : Nat} (l0 : x.f0.length ≤ c0) (g0 : k25.C w A0 x.f0.length x.f0) : k38.K w x [.slice A0 x.f0.length c0, .string x.f1] := ⟨[.slice A0 x.f0.length c0], [.string x.f1], rfl, ⟨A0, c0, rfl, l0, g0⟩, rfl⟩
theorem k38_mkM (w : World) (base : Nat) (ok : Nat → Prop) (x : S38) {v0 : Value} (g0 : k25.R 25 w base ok v0 x.f0) : k38.M w base ok x [v0, .string x.f1] := ⟨[v0], [.string x.f1], rfl, ⟨v0, rfl, g0⟩, rfl⟩
def rd_T38 (xs : List S38) (i : Int) : S38 := xs.getD i.toNat z38
theorem at_T38 {w : World} {A : Option Addr} {n : Nat} {xs : List S38} (h : Kd.C k38 w A n xs) (i : Int) (h0 : 0 ≤ i) (h1 : i < n) : ∃ ad A0 c0, A = some ad ∧ w.cell? (ad.add (i.toNat * 2)) = some (.slice A0 (rd_T38 xs i).f0.length c0) ∧ w.cell? ⟨(ad.add (i.toNat * 2)).block, (ad.add (i.toNat * 2)).off + 1, none⟩ = some (.string (rd_T38 xs i).f1) ∧ (rd_T38 xs i).f0.length ≤ c0 ∧ k25.C w A0 (rd_T38 xs i).f0.length (rd_T38 xs i).f0 := by
 obtain ⟨ad, c, e, _, hK, hc0⟩ := Kd.C_get h z38 i h0 h1
 have hc : ∀ j u, c[j]? = some u → w.cell? (ad.add (i.toNat * 2 + j)) = some u := hc0
 obtain ⟨A0, c0, rfl, l0, g0⟩ := k38_open hK
 exact ⟨ad, A0, c0, e, hc 0 _ rfl, by rw [← add_field _ _ 1 (by omega)]; exact hc 1 _ rfl, l0, g0⟩

/-! #### struct type 53 -/
structure S53 where
 f0 : Int
 f1 : (List S25)
def z53 : S53 := ⟨(0 : Int), ([] : List S25)⟩
def k53 : Kd S53 := Kd.iso (Kd.pair (Kd.int .i64) (Kd.slice 25 k25)) (fun x : S53 => (x.f0, x.f1))
theorem k53_open {w : World} {x : S53} {cs : List Value} (h : k53.K w x cs) : ∃ A1 c1, cs = [.int .i64 x.f0, .slice A1 x.f1.length c1] ∧ x.f1.length ≤ c1 ∧ k25.C w A1 x.f1.length x.f1 := by
 obtain ⟨_, _, rfl, rfl, ⟨A1, c1, rfl, l1, g1⟩⟩ := h
 exact ⟨A1, c1, rfl, l1, g1⟩
theorem k53_openM {w : World} {base : Nat} {ok : Nat → Prop} {x : S53} {cs : List Value} (h : k53.M w base ok x cs) : ∃ v1, cs = [.int .i64 x.f0, v1] ∧ k25.R 25 w base ok v1 x.f1 := by
 obtain ⟨_, _, rfl, rfl, ⟨v1, rfl, g1⟩⟩ := h
 exact ⟨v1, rfl, g1⟩
theorem k53_mk (w : World) (x : S53) {A1 : Option Addr} {c1 : Nat} (l1 : x.f1.length ≤ c1) (g1 : k25.C w A1 x.f1.length x.f1) : k53.K w x [.int .i64 x.f0, .slice A1 x.f1.length c1] := ⟨[.int .i64 x.f0], [.slice A1 x.f1.length c1], rfl, rfl, ⟨A1, c1, rfl, l1, g1⟩⟩
theorem k53_mkM (w : World) (base : Nat) (ok : Nat → Prop) (x : S53) {v1 : Value} (g1 : k25.R 25 w base ok v1 x.f1) : k53.M w base ok x [.int .i64 x.f0, v1] := ⟨[.int .i64 x.f0], [v1], rfl, rfl, ⟨v1, rfl, g1⟩⟩
def rd_T53 (xs : List S53) (i : Int) : S53 := xs.getD i.toNat z53
theorem at_T53 {w : World} {A : Option Addr} {n : Nat} {xs : List S53} (h : Kd.C k53 w A n xs) (i : Int) (h0 : 0 ≤ i) (h1 : i < n) : ∃ ad A1 c1, A = some ad ∧ w.cell? (ad.add (i.toNat * 2)) = some (.int .i64 (rd_T53 xs i).f0) ∧ w.cell? ⟨(ad.add (i.toNat * 2)).block, (ad.add (i.toNat * 2)).off + 1, none⟩ = some (.slice A1 (rd_T53 xs i).f1.length c1) ∧ (rd_T53 xs i).f1.length ≤ c1 ∧ k25.C w A1 (rd_T53 xs i).f1.length (rd_T53 xs i).f1 := by
 obtain ⟨ad, c, e, _, hK, hc0⟩ := Kd.C_get h z53 i h0 h1
 have hc : ∀ j u, c[j]? = some u → w.cell? (ad.add (i.toNat * 2 + j)) = some u := hc0
 obtain ⟨A1, c1, rfl, l1, g1⟩ := k53_open hK
 exact ⟨ad, A1, c1, e, hc 0 _ rfl, by rw [← add_field _ _ 1 (by omega)]; exact hc 1 _ rfl, l1, g1⟩

/-! #### struct type 77 -/
structure S77 where
 f0 : Int
 f1 : Int
def z77 : S77 := ⟨(0 : Int), (0 : Int)⟩
def k77 : Kd S77 := Kd.iso (Kd.pair (Kd.int .i64) (Kd.int .i64)) (fun x : S77 => (x.f0, x.f1))
theorem k77_open {w : World} {x : S77} {cs : List Value} (h : k77.K w x cs) : cs = [.int .i64 x.f0, .int .i64 x.f1] := by
 obtain ⟨_, _, rfl, rfl, rfl⟩ := h
 exact rfl
theorem k77_openM {w : World} {base : Nat} {ok : Nat → Prop} {x : S77} {cs : List Value} (h : k77.M w base ok x cs) : cs = [.int .i64 x.f0, .int .i64 x.f1] := by
 obtain ⟨_, _, rfl, rfl, rfl⟩ := h
 exact rfl
theorem k77_mk (w : World) (x : S77)  : k77.K w x [.int .i64 x.f0, .int .i64 x.f1] := ⟨[.int .i64 x.f0], [.int .i64 x.f1], rfl, rfl, rfl⟩
theorem k77_mkM (w : World) (base : Nat) (ok : Nat → Prop) (x : S77)  : k77.M w base ok x [.int .i64 x.f0, .int .i64 x.f1] := ⟨[.int .i64 x.f0], [.int .i64 x.f1], rfl, rfl, rfl⟩
def rd_T77 (xs : List S77) (i : Int) : S77 := xs.getD i.toNat z77
theorem at_T77 {w : World} {A : Option Addr} {n : Nat} {xs : List S77} (h : Kd.C k77 w A n xs) (i : Int) (h0 : 0 ≤ i) (h1 : i < n) : ∃ ad , A = some ad ∧ w.cell? (ad.add (i.toNat * 2)) = some (.int .i64 (rd_T77 xs i).f0) ∧ w.cell? ⟨(ad.add (i.toNat * 2)).block, (ad.add (i.toNat * 2)).off + 1, none⟩ = some (.int .i64 (rd_T77 xs i).f1) := by
 obtain ⟨ad, c, e, _, hK, hc0⟩ := Kd.C_get h z77 i h0 h1
 have hc : ∀ j u, c[j]? = some u → w.cell? (ad.add (i.toNat * 2 + j)) = some u := hc0
 obtain rfl := k77_open hK
 exact ⟨ad, e, hc 0 _ rfl, by rw [← add_field _ _ 1 (by omega)]; exact hc 1 _ rfl⟩

end Go.Proofs.Ytmabdfdmccbfnaa.P

-- written by a program of the proving session, out of the translation; Lean checks it
namespace Go.Proofs.Ytmabdfdmccbfnaa.P
open Go.RowKit Go.Proofs.Ytmabdfdmccbfnaa.Sq Go.Proofs.YtmabdfdmccbfnaaW.PrintWords Go.Proofs.YtmabdfdmccbfnaaW.PrintLast Go.Proofs.YtmabdfdmccbfnaaW.PrintMore
attribute [local go_sem] max2_int min2_int max_two min_two max_three min_three max_four min_four   -- for this text's walks alone
set_option linter.unusedVariables false
set_option linter.unusedSimpArgs false

theorem eqA77 (d : Nat) (w : World) (x0 y0 : Int) (x1 y1 : Int) :
 (Op.equalIn (d + 2) 77 (.agg #[.int .i64 x0, .int .i64 x1]) (.agg #[.int .i64 y0, .int .i64 y1])).run Try.prog w = .ok (x0 == y0 && (x1 == y1)) w := by
 refine eqA_of Try.underlying77 (by kernel_rfl) ?_
 refine eqf_cons (by rfl) (by go_simp; rfl) (by go_simp; rfl) (by go_simp) ?_
 exact eqf_last (by rfl) (by go_simp; rfl) (by go_simp; rfl) (by go_simp)
end Go.Proofs.Ytmabdfdmccbfnaa.P

-- written by a program of the proving session, out of the translation; Lean checks it
namespace Go.Proofs.Ytmabdfdmccbfnaa.P
open Go.RowKit Go.Proofs.Ytmabdfdmccbfnaa.Sq Go.Proofs.YtmabdfdmccbfnaaW.PrintWords Go.Proofs.YtmabdfdmccbfnaaW.PrintLast Go.Proofs.YtmabdfdmccbfnaaW.PrintMore
attribute [local go_sem] max2_int min2_int max_two min_two max_three min_three max_four min_four   -- for this text's walks alone
set_option linter.unusedVariables false
set_option linter.unusedSimpArgs false

/-! ### fairwaylaw0_RecsWeight: function 68 -/
def fairwaylaw0_RecsWeight.l0 : Nat → List (S25) → Int → Int → Option (Int)
 | 0, _, _, _ => none
 | k + 1, x0, x3, x4 => if x4 < (x0.length : Int) then (if x3 < 1048576 then (if 0 ≤ x4 then (fairwaylaw0_RecsWeight.l0 k x0 (wrap64 ((wrap64 (x3 + (((rd_T25 x0 x4).f2).size : Int))) + (((rd_T25 x0 x4).f3).size : Int))) (wrap64 (x4 + 1))) else (none)) else (some x3)) else (some x3)
def fairwaylaw0_RecsWeight.f (k : Nat) (l0 : List (S25)) : Option (Int) := fairwaylaw0_RecsWeight.l0 k l0 (l0.length : Int) 0
theorem fairwaylaw0_RecsWeight.mono_l : ∀ k, (∀ y0 y1 y2, LeO (fairwaylaw0_RecsWeight.l0 k y0 y1 y2) (fairwaylaw0_RecsWeight.l0 (k + 1) y0 y1 y2))
 | 0 => fun _ _ _ r h => by simp [fairwaylaw0_RecsWeight.l0] at h
 | k + 1 => by
  have ih0 := fairwaylaw0_RecsWeight.mono_l k
  ·intro y0 y1 y2
   unfold fairwaylaw0_RecsWeight.l0
   repeat' first
   | (with_reducible exact ih0 _ _ _)
   | (with_reducible exact LeO.refl _)
   | (with_reducible exact LeO.none _)
   | (with_reducible refine LeO.ite ?_ ?_)
   | (with_reducible refine LeO.bind ?_ (fun _ => ?_))
   | exact ih0 _ _ _
   | exact LeO.none _
   | refine LeO.ite ?_ ?_
   | refine LeO.bind ?_ (fun _ => ?_)
theorem fairwaylaw0_RecsWeight.mono : ∀ a0 k, LeO (fairwaylaw0_RecsWeight.f k a0) (fairwaylaw0_RecsWeight.f (k + 1) a0) := by
 intro a0 k
 have ih0 := fairwaylaw0_RecsWeight.mono_l k
 unfold fairwaylaw0_RecsWeight.f
 repeat' first
  | (with_reducible exact ih0 _ _ _)
  | (with_reducible exact LeO.refl _)
  | (with_reducible exact LeO.none _)
  | (with_reducible refine LeO.ite ?_ ?_)
  | (with_reducible refine LeO.bind ?_ (fun _ => ?_))
  | exact ih0 _ _ _
  | exact LeO.none _
  | refine LeO.ite ?_ ?_
  | refine LeO.bind ?_ (fun _ => ?_)
set_option maxHeartbeats 8000000 in
set_option maxRecDepth 100000 in
theorem fairwaylaw0_RecsWeight.calls (k : Nat) (A0 : Option Addr) (c0 : Nat) (l0 : List (S25)) (r : Int) (w : World) (hr0 : Kd.C k25 w A0 l0.length l0) (hc0 : l0.length ≤ c0) (h : fairwaylaw0_RecsWeight.f k l0 = some r) :
 Calls Try.prog 68 #[.slice A0 l0.length c0] w fun e w' => e = .returned (.int .i64 r) ∧ Drawn0 w w' := by
 have HR0 := Aside0.mk hr0
 have HC0 := Aside0.mk hc0
 clear hr0 hc0
 have H : (fairwaylaw0_RecsWeight.l0 k l0 (l0.length : Int) 0) = some r := h
 clear h
 have H' := Aside0.mk H
 clear H
 go_enter Try.func68, Try.ntmps68
 go_wp2
 repeat (go_quiet (fail); try go_wp2)
 go_loopg [3, 4] k (fun kq v3 v4 w' => ∃ (x3_1 : Int) (x4_1 : Int), v3 = .int .i64 x3_1 ∧ v4 = .int .i64 x4_1 ∧ Aside0 (fairwaylaw0_RecsWeight.l0 kq l0 x3_1 x4_1 = some r) ∧ Aside0 (kq ≤ k) ∧ Drawn0 w w')
 case atStart => exact ⟨((l0.length : Int)), (0), ap, ap, H', ⟨Nat.le_refl _⟩, dr⟩
 case round =>
  clear H'
  obtain ⟨x3_1, x4_1, rfl, rfl, HA, HK1, ⟨m1, rfl⟩⟩ := hrel
  cases gk with
  | zero => exact absurd HA.out (by simp [fairwaylaw0_RecsWeight.l0])
  | succ k1 =>
   have H := HA.out
   clear HA
   simp only [fairwaylaw0_RecsWeight.l0] at H
   by_cases c2 : x4_1 < (l0.length : Int)
   ·rw [if_pos c2] at H
    have c2b0 : decide (x4_1 < (l0.length : Int)) = true := decide_eq_true c2
    clear c2
    by_cases c3 : x3_1 < 1048576
    ·rw [if_pos c3] at H
     have c3b0 : decide (x3_1 < 1048576) = true := decide_eq_true c3
     clear c3
     by_cases c4 : 0 ≤ x4_1
     ·rw [if_pos c4] at H
      have c4b0 : decide (0 ≤ x4_1) = true := decide_eq_true c4
      clear c4
      have H' := Aside0.mk H
      clear H
      have p210 : 0 ≤ (x4_1 : Int) := od
      have q210 : x4_1 < (l0.length : Int) := od
      obtain ⟨ad210, e210, hx210_0, hx210_1, hx210_2, hx210_3, hx210_4, hx210_5⟩ := at_T25 HR0.out x4_1 p210 q210
      cases e210
      replace p210 := eq_true p210
      replace q210 := eq_true q210
      have p211 : 0 ≤ (x4_1 : Int) := od
      have q211 : x4_1 < (l0.length : Int) := od
      obtain ⟨ad211, e211, hx211_0, hx211_1, hx211_2, hx211_3, hx211_4, hx211_5⟩ := at_T25 HR0.out x4_1 p211 q211
      obtain rfl : ad210 = ad211 := (by injection e211)
      replace p211 := eq_true p211
      replace q211 := eq_true q211
      go_wp2
      repeat (go_quiet (fail); try go_wp2)
      go_roundg k1
      case measure => have := HK1.out; omega
      case rel => exact ⟨(wrap64 ((wrap64 (x3_1 + (((rd_T25 l0 x4_1).f2).size : Int))) + (((rd_T25 l0 x4_1).f3).size : Int))), (wrap64 (x4_1 + 1)), ap, ap, H', ⟨by have := HK1.out; omega⟩, dr⟩
     ·rw [if_neg c4] at H
      exact absurd H (by simp)
    ·rw [if_neg c3] at H
     have c3b0 : decide (x3_1 < 1048576) = false := decide_eq_false c3
     clear c3
     obtain rfl := Option.some.inj H
     go_wp2
     repeat (go_quiet (fail); try go_wp2)
     go_ret
     exact ⟨ap, dr⟩
   ·rw [if_neg c2] at H
    have c2b0 : decide (x4_1 < (l0.length : Int)) = false := decide_eq_false c2
    clear c2
    obtain rfl := Option.some.inj H
    go_wp2
    repeat (go_quiet (fail); try go_wp2)
    go_ret
    exact ⟨ap, dr⟩

end Go.Proofs.Ytmabdfdmccbfnaa.P

-- written by a program of the proving session, out of the translation; Lean checks it
namespace Go.Proofs.Ytmabdfdmccbfnaa.P
open Go.RowKit Go.Proofs.Ytmabdfdmccbfnaa.Sq Go.Proofs.YtmabdfdmccbfnaaW.PrintWords Go.Proofs.YtmabdfdmccbfnaaW.PrintLast Go.Proofs.YtmabdfdmccbfnaaW.PrintMore
attribute [local go_sem] max2_int min2_int max_two min_two max_three min_three max_four min_four   -- for this text's walks alone
set_option linter.unusedVariables false
set_option linter.unusedSimpArgs false

/-! ### fairwaylaw11_Heavy: function 30 -/
def fairwaylaw11_Heavy.f (k : Nat) (a0_0 : Int) (l0_1 : List (S25)) (l0_2 : List (S25)) (l0_3 : List Int) (a0_4 : ByteArray) : Option (Bool) := (fairwaylaw0_RecsWeight.f k l0_1).bind fun t348 => ((fairwaylaw0_RecsWeight.f k l0_2).bind fun t349 => (if (wrap64 (t348 + t349)) > 8000 then (some true) else (if (a0_4.size : Int) > 8000 then (some true) else (some (decide ((l0_3.length : Int) > 500))))))
theorem fairwaylaw11_Heavy.mono : ∀ a0 a1 a2 a3 a4 k, LeO (fairwaylaw11_Heavy.f k a0 a1 a2 a3 a4) (fairwaylaw11_Heavy.f (k + 1) a0 a1 a2 a3 a4) := by
 intro a0 a1 a2 a3 a4 k
 unfold fairwaylaw11_Heavy.f
 repeat' first
  | (with_reducible exact fairwaylaw0_RecsWeight.mono _ _)
  | (with_reducible exact LeO.refl _)
  | (with_reducible exact LeO.none _)
  | (with_reducible refine LeO.ite ?_ ?_)
  | (with_reducible refine LeO.bind ?_ (fun _ => ?_))
  | exact fairwaylaw0_RecsWeight.mono _ _
  | exact LeO.none _
  | refine LeO.ite ?_ ?_
  | refine LeO.bind ?_ (fun _ => ?_)
set_option maxHeartbeats 8000000 in
set_option maxRecDepth 100000 in
theorem fairwaylaw11_Heavy.calls (k : Nat) (a0_0 : Int) (A0_1 : Option Addr) (c0_1 : Nat) (l0_1 : List (S25)) (A0_2 : Option Addr) (c0_2 : Nat) (l0_2 : List (S25)) (A0_3 : Option Addr) (c0_3 : Nat) (l0_3 : List Int) (a0_4 : ByteArray) (r : Bool) (w : World) (hr0_1 : Kd.C k25 w A0_1 l0_1.length l0_1) (hc0_1 : l0_1.length ≤ c0_1) (hr0_2 : Kd.C k25 w A0_2 l0_2.length l0_2) (hc0_2 : l0_2.length ≤ c0_2) (hr0_3 : Kd.C (Kd.int .i64) w A0_3 l0_3.length l0_3) (hc0_3 : l0_3.length ≤ c0_3) (h : fairwaylaw11_Heavy.f k a0_0 l0_1 l0_2 l0_3 a0_4 = some r) :
 Calls Try.prog 30 #[.agg #[.int .i64 a0_0, .slice A0_1 l0_1.length c0_1, .slice A0_2 l0_2.length c0_2, .slice A0_3 l0_3.length c0_3, .string a0_4]] w fun e w' => e = .returned (.bool r) ∧ Below w.heap.size w w' := by
 have hu55 := Try.underlying55
 have HR0_1 := Aside0.mk hr0_1
 have HC0_1 := Aside0.mk hc0_1
 clear hr0_1 hc0_1
 have HR0_2 := Aside0.mk hr0_2
 have HC0_2 := Aside0.mk hc0_2
 clear hr0_2 hc0_2
 have HR0_3 := Aside0.mk hr0_3
 have HC0_3 := Aside0.mk hc0_3
 clear hr0_3 hc0_3
 have HB := Aside0.mk (Below.refl w.heap.size w)
 have H : ((fairwaylaw0_RecsWeight.f k l0_1).bind fun t348 => ((fairwaylaw0_RecsWeight.f k l0_2).bind fun t349 => (if (wrap64 (t348 + t349)) > 8000 then (some true) else (if (a0_4.size : Int) > 8000 then (some true) else (some (decide ((l0_3.length : Int) > 500))))))) = some r := h
 clear h
 replace H := Option.bind_eq_some_iff.mp H
 obtain ⟨t348, A20, H⟩ := H
 try dsimp only at H
 have A2 := Aside0.mk A20
 clear A20
 replace H := Option.bind_eq_some_iff.mp H
 obtain ⟨t349, A30, H⟩ := H
 try dsimp only at H
 have A3 := Aside0.mk A30
 clear A30
 by_cases c4 : (wrap64 (t348 + t349)) > 8000
 ·rw [if_pos c4] at H
  have c4b0 : decide (8000 < (wrap64 (t348 + t349))) = true := decide_eq_true c4
  clear c4
  obtain rfl := Option.some.inj H
  go_enter Try.func30, Try.ntmps30
  go_wp2_with (first | ((with_reducible refine gate_dst (N := 1) rfl ?_); (try (refine gate_guard (by rfl) ?_; dsimp only)); refine box_event ?hg (N := 1) ?hd (cs := #[.int .i64 a0_0, .slice A0_1 l0_1.length c0_1, .slice A0_2 l0_2.length c0_2, .slice A0_3 l0_3.length c0_3, .string a0_4]) (t := 55) ?hr ?_; (case hd => rfl); (case hg => rfl); (case hr => first | (go_simp; done) | (go_simp; rfl)); intro gb347 hg w5 hbox hb; have BK347 := Aside0.mk (hbox); have GW347 := Aside0.mk ((by rw [hg]; exact (below_size bo) : w.heap.size ≤ gb347)); have GE347 := Aside0.mk ((by rw [hg]; exact (below_size bo) : w.heap.size ≤ gb347)); replace HB := Aside0.mk (below_step bo hb); clear hb hbox hg; obtain ⟨hcz6_0, hcz6_1, hcz6_2, hcz6_3, hcz6_4⟩ := cl5 BK347.out; obtain ⟨hfz6_0, hfz6_1, hfz6_2, hfz6_3, hfz6_4⟩ := fz5 BK347.out) | (go_at_call 68; (with_reducible refine (fairwaylaw0_RecsWeight.calls k _ _ l0_1 t348 _ ?side1 ?side2 A2.out).mono ?_); (case side1 => repeat (first | exact (Kd.C_below HR0_1.out HB.out) | (with_reducible refine Kd.C_alloc ?_ _) | (with_reducible refine Kd.C_drewN ?_ _) | (with_reducible refine Kd.C_drew ?_))); (case side2 => exact HC0_1.out); rintro e w' ⟨rfl, ⟨nd, rfl⟩⟩; (try first | exact ⟨rfl, _, World.drewN_drewN _ _ _⟩ | exact ⟨rfl, _, Eq.trans (World.drewN_drewN _ _ _) (congrArg (World.drewN _) (Nat.add_assoc _ _ _))⟩)) | (go_at_call 68; (with_reducible refine (fairwaylaw0_RecsWeight.calls k _ _ l0_2 t349 _ ?side1 ?side2 A3.out).mono ?_); (case side1 => repeat (first | exact (Kd.C_below HR0_2.out bo) | (with_reducible refine Kd.C_alloc ?_ _) | (with_reducible refine Kd.C_drewN ?_ _) | (with_reducible refine Kd.C_drew ?_))); (case side2 => exact HC0_2.out); rintro e w' ⟨rfl, ⟨nd, rfl⟩⟩; (try first | exact ⟨rfl, _, World.drewN_drewN _ _ _⟩ | exact ⟨rfl, _, Eq.trans (World.drewN_drewN _ _ _) (congrArg (World.drewN _) (Nat.add_assoc _ _ _))⟩)))
  repeat (go_quiet (first | ((with_reducible refine gate_dst (N := 1) rfl ?_); (try (refine gate_guard (by rfl) ?_; dsimp only)); refine box_event ?hg (N := 1) ?hd (cs := #[.int .i64 a0_0, .slice A0_1 l0_1.length c0_1, .slice A0_2 l0_2.length c0_2, .slice A0_3 l0_3.length c0_3, .string a0_4]) (t := 55) ?hr ?_; (case hd => rfl); (case hg => rfl); (case hr => first | (go_simp; done) | (go_simp; rfl)); intro gb347 hg w5 hbox hb; have BK347 := Aside0.mk (hbox); have GW347 := Aside0.mk ((by rw [hg]; exact (below_size bo) : w.heap.size ≤ gb347)); have GE347 := Aside0.mk ((by rw [hg]; exact (below_size bo) : w.heap.size ≤ gb347)); replace HB := Aside0.mk (below_step bo hb); clear hb hbox hg; obtain ⟨hcz6_0, hcz6_1, hcz6_2, hcz6_3, hcz6_4⟩ := cl5 BK347.out; obtain ⟨hfz6_0, hfz6_1, hfz6_2, hfz6_3, hfz6_4⟩ := fz5 BK347.out) | (go_at_call 68; (with_reducible refine (fairwaylaw0_RecsWeight.calls k _ _ l0_1 t348 _ ?side1 ?side2 A2.out).mono ?_); (case side1 => repeat (first | exact (Kd.C_below HR0_1.out HB.out) | (with_reducible refine Kd.C_alloc ?_ _) | (with_reducible refine Kd.C_drewN ?_ _) | (with_reducible refine Kd.C_drew ?_))); (case side2 => exact HC0_1.out); rintro e w' ⟨rfl, ⟨nd, rfl⟩⟩; (try first | exact ⟨rfl, _, World.drewN_drewN _ _ _⟩ | exact ⟨rfl, _, Eq.trans (World.drewN_drewN _ _ _) (congrArg (World.drewN _) (Nat.add_assoc _ _ _))⟩)) | (go_at_call 68; (with_reducible refine (fairwaylaw0_RecsWeight.calls k _ _ l0_2 t349 _ ?side1 ?side2 A3.out).mono ?_); (case side1 => repeat (first | exact (Kd.C_below HR0_2.out bo) | (with_reducible refine Kd.C_alloc ?_ _) | (with_reducible refine Kd.C_drewN ?_ _) | (with_reducible refine Kd.C_drew ?_))); (case side2 => exact HC0_2.out); rintro e w' ⟨rfl, ⟨nd, rfl⟩⟩; (try first | exact ⟨rfl, _, World.drewN_drewN _ _ _⟩ | exact ⟨rfl, _, Eq.trans (World.drewN_drewN _ _ _) (congrArg (World.drewN _) (Nat.add_assoc _ _ _))⟩))); try go_wp2_with (first | ((with_reducible refine gate_dst (N := 1) rfl ?_); (try (refine gate_guard (by rfl) ?_; dsimp only)); refine box_event ?hg (N := 1) ?hd (cs := #[.int .i64 a0_0, .slice A0_1 l0_1.length c0_1, .slice A0_2 l0_2.length c0_2, .slice A0_3 l0_3.length c0_3, .string a0_4]) (t := 55) ?hr ?_; (case hd => rfl); (case hg => rfl); (case hr => first | (go_simp; done) | (go_simp; rfl)); intro gb347 hg w5 hbox hb; have BK347 := Aside0.mk (hbox); have GW347 := Aside0.mk ((by rw [hg]; exact (below_size bo) : w.heap.size ≤ gb347)); have GE347 := Aside0.mk ((by rw [hg]; exact (below_size bo) : w.heap.size ≤ gb347)); replace HB := Aside0.mk (below_step bo hb); clear hb hbox hg; obtain ⟨hcz6_0, hcz6_1, hcz6_2, hcz6_3, hcz6_4⟩ := cl5 BK347.out; obtain ⟨hfz6_0, hfz6_1, hfz6_2, hfz6_3, hfz6_4⟩ := fz5 BK347.out) | (go_at_call 68; (with_reducible refine (fairwaylaw0_RecsWeight.calls k _ _ l0_1 t348 _ ?side1 ?side2 A2.out).mono ?_); (case side1 => repeat (first | exact (Kd.C_below HR0_1.out HB.out) | (with_reducible refine Kd.C_alloc ?_ _) | (with_reducible refine Kd.C_drewN ?_ _) | (with_reducible refine Kd.C_drew ?_))); (case side2 => exact HC0_1.out); rintro e w' ⟨rfl, ⟨nd, rfl⟩⟩; (try first | exact ⟨rfl, _, World.drewN_drewN _ _ _⟩ | exact ⟨rfl, _, Eq.trans (World.drewN_drewN _ _ _) (congrArg (World.drewN _) (Nat.add_assoc _ _ _))⟩)) | (go_at_call 68; (with_reducible refine (fairwaylaw0_RecsWeight.calls k _ _ l0_2 t349 _ ?side1 ?side2 A3.out).mono ?_); (case side1 => repeat (first | exact (Kd.C_below HR0_2.out bo) | (with_reducible refine Kd.C_alloc ?_ _) | (with_reducible refine Kd.C_drewN ?_ _) | (with_reducible refine Kd.C_drew ?_))); (case side2 => exact HC0_2.out); rintro e w' ⟨rfl, ⟨nd, rfl⟩⟩; (try first | exact ⟨rfl, _, World.drewN_drewN _ _ _⟩ | exact ⟨rfl, _, Eq.trans (World.drewN_drewN _ _ _) (congrArg (World.drewN _) (Nat.add_assoc _ _ _))⟩))))
  go_ret
  exact ⟨er, bo⟩
 ·rw [if_neg c4] at H
  have c4b0 : decide (8000 < (wrap64 (t348 + t349))) = false := decide_eq_false c4
  clear c4
  by_cases c7 : (a0_4.size : Int) > 8000
  ·rw [if_pos c7] at H
   have c7b0 : decide (8000 < (a0_4.size : Int)) = true := decide_eq_true c7
   have c7b1 : decide (8000 < a0_4.size) = true := decide_eq_true (by omega)
   clear c7
   obtain rfl := Option.some.inj H
   go_enter Try.func30, Try.ntmps30
   go_wp2_with (first | ((with_reducible refine gate_dst (N := 1) rfl ?_); (try (refine gate_guard (by rfl) ?_; dsimp only)); refine box_event ?hg (N := 1) ?hd (cs := #[.int .i64 a0_0, .slice A0_1 l0_1.length c0_1, .slice A0_2 l0_2.length c0_2, .slice A0_3 l0_3.length c0_3, .string a0_4]) (t := 55) ?hr ?_; (case hd => rfl); (case hg => rfl); (case hr => first | (go_simp; done) | (go_simp; rfl)); intro gb347 hg w8 hbox hb; have BK347 := Aside0.mk (hbox); have GW347 := Aside0.mk ((by rw [hg]; exact (below_size bo) : w.heap.size ≤ gb347)); have GE347 := Aside0.mk ((by rw [hg]; exact (below_size bo) : w.heap.size ≤ gb347)); replace HB := Aside0.mk (below_step bo hb); clear hb hbox hg; obtain ⟨hcz9_0, hcz9_1, hcz9_2, hcz9_3, hcz9_4⟩ := cl5 BK347.out; obtain ⟨hfz9_0, hfz9_1, hfz9_2, hfz9_3, hfz9_4⟩ := fz5 BK347.out) | (go_at_call 68; (with_reducible refine (fairwaylaw0_RecsWeight.calls k _ _ l0_1 t348 _ ?side1 ?side2 A2.out).mono ?_); (case side1 => repeat (first | exact (Kd.C_below HR0_1.out HB.out) | (with_reducible refine Kd.C_alloc ?_ _) | (with_reducible refine Kd.C_drewN ?_ _) | (with_reducible refine Kd.C_drew ?_))); (case side2 => exact HC0_1.out); rintro e w' ⟨rfl, ⟨nd, rfl⟩⟩; (try first | exact ⟨rfl, _, World.drewN_drewN _ _ _⟩ | exact ⟨rfl, _, Eq.trans (World.drewN_drewN _ _ _) (congrArg (World.drewN _) (Nat.add_assoc _ _ _))⟩)) | (go_at_call 68; (with_reducible refine (fairwaylaw0_RecsWeight.calls k _ _ l0_2 t349 _ ?side1 ?side2 A3.out).mono ?_); (case side1 => repeat (first | exact (Kd.C_below HR0_2.out bo) | (with_reducible refine Kd.C_alloc ?_ _) | (with_reducible refine Kd.C_drewN ?_ _) | (with_reducible refine Kd.C_drew ?_))); (case side2 => exact HC0_2.out); rintro e w' ⟨rfl, ⟨nd, rfl⟩⟩; (try first | exact ⟨rfl, _, World.drewN_drewN _ _ _⟩ | exact ⟨rfl, _, Eq.trans (World.drewN_drewN _ _ _) (congrArg (World.drewN _) (Nat.add_assoc _ _ _))⟩)))
   repeat (go_quiet (first | ((with_reducible refine gate_dst (N := 1) rfl ?_); (try (refine gate_guard (by rfl) ?_; dsimp only)); refine box_event ?hg (N := 1) ?hd (cs := #[.int .i64 a0_0, .slice A0_1 l0_1.length c0_1, .slice A0_2 l0_2.length c0_2, .slice A0_3 l0_3.length c0_3, .string a0_4]) (t := 55) ?hr ?_; (case hd => rfl); (case hg => rfl); (case hr => first | (go_simp; done) | (go_simp; rfl)); intro gb347 hg w8 hbox hb; have BK347 := Aside0.mk (hbox); have GW347 := Aside0.mk ((by rw [hg]; exact (below_size bo) : w.heap.size ≤ gb347)); have GE347 := Aside0.mk ((by rw [hg]; exact (below_size bo) : w.heap.size ≤ gb347)); replace HB := Aside0.mk (below_step bo hb); clear hb hbox hg; obtain ⟨hcz9_0, hcz9_1, hcz9_2, hcz9_3, hcz9_4⟩ := cl5 BK347.out; obtain ⟨hfz9_0, hfz9_1, hfz9_2, hfz9_3, hfz9_4⟩ := fz5 BK347.out) | (go_at_call 68; (with_reducible refine (fairwaylaw0_RecsWeight.calls k _ _ l0_1 t348 _ ?side1 ?side2 A2.out).mono ?_); (case side1 => repeat (first | exact (Kd.C_below HR0_1.out HB.out) | (with_reducible refine Kd.C_alloc ?_ _) | (with_reducible refine Kd.C_drewN ?_ _) | (with_reducible refine Kd.C_drew ?_))); (case side2 => exact HC0_1.out); rintro e w' ⟨rfl, ⟨nd, rfl⟩⟩; (try first | exact ⟨rfl, _, World.drewN_drewN _ _ _⟩ | exact ⟨rfl, _, Eq.trans (World.drewN_drewN _ _ _) (congrArg (World.drewN _) (Nat.add_assoc _ _ _))⟩)) | (go_at_call 68; (with_reducible refine (fairwaylaw0_RecsWeight.calls k _ _ l0_2 t349 _ ?side1 ?side2 A3.out).mono ?_); (case side1 => repeat (first | exact (Kd.C_below HR0_2.out bo) | (with_reducible refine Kd.C_alloc ?_ _) | (with_reducible refine Kd.C_drewN ?_ _) | (with_reducible refine Kd.C_drew ?_))); (case side2 => exact HC0_2.out); rintro e w' ⟨rfl, ⟨nd, rfl⟩⟩; (try first | exact ⟨rfl, _, World.drewN_drewN _ _ _⟩ | exact ⟨rfl, _, Eq.trans (World.drewN_drewN _ _ _) (congrArg (World.drewN _) (Nat.add_assoc _ _ _))⟩))); try go_wp2_with (first | ((with_reducible refine gate_dst (N := 1) rfl ?_); (try (refine gate_guard (by rfl) ?_; dsimp only)); refine box_event ?hg (N := 1) ?hd (cs := #[.int .i64 a0_0, .slice A0_1 l0_1.length c0_1, .slice A0_2 l0_2.length c0_2, .slice A0_3 l0_3.length c0_3, .string a0_4]) (t := 55) ?hr ?_; (case hd => rfl); (case hg => rfl); (case hr => first | (go_simp; done) | (go_simp; rfl)); intro gb347 hg w8 hbox hb; have BK347 := Aside0.mk (hbox); have GW347 := Aside0.mk ((by rw [hg]; exact (below_size bo) : w.heap.size ≤ gb347)); have GE347 := Aside0.mk ((by rw [hg]; exact (below_size bo) : w.heap.size ≤ gb347)); replace HB := Aside0.mk (below_step bo hb); clear hb hbox hg; obtain ⟨hcz9_0, hcz9_1, hcz9_2, hcz9_3, hcz9_4⟩ := cl5 BK347.out; obtain ⟨hfz9_0, hfz9_1, hfz9_2, hfz9_3, hfz9_4⟩ := fz5 BK347.out) | (go_at_call 68; (with_reducible refine (fairwaylaw0_RecsWeight.calls k _ _ l0_1 t348 _ ?side1 ?side2 A2.out).mono ?_); (case side1 => repeat (first | exact (Kd.C_below HR0_1.out HB.out) | (with_reducible refine Kd.C_alloc ?_ _) | (with_reducible refine Kd.C_drewN ?_ _) | (with_reducible refine Kd.C_drew ?_))); (case side2 => exact HC0_1.out); rintro e w' ⟨rfl, ⟨nd, rfl⟩⟩; (try first | exact ⟨rfl, _, World.drewN_drewN _ _ _⟩ | exact ⟨rfl, _, Eq.trans (World.drewN_drewN _ _ _) (congrArg (World.drewN _) (Nat.add_assoc _ _ _))⟩)) | (go_at_call 68; (with_reducible refine (fairwaylaw0_RecsWeight.calls k _ _ l0_2 t349 _ ?side1 ?side2 A3.out).mono ?_); (case side1 => repeat (first | exact (Kd.C_below HR0_2.out bo) | (with_reducible refine Kd.C_alloc ?_ _) | (with_reducible refine Kd.C_drewN ?_ _) | (with_reducible refine Kd.C_drew ?_))); (case side2 => exact HC0_2.out); rintro e w' ⟨rfl, ⟨nd, rfl⟩⟩; (try first | exact ⟨rfl, _, World.drewN_drewN _ _ _⟩ | exact ⟨rfl, _, Eq.trans (World.drewN_drewN _ _ _) (congrArg (World.drewN _) (Nat.add_assoc _ _ _))⟩))))
   go_ret
   exact ⟨er, bo⟩
  ·rw [if_neg c7] at H
   have c7b0 : decide (8000 < (a0_4.size : Int)) = false := decide_eq_false c7
   have c7b1 : decide (8000 < a0_4.size) = false := decide_eq_false (by omega)
   clear c7
   obtain rfl := Option.some.inj H
   go_enter Try.func30, Try.ntmps30
   go_wp2_with (first | ((with_reducible refine gate_dst (N := 1) rfl ?_); (try (refine gate_guard (by rfl) ?_; dsimp only)); refine box_event ?hg (N := 1) ?hd (cs := #[.int .i64 a0_0, .slice A0_1 l0_1.length c0_1, .slice A0_2 l0_2.length c0_2, .slice A0_3 l0_3.length c0_3, .string a0_4]) (t := 55) ?hr ?_; (case hd => rfl); (case hg => rfl); (case hr => first | (go_simp; done) | (go_simp; rfl)); intro gb347 hg w10 hbox hb; have BK347 := Aside0.mk (hbox); have GW347 := Aside0.mk ((by rw [hg]; exact (below_size bo) : w.heap.size ≤ gb347)); have GE347 := Aside0.mk ((by rw [hg]; exact (below_size bo) : w.heap.size ≤ gb347)); replace HB := Aside0.mk (below_step bo hb); clear hb hbox hg; obtain ⟨hcz11_0, hcz11_1, hcz11_2, hcz11_3, hcz11_4⟩ := cl5 BK347.out; obtain ⟨hfz11_0, hfz11_1, hfz11_2, hfz11_3, hfz11_4⟩ := fz5 BK347.out) | (go_at_call 68; (with_reducible refine (fairwaylaw0_RecsWeight.calls k _ _ l0_1 t348 _ ?side1 ?side2 A2.out).mono ?_); (case side1 => repeat (first | exact (Kd.C_below HR0_1.out HB.out) | (with_reducible refine Kd.C_alloc ?_ _) | (with_reducible refine Kd.C_drewN ?_ _) | (with_reducible refine Kd.C_drew ?_))); (case side2 => exact HC0_1.out); rintro e w' ⟨rfl, ⟨nd, rfl⟩⟩; (try first | exact ⟨rfl, _, World.drewN_drewN _ _ _⟩ | exact ⟨rfl, _, Eq.trans (World.drewN_drewN _ _ _) (congrArg (World.drewN _) (Nat.add_assoc _ _ _))⟩)) | (go_at_call 68; (with_reducible refine (fairwaylaw0_RecsWeight.calls k _ _ l0_2 t349 _ ?side1 ?side2 A3.out).mono ?_); (case side1 => repeat (first | exact (Kd.C_below HR0_2.out bo) | (with_reducible refine Kd.C_alloc ?_ _) | (with_reducible refine Kd.C_drewN ?_ _) | (with_reducible refine Kd.C_drew ?_))); (case side2 => exact HC0_2.out); rintro e w' ⟨rfl, ⟨nd, rfl⟩⟩; (try first | exact ⟨rfl, _, World.drewN_drewN _ _ _⟩ | exact ⟨rfl, _, Eq.trans (World.drewN_drewN _ _ _) (congrArg (World.drewN _) (Nat.add_assoc _ _ _))⟩)))
   repeat (go_quiet (first | ((with_reducible refine gate_dst (N := 1) rfl ?_); (try (refine gate_guard (by rfl) ?_; dsimp only)); refine box_event ?hg (N := 1) ?hd (cs := #[.int .i64 a0_0, .slice A0_1 l0_1.length c0_1, .slice A0_2 l0_2.length c0_2, .slice A0_3 l0_3.length c0_3, .string a0_4]) (t := 55) ?hr ?_; (case hd => rfl); (case hg => rfl); (case hr => first | (go_simp; done) | (go_simp; rfl)); intro gb347 hg w10 hbox hb; have BK347 := Aside0.mk (hbox); have GW347 := Aside0.mk ((by rw [hg]; exact (below_size bo) : w.heap.size ≤ gb347)); have GE347 := Aside0.mk ((by rw [hg]; exact (below_size bo) : w.heap.size ≤ gb347)); replace HB := Aside0.mk (below_step bo hb); clear hb hbox hg; obtain ⟨hcz11_0, hcz11_1, hcz11_2, hcz11_3, hcz11_4⟩ := cl5 BK347.out; obtain ⟨hfz11_0, hfz11_1, hfz11_2, hfz11_3, hfz11_4⟩ := fz5 BK347.out) | (go_at_call 68; (with_reducible refine (fairwaylaw0_RecsWeight.calls k _ _ l0_1 t348 _ ?side1 ?side2 A2.out).mono ?_); (case side1 => repeat (first | exact (Kd.C_below HR0_1.out HB.out) | (with_reducible refine Kd.C_alloc ?_ _) | (with_reducible refine Kd.C_drewN ?_ _) | (with_reducible refine Kd.C_drew ?_))); (case side2 => exact HC0_1.out); rintro e w' ⟨rfl, ⟨nd, rfl⟩⟩; (try first | exact ⟨rfl, _, World.drewN_drewN _ _ _⟩ | exact ⟨rfl, _, Eq.trans (World.drewN_drewN _ _ _) (congrArg (World.drewN _) (Nat.add_assoc _ _ _))⟩)) | (go_at_call 68; (with_reducible refine (fairwaylaw0_RecsWeight.calls k _ _ l0_2 t349 _ ?side1 ?side2 A3.out).mono ?_); (case side1 => repeat (first | exact (Kd.C_below HR0_2.out bo) | (with_reducible refine Kd.C_alloc ?_ _) | (with_reducible refine Kd.C_drewN ?_ _) | (with_reducible refine Kd.C_drew ?_))); (case side2 => exact HC0_2.out); rintro e w' ⟨rfl, ⟨nd, rfl⟩⟩; (try first | exact ⟨rfl, _, World.drewN_drewN _ _ _⟩ | exact ⟨rfl, _, Eq.trans (World.drewN_drewN _ _ _) (congrArg (World.drewN _) (Nat.add_assoc _ _ _))⟩))); try go_wp2_with (first | ((with_reducible refine gate_dst (N := 1) rfl ?_); (try (refine gate_guard (by rfl) ?_; dsimp only)); refine box_event ?hg (N := 1) ?hd (cs := #[.int .i64 a0_0, .slice A0_1 l0_1.length c0_1, .slice A0_2 l0_2.length c0_2, .slice A0_3 l0_3.length c0_3, .string a0_4]) (t := 55) ?hr ?_; (case hd => rfl); (case hg => rfl); (case hr => first | (go_simp; done) | (go_simp; rfl)); intro gb347 hg w10 hbox hb; have BK347 := Aside0.mk (hbox); have GW347 := Aside0.mk ((by rw [hg]; exact (below_size bo) : w.heap.size ≤ gb347)); have GE347 := Aside0.mk ((by rw [hg]; exact (below_size bo) : w.heap.size ≤ gb347)); replace HB := Aside0.mk (below_step bo hb); clear hb hbox hg; obtain ⟨hcz11_0, hcz11_1, hcz11_2, hcz11_3, hcz11_4⟩ := cl5 BK347.out; obtain ⟨hfz11_0, hfz11_1, hfz11_2, hfz11_3, hfz11_4⟩ := fz5 BK347.out) | (go_at_call 68; (with_reducible refine (fairwaylaw0_RecsWeight.calls k _ _ l0_1 t348 _ ?side1 ?side2 A2.out).mono ?_); (case side1 => repeat (first | exact (Kd.C_below HR0_1.out HB.out) | (with_reducible refine Kd.C_alloc ?_ _) | (with_reducible refine Kd.C_drewN ?_ _) | (with_reducible refine Kd.C_drew ?_))); (case side2 => exact HC0_1.out); rintro e w' ⟨rfl, ⟨nd, rfl⟩⟩; (try first | exact ⟨rfl, _, World.drewN_drewN _ _ _⟩ | exact ⟨rfl, _, Eq.trans (World.drewN_drewN _ _ _) (congrArg (World.drewN _) (Nat.add_assoc _ _ _))⟩)) | (go_at_call 68; (with_reducible refine (fairwaylaw0_RecsWeight.calls k _ _ l0_2 t349 _ ?side1 ?side2 A3.out).mono ?_); (case side1 => repeat (first | exact (Kd.C_below HR0_2.out bo) | (with_reducible refine Kd.C_alloc ?_ _) | (with_reducible refine Kd.C_drewN ?_ _) | (with_reducible refine Kd.C_drew ?_))); (case side2 => exact HC0_2.out); rintro e w' ⟨rfl, ⟨nd, rfl⟩⟩; (try first | exact ⟨rfl, _, World.drewN_drewN _ _ _⟩ | exact ⟨rfl, _, Eq.trans (World.drewN_drewN _ _ _) (congrArg (World.drewN _) (Nat.add_assoc _ _ _))⟩))))
   go_ret
   exact ⟨er, bo⟩

end Go.Proofs.Ytmabdfdmccbfnaa.P

-- written by a program of the proving session, out of the translation; Lean checks it
namespace Go.Proofs.Ytmabdfdmccbfnaa.P
open Go.RowKit Go.Proofs.Ytmabdfdmccbfnaa.Sq Go.Proofs.YtmabdfdmccbfnaaW.PrintWords Go.Proofs.YtmabdfdmccbfnaaW.PrintLast Go.Proofs.YtmabdfdmccbfnaaW.PrintMore
attribute [local go_sem] max2_int min2_int max_two min_two max_three min_three max_four min_four   -- for this text's walks alone
set_option linter.unusedVariables false
set_option linter.unusedSimpArgs false

/-! ### index_From: function 49 -/
mutual
def index_From.l0 : Nat → List (S77) → Int → List (S77) → Int → Int → Int → Int → Option (Int × Int × Int)
 | 0, _, _, _, _, _, _, _ => none
 | k + 1, x0, x1, x9, x10, x11, x609000, x609001 => if x11 < x10 then (if 0 ≤ x11 then (if x11 < (x9.length : Int) then (if x11 > 0 then (if 0 ≤ (wrap64 (x11 - 1)) then (if (wrap64 (x11 - 1)) < (x0.length : Int) then (if ((rd_T77 x9 x11).f0) ≤ ((rd_T77 x0 (wrap64 (x11 - 1))).f0) then (index_From.j1 k x0 x1 x11 x9 x10 x11 true x609000 x609001 ((rd_T77 x9 x11).f0) ((rd_T77 x9 x11).f1)) else (index_From.j1 k x0 x1 x11 x9 x10 x11 (decide (((rd_T77 x9 x11).f1) < ((rd_T77 x0 (wrap64 (x11 - 1))).f1))) x609000 x609001 ((rd_T77 x9 x11).f0) ((rd_T77 x9 x11).f1))) else (none)) else (none)) else (index_From.j1 k x0 x1 x11 x9 x10 x11 false x609000 x609001 ((rd_T77 x9 x11).f0) ((rd_T77 x9 x11).f1))) else (none)) else (none)) else (some (x609000, x609001, 0))
def index_From.j1 : Nat → List (S77) → Int → Int → List (S77) → Int → Int → Bool → Int → Int → Int → Int → Option (Int × Int × Int)
 | 0, _, _, _, _, _, _, _, _, _, _, _ => none
 | k + 1, x0, x1, x7, x9, x10, x11, x39, x609000, x609001, x611000, x611001 => if x39 = true then (some (0, 0, 1)) else (if x7 = 0 then (index_From.l0 k x0 x1 x9 x10 (wrap64 (x11 + 1)) x611000 x611001) else (if x611000 ≤ x1 then (index_From.l0 k x0 x1 x9 x10 (wrap64 (x11 + 1)) x611000 x611001) else (index_From.l0 k x0 x1 x9 x10 (wrap64 (x11 + 1)) x609000 x609001)))
end
def index_From.f (k : Nat) (l0 : List (S77)) (a1 : Int) : Option (Int × Int × Int) := index_From.l0 k l0 a1 l0 (l0.length : Int) 0 0 0
theorem index_From.mono_l : ∀ k, (∀ y0 y1 y2 y3 y4 y5 y6, LeO (index_From.l0 k y0 y1 y2 y3 y4 y5 y6) (index_From.l0 (k + 1) y0 y1 y2 y3 y4 y5 y6)) ∧ (∀ y0 y1 y2 y3 y4 y5 y6 y7 y8 y9 y10, LeO (index_From.j1 k y0 y1 y2 y3 y4 y5 y6 y7 y8 y9 y10) (index_From.j1 (k + 1) y0 y1 y2 y3 y4 y5 y6 y7 y8 y9 y10))
 | 0 => ⟨fun _ _ _ _ _ _ _ r h => by simp [index_From.l0] at h, fun _ _ _ _ _ _ _ _ _ _ _ r h => by simp [index_From.j1] at h⟩
 | k + 1 => by
  obtain ⟨ih0, ih1⟩ := index_From.mono_l k
  refine ⟨?_, ?_⟩
  ·intro y0 y1 y2 y3 y4 y5 y6
   unfold index_From.l0
   repeat' first
   | (with_reducible exact ih0 _ _ _ _ _ _ _)
   | (with_reducible exact ih1 _ _ _ _ _ _ _ _ _ _ _)
   | (with_reducible exact LeO.refl _)
   | (with_reducible exact LeO.none _)
   | (with_reducible refine LeO.ite ?_ ?_)
   | (with_reducible refine LeO.bind ?_ (fun _ => ?_))
   | exact ih0 _ _ _ _ _ _ _
   | exact ih1 _ _ _ _ _ _ _ _ _ _ _
   | exact LeO.none _
   | refine LeO.ite ?_ ?_
   | refine LeO.bind ?_ (fun _ => ?_)
  ·intro y0 y1 y2 y3 y4 y5 y6 y7 y8 y9 y10
   unfold index_From.j1
   repeat' first
   | (with_reducible exact ih0 _ _ _ _ _ _ _)
   | (with_reducible exact ih1 _ _ _ _ _ _ _ _ _ _ _)
   | (with_reducible exact LeO.refl _)
   | (with_reducible exact LeO.none _)
   | (with_reducible refine LeO.ite ?_ ?_)
   | (with_reducible refine LeO.bind ?_ (fun _ => ?_))
   | exact ih0 _ _ _ _ _ _ _
   | exact ih1 _ _ _ _ _ _ _ _ _ _ _
   | exact LeO.none _
   | refine LeO.ite ?_ ?_
   | refine LeO.bind ?_ (fun _ => ?_)
theorem index_From.mono : ∀ a0 a1 k, LeO (index_From.f k a0 a1) (index_From.f (k + 1) a0 a1) := by
 intro a0 a1 k
 obtain ⟨ih0, ih1⟩ := index_From.mono_l k
 unfold index_From.f
 repeat' first
  | (with_reducible exact ih0 _ _ _ _ _ _ _)
  | (with_reducible exact ih1 _ _ _ _ _ _ _ _ _ _ _)
  | (with_reducible exact LeO.refl _)
  | (with_reducible exact LeO.none _)
  | (with_reducible refine LeO.ite ?_ ?_)
  | (with_reducible refine LeO.bind ?_ (fun _ => ?_))
  | exact ih0 _ _ _ _ _ _ _
  | exact ih1 _ _ _ _ _ _ _ _ _ _ _
  | exact LeO.none _
  | refine LeO.ite ?_ ?_
  | refine LeO.bind ?_ (fun _ => ?_)
set_option maxHeartbeats 8000000 in
set_option maxRecDepth 100000 in
theorem index_From.calls (k : Nat) (A0 : Option Addr) (c0 : Nat) (l0 : List (S77)) (a1 : Int) (r1 : Int) (r2 : Int) (r3 : Int) (w : World) (hr0 : Kd.C k77 w A0 l0.length l0) (hc0 : l0.length ≤ c0) (h : index_From.f k l0 a1 = some (r1, r2, r3)) :
 Calls Try.prog 49 #[.slice A0 l0.length c0, .int .i64 a1] w fun e w' => e = .returned (.tuple #[.agg #[.int .i64 r1, .int .i64 r2], .int .i64 r3]) ∧ Below w.heap.size w w' := by
 have hu77 := Try.underlying77
 have HR0 := Aside0.mk hr0
 have HC0 := Aside0.mk hc0
 clear hr0 hc0
 have HB := Aside0.mk (Below.refl w.heap.size w)
 have H : (index_From.l0 k l0 a1 l0 (l0.length : Int) 0 0 0) = some (r1, r2, r3) := h
 clear h
 have H' := Aside0.mk H
 clear H
 go_enter Try.func49, Try.ntmps49
 go_wp2_with (first | ((with_reducible refine gate_dst (N := 4) rfl ?_); refine box_event ?hg (N := 4) ?hd (cs := #[.int .i64 0, .int .i64 0]) (t := 77) ?hr ?_; (case hd => rfl); (case hg => rfl); (case hr => first | (go_simp; done) | (go_simp; rfl)); intro gb607 hg w3 hbox hb; have BK607 := Aside0.mk (hbox); have GW607 := Aside0.mk ((by rw [hg]; exact (below_size bo) : w.heap.size ≤ gb607)); have GE607 := Aside0.mk ((by rw [hg]; exact (below_size bo) : w.heap.size ≤ gb607)); replace HB := Aside0.mk (below_step bo hb); clear hb hbox hg) | ((with_reducible refine gate_dst (N := 6) rfl ?_); refine box_event ?hg (N := 6) ?hd (cs := #[.int .i64 0, .int .i64 0]) (t := 77) ?hr ?_; (case hd => rfl); (case hg => rfl); (case hr => first | (go_simp; done) | (go_simp; rfl)); intro gb608 hg w4 hbox hb; have BK608 := Aside0.mk (hbox); have GW608 := Aside0.mk ((by rw [hg]; exact (below_size bo) : w.heap.size ≤ gb608)); have GE608 := Aside0.mk ((by rw [hg]; exact (below_size bo) : w.heap.size ≤ gb608)); replace HB := Aside0.mk (below_step bo hb); have NB607_608 := Aside0.mk (nl BK607.out hg); have NB608_607 := Aside0.mk (ng BK607.out hg); replace BK607 := Aside0.mk (bb BK607.out hb); clear hb hbox hg))
 repeat (go_quiet (first | ((with_reducible refine gate_dst (N := 4) rfl ?_); refine box_event ?hg (N := 4) ?hd (cs := #[.int .i64 0, .int .i64 0]) (t := 77) ?hr ?_; (case hd => rfl); (case hg => rfl); (case hr => first | (go_simp; done) | (go_simp; rfl)); intro gb607 hg w3 hbox hb; have BK607 := Aside0.mk (hbox); have GW607 := Aside0.mk ((by rw [hg]; exact (below_size bo) : w.heap.size ≤ gb607)); have GE607 := Aside0.mk ((by rw [hg]; exact (below_size bo) : w.heap.size ≤ gb607)); replace HB := Aside0.mk (below_step bo hb); clear hb hbox hg) | ((with_reducible refine gate_dst (N := 6) rfl ?_); refine box_event ?hg (N := 6) ?hd (cs := #[.int .i64 0, .int .i64 0]) (t := 77) ?hr ?_; (case hd => rfl); (case hg => rfl); (case hr => first | (go_simp; done) | (go_simp; rfl)); intro gb608 hg w4 hbox hb; have BK608 := Aside0.mk (hbox); have GW608 := Aside0.mk ((by rw [hg]; exact (below_size bo) : w.heap.size ≤ gb608)); have GE608 := Aside0.mk ((by rw [hg]; exact (below_size bo) : w.heap.size ≤ gb608)); replace HB := Aside0.mk (below_step bo hb); have NB607_608 := Aside0.mk (nl BK607.out hg); have NB608_607 := Aside0.mk (ng BK607.out hg); replace BK607 := Aside0.mk (bb BK607.out hb); clear hb hbox hg)); try go_wp2_with (first | ((with_reducible refine gate_dst (N := 4) rfl ?_); refine box_event ?hg (N := 4) ?hd (cs := #[.int .i64 0, .int .i64 0]) (t := 77) ?hr ?_; (case hd => rfl); (case hg => rfl); (case hr => first | (go_simp; done) | (go_simp; rfl)); intro gb607 hg w3 hbox hb; have BK607 := Aside0.mk (hbox); have GW607 := Aside0.mk ((by rw [hg]; exact (below_size bo) : w.heap.size ≤ gb607)); have GE607 := Aside0.mk ((by rw [hg]; exact (below_size bo) : w.heap.size ≤ gb607)); replace HB := Aside0.mk (below_step bo hb); clear hb hbox hg) | ((with_reducible refine gate_dst (N := 6) rfl ?_); refine box_event ?hg (N := 6) ?hd (cs := #[.int .i64 0, .int .i64 0]) (t := 77) ?hr ?_; (case hd => rfl); (case hg => rfl); (case hr => first | (go_simp; done) | (go_simp; rfl)); intro gb608 hg w4 hbox hb; have BK608 := Aside0.mk (hbox); have GW608 := Aside0.mk ((by rw [hg]; exact (below_size bo) : w.heap.size ≤ gb608)); have GE608 := Aside0.mk ((by rw [hg]; exact (below_size bo) : w.heap.size ≤ gb608)); replace HB := Aside0.mk (below_step bo hb); have NB607_608 := Aside0.mk (nl BK607.out hg); have NB608_607 := Aside0.mk (ng BK607.out hg); replace BK607 := Aside0.mk (bb BK607.out hb); clear hb hbox hg)))
 go_loopg [11] k (fun kq v11 w' => ∃ (x11_1 : Int) (x608000_1 : Int) (x608001_1 : Int) (x609000_1 : Int) (x609001_1 : Int), v11 = .int .i64 x11_1 ∧ Aside0 (index_From.l0 kq l0 a1 l0 (l0.length : Int) x11_1 x609000_1 x609001_1 = some (r1, r2, r3)) ∧ Aside0 (kq ≤ k) ∧ Aside0 (w'.heap[gb607]? = some (.cells #[.int .i64 x608000_1, .int .i64 x608001_1] 77 (0, 0))) ∧ Aside0 (w'.heap[gb608]? = some (.cells #[.int .i64 x609000_1, .int .i64 x609001_1] 77 (0, 0))) ∧ Aside0 (Below w.heap.size w w'))
 case atStart => exact ⟨(0), (0), (0), (0), (0), ap, H', ⟨Nat.le_refl _⟩, ⟨by (with_reducible repeat (first | refine blk_drewN ?_ _ | refine blk_drew ?_ | refine blk_alloc ?_ _)); exact BK607.out⟩, ⟨by (with_reducible repeat (first | refine blk_drewN ?_ _ | refine blk_drew ?_ | refine blk_alloc ?_ _)); exact BK608.out⟩, ⟨bo⟩⟩
 case round =>
  clear H'
  (try clear p2); (try clear c4)
  obtain ⟨x11_1, x608000_1, x608001_1, x609000_1, x609001_1, rfl, HA, HK1, BK607, BK608, HB⟩ := hrel
  cases gk with
  | zero => exact absurd HA.out (by simp [index_From.l0])
  | succ k1 =>
   have H := HA.out
   clear HA
   simp only [index_From.l0] at H
   by_cases c5 : x11_1 < (l0.length : Int)
   ·rw [if_pos c5] at H
    have c5b0 : decide (x11_1 < (l0.length : Int)) = true := decide_eq_true c5
    clear c5
    by_cases c6 : 0 ≤ x11_1
    ·rw [if_pos c6] at H
     have c6b0 : decide (0 ≤ x11_1) = true := decide_eq_true c6
     clear c6
     by_cases c7 : x11_1 < (l0.length : Int)
     ·rw [if_pos c7] at H
      have c7b0 : decide (x11_1 < (l0.length : Int)) = true := decide_eq_true c7
      clear c7
      have HC8 := Aside0.mk H
      clear H
      have p609 : 0 ≤ (x11_1 : Int) := od
      have q609 : x11_1 < (l0.length : Int) := od
      obtain ⟨ad609, e609, hx609_0, hx609_1⟩ := at_T77 HR0.out x11_1 p609 q609
      cases e609
      replace hx609_0 := cx HB.out hx609_0
      replace hx609_1 := cx HB.out hx609_1
      replace p609 := eq_true p609
      replace q609 := eq_true q609
      go_upto_region 5 with (first | ((with_reducible refine gate_dst (N := 8) rfl ?_); refine box_event ?hg (N := 8) ?hd (cs := #[.int .i64 0, .int .i64 0]) (t := 77) ?hr ?_; (case hd => rfl); (case hg => rfl); (case hr => first | (go_simp; done) | (go_simp; rfl)); intro gb610 hg w9 hbox hb; have BK610 := Aside0.mk (hbox); have GW610 := Aside0.mk ((by rw [hg]; exact (below_size bo) : w.heap.size ≤ gb610)); have GE610 := Aside0.mk ((by rw [hg]; exact (below_size bo) : w.heap.size ≤ gb610)); replace HB := Aside0.mk (below_step bo hb); have NB607_610 := Aside0.mk (nl BK607.out hg); have NB610_607 := Aside0.mk (ng BK607.out hg); replace BK607 := Aside0.mk (bb BK607.out hb); have NB608_610 := Aside0.mk (nl BK608.out hg); have NB610_608 := Aside0.mk (ng BK608.out hg); replace BK608 := Aside0.mk (bb BK608.out hb); clear hb hbox hg; have hnb10 := NB610_607.out; have hnc10 := NB607_610.out; have hnb11 := NB610_608.out; have hnc11 := NB608_610.out; obtain ⟨hcz12_0, hcz12_1⟩ := cl2 BK610.out; obtain ⟨hfz12_0, hfz12_1⟩ := fz2 BK610.out))
      repeat (go_quiet (first | ((with_reducible refine gate_dst (N := 8) rfl ?_); refine box_event ?hg (N := 8) ?hd (cs := #[.int .i64 0, .int .i64 0]) (t := 77) ?hr ?_; (case hd => rfl); (case hg => rfl); (case hr => first | (go_simp; done) | (go_simp; rfl)); intro gb610 hg w9 hbox hb; have BK610 := Aside0.mk (hbox); have GW610 := Aside0.mk ((by rw [hg]; exact (below_size bo) : w.heap.size ≤ gb610)); have GE610 := Aside0.mk ((by rw [hg]; exact (below_size bo) : w.heap.size ≤ gb610)); replace HB := Aside0.mk (below_step bo hb); have NB607_610 := Aside0.mk (nl BK607.out hg); have NB610_607 := Aside0.mk (ng BK607.out hg); replace BK607 := Aside0.mk (bb BK607.out hb); have NB608_610 := Aside0.mk (nl BK608.out hg); have NB610_608 := Aside0.mk (ng BK608.out hg); replace BK608 := Aside0.mk (bb BK608.out hb); clear hb hbox hg; have hnb10 := NB610_607.out; have hnc10 := NB607_610.out; have hnb11 := NB610_608.out; have hnc11 := NB608_610.out; obtain ⟨hcz12_0, hcz12_1⟩ := cl2 BK610.out; obtain ⟨hfz12_0, hfz12_1⟩ := fz2 BK610.out)); go_upto_region 5 with (first | ((with_reducible refine gate_dst (N := 8) rfl ?_); refine box_event ?hg (N := 8) ?hd (cs := #[.int .i64 0, .int .i64 0]) (t := 77) ?hr ?_; (case hd => rfl); (case hg => rfl); (case hr => first | (go_simp; done) | (go_simp; rfl)); intro gb610 hg w9 hbox hb; have BK610 := Aside0.mk (hbox); have GW610 := Aside0.mk ((by rw [hg]; exact (below_size bo) : w.heap.size ≤ gb610)); have GE610 := Aside0.mk ((by rw [hg]; exact (below_size bo) : w.heap.size ≤ gb610)); replace HB := Aside0.mk (below_step bo hb); have NB607_610 := Aside0.mk (nl BK607.out hg); have NB610_607 := Aside0.mk (ng BK607.out hg); replace BK607 := Aside0.mk (bb BK607.out hb); have NB608_610 := Aside0.mk (nl BK608.out hg); have NB610_608 := Aside0.mk (ng BK608.out hg); replace BK608 := Aside0.mk (bb BK608.out hb); clear hb hbox hg; have hnb10 := NB610_607.out; have hnc10 := NB607_610.out; have hnb11 := NB610_608.out; have hnc11 := NB608_610.out; obtain ⟨hcz12_0, hcz12_1⟩ := cl2 BK610.out; obtain ⟨hfz12_0, hfz12_1⟩ := fz2 BK610.out)))
      (try simp only [Act.put, List.setIfInBounds_toArray, List.set_cons_zero, List.set_cons_succ])
      go_cut [39] (fun v39 wc => ∃ (kq : Nat) (x39_7 : Bool), v39 = .bool x39_7 ∧ Aside0 (index_From.j1 kq l0 a1 x11_1 l0 (l0.length : Int) x11_1 x39_7 x609000_1 x609001_1 ((rd_T77 l0 x11_1).f0) ((rd_T77 l0 x11_1).f1) = some (r1, r2, r3)) ∧ Aside0 (kq ≤ k1) ∧ Aside0 (wc.heap[gb607]? = some (.cells #[.int .i64 x608000_1, .int .i64 x608001_1] 77 (0, 0))) ∧ Aside0 (wc.heap[gb608]? = some (.cells #[.int .i64 x609000_1, .int .i64 x609001_1] 77 (0, 0))) ∧ Aside0 (wc.heap[gb610]? = some (.cells #[.int .i64 ((rd_T77 l0 x11_1).f0), .int .i64 ((rd_T77 l0 x11_1).f1)] 77 (0, 0))) ∧ Aside0 (Below w.heap.size w wc))
      case first =>
       have H := HC8.out
       clear HC8
       by_cases c13 : x11_1 > 0
       ·rw [if_pos c13] at H
        have c13b0 : decide (0 < x11_1) = true := decide_eq_true c13
        clear c13
        (first | rw [c13b0] | (simp only [i64_w, i32_w]; rw [c13b0]) | skip)
        obtain ⟨ji14, hji14⟩ : ∃ j_ : Int, (wrap64 (x11_1 - 1)) = j_ := ⟨_, rfl⟩
        replace H : (if 0 ≤ (ji14) then (if (ji14) < (l0.length : Int) then (if ((rd_T77 l0 x11_1).f0) ≤ ((rd_T77 l0 (ji14)).f0) then (index_From.j1 k1 l0 a1 x11_1 l0 (l0.length : Int) x11_1 true x609000_1 x609001_1 ((rd_T77 l0 x11_1).f0) ((rd_T77 l0 x11_1).f1)) else (index_From.j1 k1 l0 a1 x11_1 l0 (l0.length : Int) x11_1 (decide (((rd_T77 l0 x11_1).f1) < ((rd_T77 l0 (ji14)).f1))) x609000_1 x609001_1 ((rd_T77 l0 x11_1).f0) ((rd_T77 l0 x11_1).f1))) else (none)) else (none)) = some (r1, r2, r3) := by first | (rw [hji14] at H; exact H) | (simp only [hji14] at H ⊢; exact H)
        have hji14w : (IntKind.i64.wrap (x11_1 - 1)) = ji14 := (i64_w _).trans hji14
        by_cases c15 : 0 ≤ (ji14)
        ·rw [if_pos c15] at H
         have c15b0 : decide (0 ≤ (ji14)) = true := decide_eq_true c15
         clear c15
         by_cases c16 : (ji14) < (l0.length : Int)
         ·rw [if_pos c16] at H
          have c16b0 : decide ((ji14) < (l0.length : Int)) = true := decide_eq_true c16
          clear c16
          by_cases c17 : ((rd_T77 l0 x11_1).f0) ≤ ((rd_T77 l0 (ji14)).f0)
          ·rw [if_pos c17] at H
           have c17b0 : decide (((rd_T77 l0 x11_1).f0) ≤ ((rd_T77 l0 (ji14)).f0)) = true := decide_eq_true c17
           clear c17
           have H' := Aside0.mk H
           clear H
           have hnb18 := NB610_607.out
           have hnc18 := NB607_610.out
           have hnb19 := NB610_608.out
           have hnc19 := NB608_610.out
           have hcz20_0 : w9.cell? ⟨gb610, 0, none⟩ = some (.int .i64 0) := (blk_cell BK610.out 0).trans rfl
           have hcz20_1 : w9.cell? ⟨gb610, 1, none⟩ = some (.int .i64 0) := (blk_cell BK610.out 1).trans rfl
           have hfz20_0 := blk_frozen BK610.out 0
           have hfz20_1 := blk_frozen BK610.out 1
           have p611 : 0 ≤ ((ji14) : Int) := od
           have q611 : (ji14) < (l0.length : Int) := od
           obtain ⟨ad611, e611, hx611_0, hx611_1⟩ := at_T77 HR0.out (ji14) p611 q611
           obtain rfl : ad609 = ad611 := (by injection e611)
           have hn611_0 : ad609.block ≠ gb610 := Nat.ne_of_lt (Nat.lt_of_lt_of_le (by have := World.block_lt_of_cell? _ _ hx611_0; first | rwa [add_block] at this | exact this) GW610.out)
           have hn611_1 : ad609.block ≠ gb610 := Nat.ne_of_lt (Nat.lt_of_lt_of_le (by have := World.block_lt_of_cell? _ _ hx611_0; first | rwa [add_block] at this | exact this) GW610.out)
           replace hx611_0 := cx HB.out hx611_0
           replace hx611_1 := cx HB.out hx611_1
           replace hx611_0 := (cell_far (p := ⟨gb610, 0, none⟩) (by first | (rw [add_block]; exact hn611_0) | (show (Addr.add _ _).block ≠ _; rw [add_block]; exact hn611_0) | exact hn611_0) (.int .i64 ((rd_T77 l0 x11_1).f0))).trans hx611_0
           replace hx611_1 := (cell_far (p := ⟨gb610, 0, none⟩) (by first | (rw [add_block]; exact hn611_0) | (show (Addr.add _ _).block ≠ _; rw [add_block]; exact hn611_0) | exact hn611_0) (.int .i64 ((rd_T77 l0 x11_1).f0))).trans hx611_1
           replace hx611_0 := (cell_far (p := ⟨gb610, 1, none⟩) (by first | (rw [add_block]; exact hn611_1) | (show (Addr.add _ _).block ≠ _; rw [add_block]; exact hn611_1) | exact hn611_1) (.int .i64 ((rd_T77 l0 x11_1).f1))).trans hx611_0
           replace hx611_1 := (cell_far (p := ⟨gb610, 1, none⟩) (by first | (rw [add_block]; exact hn611_1) | (show (Addr.add _ _).block ≠ _; rw [add_block]; exact hn611_1) | exact hn611_1) (.int .i64 ((rd_T77 l0 x11_1).f1))).trans hx611_1
           (try have hy611_0 := fun (n_ : Nat) => (show ((((w9.drewN n_).setCell ⟨gb610, 0, none⟩ (.int .i64 ((rd_T77 l0 x11_1).f0))).setCell ⟨gb610, 1, none⟩ (.int .i64 ((rd_T77 l0 x11_1).f1)))).cell? _ = some _ from hx611_0))
           (try have hy611_1 := fun (n_ : Nat) => (show ((((w9.drewN n_).setCell ⟨gb610, 0, none⟩ (.int .i64 ((rd_T77 l0 x11_1).f0))).setCell ⟨gb610, 1, none⟩ (.int .i64 ((rd_T77 l0 x11_1).f1)))).cell? _ = some _ from hx611_1))
           clear hn611_0
           clear hn611_1
           replace p611 := eq_true p611
           replace q611 := eq_true q611
           go_wp2
           repeat (go_quiet (fail); try go_wp2)
           go_meet
           case rel => exact ⟨_, (true), ap, H', ⟨by have := HK1.out; first | omega | exact Nat.le_refl _⟩, ⟨by (with_reducible repeat (first | refine blk_drewN ?_ _ | refine blk_drew ?_ | refine blk_alloc ?_ _)); refine blk_far ?_ NB607_610.out _; (with_reducible repeat (first | refine blk_drewN ?_ _ | refine blk_drew ?_ | refine blk_alloc ?_ _)); refine blk_far ?_ NB607_610.out _; (with_reducible repeat (first | refine blk_drewN ?_ _ | refine blk_drew ?_ | refine blk_alloc ?_ _)); exact BK607.out⟩, ⟨by (with_reducible repeat (first | refine blk_drewN ?_ _ | refine blk_drew ?_ | refine blk_alloc ?_ _)); refine blk_far ?_ NB608_610.out _; (with_reducible repeat (first | refine blk_drewN ?_ _ | refine blk_drew ?_ | refine blk_alloc ?_ _)); refine blk_far ?_ NB608_610.out _; (with_reducible repeat (first | refine blk_drewN ?_ _ | refine blk_drew ?_ | refine blk_alloc ?_ _)); exact BK608.out⟩, ⟨by (with_reducible repeat (first | refine blk_drewN ?_ _ | refine blk_drew ?_ | refine blk_alloc ?_ _)); refine blk_put (cs := #[.int .i64 ((rd_T77 l0 x11_1).f0), .int .i64 0]) ?_ 1 _ rfl; (with_reducible repeat (first | refine blk_drewN ?_ _ | refine blk_drew ?_ | refine blk_alloc ?_ _)); refine blk_put (cs := #[.int .i64 0, .int .i64 0]) ?_ 0 _ rfl; (with_reducible repeat (first | refine blk_drewN ?_ _ | refine blk_drew ?_ | refine blk_alloc ?_ _)); exact BK610.out⟩, ⟨bo⟩⟩
          ·rw [if_neg c17] at H
           have c17b0 : decide (((rd_T77 l0 x11_1).f0) ≤ ((rd_T77 l0 (ji14)).f0)) = false := decide_eq_false c17
           clear c17
           have H' := Aside0.mk H
           clear H
           have hnb21 := NB610_607.out
           have hnc21 := NB607_610.out
           have hnb22 := NB610_608.out
           have hnc22 := NB608_610.out
           have hcz23_0 : w9.cell? ⟨gb610, 0, none⟩ = some (.int .i64 0) := (blk_cell BK610.out 0).trans rfl
           have hcz23_1 : w9.cell? ⟨gb610, 1, none⟩ = some (.int .i64 0) := (blk_cell BK610.out 1).trans rfl
           have hfz23_0 := blk_frozen BK610.out 0
           have hfz23_1 := blk_frozen BK610.out 1
           have p611 : 0 ≤ ((ji14) : Int) := od
           have q611 : (ji14) < (l0.length : Int) := od
           obtain ⟨ad611, e611, hx611_0, hx611_1⟩ := at_T77 HR0.out (ji14) p611 q611
           obtain rfl : ad609 = ad611 := (by injection e611)
           have hn611_0 : ad609.block ≠ gb610 := Nat.ne_of_lt (Nat.lt_of_lt_of_le (by have := World.block_lt_of_cell? _ _ hx611_0; first | rwa [add_block] at this | exact this) GW610.out)
           have hn611_1 : ad609.block ≠ gb610 := Nat.ne_of_lt (Nat.lt_of_lt_of_le (by have := World.block_lt_of_cell? _ _ hx611_0; first | rwa [add_block] at this | exact this) GW610.out)
           replace hx611_0 := cx HB.out hx611_0
           replace hx611_1 := cx HB.out hx611_1
           replace hx611_0 := (cell_far (p := ⟨gb610, 0, none⟩) (by first | (rw [add_block]; exact hn611_0) | (show (Addr.add _ _).block ≠ _; rw [add_block]; exact hn611_0) | exact hn611_0) (.int .i64 ((rd_T77 l0 x11_1).f0))).trans hx611_0
           replace hx611_1 := (cell_far (p := ⟨gb610, 0, none⟩) (by first | (rw [add_block]; exact hn611_0) | (show (Addr.add _ _).block ≠ _; rw [add_block]; exact hn611_0) | exact hn611_0) (.int .i64 ((rd_T77 l0 x11_1).f0))).trans hx611_1
           replace hx611_0 := (cell_far (p := ⟨gb610, 1, none⟩) (by first | (rw [add_block]; exact hn611_1) | (show (Addr.add _ _).block ≠ _; rw [add_block]; exact hn611_1) | exact hn611_1) (.int .i64 ((rd_T77 l0 x11_1).f1))).trans hx611_0
           replace hx611_1 := (cell_far (p := ⟨gb610, 1, none⟩) (by first | (rw [add_block]; exact hn611_1) | (show (Addr.add _ _).block ≠ _; rw [add_block]; exact hn611_1) | exact hn611_1) (.int .i64 ((rd_T77 l0 x11_1).f1))).trans hx611_1
           (try have hy611_0 := fun (n_ : Nat) => (show ((((w9.drewN n_).setCell ⟨gb610, 0, none⟩ (.int .i64 ((rd_T77 l0 x11_1).f0))).setCell ⟨gb610, 1, none⟩ (.int .i64 ((rd_T77 l0 x11_1).f1)))).cell? _ = some _ from hx611_0))
           (try have hy611_1 := fun (n_ : Nat) => (show ((((w9.drewN n_).setCell ⟨gb610, 0, none⟩ (.int .i64 ((rd_T77 l0 x11_1).f0))).setCell ⟨gb610, 1, none⟩ (.int .i64 ((rd_T77 l0 x11_1).f1)))).cell? _ = some _ from hx611_1))
           clear hn611_0
           clear hn611_1
           replace p611 := eq_true p611
           replace q611 := eq_true q611
           have p612 : 0 ≤ ((ji14) : Int) := od
           have q612 : (ji14) < (l0.length : Int) := od
           obtain ⟨ad612, e612, hx612_0, hx612_1⟩ := at_T77 HR0.out (ji14) p612 q612
           obtain rfl : ad609 = ad612 := (by injection e612)
           have hn612_0 : ad609.block ≠ gb610 := Nat.ne_of_lt (Nat.lt_of_lt_of_le (by have := World.block_lt_of_cell? _ _ hx612_0; first | rwa [add_block] at this | exact this) GW610.out)
           have hn612_1 : ad609.block ≠ gb610 := Nat.ne_of_lt (Nat.lt_of_lt_of_le (by have := World.block_lt_of_cell? _ _ hx612_0; first | rwa [add_block] at this | exact this) GW610.out)
           replace hx612_0 := cx HB.out hx612_0
           replace hx612_1 := cx HB.out hx612_1
           replace hx612_0 := (cell_far (p := ⟨gb610, 0, none⟩) (by first | (rw [add_block]; exact hn612_0) | (show (Addr.add _ _).block ≠ _; rw [add_block]; exact hn612_0) | exact hn612_0) (.int .i64 ((rd_T77 l0 x11_1).f0))).trans hx612_0
           replace hx612_1 := (cell_far (p := ⟨gb610, 0, none⟩) (by first | (rw [add_block]; exact hn612_0) | (show (Addr.add _ _).block ≠ _; rw [add_block]; exact hn612_0) | exact hn612_0) (.int .i64 ((rd_T77 l0 x11_1).f0))).trans hx612_1
           replace hx612_0 := (cell_far (p := ⟨gb610, 1, none⟩) (by first | (rw [add_block]; exact hn612_1) | (show (Addr.add _ _).block ≠ _; rw [add_block]; exact hn612_1) | exact hn612_1) (.int .i64 ((rd_T77 l0 x11_1).f1))).trans hx612_0
           replace hx612_1 := (cell_far (p := ⟨gb610, 1, none⟩) (by first | (rw [add_block]; exact hn612_1) | (show (Addr.add _ _).block ≠ _; rw [add_block]; exact hn612_1) | exact hn612_1) (.int .i64 ((rd_T77 l0 x11_1).f1))).trans hx612_1
           (try have hy612_0 := fun (n_ : Nat) => (show ((((w9.drewN n_).setCell ⟨gb610, 0, none⟩ (.int .i64 ((rd_T77 l0 x11_1).f0))).setCell ⟨gb610, 1, none⟩ (.int .i64 ((rd_T77 l0 x11_1).f1)))).cell? _ = some _ from hx612_0))
           (try have hy612_1 := fun (n_ : Nat) => (show ((((w9.drewN n_).setCell ⟨gb610, 0, none⟩ (.int .i64 ((rd_T77 l0 x11_1).f0))).setCell ⟨gb610, 1, none⟩ (.int .i64 ((rd_T77 l0 x11_1).f1)))).cell? _ = some _ from hx612_1))
           clear hn612_0
           clear hn612_1
           replace p612 := eq_true p612
           replace q612 := eq_true q612
           go_wp2
           repeat (go_quiet (fail); try go_wp2)
           go_meet
           case rel => exact ⟨_, (decide (((rd_T77 l0 x11_1).f1) < ((rd_T77 l0 (ji14)).f1))), (by first | rfl | (simp; done) | (simp only [← hji14] <;> (first | rfl | simp)) | (simp [*]; done)), H', ⟨by have := HK1.out; first | omega | exact Nat.le_refl _⟩, ⟨by (with_reducible repeat (first | refine blk_drewN ?_ _ | refine blk_drew ?_ | refine blk_alloc ?_ _)); refine blk_far ?_ NB607_610.out _; (with_reducible repeat (first | refine blk_drewN ?_ _ | refine blk_drew ?_ | refine blk_alloc ?_ _)); refine blk_far ?_ NB607_610.out _; (with_reducible repeat (first | refine blk_drewN ?_ _ | refine blk_drew ?_ | refine blk_alloc ?_ _)); exact BK607.out⟩, ⟨by (with_reducible repeat (first | refine blk_drewN ?_ _ | refine blk_drew ?_ | refine blk_alloc ?_ _)); refine blk_far ?_ NB608_610.out _; (with_reducible repeat (first | refine blk_drewN ?_ _ | refine blk_drew ?_ | refine blk_alloc ?_ _)); refine blk_far ?_ NB608_610.out _; (with_reducible repeat (first | refine blk_drewN ?_ _ | refine blk_drew ?_ | refine blk_alloc ?_ _)); exact BK608.out⟩, ⟨by (with_reducible repeat (first | refine blk_drewN ?_ _ | refine blk_drew ?_ | refine blk_alloc ?_ _)); refine blk_put (cs := #[.int .i64 ((rd_T77 l0 x11_1).f0), .int .i64 0]) ?_ 1 _ rfl; (with_reducible repeat (first | refine blk_drewN ?_ _ | refine blk_drew ?_ | refine blk_alloc ?_ _)); refine blk_put (cs := #[.int .i64 0, .int .i64 0]) ?_ 0 _ rfl; (with_reducible repeat (first | refine blk_drewN ?_ _ | refine blk_drew ?_ | refine blk_alloc ?_ _)); exact BK610.out⟩, ⟨bo⟩⟩
         ·rw [if_neg c16] at H
          exact absurd H (by simp)
        ·rw [if_neg c15] at H
         exact absurd H (by simp)
       ·rw [if_neg c13] at H
        have c13b0 : decide (0 < x11_1) = false := decide_eq_false c13
        clear c13
        (first | rw [c13b0] | (simp only [i64_w, i32_w]; rw [c13b0]) | skip)
        have H' := Aside0.mk H
        clear H
        go_wp2
        repeat (go_quiet (fail); try go_wp2)
        go_meet
        case rel => exact ⟨_, (false), ap, H', ⟨by have := HK1.out; first | omega | exact Nat.le_refl _⟩, ⟨by (with_reducible repeat (first | refine blk_drewN ?_ _ | refine blk_drew ?_ | refine blk_alloc ?_ _)); refine blk_far ?_ NB607_610.out _; (with_reducible repeat (first | refine blk_drewN ?_ _ | refine blk_drew ?_ | refine blk_alloc ?_ _)); refine blk_far ?_ NB607_610.out _; (with_reducible repeat (first | refine blk_drewN ?_ _ | refine blk_drew ?_ | refine blk_alloc ?_ _)); exact BK607.out⟩, ⟨by (with_reducible repeat (first | refine blk_drewN ?_ _ | refine blk_drew ?_ | refine blk_alloc ?_ _)); refine blk_far ?_ NB608_610.out _; (with_reducible repeat (first | refine blk_drewN ?_ _ | refine blk_drew ?_ | refine blk_alloc ?_ _)); refine blk_far ?_ NB608_610.out _; (with_reducible repeat (first | refine blk_drewN ?_ _ | refine blk_drew ?_ | refine blk_alloc ?_ _)); exact BK608.out⟩, ⟨by (with_reducible repeat (first | refine blk_drewN ?_ _ | refine blk_drew ?_ | refine blk_alloc ?_ _)); refine blk_put (cs := #[.int .i64 ((rd_T77 l0 x11_1).f0), .int .i64 0]) ?_ 1 _ rfl; (with_reducible repeat (first | refine blk_drewN ?_ _ | refine blk_drew ?_ | refine blk_alloc ?_ _)); refine blk_put (cs := #[.int .i64 0, .int .i64 0]) ?_ 0 _ rfl; (with_reducible repeat (first | refine blk_drewN ?_ _ | refine blk_drew ?_ | refine blk_alloc ?_ _)); exact BK610.out⟩, ⟨bo⟩⟩
      case rest =>
       clear HC8
       (try clear c1); (try clear c2); (try clear p2); (try clear c4); (try clear c5); (try clear c5b0); (try clear c6); (try clear c6b0); (try clear p6); (try clear q6); (try clear hx6); (try clear c7); (try clear c7b0); (try clear c10); (try clear c11); (try clear c13); (try clear c13b0); (try clear c15); (try clear c15b0); (try clear c16); (try clear c16b0); (try clear c17); (try clear c17b0); (try clear c18); (try clear c19); (try clear c21); (try clear c22); (try clear hcz12_0); (try clear hcz12_1); (try clear hcz20_0); (try clear hcz20_1); (try clear hcz23_0); (try clear hcz23_1); (try clear hfz12_0); (try clear hfz12_1); (try clear hfz20_0); (try clear hfz20_1); (try clear hfz23_0); (try clear hfz23_1); (try clear hx609_0); (try clear hx609_1); (try clear hx611_0); (try clear hx611_1); (try clear hx612_0); (try clear hx612_1); (try clear p2); (try clear p609); (try clear p611); (try clear p612); (try clear q609); (try clear q611); (try clear q612)
       obtain ⟨kq, x39_7, rfl, HA, HJ7, BK607, BK608, BK610, HB⟩ := hcut
       cases kq with
       | zero => exact absurd HA.out (by simp [index_From.j1])
       | succ kj7 =>
        have H := HA.out
        clear HA
        simp only [index_From.j1] at H
        by_cases c24 : x39_7 = true
        ·subst c24
         have H1 : (some (0, 0, 1)) = some (r1, r2, r3) := by rw [if_pos rfl] at H; exact H
         clear H
         have H := H1
         clear H1
         simp only [Option.some.injEq, Prod.mk.injEq] at H
         obtain ⟨rfl, rfl, rfl⟩ := H
         have hnb25 := NB607_608.out
         have hnc25 := NB608_607.out
         have hnb26 := NB607_610.out
         have hnc26 := NB610_607.out
         have hcz27_0 : wc.cell? ⟨gb607, 0, none⟩ = some (.int .i64 x608000_1) := (blk_cell BK607.out 0).trans rfl
         have hcz27_1 : wc.cell? ⟨gb607, 1, none⟩ = some (.int .i64 x608001_1) := (blk_cell BK607.out 1).trans rfl
         have hfz27_0 := blk_frozen BK607.out 0
         have hfz27_1 := blk_frozen BK607.out 1
         go_wp2
         repeat (go_quiet (fail); try go_wp2)
         refine bodyPost_ret (results_ct rfl _ _ gb607 77 #[.int .i64 0, .int .i64 0] (0, 0) _ rfl (by (with_reducible repeat (first | refine blk_drewN ?_ _ | refine blk_drew ?_ | refine blk_alloc ?_ _)); refine blk_put (cs := #[.int .i64 0, .int .i64 x608001_1]) ?_ 1 _ rfl; (with_reducible repeat (first | refine blk_drewN ?_ _ | refine blk_drew ?_ | refine blk_alloc ?_ _)); refine blk_put (cs := #[.int .i64 x608000_1, .int .i64 x608001_1]) ?_ 0 _ rfl; (with_reducible repeat (first | refine blk_drewN ?_ _ | refine blk_drew ?_ | refine blk_alloc ?_ _)); exact BK607.out) Try.underlying77 rfl (by kernel_rfl)) rfl ?_
         exact ⟨er, bo⟩
        ·replace c24 := Bool.eq_false_iff.mpr c24
         subst c24
         have H1 : (if x11_1 = 0 then (index_From.l0 kj7 l0 a1 l0 (l0.length : Int) (wrap64 (x11_1 + 1)) ((rd_T77 l0 x11_1).f0) ((rd_T77 l0 x11_1).f1)) else (if ((rd_T77 l0 x11_1).f0) ≤ a1 then (index_From.l0 kj7 l0 a1 l0 (l0.length : Int) (wrap64 (x11_1 + 1)) ((rd_T77 l0 x11_1).f0) ((rd_T77 l0 x11_1).f1)) else (index_From.l0 kj7 l0 a1 l0 (l0.length : Int) (wrap64 (x11_1 + 1)) x609000_1 x609001_1))) = some (r1, r2, r3) := by rw [if_neg (show ¬ (false = true) by decide)] at H; exact H
         clear H
         have H := H1
         clear H1
         by_cases c28 : x11_1 = 0
         ·rw [if_pos c28] at H
          have c28b0 : (x11_1 == 0) = true := beq_iff_eq.mpr c28
          have c28b1 : (x11_1 != 0) = false := bne_eq_false_iff_eq.mpr c28
          clear c28
          have H' := Aside0.mk H
          clear H
          have hnb29 := NB610_607.out
          have hnc29 := NB607_610.out
          have hnb30 := NB610_608.out
          have hnc30 := NB608_610.out
          have hcz31_0 : wc.cell? ⟨gb610, 0, none⟩ = some (.int .i64 ((rd_T77 l0 x11_1).f0)) := (blk_cell BK610.out 0).trans rfl
          have hcz31_1 : wc.cell? ⟨gb610, 1, none⟩ = some (.int .i64 ((rd_T77 l0 x11_1).f1)) := (blk_cell BK610.out 1).trans rfl
          have hfz31_0 := blk_frozen BK610.out 0
          have hfz31_1 := blk_frozen BK610.out 1
          have hnb32 := NB608_607.out
          have hnc32 := NB607_608.out
          have hcz33_0 : wc.cell? ⟨gb608, 0, none⟩ = some (.int .i64 x609000_1) := (blk_cell BK608.out 0).trans rfl
          have hcz33_1 : wc.cell? ⟨gb608, 1, none⟩ = some (.int .i64 x609001_1) := (blk_cell BK608.out 1).trans rfl
          have hfz33_0 := blk_frozen BK608.out 0
          have hfz33_1 := blk_frozen BK608.out 1
          go_wp2
          repeat (go_quiet (fail); try go_wp2)
          go_roundg kj7
          case measure => have := HK1.out; have := HJ7.out; omega
          case rel => exact ⟨(wrap64 (x11_1 + 1)), (x608000_1), (x608001_1), (((rd_T77 l0 x11_1).f0)), (((rd_T77 l0 x11_1).f1)), ap, H', ⟨by have := HK1.out; have := HJ7.out; omega⟩, ⟨by (with_reducible repeat (first | refine blk_drewN ?_ _ | refine blk_drew ?_ | refine blk_alloc ?_ _)); refine blk_far ?_ NB607_608.out _; (with_reducible repeat (first | refine blk_drewN ?_ _ | refine blk_drew ?_ | refine blk_alloc ?_ _)); refine blk_far ?_ NB607_608.out _; (with_reducible repeat (first | refine blk_drewN ?_ _ | refine blk_drew ?_ | refine blk_alloc ?_ _)); exact BK607.out⟩, ⟨by (with_reducible repeat (first | refine blk_drewN ?_ _ | refine blk_drew ?_ | refine blk_alloc ?_ _)); refine blk_put (cs := #[.int .i64 ((rd_T77 l0 x11_1).f0), .int .i64 x609001_1]) ?_ 1 _ rfl; (with_reducible repeat (first | refine blk_drewN ?_ _ | refine blk_drew ?_ | refine blk_alloc ?_ _)); refine blk_put (cs := #[.int .i64 x609000_1, .int .i64 x609001_1]) ?_ 0 _ rfl; (with_reducible repeat (first | refine blk_drewN ?_ _ | refine blk_drew ?_ | refine blk_alloc ?_ _)); exact BK608.out⟩, ⟨bo⟩⟩
         ·rw [if_neg c28] at H
          have c28b0 : (x11_1 == 0) = false := beq_eq_false_iff_ne.mpr c28
          have c28b1 : (x11_1 != 0) = true := bne_iff_ne.mpr c28
          by_cases c34 : ((rd_T77 l0 x11_1).f0) ≤ a1
          ·rw [if_pos c34] at H
           have c34b0 : decide (((rd_T77 l0 x11_1).f0) ≤ a1) = true := decide_eq_true c34
           clear c34
           have H' := Aside0.mk H
           clear H
           have hnb35 := NB610_607.out
           have hnc35 := NB607_610.out
           have hnb36 := NB610_608.out
           have hnc36 := NB608_610.out
           have hcz37_0 : wc.cell? ⟨gb610, 0, none⟩ = some (.int .i64 ((rd_T77 l0 x11_1).f0)) := (blk_cell BK610.out 0).trans rfl
           have hcz37_1 : wc.cell? ⟨gb610, 1, none⟩ = some (.int .i64 ((rd_T77 l0 x11_1).f1)) := (blk_cell BK610.out 1).trans rfl
           have hfz37_0 := blk_frozen BK610.out 0
           have hfz37_1 := blk_frozen BK610.out 1
           have hnb38 := NB608_607.out
           have hnc38 := NB607_608.out
           have hcz39_0 : wc.cell? ⟨gb608, 0, none⟩ = some (.int .i64 x609000_1) := (blk_cell BK608.out 0).trans rfl
           have hcz39_1 : wc.cell? ⟨gb608, 1, none⟩ = some (.int .i64 x609001_1) := (blk_cell BK608.out 1).trans rfl
           have hfz39_0 := blk_frozen BK608.out 0
           have hfz39_1 := blk_frozen BK608.out 1
           go_wp2
           repeat (go_quiet (fail); try go_wp2)
           go_roundg kj7
           case measure => have := HK1.out; have := HJ7.out; omega
           case rel => exact ⟨(wrap64 (x11_1 + 1)), (x608000_1), (x608001_1), (((rd_T77 l0 x11_1).f0)), (((rd_T77 l0 x11_1).f1)), ap, H', ⟨by have := HK1.out; have := HJ7.out; omega⟩, ⟨by (with_reducible repeat (first | refine blk_drewN ?_ _ | refine blk_drew ?_ | refine blk_alloc ?_ _)); refine blk_far ?_ NB607_608.out _; (with_reducible repeat (first | refine blk_drewN ?_ _ | refine blk_drew ?_ | refine blk_alloc ?_ _)); refine blk_far ?_ NB607_608.out _; (with_reducible repeat (first | refine blk_drewN ?_ _ | refine blk_drew ?_ | refine blk_alloc ?_ _)); exact BK607.out⟩, ⟨by (with_reducible repeat (first | refine blk_drewN ?_ _ | refine blk_drew ?_ | refine blk_alloc ?_ _)); refine blk_put (cs := #[.int .i64 ((rd_T77 l0 x11_1).f0), .int .i64 x609001_1]) ?_ 1 _ rfl; (with_reducible repeat (first | refine blk_drewN ?_ _ | refine blk_drew ?_ | refine blk_alloc ?_ _)); refine blk_put (cs := #[.int .i64 x609000_1, .int .i64 x609001_1]) ?_ 0 _ rfl; (with_reducible repeat (first | refine blk_drewN ?_ _ | refine blk_drew ?_ | refine blk_alloc ?_ _)); exact BK608.out⟩, ⟨bo⟩⟩
          ·rw [if_neg c34] at H
           have c34b0 : decide (((rd_T77 l0 x11_1).f0) ≤ a1) = false := decide_eq_false c34
           clear c34
           have H' := Aside0.mk H
           clear H
           have hnb40 := NB610_607.out
           have hnc40 := NB607_610.out
           have hnb41 := NB610_608.out
           have hnc41 := NB608_610.out
           have hcz42_0 : wc.cell? ⟨gb610, 0, none⟩ = some (.int .i64 ((rd_T77 l0 x11_1).f0)) := (blk_cell BK610.out 0).trans rfl
           have hcz42_1 : wc.cell? ⟨gb610, 1, none⟩ = some (.int .i64 ((rd_T77 l0 x11_1).f1)) := (blk_cell BK610.out 1).trans rfl
           have hfz42_0 := blk_frozen BK610.out 0
           have hfz42_1 := blk_frozen BK610.out 1
           go_wp2
           repeat (go_quiet (fail); try go_wp2)
           go_roundg kj7
           case measure => have := HK1.out; have := HJ7.out; omega
           case rel => exact ⟨(wrap64 (x11_1 + 1)), (x608000_1), (x608001_1), (x609000_1), (x609001_1), ap, H', ⟨by have := HK1.out; have := HJ7.out; omega⟩, ⟨by (with_reducible repeat (first | refine blk_drewN ?_ _ | refine blk_drew ?_ | refine blk_alloc ?_ _)); exact BK607.out⟩, ⟨by (with_reducible repeat (first | refine blk_drewN ?_ _ | refine blk_drew ?_ | refine blk_alloc ?_ _)); exact BK608.out⟩, ⟨bo⟩⟩
     ·rw [if_neg c7] at H
      exact absurd H (by simp)
    ·rw [if_neg c6] at H
     exact absurd H (by simp)
   ·rw [if_neg c5] at H
    have c5b0 : decide (x11_1 < (l0.length : Int)) = false := decide_eq_false c5
    clear c5
    simp only [Option.some.injEq, Prod.mk.injEq] at H
    obtain ⟨rfl, rfl, rfl⟩ := H
    have hnb43 := NB608_607.out
    have hnc43 := NB607_608.out
    have hcz44_0 : wr.cell? ⟨gb608, 0, none⟩ = some (.int .i64 x609000_1) := (blk_cell BK608.out 0).trans rfl
    have hcz44_1 : wr.cell? ⟨gb608, 1, none⟩ = some (.int .i64 x609001_1) := (blk_cell BK608.out 1).trans rfl
    have hfz44_0 := blk_frozen BK608.out 0
    have hfz44_1 := blk_frozen BK608.out 1
    have hcz45_0 : wr.cell? ⟨gb607, 0, none⟩ = some (.int .i64 x608000_1) := (blk_cell BK607.out 0).trans rfl
    have hcz45_1 : wr.cell? ⟨gb607, 1, none⟩ = some (.int .i64 x608001_1) := (blk_cell BK607.out 1).trans rfl
    have hfz45_0 := blk_frozen BK607.out 0
    have hfz45_1 := blk_frozen BK607.out 1
    go_wp2
    repeat (go_quiet (fail); try go_wp2)
    refine bodyPost_ret (results_ct rfl _ _ gb607 77 #[.int .i64 x609000_1, .int .i64 x609001_1] (0, 0) _ rfl (by (with_reducible repeat (first | refine blk_drewN ?_ _ | refine blk_drew ?_ | refine blk_alloc ?_ _)); refine blk_put (cs := #[.int .i64 x609000_1, .int .i64 x608001_1]) ?_ 1 _ rfl; (with_reducible repeat (first | refine blk_drewN ?_ _ | refine blk_drew ?_ | refine blk_alloc ?_ _)); refine blk_put (cs := #[.int .i64 x608000_1, .int .i64 x608001_1]) ?_ 0 _ rfl; (with_reducible repeat (first | refine blk_drewN ?_ _ | refine blk_drew ?_ | refine blk_alloc ?_ _)); exact BK607.out) Try.underlying77 rfl (by kernel_rfl)) rfl ?_
    exact ⟨er, bo⟩

end Go.Proofs.Ytmabdfdmccbfnaa.P

-- written by a program of the proving session, out of the translation; Lean checks it
namespace Go.Proofs.Ytmabdfdmccbfnaa.P
open Go.RowKit Go.Proofs.Ytmabdfdmccbfnaa.Sq Go.Proofs.YtmabdfdmccbfnaaW.PrintWords Go.Proofs.YtmabdfdmccbfnaaW.PrintLast Go.Proofs.YtmabdfdmccbfnaaW.PrintMore
attribute [local go_sem] max2_int min2_int max_two min_two max_three min_three max_four min_four   -- for this text's walks alone
set_option linter.unusedVariables false
set_option linter.unusedSimpArgs false

/-! ### fairwayref10_Risen: function 50 -/
def fairwayref10_Risen.l0 : Nat → List (S77) → Int → Option (Bool)
 | 0, _, _ => none
 | k + 1, x0, x3 => if x3 < (x0.length : Int) then (if 0 ≤ (wrap64 (x3 - 1)) then (if (wrap64 (x3 - 1)) < (x0.length : Int) then (if 0 ≤ x3 then (if ((rd_T77 x0 (wrap64 (x3 - 1))).f0) ≥ ((rd_T77 x0 x3).f0) then (some false) else (if ((rd_T77 x0 (wrap64 (x3 - 1))).f1) > ((rd_T77 x0 x3).f1) then (some false) else (fairwayref10_Risen.l0 k x0 (wrap64 (x3 + 1))))) else (none)) else (none)) else (none)) else (some true)
def fairwayref10_Risen.f (k : Nat) (l0 : List (S77)) : Option (Bool) := fairwayref10_Risen.l0 k l0 1
theorem fairwayref10_Risen.mono_l : ∀ k, (∀ y0 y1, LeO (fairwayref10_Risen.l0 k y0 y1) (fairwayref10_Risen.l0 (k + 1) y0 y1))
 | 0 => fun _ _ r h => by simp [fairwayref10_Risen.l0] at h
 | k + 1 => by
  have ih0 := fairwayref10_Risen.mono_l k
  ·intro y0 y1
   unfold fairwayref10_Risen.l0
   repeat' first
   | (with_reducible exact ih0 _ _)
   | (with_reducible exact LeO.refl _)
   | (with_reducible exact LeO.none _)
   | (with_reducible refine LeO.ite ?_ ?_)
   | (with_reducible refine LeO.bind ?_ (fun _ => ?_))
   | exact ih0 _ _
   | exact LeO.none _
   | refine LeO.ite ?_ ?_
   | refine LeO.bind ?_ (fun _ => ?_)
theorem fairwayref10_Risen.mono : ∀ a0 k, LeO (fairwayref10_Risen.f k a0) (fairwayref10_Risen.f (k + 1) a0) := by
 intro a0 k
 have ih0 := fairwayref10_Risen.mono_l k
 unfold fairwayref10_Risen.f
 repeat' first
  | (with_reducible exact ih0 _ _)
  | (with_reducible exact LeO.refl _)
  | (with_reducible exact LeO.none _)
  | (with_reducible refine LeO.ite ?_ ?_)
  | (with_reducible refine LeO.bind ?_ (fun _ => ?_))
  | exact ih0 _ _
  | exact LeO.none _
  | refine LeO.ite ?_ ?_
  | refine LeO.bind ?_ (fun _ => ?_)
set_option maxHeartbeats 8000000 in
set_option maxRecDepth 100000 in
theorem fairwayref10_Risen.calls (k : Nat) (A0 : Option Addr) (c0 : Nat) (l0 : List (S77)) (r : Bool) (w : World) (hr0 : Kd.C k77 w A0 l0.length l0) (hc0 : l0.length ≤ c0) (h : fairwayref10_Risen.f k l0 = some r) :
 Calls Try.prog 50 #[.slice A0 l0.length c0] w fun e w' => e = .returned (.bool r) ∧ Drawn0 w w' := by
 have HR0 := Aside0.mk hr0
 have HC0 := Aside0.mk hc0
 clear hr0 hc0
 have H : (fairwayref10_Risen.l0 k l0 1) = some r := h
 clear h
 have H' := Aside0.mk H
 clear H
 go_enter Try.func50, Try.ntmps50
 go_wp2
 repeat (go_quiet (fail); try go_wp2)
 go_loopg [3] k (fun kq v3 w' => ∃ (x3_1 : Int), v3 = .int .i64 x3_1 ∧ Aside0 (fairwayref10_Risen.l0 kq l0 x3_1 = some r) ∧ Aside0 (kq ≤ k) ∧ Drawn0 w w')
 case atStart => exact ⟨(1), ap, H', ⟨Nat.le_refl _⟩, dr⟩
 case round =>
  clear H'
  obtain ⟨x3_1, rfl, HA, HK1, ⟨m1, rfl⟩⟩ := hrel
  cases gk with
  | zero => exact absurd HA.out (by simp [fairwayref10_Risen.l0])
  | succ k1 =>
   have H := HA.out
   clear HA
   simp only [fairwayref10_Risen.l0] at H
   by_cases c2 : x3_1 < (l0.length : Int)
   ·rw [if_pos c2] at H
    have c2b0 : decide (x3_1 < (l0.length : Int)) = true := decide_eq_true c2
    clear c2
    obtain ⟨ji3, hji3⟩ : ∃ j_ : Int, (wrap64 (x3_1 - 1)) = j_ := ⟨_, rfl⟩
    replace H : (if 0 ≤ (ji3) then (if (ji3) < (l0.length : Int) then (if 0 ≤ x3_1 then (if ((rd_T77 l0 (ji3)).f0) ≥ ((rd_T77 l0 x3_1).f0) then (some false) else (if ((rd_T77 l0 (ji3)).f1) > ((rd_T77 l0 x3_1).f1) then (some false) else (fairwayref10_Risen.l0 k1 l0 (wrap64 (x3_1 + 1))))) else (none)) else (none)) else (none)) = some r := by first | (rw [hji3] at H; exact H) | (simp only [hji3] at H ⊢; exact H)
    have hji3w : (IntKind.i64.wrap (x3_1 - 1)) = ji3 := (i64_w _).trans hji3
    by_cases c4 : 0 ≤ (ji3)
    ·rw [if_pos c4] at H
     have c4b0 : decide (0 ≤ (ji3)) = true := decide_eq_true c4
     clear c4
     by_cases c5 : (ji3) < (l0.length : Int)
     ·rw [if_pos c5] at H
      have c5b0 : decide ((ji3) < (l0.length : Int)) = true := decide_eq_true c5
      clear c5
      by_cases c6 : 0 ≤ x3_1
      ·rw [if_pos c6] at H
       have c6b0 : decide (0 ≤ x3_1) = true := decide_eq_true c6
       clear c6
       by_cases c7 : ((rd_T77 l0 (ji3)).f0) ≥ ((rd_T77 l0 x3_1).f0)
       ·rw [if_pos c7] at H
        have c7b0 : decide (((rd_T77 l0 x3_1).f0) ≤ ((rd_T77 l0 (ji3)).f0)) = true := decide_eq_true c7
        clear c7
        obtain rfl := Option.some.inj H
        have p613 : 0 ≤ ((ji3) : Int) := od
        have q613 : (ji3) < (l0.length : Int) := od
        obtain ⟨ad613, e613, hx613_0, hx613_1⟩ := at_T77 HR0.out (ji3) p613 q613
        cases e613
        replace p613 := eq_true p613
        replace q613 := eq_true q613
        have p614 : 0 ≤ (x3_1 : Int) := od
        have q614 : x3_1 < (l0.length : Int) := od
        obtain ⟨ad614, e614, hx614_0, hx614_1⟩ := at_T77 HR0.out x3_1 p614 q614
        obtain rfl : ad613 = ad614 := (by injection e614)
        replace p614 := eq_true p614
        replace q614 := eq_true q614
        go_wp2
        repeat (go_quiet (fail); try go_wp2)
        go_ret
        exact ⟨by first | rfl | (simp; done) | (simp only [← hji3] <;> (first | rfl | simp)) | (simp [*]; done), dr⟩
       ·rw [if_neg c7] at H
        have c7b0 : decide (((rd_T77 l0 x3_1).f0) ≤ ((rd_T77 l0 (ji3)).f0)) = false := decide_eq_false c7
        clear c7
        by_cases c8 : ((rd_T77 l0 (ji3)).f1) > ((rd_T77 l0 x3_1).f1)
        ·rw [if_pos c8] at H
         have c8b0 : decide (((rd_T77 l0 x3_1).f1) < ((rd_T77 l0 (ji3)).f1)) = true := decide_eq_true c8
         clear c8
         obtain rfl := Option.some.inj H
         have p613 : 0 ≤ ((ji3) : Int) := od
         have q613 : (ji3) < (l0.length : Int) := od
         obtain ⟨ad613, e613, hx613_0, hx613_1⟩ := at_T77 HR0.out (ji3) p613 q613
         cases e613
         replace p613 := eq_true p613
         replace q613 := eq_true q613
         have p614 : 0 ≤ (x3_1 : Int) := od
         have q614 : x3_1 < (l0.length : Int) := od
         obtain ⟨ad614, e614, hx614_0, hx614_1⟩ := at_T77 HR0.out x3_1 p614 q614
         obtain rfl : ad613 = ad614 := (by injection e614)
         replace p614 := eq_true p614
         replace q614 := eq_true q614
         have p615 : 0 ≤ ((ji3) : Int) := od
         have q615 : (ji3) < (l0.length : Int) := od
         obtain ⟨ad615, e615, hx615_0, hx615_1⟩ := at_T77 HR0.out (ji3) p615 q615
         obtain rfl : ad613 = ad615 := (by injection e615)
         replace p615 := eq_true p615
         replace q615 := eq_true q615
         have p616 : 0 ≤ (x3_1 : Int) := od
         have q616 : x3_1 < (l0.length : Int) := od
         obtain ⟨ad616, e616, hx616_0, hx616_1⟩ := at_T77 HR0.out x3_1 p616 q616
         obtain rfl : ad613 = ad616 := (by injection e616)
         replace p616 := eq_true p616
         replace q616 := eq_true q616
         go_wp2
         repeat (go_quiet (fail); try go_wp2)
         go_ret
         exact ⟨by first | rfl | (simp; done) | (simp only [← hji3] <;> (first | rfl | simp)) | (simp [*]; done), dr⟩
        ·rw [if_neg c8] at H
         have c8b0 : decide (((rd_T77 l0 x3_1).f1) < ((rd_T77 l0 (ji3)).f1)) = false := decide_eq_false c8
         clear c8
         have H' := Aside0.mk H
         clear H
         have p613 : 0 ≤ ((ji3) : Int) := od
         have q613 : (ji3) < (l0.length : Int) := od
         obtain ⟨ad613, e613, hx613_0, hx613_1⟩ := at_T77 HR0.out (ji3) p613 q613
         cases e613
         replace p613 := eq_true p613
         replace q613 := eq_true q613
         have p614 : 0 ≤ (x3_1 : Int) := od
         have q614 : x3_1 < (l0.length : Int) := od
         obtain ⟨ad614, e614, hx614_0, hx614_1⟩ := at_T77 HR0.out x3_1 p614 q614
         obtain rfl : ad613 = ad614 := (by injection e614)
         replace p614 := eq_true p614
         replace q614 := eq_true q614
         have p615 : 0 ≤ ((ji3) : Int) := od
         have q615 : (ji3) < (l0.length : Int) := od
         obtain ⟨ad615, e615, hx615_0, hx615_1⟩ := at_T77 HR0.out (ji3) p615 q615
         obtain rfl : ad613 = ad615 := (by injection e615)
         replace p615 := eq_true p615
         replace q615 := eq_true q615
         have p616 : 0 ≤ (x3_1 : Int) := od
         have q616 : x3_1 < (l0.length : Int) := od
         obtain ⟨ad616, e616, hx616_0, hx616_1⟩ := at_T77 HR0.out x3_1 p616 q616
         obtain rfl : ad613 = ad616 := (by injection e616)
         replace p616 := eq_true p616
         replace q616 := eq_true q616
         go_wp2
         repeat (go_quiet (fail); try go_wp2)
         go_roundg k1
         case measure => have := HK1.out; omega
         case rel => exact ⟨(wrap64 (x3_1 + 1)), ap, H', ⟨by have := HK1.out; omega⟩, dr⟩
      ·rw [if_neg c6] at H
       exact absurd H (by simp)
     ·rw [if_neg c5] at H
      exact absurd H (by simp)
    ·rw [if_neg c4] at H
     exact absurd H (by simp)
   ·rw [if_neg c2] at H
    have c2b0 : decide (x3_1 < (l0.length : Int)) = false := decide_eq_false c2
    clear c2
    obtain rfl := Option.some.inj H
    go_wp2
    repeat (go_quiet (fail); try go_wp2)
    go_ret
    exact ⟨ap, dr⟩

end Go.Proofs.Ytmabdfdmccbfnaa.P

-- written by a program of the proving session, out of the translation; Lean checks it
namespace Go.Proofs.Ytmabdfdmccbfnaa.P
open Go.RowKit Go.Proofs.Ytmabdfdmccbfnaa.Sq Go.Proofs.YtmabdfdmccbfnaaW.PrintWords Go.Proofs.YtmabdfdmccbfnaaW.PrintLast Go.Proofs.YtmabdfdmccbfnaaW.PrintMore
attribute [local go_sem] max2_int min2_int max_two min_two max_three min_three max_four min_four   -- for this text's walks alone
set_option linter.unusedVariables false
set_option linter.unusedSimpArgs false

/-! ### fairwayref10_From: function 51 -/
def fairwayref10_From.l0 : Nat → List (S77) → Int → Int → Int → Option (Int)
 | 0, _, _, _, _ => none
 | k + 1, x0, x1, x5, x6 => if x6 < (x0.length : Int) then (if x6 = 0 then (fairwayref10_From.l0 k x0 x1 x6 (wrap64 (x6 + 1))) else (if 0 ≤ x6 then (if ((rd_T77 x0 x6).f0) ≤ x1 then (fairwayref10_From.l0 k x0 x1 x6 (wrap64 (x6 + 1))) else (fairwayref10_From.l0 k x0 x1 x5 (wrap64 (x6 + 1)))) else (none))) else (some x5)
def fairwayref10_From.f (k : Nat) (l0 : List (S77)) (a1 : Int) : Option (Int) := fairwayref10_From.l0 k l0 a1 (-1) 0
theorem fairwayref10_From.mono_l : ∀ k, (∀ y0 y1 y2 y3, LeO (fairwayref10_From.l0 k y0 y1 y2 y3) (fairwayref10_From.l0 (k + 1) y0 y1 y2 y3))
 | 0 => fun _ _ _ _ r h => by simp [fairwayref10_From.l0] at h
 | k + 1 => by
  have ih0 := fairwayref10_From.mono_l k
  ·intro y0 y1 y2 y3
   unfold fairwayref10_From.l0
   repeat' first
   | (with_reducible exact ih0 _ _ _ _)
   | (with_reducible exact LeO.refl _)
   | (with_reducible exact LeO.none _)
   | (with_reducible refine LeO.ite ?_ ?_)
   | (with_reducible refine LeO.bind ?_ (fun _ => ?_))
   | exact ih0 _ _ _ _
   | exact LeO.none _
   | refine LeO.ite ?_ ?_
   | refine LeO.bind ?_ (fun _ => ?_)
theorem fairwayref10_From.mono : ∀ a0 a1 k, LeO (fairwayref10_From.f k a0 a1) (fairwayref10_From.f (k + 1) a0 a1) := by
 intro a0 a1 k
 have ih0 := fairwayref10_From.mono_l k
 unfold fairwayref10_From.f
 repeat' first
  | (with_reducible exact ih0 _ _ _ _)
  | (with_reducible exact LeO.refl _)
  | (with_reducible exact LeO.none _)
  | (with_reducible refine LeO.ite ?_ ?_)
  | (with_reducible refine LeO.bind ?_ (fun _ => ?_))
  | exact ih0 _ _ _ _
  | exact LeO.none _
  | refine LeO.ite ?_ ?_
  | refine LeO.bind ?_ (fun _ => ?_)
set_option maxHeartbeats 8000000 in
set_option maxRecDepth 100000 in
theorem fairwayref10_From.calls (k : Nat) (A0 : Option Addr) (c0 : Nat) (l0 : List (S77)) (a1 : Int) (r : Int) (w : World) (hr0 : Kd.C k77 w A0 l0.length l0) (hc0 : l0.length ≤ c0) (h : fairwayref10_From.f k l0 a1 = some r) :
 Calls Try.prog 51 #[.slice A0 l0.length c0, .int .i64 a1] w fun e w' => e = .returned (.int .i64 r) ∧ Drawn0 w w' := by
 have HR0 := Aside0.mk hr0
 have HC0 := Aside0.mk hc0
 clear hr0 hc0
 have H : (fairwayref10_From.l0 k l0 a1 (-1) 0) = some r := h
 clear h
 have H' := Aside0.mk H
 clear H
 go_enter Try.func51, Try.ntmps51
 go_wp2
 go_loopg [5, 6] k (fun kq v5 v6 w' => ∃ (x5_1 : Int) (x6_1 : Int), v5 = .int .i64 x5_1 ∧ v6 = .int .i64 x6_1 ∧ Aside0 (fairwayref10_From.l0 kq l0 a1 x5_1 x6_1 = some r) ∧ Aside0 (kq ≤ k) ∧ Drawn0 w w')
 case atStart => exact ⟨((-1)), (0), ap, ap, H', ⟨Nat.le_refl _⟩, dr⟩
 case round =>
  clear H'
  try clear p2
  obtain ⟨x5_1, x6_1, rfl, rfl, HA, HK1, ⟨m1, rfl⟩⟩ := hrel
  cases gk with
  | zero => exact absurd HA.out (by simp [fairwayref10_From.l0])
  | succ k1 =>
   have H := HA.out
   clear HA
   simp only [fairwayref10_From.l0] at H
   by_cases c3 : x6_1 < (l0.length : Int)
   ·rw [if_pos c3] at H
    have c3b0 : decide (x6_1 < (l0.length : Int)) = true := decide_eq_true c3
    clear c3
    by_cases c4 : x6_1 = 0
    ·rw [if_pos c4] at H
     have c4b0 : (x6_1 == 0) = true := beq_iff_eq.mpr c4
     have c4b1 : (x6_1 != 0) = false := bne_eq_false_iff_eq.mpr c4
     clear c4
     have H' := Aside0.mk H
     clear H
     go_wp2
     go_roundg k1
     case measure => have := HK1.out; omega
     case rel => exact ⟨(x6_1), (wrap64 (x6_1 + 1)), ap, ap, H', ⟨by have := HK1.out; omega⟩, dr⟩
    ·rw [if_neg c4] at H
     have c4b0 : (x6_1 == 0) = false := beq_eq_false_iff_ne.mpr c4
     have c4b1 : (x6_1 != 0) = true := bne_iff_ne.mpr c4
     by_cases c5 : 0 ≤ x6_1
     ·rw [if_pos c5] at H
      have c5b0 : decide (0 ≤ x6_1) = true := decide_eq_true c5
      clear c5
      by_cases c6 : ((rd_T77 l0 x6_1).f0) ≤ a1
      ·rw [if_pos c6] at H
       have c6b0 : decide (((rd_T77 l0 x6_1).f0) ≤ a1) = true := decide_eq_true c6
       clear c6
       have H' := Aside0.mk H
       clear H
       have p617 : 0 ≤ (x6_1 : Int) := od
       have q617 : x6_1 < (l0.length : Int) := od
       obtain ⟨ad617, e617, hx617_0, hx617_1⟩ := at_T77 HR0.out x6_1 p617 q617
       cases e617
       replace p617 := eq_true p617
       replace q617 := eq_true q617
       go_wp2
       go_roundg k1
       case measure => have := HK1.out; omega
       case rel => exact ⟨(x6_1), (wrap64 (x6_1 + 1)), ap, ap, H', ⟨by have := HK1.out; omega⟩, dr⟩
      ·rw [if_neg c6] at H
       have c6b0 : decide (((rd_T77 l0 x6_1).f0) ≤ a1) = false := decide_eq_false c6
       clear c6
       have H' := Aside0.mk H
       clear H
       have p617 : 0 ≤ (x6_1 : Int) := od
       have q617 : x6_1 < (l0.length : Int) := od
       obtain ⟨ad617, e617, hx617_0, hx617_1⟩ := at_T77 HR0.out x6_1 p617 q617
       cases e617
       replace p617 := eq_true p617
       replace q617 := eq_true q617
       go_wp2
       go_roundg k1
       case measure => have := HK1.out; omega
       case rel => exact ⟨(x5_1), (wrap64 (x6_1 + 1)), ap, ap, H', ⟨by have := HK1.out; omega⟩, dr⟩
     ·rw [if_neg c5] at H
      exact absurd H (by simp)
   ·rw [if_neg c3] at H
    have c3b0 : decide (x6_1 < (l0.length : Int)) = false := decide_eq_false c3
    clear c3
    obtain rfl := Option.some.inj H
    go_wp2
    go_ret
    exact ⟨ap, dr⟩

end Go.Proofs.Ytmabdfdmccbfnaa.P

-- written by a program of the proving session, out of the translation; Lean checks it
namespace Go.Proofs.Ytmabdfdmccbfnaa.P
open Go.RowKit Go.Proofs.Ytmabdfdmccbfnaa.Sq Go.Proofs.YtmabdfdmccbfnaaW.PrintWords Go.Proofs.YtmabdfdmccbfnaaW.PrintLast Go.Proofs.YtmabdfdmccbfnaaW.PrintMore
attribute [local go_sem] max2_int min2_int max_two min_two max_three min_three max_four min_four   -- for this text's walks alone
set_option linter.unusedVariables false
set_option linter.unusedSimpArgs false

/-! ### fairwaylaw12_num: function 52 -/
def fairwaylaw12_num.f (a0 : Int) : Option (Int) := some a0
set_option maxHeartbeats 8000000 in
set_option maxRecDepth 100000 in
theorem fairwaylaw12_num.calls (a0 : Int) (r : Int) (w : World) (h : fairwaylaw12_num.f a0 = some r) :
 Calls Try.prog 52 #[.int .i64 a0] w fun e w' => e = .returned (.int .i64 r) ∧ Drawn0 w w' := by
 have H : (some a0) = some r := h
 clear h
 obtain rfl := Option.some.inj H
 go_enter Try.func52, Try.ntmps52
 go_wp2
 go_ret
 exact ⟨ap, dr⟩

end Go.Proofs.Ytmabdfdmccbfnaa.P

-- written by a program of the proving session, out of the translation; Lean checks it
namespace Go.Proofs.Ytmabdfdmccbfnaa.P
open Go.RowKit Go.Proofs.Ytmabdfdmccbfnaa.Sq Go.Proofs.YtmabdfdmccbfnaaW.PrintWords Go.Proofs.YtmabdfdmccbfnaaW.PrintLast Go.Proofs.YtmabdfdmccbfnaaW.PrintMore
attribute [local go_sem] max2_int min2_int max_two min_two max_three min_three max_four min_four   -- for this text's walks alone
set_option linter.unusedVariables false
set_option linter.unusedSimpArgs false

/-! ### fairwaylaw10_R: function 67 -/
def fairwaylaw10_R.f (a0 : Int) (a1 : Int) (a2 : ByteArray) (a3 : ByteArray) : Option (Int × Int × ByteArray × ByteArray × Int × Bool) := some (a0, a1, a2, a3, 1, false)
set_option maxHeartbeats 8000000 in
set_option maxRecDepth 100000 in
theorem fairwaylaw10_R.calls (a0 : Int) (a1 : Int) (a2 : ByteArray) (a3 : ByteArray) (r1 : Int) (r2 : Int) (r3 : ByteArray) (r4 : ByteArray) (r5 : Int) (r6 : Bool) (w : World) (h : fairwaylaw10_R.f a0 a1 a2 a3 = some (r1, r2, r3, r4, r5, r6)) :
 Calls Try.prog 67 #[.int .i64 a0, .int .i64 a1, .string a2, .string a3] w fun e w' => e = .returned (.agg #[.int .i64 r1, .int .i64 r2, .string r3, .string r4, .int .i64 r5, .bool r6]) ∧ Below w.heap.size w w' := by
 have hu25 := Try.underlying25
 have HB := Aside0.mk (Below.refl w.heap.size w)
 have H : (some (a0, a1, a2, a3, 1, false)) = some (r1, r2, r3, r4, r5, r6) := h
 clear h
 simp only [Option.some.injEq, Prod.mk.injEq] at H
 obtain ⟨rfl, rfl, rfl, rfl, rfl, rfl⟩ := H
 go_enter Try.func67, Try.ntmps67
 go_wp2_with (first | ((with_reducible refine gate_dst (N := 8) rfl ?_); refine box_event ?hg (N := 8) ?hd (cs := #[.int .i64 0, .int .i64 0, .string (⟨#[]⟩ : ByteArray), .string (⟨#[]⟩ : ByteArray), .int .i64 0, .bool false]) (t := 25) ?hr ?_; (case hd => rfl); (case hg => rfl); (case hr => first | (go_simp; done) | (go_simp; rfl)); intro gb161 hg w5 hbox hb; have BK161 := Aside0.mk (hbox); have GW161 := Aside0.mk ((by rw [hg]; exact (below_size bo) : w.heap.size ≤ gb161)); have GE161 := Aside0.mk ((by rw [hg]; exact (below_size bo) : w.heap.size ≤ gb161)); replace HB := Aside0.mk (below_step bo hb); clear hb hbox hg; obtain ⟨hcz6_0, hcz6_1, hcz6_2, hcz6_3, hcz6_4, hcz6_5⟩ := cl6 BK161.out; obtain ⟨hfz6_0, hfz6_1, hfz6_2, hfz6_3, hfz6_4, hfz6_5⟩ := fz6 BK161.out))
 refine bodyPost_ret (results_cell_row rfl _ _ gb161 25 #[.int .i64 a0, .int .i64 a1, .string a2, .string a3, .int .i64 1, .bool false] (0, 0) _ rfl (by (with_reducible repeat (first | refine blk_drewN ?_ _ | refine blk_drew ?_ | refine blk_alloc ?_ _)); refine blk_put (cs := #[.int .i64 a0, .int .i64 a1, .string a2, .string a3, .int .i64 1, .bool false]) ?_ 5 _ rfl; (with_reducible repeat (first | refine blk_drewN ?_ _ | refine blk_drew ?_ | refine blk_alloc ?_ _)); refine blk_put (cs := #[.int .i64 a0, .int .i64 a1, .string a2, .string a3, .int .i64 0, .bool false]) ?_ 4 _ rfl; (with_reducible repeat (first | refine blk_drewN ?_ _ | refine blk_drew ?_ | refine blk_alloc ?_ _)); refine blk_put (cs := #[.int .i64 a0, .int .i64 a1, .string a2, .string (⟨#[]⟩ : ByteArray), .int .i64 0, .bool false]) ?_ 3 _ rfl; (with_reducible repeat (first | refine blk_drewN ?_ _ | refine blk_drew ?_ | refine blk_alloc ?_ _)); refine blk_put (cs := #[.int .i64 a0, .int .i64 a1, .string (⟨#[]⟩ : ByteArray), .string (⟨#[]⟩ : ByteArray), .int .i64 0, .bool false]) ?_ 2 _ rfl; (with_reducible repeat (first | refine blk_drewN ?_ _ | refine blk_drew ?_ | refine blk_alloc ?_ _)); refine blk_put (cs := #[.int .i64 a0, .int .i64 0, .string (⟨#[]⟩ : ByteArray), .string (⟨#[]⟩ : ByteArray), .int .i64 0, .bool false]) ?_ 1 _ rfl; (with_reducible repeat (first | refine blk_drewN ?_ _ | refine blk_drew ?_ | refine blk_alloc ?_ _)); refine blk_put (cs := #[.int .i64 0, .int .i64 0, .string (⟨#[]⟩ : ByteArray), .string (⟨#[]⟩ : ByteArray), .int .i64 0, .bool false]) ?_ 0 _ rfl; (with_reducible repeat (first | refine blk_drewN ?_ _ | refine blk_drew ?_ | refine blk_alloc ?_ _)); exact BK161.out) Try.underlying25 rfl (by kernel_rfl)) rfl ?_
 exact ⟨er, bo⟩

end Go.Proofs.Ytmabdfdmccbfnaa.P

-- written by a program of the proving session, out of the translation; Lean checks it
namespace Go.Proofs.Ytmabdfdmccbfnaa.P
open Go.RowKit Go.Proofs.Ytmabdfdmccbfnaa.Sq Go.Proofs.YtmabdfdmccbfnaaW.PrintWords Go.Proofs.YtmabdfdmccbfnaaW.PrintLast Go.Proofs.YtmabdfdmccbfnaaW.PrintMore
attribute [local go_sem] max2_int min2_int max_two min_two max_three min_three max_four min_four   -- for this text's walks alone
set_option linter.unusedVariables false
set_option linter.unusedSimpArgs false

/-! ### rec_Check: function 22 -/
def rec_Check.j0 : Nat → Bool → Int → Int → ByteArray → ByteArray → Int → Bool → Option (Int)
 | 0, _, _, _, _, _, _, _ => none
 | k + 1, x3, x102000, x102001, x102002, x102003, x102004, x102005 => if x3 = true then (some 1) else (if (x102002.size : Int) > 1024 then (some 1) else (if (x102003.size : Int) > 1024 then (some 1) else (if x102005 = true then (if x102003.toList = ([] : List UInt8) then (some 0) else (some 1)) else (some 0))))
def rec_Check.f (k : Nat) (a0_0 : Int) (a0_1 : Int) (a0_2 : ByteArray) (a0_3 : ByteArray) (a0_4 : Int) (a0_5 : Bool) : Option (Int) := if a0_0 < 0 then (rec_Check.j0 k true a0_0 a0_1 a0_2 a0_3 a0_4 a0_5) else (if a0_0 ≥ 1099511627776 then (rec_Check.j0 k true a0_0 a0_1 a0_2 a0_3 a0_4 a0_5) else (if a0_1 < 0 then (rec_Check.j0 k true a0_0 a0_1 a0_2 a0_3 a0_4 a0_5) else (if a0_1 > 1099511627776 then (rec_Check.j0 k true a0_0 a0_1 a0_2 a0_3 a0_4 a0_5) else (if a0_4 < 0 then (rec_Check.j0 k true a0_0 a0_1 a0_2 a0_3 a0_4 a0_5) else (rec_Check.j0 k (decide (a0_4 > 2)) a0_0 a0_1 a0_2 a0_3 a0_4 a0_5)))))
theorem rec_Check.mono_l : ∀ k, (∀ y0 y1 y2 y3 y4 y5 y6, LeO (rec_Check.j0 k y0 y1 y2 y3 y4 y5 y6) (rec_Check.j0 (k + 1) y0 y1 y2 y3 y4 y5 y6))
 | 0 => fun _ _ _ _ _ _ _ r h => by simp [rec_Check.j0] at h
 | k + 1 => by
  have ih0 := rec_Check.mono_l k
  ·intro y0 y1 y2 y3 y4 y5 y6
   unfold rec_Check.j0
   repeat' first
   | (with_reducible exact ih0 _ _ _ _ _ _ _)
   | (with_reducible exact LeO.refl _)
   | (with_reducible exact LeO.none _)
   | (with_reducible refine LeO.ite ?_ ?_)
   | (with_reducible refine LeO.bind ?_ (fun _ => ?_))
   | exact ih0 _ _ _ _ _ _ _
   | exact LeO.none _
   | refine LeO.ite ?_ ?_
   | refine LeO.bind ?_ (fun _ => ?_)
theorem rec_Check.mono : ∀ a0 a1 a2 a3 a4 a5 k, LeO (rec_Check.f k a0 a1 a2 a3 a4 a5) (rec_Check.f (k + 1) a0 a1 a2 a3 a4 a5) := by
 intro a0 a1 a2 a3 a4 a5 k
 have ih0 := rec_Check.mono_l k
 unfold rec_Check.f
 repeat' first
  | (with_reducible exact ih0 _ _ _ _ _ _ _)
  | (with_reducible exact LeO.refl _)
  | (with_reducible exact LeO.none _)
  | (with_reducible refine LeO.ite ?_ ?_)
  | (with_reducible refine LeO.bind ?_ (fun _ => ?_))
  | exact ih0 _ _ _ _ _ _ _
  | exact LeO.none _
  | refine LeO.ite ?_ ?_
  | refine LeO.bind ?_ (fun _ => ?_)
set_option maxHeartbeats 8000000 in
set_option maxRecDepth 100000 in
theorem rec_Check.calls (k : Nat) (a0_0 : Int) (a0_1 : Int) (a0_2 : ByteArray) (a0_3 : ByteArray) (a0_4 : Int) (a0_5 : Bool) (r : Int) (w : World) (h : rec_Check.f k a0_0 a0_1 a0_2 a0_3 a0_4 a0_5 = some r) :
 Calls Try.prog 22 #[.agg #[.int .i64 a0_0, .int .i64 a0_1, .string a0_2, .string a0_3, .int .i64 a0_4, .bool a0_5]] w fun e w' => e = .returned (.int .i64 r) ∧ Below w.heap.size w w' := by
 have hu25 := Try.underlying25
 have HB := Aside0.mk (Below.refl w.heap.size w)
 have H : (if a0_0 < 0 then (rec_Check.j0 k true a0_0 a0_1 a0_2 a0_3 a0_4 a0_5) else (if a0_0 ≥ 1099511627776 then (rec_Check.j0 k true a0_0 a0_1 a0_2 a0_3 a0_4 a0_5) else (if a0_1 < 0 then (rec_Check.j0 k true a0_0 a0_1 a0_2 a0_3 a0_4 a0_5) else (if a0_1 > 1099511627776 then (rec_Check.j0 k true a0_0 a0_1 a0_2 a0_3 a0_4 a0_5) else (if a0_4 < 0 then (rec_Check.j0 k true a0_0 a0_1 a0_2 a0_3 a0_4 a0_5) else (rec_Check.j0 k (decide (a0_4 > 2)) a0_0 a0_1 a0_2 a0_3 a0_4 a0_5)))))) = some r := h
 clear h
 have HC2 := Aside0.mk H
 clear H
 go_enter Try.func22, Try.ntmps22
 go_upto_region 1 with (first | ((with_reducible refine gate_dst (N := 1) rfl ?_); (try (refine gate_guard (by rfl) ?_; dsimp only)); refine box_event ?hg (N := 1) ?hd (cs := #[.int .i64 a0_0, .int .i64 a0_1, .string a0_2, .string a0_3, .int .i64 a0_4, .bool a0_5]) (t := 25) ?hr ?_; (case hd => rfl); (case hg => rfl); (case hr => first | (go_simp; done) | (go_simp; rfl)); intro gb101 hg w3 hbox hb; have BK101 := Aside0.mk (hbox); have GW101 := Aside0.mk ((by rw [hg]; exact (below_size bo) : w.heap.size ≤ gb101)); have GE101 := Aside0.mk ((by rw [hg]; exact (below_size bo) : w.heap.size ≤ gb101)); replace HB := Aside0.mk (below_step bo hb); clear hb hbox hg))
 (try simp only [Act.put, List.setIfInBounds_toArray, List.set_cons_zero, List.set_cons_succ])
 go_cut [3] (fun v3 wc => ∃ (kq : Nat) (x3_1 : Bool), v3 = .bool x3_1 ∧ Aside0 (rec_Check.j0 kq x3_1 a0_0 a0_1 a0_2 a0_3 a0_4 a0_5 = some r) ∧ Aside0 (kq ≤ k) ∧ Aside0 (wc.heap[gb101]? = some (.cells #[.int .i64 a0_0, .int .i64 a0_1, .string a0_2, .string a0_3, .int .i64 a0_4, .bool a0_5] 25 (0, 0))) ∧ Aside0 (Below w.heap.size w wc))
 case first =>
  have H := HC2.out
  clear HC2
  by_cases c4 : a0_0 < 0
  ·rw [if_pos c4] at H
   have c4b0 : decide (a0_0 < 0) = true := decide_eq_true c4
   clear c4
   (first | rw [c4b0] | (simp only [i64_w, i32_w]; rw [c4b0]) | skip)
   have H' := Aside0.mk H
   clear H
   have hcz5_0 : w3.cell? ⟨gb101, 0, none⟩ = some (.int .i64 a0_0) := (blk_cell BK101.out 0).trans rfl
   have hcz5_1 : w3.cell? ⟨gb101, 1, none⟩ = some (.int .i64 a0_1) := (blk_cell BK101.out 1).trans rfl
   have hcz5_2 : w3.cell? ⟨gb101, 2, none⟩ = some (.string a0_2) := (blk_cell BK101.out 2).trans rfl
   have hcz5_3 : w3.cell? ⟨gb101, 3, none⟩ = some (.string a0_3) := (blk_cell BK101.out 3).trans rfl
   have hcz5_4 : w3.cell? ⟨gb101, 4, none⟩ = some (.int .i64 a0_4) := (blk_cell BK101.out 4).trans rfl
   have hcz5_5 : w3.cell? ⟨gb101, 5, none⟩ = some (.bool a0_5) := (blk_cell BK101.out 5).trans rfl
   have hfz5_0 := blk_frozen BK101.out 0
   have hfz5_1 := blk_frozen BK101.out 1
   have hfz5_2 := blk_frozen BK101.out 2
   have hfz5_3 := blk_frozen BK101.out 3
   have hfz5_4 := blk_frozen BK101.out 4
   have hfz5_5 := blk_frozen BK101.out 5
   go_wp2
   go_meet
   case rel => exact ⟨_, (true), ap, H', ⟨by first | omega | exact Nat.le_refl _⟩, ⟨by (with_reducible repeat (first | refine blk_drewN ?_ _ | refine blk_drew ?_ | refine blk_alloc ?_ _)); exact BK101.out⟩, ⟨bo⟩⟩
  ·rw [if_neg c4] at H
   have c4b0 : decide (a0_0 < 0) = false := decide_eq_false c4
   clear c4
   (first | rw [c4b0] | (simp only [i64_w, i32_w]; rw [c4b0]) | skip)
   by_cases c6 : a0_0 ≥ 1099511627776
   ·rw [if_pos c6] at H
    have c6b0 : decide (1099511627776 ≤ a0_0) = true := decide_eq_true c6
    clear c6
    have H' := Aside0.mk H
    clear H
    have hcz7_0 : w3.cell? ⟨gb101, 0, none⟩ = some (.int .i64 a0_0) := (blk_cell BK101.out 0).trans rfl
    have hcz7_1 : w3.cell? ⟨gb101, 1, none⟩ = some (.int .i64 a0_1) := (blk_cell BK101.out 1).trans rfl
    have hcz7_2 : w3.cell? ⟨gb101, 2, none⟩ = some (.string a0_2) := (blk_cell BK101.out 2).trans rfl
    have hcz7_3 : w3.cell? ⟨gb101, 3, none⟩ = some (.string a0_3) := (blk_cell BK101.out 3).trans rfl
    have hcz7_4 : w3.cell? ⟨gb101, 4, none⟩ = some (.int .i64 a0_4) := (blk_cell BK101.out 4).trans rfl
    have hcz7_5 : w3.cell? ⟨gb101, 5, none⟩ = some (.bool a0_5) := (blk_cell BK101.out 5).trans rfl
    have hfz7_0 := blk_frozen BK101.out 0
    have hfz7_1 := blk_frozen BK101.out 1
    have hfz7_2 := blk_frozen BK101.out 2
    have hfz7_3 := blk_frozen BK101.out 3
    have hfz7_4 := blk_frozen BK101.out 4
    have hfz7_5 := blk_frozen BK101.out 5
    go_wp2
    go_meet
    case rel => exact ⟨_, (true), ap, H', ⟨by first | omega | exact Nat.le_refl _⟩, ⟨by (with_reducible repeat (first | refine blk_drewN ?_ _ | refine blk_drew ?_ | refine blk_alloc ?_ _)); exact BK101.out⟩, ⟨bo⟩⟩
   ·rw [if_neg c6] at H
    have c6b0 : decide (1099511627776 ≤ a0_0) = false := decide_eq_false c6
    clear c6
    by_cases c8 : a0_1 < 0
    ·rw [if_pos c8] at H
     have c8b0 : decide (a0_1 < 0) = true := decide_eq_true c8
     clear c8
     have H' := Aside0.mk H
     clear H
     have hcz9_0 : w3.cell? ⟨gb101, 0, none⟩ = some (.int .i64 a0_0) := (blk_cell BK101.out 0).trans rfl
     have hcz9_1 : w3.cell? ⟨gb101, 1, none⟩ = some (.int .i64 a0_1) := (blk_cell BK101.out 1).trans rfl
     have hcz9_2 : w3.cell? ⟨gb101, 2, none⟩ = some (.string a0_2) := (blk_cell BK101.out 2).trans rfl
     have hcz9_3 : w3.cell? ⟨gb101, 3, none⟩ = some (.string a0_3) := (blk_cell BK101.out 3).trans rfl
     have hcz9_4 : w3.cell? ⟨gb101, 4, none⟩ = some (.int .i64 a0_4) := (blk_cell BK101.out 4).trans rfl
     have hcz9_5 : w3.cell? ⟨gb101, 5, none⟩ = some (.bool a0_5) := (blk_cell BK101.out 5).trans rfl
     have hfz9_0 := blk_frozen BK101.out 0
     have hfz9_1 := blk_frozen BK101.out 1
     have hfz9_2 := blk_frozen BK101.out 2
     have hfz9_3 := blk_frozen BK101.out 3
     have hfz9_4 := blk_frozen BK101.out 4
     have hfz9_5 := blk_frozen BK101.out 5
     go_wp2
     go_meet
     case rel => exact ⟨_, (true), ap, H', ⟨by first | omega | exact Nat.le_refl _⟩, ⟨by (with_reducible repeat (first | refine blk_drewN ?_ _ | refine blk_drew ?_ | refine blk_alloc ?_ _)); exact BK101.out⟩, ⟨bo⟩⟩
    ·rw [if_neg c8] at H
     have c8b0 : decide (a0_1 < 0) = false := decide_eq_false c8
     clear c8
     by_cases c10 : a0_1 > 1099511627776
     ·rw [if_pos c10] at H
      have c10b0 : decide (1099511627776 < a0_1) = true := decide_eq_true c10
      clear c10
      have H' := Aside0.mk H
      clear H
      have hcz11_0 : w3.cell? ⟨gb101, 0, none⟩ = some (.int .i64 a0_0) := (blk_cell BK101.out 0).trans rfl
      have hcz11_1 : w3.cell? ⟨gb101, 1, none⟩ = some (.int .i64 a0_1) := (blk_cell BK101.out 1).trans rfl
      have hcz11_2 : w3.cell? ⟨gb101, 2, none⟩ = some (.string a0_2) := (blk_cell BK101.out 2).trans rfl
      have hcz11_3 : w3.cell? ⟨gb101, 3, none⟩ = some (.string a0_3) := (blk_cell BK101.out 3).trans rfl
      have hcz11_4 : w3.cell? ⟨gb101, 4, none⟩ = some (.int .i64 a0_4) := (blk_cell BK101.out 4).trans rfl
      have hcz11_5 : w3.cell? ⟨gb101, 5, none⟩ = some (.bool a0_5) := (blk_cell BK101.out 5).trans rfl
      have hfz11_0 := blk_frozen BK101.out 0
      have hfz11_1 := blk_frozen BK101.out 1
      have hfz11_2 := blk_frozen BK101.out 2
      have hfz11_3 := blk_frozen BK101.out 3
      have hfz11_4 := blk_frozen BK101.out 4
      have hfz11_5 := blk_frozen BK101.out 5
      go_wp2
      go_meet
      case rel => exact ⟨_, (true), ap, H', ⟨by first | omega | exact Nat.le_refl _⟩, ⟨by (with_reducible repeat (first | refine blk_drewN ?_ _ | refine blk_drew ?_ | refine blk_alloc ?_ _)); exact BK101.out⟩, ⟨bo⟩⟩
     ·rw [if_neg c10] at H
      have c10b0 : decide (1099511627776 < a0_1) = false := decide_eq_false c10
      clear c10
      by_cases c12 : a0_4 < 0
      ·rw [if_pos c12] at H
       have c12b0 : decide (a0_4 < 0) = true := decide_eq_true c12
       clear c12
       have H' := Aside0.mk H
       clear H
       have hcz13_0 : w3.cell? ⟨gb101, 0, none⟩ = some (.int .i64 a0_0) := (blk_cell BK101.out 0).trans rfl
       have hcz13_1 : w3.cell? ⟨gb101, 1, none⟩ = some (.int .i64 a0_1) := (blk_cell BK101.out 1).trans rfl
       have hcz13_2 : w3.cell? ⟨gb101, 2, none⟩ = some (.string a0_2) := (blk_cell BK101.out 2).trans rfl
       have hcz13_3 : w3.cell? ⟨gb101, 3, none⟩ = some (.string a0_3) := (blk_cell BK101.out 3).trans rfl
       have hcz13_4 : w3.cell? ⟨gb101, 4, none⟩ = some (.int .i64 a0_4) := (blk_cell BK101.out 4).trans rfl
       have hcz13_5 : w3.cell? ⟨gb101, 5, none⟩ = some (.bool a0_5) := (blk_cell BK101.out 5).trans rfl
       have hfz13_0 := blk_frozen BK101.out 0
       have hfz13_1 := blk_frozen BK101.out 1
       have hfz13_2 := blk_frozen BK101.out 2
       have hfz13_3 := blk_frozen BK101.out 3
       have hfz13_4 := blk_frozen BK101.out 4
       have hfz13_5 := blk_frozen BK101.out 5
       go_wp2
       go_meet
       case rel => exact ⟨_, (true), ap, H', ⟨by first | omega | exact Nat.le_refl _⟩, ⟨by (with_reducible repeat (first | refine blk_drewN ?_ _ | refine blk_drew ?_ | refine blk_alloc ?_ _)); exact BK101.out⟩, ⟨bo⟩⟩
      ·rw [if_neg c12] at H
       have c12b0 : decide (a0_4 < 0) = false := decide_eq_false c12
       clear c12
       have H' := Aside0.mk H
       clear H
       have hcz14_0 : w3.cell? ⟨gb101, 0, none⟩ = some (.int .i64 a0_0) := (blk_cell BK101.out 0).trans rfl
       have hcz14_1 : w3.cell? ⟨gb101, 1, none⟩ = some (.int .i64 a0_1) := (blk_cell BK101.out 1).trans rfl
       have hcz14_2 : w3.cell? ⟨gb101, 2, none⟩ = some (.string a0_2) := (blk_cell BK101.out 2).trans rfl
       have hcz14_3 : w3.cell? ⟨gb101, 3, none⟩ = some (.string a0_3) := (blk_cell BK101.out 3).trans rfl
       have hcz14_4 : w3.cell? ⟨gb101, 4, none⟩ = some (.int .i64 a0_4) := (blk_cell BK101.out 4).trans rfl
       have hcz14_5 : w3.cell? ⟨gb101, 5, none⟩ = some (.bool a0_5) := (blk_cell BK101.out 5).trans rfl
       have hfz14_0 := blk_frozen BK101.out 0
       have hfz14_1 := blk_frozen BK101.out 1
       have hfz14_2 := blk_frozen BK101.out 2
       have hfz14_3 := blk_frozen BK101.out 3
       have hfz14_4 := blk_frozen BK101.out 4
       have hfz14_5 := blk_frozen BK101.out 5
       go_wp2
       go_meet
       case rel => exact ⟨_, (decide (a0_4 > 2)), ap, H', ⟨by first | omega | exact Nat.le_refl _⟩, ⟨by (with_reducible repeat (first | refine blk_drewN ?_ _ | refine blk_drew ?_ | refine blk_alloc ?_ _)); exact BK101.out⟩, ⟨bo⟩⟩
 case rest =>
  clear HC2
  (try clear c1); (try clear c2); (try clear p2); (try clear c4); (try clear c4b0); (try clear c6); (try clear c6b0); (try clear c8); (try clear c8b0); (try clear c10); (try clear c10b0); (try clear c12); (try clear c12b0); (try clear hcz11_0); (try clear hcz11_1); (try clear hcz11_2); (try clear hcz11_3); (try clear hcz11_4); (try clear hcz11_5); (try clear hcz13_0); (try clear hcz13_1); (try clear hcz13_2); (try clear hcz13_3); (try clear hcz13_4); (try clear hcz13_5); (try clear hcz14_0); (try clear hcz14_1); (try clear hcz14_2); (try clear hcz14_3); (try clear hcz14_4); (try clear hcz14_5); (try clear hcz5_0); (try clear hcz5_1); (try clear hcz5_2); (try clear hcz5_3); (try clear hcz5_4); (try clear hcz5_5); (try clear hcz7_0); (try clear hcz7_1); (try clear hcz7_2); (try clear hcz7_3); (try clear hcz7_4); (try clear hcz7_5); (try clear hcz9_0); (try clear hcz9_1); (try clear hcz9_2); (try clear hcz9_3); (try clear hcz9_4); (try clear hcz9_5); (try clear hfz11_0); (try clear hfz11_1); (try clear hfz11_2); (try clear hfz11_3); (try clear hfz11_4); (try clear hfz11_5); (try clear hfz13_0); (try clear hfz13_1); (try clear hfz13_2); (try clear hfz13_3); (try clear hfz13_4); (try clear hfz13_5); (try clear hfz14_0); (try clear hfz14_1); (try clear hfz14_2); (try clear hfz14_3); (try clear hfz14_4); (try clear hfz14_5); (try clear hfz5_0); (try clear hfz5_1); (try clear hfz5_2); (try clear hfz5_3); (try clear hfz5_4); (try clear hfz5_5); (try clear hfz7_0); (try clear hfz7_1); (try clear hfz7_2); (try clear hfz7_3); (try clear hfz7_4); (try clear hfz7_5); (try clear hfz9_0); (try clear hfz9_1); (try clear hfz9_2); (try clear hfz9_3); (try clear hfz9_4); (try clear hfz9_5)
  obtain ⟨kq, x3_1, rfl, HA, HJ1, BK101, HB⟩ := hcut
  cases kq with
  | zero => exact absurd HA.out (by simp [rec_Check.j0])
  | succ kj1 =>
   have H := HA.out
   clear HA
   simp only [rec_Check.j0] at H
   by_cases c15 : x3_1 = true
   ·subst c15
    have H1 : (some 1) = some r := by rw [if_pos rfl] at H; exact H
    clear H
    have H := H1
    clear H1
    obtain rfl := Option.some.inj H
    go_wp2
    go_ret
    exact ⟨er, bo⟩
   ·replace c15 := Bool.eq_false_iff.mpr c15
    subst c15
    have H1 : (if (a0_2.size : Int) > 1024 then (some 1) else (if (a0_3.size : Int) > 1024 then (some 1) else (if a0_5 = true then (if a0_3.toList = ([] : List UInt8) then (some 0) else (some 1)) else (some 0)))) = some r := by rw [if_neg (show ¬ (false = true) by decide)] at H; exact H
    clear H
    have H := H1
    clear H1
    by_cases c16 : (a0_2.size : Int) > 1024
    ·rw [if_pos c16] at H
     have c16b0 : decide (1024 < (a0_2.size : Int)) = true := decide_eq_true c16
     have c16b1 : decide (1024 < a0_2.size) = true := decide_eq_true (by omega)
     clear c16
     obtain rfl := Option.some.inj H
     have hcz17_0 : wc.cell? ⟨gb101, 0, none⟩ = some (.int .i64 a0_0) := (blk_cell BK101.out 0).trans rfl
     have hcz17_1 : wc.cell? ⟨gb101, 1, none⟩ = some (.int .i64 a0_1) := (blk_cell BK101.out 1).trans rfl
     have hcz17_2 : wc.cell? ⟨gb101, 2, none⟩ = some (.string a0_2) := (blk_cell BK101.out 2).trans rfl
     have hcz17_3 : wc.cell? ⟨gb101, 3, none⟩ = some (.string a0_3) := (blk_cell BK101.out 3).trans rfl
     have hcz17_4 : wc.cell? ⟨gb101, 4, none⟩ = some (.int .i64 a0_4) := (blk_cell BK101.out 4).trans rfl
     have hcz17_5 : wc.cell? ⟨gb101, 5, none⟩ = some (.bool a0_5) := (blk_cell BK101.out 5).trans rfl
     have hfz17_0 := blk_frozen BK101.out 0
     have hfz17_1 := blk_frozen BK101.out 1
     have hfz17_2 := blk_frozen BK101.out 2
     have hfz17_3 := blk_frozen BK101.out 3
     have hfz17_4 := blk_frozen BK101.out 4
     have hfz17_5 := blk_frozen BK101.out 5
     go_wp2
     go_ret
     exact ⟨er, bo⟩
    ·rw [if_neg c16] at H
     have c16b0 : decide (1024 < (a0_2.size : Int)) = false := decide_eq_false c16
     have c16b1 : decide (1024 < a0_2.size) = false := decide_eq_false (by omega)
     clear c16
     by_cases c18 : (a0_3.size : Int) > 1024
     ·rw [if_pos c18] at H
      have c18b0 : decide (1024 < (a0_3.size : Int)) = true := decide_eq_true c18
      have c18b1 : decide (1024 < a0_3.size) = true := decide_eq_true (by omega)
      clear c18
      obtain rfl := Option.some.inj H
      have hcz19_0 : wc.cell? ⟨gb101, 0, none⟩ = some (.int .i64 a0_0) := (blk_cell BK101.out 0).trans rfl
      have hcz19_1 : wc.cell? ⟨gb101, 1, none⟩ = some (.int .i64 a0_1) := (blk_cell BK101.out 1).trans rfl
      have hcz19_2 : wc.cell? ⟨gb101, 2, none⟩ = some (.string a0_2) := (blk_cell BK101.out 2).trans rfl
      have hcz19_3 : wc.cell? ⟨gb101, 3, none⟩ = some (.string a0_3) := (blk_cell BK101.out 3).trans rfl
      have hcz19_4 : wc.cell? ⟨gb101, 4, none⟩ = some (.int .i64 a0_4) := (blk_cell BK101.out 4).trans rfl
      have hcz19_5 : wc.cell? ⟨gb101, 5, none⟩ = some (.bool a0_5) := (blk_cell BK101.out 5).trans rfl
      have hfz19_0 := blk_frozen BK101.out 0
      have hfz19_1 := blk_frozen BK101.out 1
      have hfz19_2 := blk_frozen BK101.out 2
      have hfz19_3 := blk_frozen BK101.out 3
      have hfz19_4 := blk_frozen BK101.out 4
      have hfz19_5 := blk_frozen BK101.out 5
      go_wp2
      go_ret
      exact ⟨er, bo⟩
     ·rw [if_neg c18] at H
      have c18b0 : decide (1024 < (a0_3.size : Int)) = false := decide_eq_false c18
      have c18b1 : decide (1024 < a0_3.size) = false := decide_eq_false (by omega)
      clear c18
      by_cases c20 : a0_5 = true
      ·subst c20
       have H1 : (if a0_3.toList = ([] : List UInt8) then (some 0) else (some 1)) = some r := by rw [if_pos rfl] at H; exact H
       clear H
       have H := H1
       clear H1
       by_cases c21 : a0_3.toList = ([] : List UInt8)
       ·rw [if_pos c21] at H
        have c21b0 : (a0_3.toList == ([] : List UInt8)) = true := beq_iff_eq.mpr c21
        have c21b1 : (a0_3.toList != ([] : List UInt8)) = false := bne_eq_false_iff_eq.mpr c21
        clear c21
        obtain rfl := Option.some.inj H
        have hcz22_0 : wc.cell? ⟨gb101, 0, none⟩ = some (.int .i64 a0_0) := (blk_cell BK101.out 0).trans rfl
        have hcz22_1 : wc.cell? ⟨gb101, 1, none⟩ = some (.int .i64 a0_1) := (blk_cell BK101.out 1).trans rfl
        have hcz22_2 : wc.cell? ⟨gb101, 2, none⟩ = some (.string a0_2) := (blk_cell BK101.out 2).trans rfl
        have hcz22_3 : wc.cell? ⟨gb101, 3, none⟩ = some (.string a0_3) := (blk_cell BK101.out 3).trans rfl
        have hcz22_4 : wc.cell? ⟨gb101, 4, none⟩ = some (.int .i64 a0_4) := (blk_cell BK101.out 4).trans rfl
        have hcz22_5 : wc.cell? ⟨gb101, 5, none⟩ = some (.bool true) := (blk_cell BK101.out 5).trans rfl
        have hfz22_0 := blk_frozen BK101.out 0
        have hfz22_1 := blk_frozen BK101.out 1
        have hfz22_2 := blk_frozen BK101.out 2
        have hfz22_3 := blk_frozen BK101.out 3
        have hfz22_4 := blk_frozen BK101.out 4
        have hfz22_5 := blk_frozen BK101.out 5
        go_wp2
        go_ret
        exact ⟨er, bo⟩
       ·rw [if_neg c21] at H
        have c21b0 : (a0_3.toList == ([] : List UInt8)) = false := beq_eq_false_iff_ne.mpr c21
        have c21b1 : (a0_3.toList != ([] : List UInt8)) = true := bne_iff_ne.mpr c21
        obtain rfl := Option.some.inj H
        have hcz23_0 : wc.cell? ⟨gb101, 0, none⟩ = some (.int .i64 a0_0) := (blk_cell BK101.out 0).trans rfl
        have hcz23_1 : wc.cell? ⟨gb101, 1, none⟩ = some (.int .i64 a0_1) := (blk_cell BK101.out 1).trans rfl
        have hcz23_2 : wc.cell? ⟨gb101, 2, none⟩ = some (.string a0_2) := (blk_cell BK101.out 2).trans rfl
        have hcz23_3 : wc.cell? ⟨gb101, 3, none⟩ = some (.string a0_3) := (blk_cell BK101.out 3).trans rfl
        have hcz23_4 : wc.cell? ⟨gb101, 4, none⟩ = some (.int .i64 a0_4) := (blk_cell BK101.out 4).trans rfl
        have hcz23_5 : wc.cell? ⟨gb101, 5, none⟩ = some (.bool true) := (blk_cell BK101.out 5).trans rfl
        have hfz23_0 := blk_frozen BK101.out 0
        have hfz23_1 := blk_frozen BK101.out 1
        have hfz23_2 := blk_frozen BK101.out 2
        have hfz23_3 := blk_frozen BK101.out 3
        have hfz23_4 := blk_frozen BK101.out 4
        have hfz23_5 := blk_frozen BK101.out 5
        go_wp2
        go_ret
        exact ⟨er, bo⟩
      ·replace c20 := Bool.eq_false_iff.mpr c20
       subst c20
       have H1 : (some 0) = some r := by rw [if_neg (show ¬ (false = true) by decide)] at H; exact H
       clear H
       have H := H1
       clear H1
       obtain rfl := Option.some.inj H
       have hcz24_0 : wc.cell? ⟨gb101, 0, none⟩ = some (.int .i64 a0_0) := (blk_cell BK101.out 0).trans rfl
       have hcz24_1 : wc.cell? ⟨gb101, 1, none⟩ = some (.int .i64 a0_1) := (blk_cell BK101.out 1).trans rfl
       have hcz24_2 : wc.cell? ⟨gb101, 2, none⟩ = some (.string a0_2) := (blk_cell BK101.out 2).trans rfl
       have hcz24_3 : wc.cell? ⟨gb101, 3, none⟩ = some (.string a0_3) := (blk_cell BK101.out 3).trans rfl
       have hcz24_4 : wc.cell? ⟨gb101, 4, none⟩ = some (.int .i64 a0_4) := (blk_cell BK101.out 4).trans rfl
       have hcz24_5 : wc.cell? ⟨gb101, 5, none⟩ = some (.bool false) := (blk_cell BK101.out 5).trans rfl
       have hfz24_0 := blk_frozen BK101.out 0
       have hfz24_1 := blk_frozen BK101.out 1
       have hfz24_2 := blk_frozen BK101.out 2
       have hfz24_3 := blk_frozen BK101.out 3
       have hfz24_4 := blk_frozen BK101.out 4
       have hfz24_5 := blk_frozen BK101.out 5
       go_wp2
       go_ret
       exact ⟨er, bo⟩

end Go.Proofs.Ytmabdfdmccbfnaa.P

-- written by a program of the proving session, out of the translation; Lean checks it
namespace Go.Proofs.Ytmabdfdmccbfnaa.P
open Go.RowKit Go.Proofs.Ytmabdfdmccbfnaa.Sq Go.Proofs.YtmabdfdmccbfnaaW.PrintWords Go.Proofs.YtmabdfdmccbfnaaW.PrintLast Go.Proofs.YtmabdfdmccbfnaaW.PrintMore
attribute [local go_sem] max2_int min2_int max_two min_two max_three min_three max_four min_four   -- for this text's walks alone
set_option linter.unusedVariables false
set_option linter.unusedSimpArgs false

/-! ### rec_Size: function 21 -/
def rec_Size.f (k : Nat) (a0_0 : Int) (a0_1 : Int) (a0_2 : ByteArray) (a0_3 : ByteArray) (a0_4 : Int) (a0_5 : Bool) : Option (Int × Int) := (rec_Check.f k a0_0 a0_1 a0_2 a0_3 a0_4 a0_5).bind fun t228 => (if t228 = 0 then (some (wrap64 ((wrap64 (25 + (a0_2.size : Int))) + (a0_3.size : Int)), 0)) else (some (0, t228)))
theorem rec_Size.mono : ∀ a0 a1 a2 a3 a4 a5 k, LeO (rec_Size.f k a0 a1 a2 a3 a4 a5) (rec_Size.f (k + 1) a0 a1 a2 a3 a4 a5) := by
 intro a0 a1 a2 a3 a4 a5 k
 unfold rec_Size.f
 repeat' first
  | (with_reducible exact rec_Check.mono _ _ _ _ _ _ _)
  | (with_reducible exact LeO.refl _)
  | (with_reducible exact LeO.none _)
  | (with_reducible refine LeO.ite ?_ ?_)
  | (with_reducible refine LeO.bind ?_ (fun _ => ?_))
  | exact rec_Check.mono _ _ _ _ _ _ _
  | exact LeO.none _
  | refine LeO.ite ?_ ?_
  | refine LeO.bind ?_ (fun _ => ?_)
set_option maxHeartbeats 8000000 in
set_option maxRecDepth 100000 in
theorem rec_Size.calls (k : Nat) (a0_0 : Int) (a0_1 : Int) (a0_2 : ByteArray) (a0_3 : ByteArray) (a0_4 : Int) (a0_5 : Bool) (r1 : Int) (r2 : Int) (w : World) (h : rec_Size.f k a0_0 a0_1 a0_2 a0_3 a0_4 a0_5 = some (r1, r2)) :
 Calls Try.prog 21 #[.agg #[.int .i64 a0_0, .int .i64 a0_1, .string a0_2, .string a0_3, .int .i64 a0_4, .bool a0_5]] w fun e w' => e = .returned (.tuple #[.int .i64 r1, .int .i64 r2]) ∧ Below w.heap.size w w' := by
 have hu25 := Try.underlying25
 have HB := Aside0.mk (Below.refl w.heap.size w)
 have H : ((rec_Check.f k a0_0 a0_1 a0_2 a0_3 a0_4 a0_5).bind fun t228 => (if t228 = 0 then (some (wrap64 ((wrap64 (25 + (a0_2.size : Int))) + (a0_3.size : Int)), 0)) else (some (0, t228)))) = some (r1, r2) := h
 clear h
 replace H := Option.bind_eq_some_iff.mp H
 obtain ⟨t228, A20, H⟩ := H
 try dsimp only at H
 have A2 := Aside0.mk A20
 clear A20
 by_cases c3 : t228 = 0
 ·rw [if_pos c3] at H
  have c3b0 : (t228 == 0) = true := beq_iff_eq.mpr c3
  have c3b1 : (t228 != 0) = false := bne_eq_false_iff_eq.mpr c3
  clear c3
  simp only [Option.some.injEq, Prod.mk.injEq] at H
  obtain ⟨rfl, rfl⟩ := H
  go_enter Try.func21, Try.ntmps21
  go_wp2_with (first | ((with_reducible refine gate_dst (N := 1) rfl ?_); refine box_event ?hg (N := 1) ?hd (cs := #[.int .i64 a0_0, .int .i64 a0_1, .string a0_2, .string a0_3, .int .i64 a0_4, .bool a0_5]) (t := 25) ?hr ?_; (case hd => rfl); (case hg => rfl); (case hr => first | (go_simp; done) | (go_simp; rfl)); intro gb227 hg w4 hbox hb; have BK227 := Aside0.mk (hbox); have GW227 := Aside0.mk ((by rw [hg]; exact (below_size bo) : w.heap.size ≤ gb227)); have GE227 := Aside0.mk ((by rw [hg]; exact (below_size bo) : w.heap.size ≤ gb227)); replace HB := Aside0.mk (below_step bo hb); clear hb hbox hg; obtain ⟨hcz5_0, hcz5_1, hcz5_2, hcz5_3, hcz5_4, hcz5_5⟩ := cl6 BK227.out; obtain ⟨hfz5_0, hfz5_1, hfz5_2, hfz5_3, hfz5_4, hfz5_5⟩ := fz6 BK227.out) | ((with_reducible refine gate_callee (f := 22) rfl ?_); refine goesL_ (some 6) rfl rfl Try.func22 (by kernel_rfl) rfl #[.agg #[.int .i64 a0_0, .int .i64 a0_1, .string a0_2, .string a0_3, .int .i64 a0_4, .bool a0_5]] rfl aa ?_; (with_reducible refine (rec_Check.calls k a0_0 a0_1 a0_2 a0_3 a0_4 a0_5 t228 _ A2.out).mono ?_); rintro e w6 ⟨rfl, hb⟩; refine ⟨_, rfl, ?_⟩; replace BK227 := Aside0.mk (bb BK227.out hb); replace HB := Aside0.mk (below_step bo hb); (try clear hb); (try clear hb2); (try clear hk); (try clear hi); obtain ⟨hcz7_0, hcz7_1, hcz7_2, hcz7_3, hcz7_4, hcz7_5⟩ := cl6 BK227.out; obtain ⟨hfz7_0, hfz7_1, hfz7_2, hfz7_3, hfz7_4, hfz7_5⟩ := fz6 BK227.out))
  go_ret2
  exact ⟨er, bo⟩
 ·rw [if_neg c3] at H
  have c3b0 : (t228 == 0) = false := beq_eq_false_iff_ne.mpr c3
  have c3b1 : (t228 != 0) = true := bne_iff_ne.mpr c3
  simp only [Option.some.injEq, Prod.mk.injEq] at H
  obtain ⟨rfl, rfl⟩ := H
  go_enter Try.func21, Try.ntmps21
  go_wp2_with (first | ((with_reducible refine gate_dst (N := 1) rfl ?_); refine box_event ?hg (N := 1) ?hd (cs := #[.int .i64 a0_0, .int .i64 a0_1, .string a0_2, .string a0_3, .int .i64 a0_4, .bool a0_5]) (t := 25) ?hr ?_; (case hd => rfl); (case hg => rfl); (case hr => first | (go_simp; done) | (go_simp; rfl)); intro gb227 hg w8 hbox hb; have BK227 := Aside0.mk (hbox); have GW227 := Aside0.mk ((by rw [hg]; exact (below_size bo) : w.heap.size ≤ gb227)); have GE227 := Aside0.mk ((by rw [hg]; exact (below_size bo) : w.heap.size ≤ gb227)); replace HB := Aside0.mk (below_step bo hb); clear hb hbox hg; obtain ⟨hcz9_0, hcz9_1, hcz9_2, hcz9_3, hcz9_4, hcz9_5⟩ := cl6 BK227.out; obtain ⟨hfz9_0, hfz9_1, hfz9_2, hfz9_3, hfz9_4, hfz9_5⟩ := fz6 BK227.out) | ((with_reducible refine gate_callee (f := 22) rfl ?_); refine goesL_ (some 6) rfl rfl Try.func22 (by kernel_rfl) rfl #[.agg #[.int .i64 a0_0, .int .i64 a0_1, .string a0_2, .string a0_3, .int .i64 a0_4, .bool a0_5]] rfl aa ?_; (with_reducible refine (rec_Check.calls k a0_0 a0_1 a0_2 a0_3 a0_4 a0_5 t228 _ A2.out).mono ?_); rintro e w10 ⟨rfl, hb⟩; refine ⟨_, rfl, ?_⟩; replace BK227 := Aside0.mk (bb BK227.out hb); replace HB := Aside0.mk (below_step bo hb); (try clear hb); (try clear hb2); (try clear hk); (try clear hi)))
  go_ret2
  exact ⟨er, bo⟩

end Go.Proofs.Ytmabdfdmccbfnaa.P

-- written by a program of the proving session, out of the translation; Lean checks it
namespace Go.Proofs.Ytmabdfdmccbfnaa.P
open Go.RowKit Go.Proofs.Ytmabdfdmccbfnaa.Sq Go.Proofs.YtmabdfdmccbfnaaW.PrintWords Go.Proofs.YtmabdfdmccbfnaaW.PrintLast Go.Proofs.YtmabdfdmccbfnaaW.PrintMore
attribute [local go_sem] max2_int min2_int max_two min_two max_three min_three max_four min_four   -- for this text's walks alone
set_option linter.unusedVariables false
set_option linter.unusedSimpArgs false

/-! ### seg_behind: function 75 -/
def seg_behind.f (k : Nat) (a0 : Int) (l1 : List (S25)) (a2_0 : Int) (a2_1 : Int) (a2_2 : ByteArray) (a2_3 : ByteArray) (a2_4 : Int) (a2_5 : Bool) : Option (Bool) := (rec_Check.f k a2_0 a2_1 a2_2 a2_3 a2_4 a2_5).bind fun t360 => (if t360 = 0 then (if a2_0 < a0 then (some false) else (if (l1.length : Int) ≥ 200 then (some false) else (if (l1.length : Int) = 0 then (some true) else (if 0 ≤ (wrap64 ((l1.length : Int) - 1)) then (if (wrap64 ((l1.length : Int) - 1)) < (l1.length : Int) then (if ((rd_T25 l1 (wrap64 ((l1.length : Int) - 1))).f0) < a2_0 then (some (decide (((rd_T25 l1 (wrap64 ((l1.length : Int) - 1))).f1) ≤ a2_1))) else (some false)) else (none)) else (none))))) else (some false))
theorem seg_behind.mono : ∀ a0 a1 a2 a3 a4 a5 a6 a7 k, LeO (seg_behind.f k a0 a1 a2 a3 a4 a5 a6 a7) (seg_behind.f (k + 1) a0 a1 a2 a3 a4 a5 a6 a7) := by
 intro a0 a1 a2 a3 a4 a5 a6 a7 k
 unfold seg_behind.f
 repeat' first
  | (with_reducible exact rec_Check.mono _ _ _ _ _ _ _)
  | (with_reducible exact LeO.refl _)
  | (with_reducible exact LeO.none _)
  | (with_reducible refine LeO.ite ?_ ?_)
  | (with_reducible refine LeO.bind ?_ (fun _ => ?_))
  | exact rec_Check.mono _ _ _ _ _ _ _
  | exact LeO.none _
  | refine LeO.ite ?_ ?_
  | refine LeO.bind ?_ (fun _ => ?_)
set_option maxHeartbeats 8000000 in
set_option maxRecDepth 100000 in
theorem seg_behind.calls (k : Nat) (a0 : Int) (A1 : Option Addr) (c1 : Nat) (l1 : List (S25)) (a2_0 : Int) (a2_1 : Int) (a2_2 : ByteArray) (a2_3 : ByteArray) (a2_4 : Int) (a2_5 : Bool) (r : Bool) (w : World) (hr1 : Kd.C k25 w A1 l1.length l1) (hc1 : l1.length ≤ c1) (h : seg_behind.f k a0 l1 a2_0 a2_1 a2_2 a2_3 a2_4 a2_5 = some r) :
 Calls Try.prog 75 #[.int .i64 a0, .slice A1 l1.length c1, .agg #[.int .i64 a2_0, .int .i64 a2_1, .string a2_2, .string a2_3, .int .i64 a2_4, .bool a2_5]] w fun e w' => e = .returned (.bool r) ∧ Below w.heap.size w w' := by
 have hu25 := Try.underlying25
 have HR1 := Aside0.mk hr1
 have HC1 := Aside0.mk hc1
 clear hr1 hc1
 have HB := Aside0.mk (Below.refl w.heap.size w)
 have H : ((rec_Check.f k a2_0 a2_1 a2_2 a2_3 a2_4 a2_5).bind fun t360 => (if t360 = 0 then (if a2_0 < a0 then (some false) else (if (l1.length : Int) ≥ 200 then (some false) else (if (l1.length : Int) = 0 then (some true) else (if 0 ≤ (wrap64 ((l1.length : Int) - 1)) then (if (wrap64 ((l1.length : Int) - 1)) < (l1.length : Int) then (if ((rd_T25 l1 (wrap64 ((l1.length : Int) - 1))).f0) < a2_0 then (some (decide (((rd_T25 l1 (wrap64 ((l1.length : Int) - 1))).f1) ≤ a2_1))) else (some false)) else (none)) else (none))))) else (some false))) = some r := h
 clear h
 replace H := Option.bind_eq_some_iff.mp H
 obtain ⟨t360, A40, H⟩ := H
 try dsimp only at H
 have A4 := Aside0.mk A40
 clear A40
 by_cases c5 : t360 = 0
 ·rw [if_pos c5] at H
  have c5b0 : (t360 == 0) = true := beq_iff_eq.mpr c5
  have c5b1 : (t360 != 0) = false := bne_eq_false_iff_eq.mpr c5
  clear c5
  by_cases c6 : a2_0 < a0
  ·rw [if_pos c6] at H
   have c6b0 : decide (a2_0 < a0) = true := decide_eq_true c6
   clear c6
   obtain rfl := Option.some.inj H
   go_enter Try.func75, Try.ntmps75
   go_wp2_with (first | ((with_reducible refine gate_dst (N := 5) rfl ?_); (try (refine gate_guard (by rfl) ?_; dsimp only)); refine box_event ?hg (N := 5) ?hd (cs := #[.int .i64 a2_0, .int .i64 a2_1, .string a2_2, .string a2_3, .int .i64 a2_4, .bool a2_5]) (t := 25) ?hr ?_; (case hd => rfl); (case hg => rfl); (case hr => first | (go_simp; done) | (go_simp; rfl)); intro gb359 hg w7 hbox hb; have BK359 := Aside0.mk (hbox); have GW359 := Aside0.mk ((by rw [hg]; exact (below_size bo) : w.heap.size ≤ gb359)); have GE359 := Aside0.mk ((by rw [hg]; exact (below_size bo) : w.heap.size ≤ gb359)); replace HB := Aside0.mk (below_step bo hb); clear hb hbox hg; obtain ⟨hcz8_0, hcz8_1, hcz8_2, hcz8_3, hcz8_4, hcz8_5⟩ := cl6 BK359.out; obtain ⟨hfz8_0, hfz8_1, hfz8_2, hfz8_3, hfz8_4, hfz8_5⟩ := fz6 BK359.out) | (go_at_call 22; (with_reducible refine (rec_Check.calls k a2_0 a2_1 a2_2 a2_3 a2_4 a2_5 t360 _ A4.out).mono ?_); rintro e w9 ⟨rfl, hb⟩; replace BK359 := Aside0.mk (bb BK359.out hb); replace HB := Aside0.mk (below_step bo hb); (try clear hb); (try clear hb2); (try clear hk); (try clear hi); obtain ⟨hcz10_0, hcz10_1, hcz10_2, hcz10_3, hcz10_4, hcz10_5⟩ := cl6 BK359.out; obtain ⟨hfz10_0, hfz10_1, hfz10_2, hfz10_3, hfz10_4, hfz10_5⟩ := fz6 BK359.out))
   repeat (go_quiet (first | ((with_reducible refine gate_dst (N := 5) rfl ?_); (try (refine gate_guard (by rfl) ?_; dsimp only)); refine box_event ?hg (N := 5) ?hd (cs := #[.int .i64 a2_0, .int .i64 a2_1, .string a2_2, .string a2_3, .int .i64 a2_4, .bool a2_5]) (t := 25) ?hr ?_; (case hd => rfl); (case hg => rfl); (case hr => first | (go_simp; done) | (go_simp; rfl)); intro gb359 hg w7 hbox hb; have BK359 := Aside0.mk (hbox); have GW359 := Aside0.mk ((by rw [hg]; exact (below_size bo) : w.heap.size ≤ gb359)); have GE359 := Aside0.mk ((by rw [hg]; exact (below_size bo) : w.heap.size ≤ gb359)); replace HB := Aside0.mk (below_step bo hb); clear hb hbox hg; obtain ⟨hcz8_0, hcz8_1, hcz8_2, hcz8_3, hcz8_4, hcz8_5⟩ := cl6 BK359.out; obtain ⟨hfz8_0, hfz8_1, hfz8_2, hfz8_3, hfz8_4, hfz8_5⟩ := fz6 BK359.out) | (go_at_call 22; (with_reducible refine (rec_Check.calls k a2_0 a2_1 a2_2 a2_3 a2_4 a2_5 t360 _ A4.out).mono ?_); rintro e w9 ⟨rfl, hb⟩; replace BK359 := Aside0.mk (bb BK359.out hb); replace HB := Aside0.mk (below_step bo hb); (try clear hb); (try clear hb2); (try clear hk); (try clear hi); obtain ⟨hcz10_0, hcz10_1, hcz10_2, hcz10_3, hcz10_4, hcz10_5⟩ := cl6 BK359.out; obtain ⟨hfz10_0, hfz10_1, hfz10_2, hfz10_3, hfz10_4, hfz10_5⟩ := fz6 BK359.out)); try go_wp2_with (first | ((with_reducible refine gate_dst (N := 5) rfl ?_); (try (refine gate_guard (by rfl) ?_; dsimp only)); refine box_event ?hg (N := 5) ?hd (cs := #[.int .i64 a2_0, .int .i64 a2_1, .string a2_2, .string a2_3, .int .i64 a2_4, .bool a2_5]) (t := 25) ?hr ?_; (case hd => rfl); (case hg => rfl); (case hr => first | (go_simp; done) | (go_simp; rfl)); intro gb359 hg w7 hbox hb; have BK359 := Aside0.mk (hbox); have GW359 := Aside0.mk ((by rw [hg]; exact (below_size bo) : w.heap.size ≤ gb359)); have GE359 := Aside0.mk ((by rw [hg]; exact (below_size bo) : w.heap.size ≤ gb359)); replace HB := Aside0.mk (below_step bo hb); clear hb hbox hg; obtain ⟨hcz8_0, hcz8_1, hcz8_2, hcz8_3, hcz8_4, hcz8_5⟩ := cl6 BK359.out; obtain ⟨hfz8_0, hfz8_1, hfz8_2, hfz8_3, hfz8_4, hfz8_5⟩ := fz6 BK359.out) | (go_at_call 22; (with_reducible refine (rec_Check.calls k a2_0 a2_1 a2_2 a2_3 a2_4 a2_5 t360 _ A4.out).mono ?_); rintro e w9 ⟨rfl, hb⟩; replace BK359 := Aside0.mk (bb BK359.out hb); replace HB := Aside0.mk (below_step bo hb); (try clear hb); (try clear hb2); (try clear hk); (try clear hi); obtain ⟨hcz10_0, hcz10_1, hcz10_2, hcz10_3, hcz10_4, hcz10_5⟩ := cl6 BK359.out; obtain ⟨hfz10_0, hfz10_1, hfz10_2, hfz10_3, hfz10_4, hfz10_5⟩ := fz6 BK359.out)))
   go_ret
   exact ⟨er, bo⟩
  ·rw [if_neg c6] at H
   have c6b0 : decide (a2_0 < a0) = false := decide_eq_false c6
   clear c6
   by_cases c11 : (l1.length : Int) ≥ 200
   ·rw [if_pos c11] at H
    have c11b0 : decide (200 ≤ (l1.length : Int)) = true := decide_eq_true c11
    have c11b1 : decide (200 ≤ l1.length) = true := decide_eq_true (by omega)
    clear c11
    obtain rfl := Option.some.inj H
    go_enter Try.func75, Try.ntmps75
    go_wp2_with (first | ((with_reducible refine gate_dst (N := 5) rfl ?_); (try (refine gate_guard (by rfl) ?_; dsimp only)); refine box_event ?hg (N := 5) ?hd (cs := #[.int .i64 a2_0, .int .i64 a2_1, .string a2_2, .string a2_3, .int .i64 a2_4, .bool a2_5]) (t := 25) ?hr ?_; (case hd => rfl); (case hg => rfl); (case hr => first | (go_simp; done) | (go_simp; rfl)); intro gb359 hg w12 hbox hb; have BK359 := Aside0.mk (hbox); have GW359 := Aside0.mk ((by rw [hg]; exact (below_size bo) : w.heap.size ≤ gb359)); have GE359 := Aside0.mk ((by rw [hg]; exact (below_size bo) : w.heap.size ≤ gb359)); replace HB := Aside0.mk (below_step bo hb); clear hb hbox hg; obtain ⟨hcz13_0, hcz13_1, hcz13_2, hcz13_3, hcz13_4, hcz13_5⟩ := cl6 BK359.out; obtain ⟨hfz13_0, hfz13_1, hfz13_2, hfz13_3, hfz13_4, hfz13_5⟩ := fz6 BK359.out) | (go_at_call 22; (with_reducible refine (rec_Check.calls k a2_0 a2_1 a2_2 a2_3 a2_4 a2_5 t360 _ A4.out).mono ?_); rintro e w14 ⟨rfl, hb⟩; replace BK359 := Aside0.mk (bb BK359.out hb); replace HB := Aside0.mk (below_step bo hb); (try clear hb); (try clear hb2); (try clear hk); (try clear hi); obtain ⟨hcz15_0, hcz15_1, hcz15_2, hcz15_3, hcz15_4, hcz15_5⟩ := cl6 BK359.out; obtain ⟨hfz15_0, hfz15_1, hfz15_2, hfz15_3, hfz15_4, hfz15_5⟩ := fz6 BK359.out))
    repeat (go_quiet (first | ((with_reducible refine gate_dst (N := 5) rfl ?_); (try (refine gate_guard (by rfl) ?_; dsimp only)); refine box_event ?hg (N := 5) ?hd (cs := #[.int .i64 a2_0, .int .i64 a2_1, .string a2_2, .string a2_3, .int .i64 a2_4, .bool a2_5]) (t := 25) ?hr ?_; (case hd => rfl); (case hg => rfl); (case hr => first | (go_simp; done) | (go_simp; rfl)); intro gb359 hg w12 hbox hb; have BK359 := Aside0.mk (hbox); have GW359 := Aside0.mk ((by rw [hg]; exact (below_size bo) : w.heap.size ≤ gb359)); have GE359 := Aside0.mk ((by rw [hg]; exact (below_size bo) : w.heap.size ≤ gb359)); replace HB := Aside0.mk (below_step bo hb); clear hb hbox hg; obtain ⟨hcz13_0, hcz13_1, hcz13_2, hcz13_3, hcz13_4, hcz13_5⟩ := cl6 BK359.out; obtain ⟨hfz13_0, hfz13_1, hfz13_2, hfz13_3, hfz13_4, hfz13_5⟩ := fz6 BK359.out) | (go_at_call 22; (with_reducible refine (rec_Check.calls k a2_0 a2_1 a2_2 a2_3 a2_4 a2_5 t360 _ A4.out).mono ?_); rintro e w14 ⟨rfl, hb⟩; replace BK359 := Aside0.mk (bb BK359.out hb); replace HB := Aside0.mk (below_step bo hb); (try clear hb); (try clear hb2); (try clear hk); (try clear hi); obtain ⟨hcz15_0, hcz15_1, hcz15_2, hcz15_3, hcz15_4, hcz15_5⟩ := cl6 BK359.out; obtain ⟨hfz15_0, hfz15_1, hfz15_2, hfz15_3, hfz15_4, hfz15_5⟩ := fz6 BK359.out)); try go_wp2_with (first | ((with_reducible refine gate_dst (N := 5) rfl ?_); (try (refine gate_guard (by rfl) ?_; dsimp only)); refine box_event ?hg (N := 5) ?hd (cs := #[.int .i64 a2_0, .int .i64 a2_1, .string a2_2, .string a2_3, .int .i64 a2_4, .bool a2_5]) (t := 25) ?hr ?_; (case hd => rfl); (case hg => rfl); (case hr => first | (go_simp; done) | (go_simp; rfl)); intro gb359 hg w12 hbox hb; have BK359 := Aside0.mk (hbox); have GW359 := Aside0.mk ((by rw [hg]; exact (below_size bo) : w.heap.size ≤ gb359)); have GE359 := Aside0.mk ((by rw [hg]; exact (below_size bo) : w.heap.size ≤ gb359)); replace HB := Aside0.mk (below_step bo hb); clear hb hbox hg; obtain ⟨hcz13_0, hcz13_1, hcz13_2, hcz13_3, hcz13_4, hcz13_5⟩ := cl6 BK359.out; obtain ⟨hfz13_0, hfz13_1, hfz13_2, hfz13_3, hfz13_4, hfz13_5⟩ := fz6 BK359.out) | (go_at_call 22; (with_reducible refine (rec_Check.calls k a2_0 a2_1 a2_2 a2_3 a2_4 a2_5 t360 _ A4.out).mono ?_); rintro e w14 ⟨rfl, hb⟩; replace BK359 := Aside0.mk (bb BK359.out hb); replace HB := Aside0.mk (below_step bo hb); (try clear hb); (try clear hb2); (try clear hk); (try clear hi); obtain ⟨hcz15_0, hcz15_1, hcz15_2, hcz15_3, hcz15_4, hcz15_5⟩ := cl6 BK359.out; obtain ⟨hfz15_0, hfz15_1, hfz15_2, hfz15_3, hfz15_4, hfz15_5⟩ := fz6 BK359.out)))
    go_ret
    exact ⟨er, bo⟩
   ·rw [if_neg c11] at H
    have c11b0 : decide (200 ≤ (l1.length : Int)) = false := decide_eq_false c11
    have c11b1 : decide (200 ≤ l1.length) = false := decide_eq_false (by omega)
    clear c11
    by_cases c16 : (l1.length : Int) = 0
    ·rw [if_pos c16] at H
     have c16b0 : ((l1.length : Int) == 0) = true := beq_iff_eq.mpr c16
     have c16b1 : ((l1.length : Int) != 0) = false := bne_eq_false_iff_eq.mpr c16
     clear c16
     obtain rfl := Option.some.inj H
     go_enter Try.func75, Try.ntmps75
     go_wp2_with (first | ((with_reducible refine gate_dst (N := 5) rfl ?_); (try (refine gate_guard (by rfl) ?_; dsimp only)); refine box_event ?hg (N := 5) ?hd (cs := #[.int .i64 a2_0, .int .i64 a2_1, .string a2_2, .string a2_3, .int .i64 a2_4, .bool a2_5]) (t := 25) ?hr ?_; (case hd => rfl); (case hg => rfl); (case hr => first | (go_simp; done) | (go_simp; rfl)); intro gb359 hg w17 hbox hb; have BK359 := Aside0.mk (hbox); have GW359 := Aside0.mk ((by rw [hg]; exact (below_size bo) : w.heap.size ≤ gb359)); have GE359 := Aside0.mk ((by rw [hg]; exact (below_size bo) : w.heap.size ≤ gb359)); replace HB := Aside0.mk (below_step bo hb); clear hb hbox hg; obtain ⟨hcz18_0, hcz18_1, hcz18_2, hcz18_3, hcz18_4, hcz18_5⟩ := cl6 BK359.out; obtain ⟨hfz18_0, hfz18_1, hfz18_2, hfz18_3, hfz18_4, hfz18_5⟩ := fz6 BK359.out) | (go_at_call 22; (with_reducible refine (rec_Check.calls k a2_0 a2_1 a2_2 a2_3 a2_4 a2_5 t360 _ A4.out).mono ?_); rintro e w19 ⟨rfl, hb⟩; replace BK359 := Aside0.mk (bb BK359.out hb); replace HB := Aside0.mk (below_step bo hb); (try clear hb); (try clear hb2); (try clear hk); (try clear hi); obtain ⟨hcz20_0, hcz20_1, hcz20_2, hcz20_3, hcz20_4, hcz20_5⟩ := cl6 BK359.out; obtain ⟨hfz20_0, hfz20_1, hfz20_2, hfz20_3, hfz20_4, hfz20_5⟩ := fz6 BK359.out))
     repeat (go_quiet (first | ((with_reducible refine gate_dst (N := 5) rfl ?_); (try (refine gate_guard (by rfl) ?_; dsimp only)); refine box_event ?hg (N := 5) ?hd (cs := #[.int .i64 a2_0, .int .i64 a2_1, .string a2_2, .string a2_3, .int .i64 a2_4, .bool a2_5]) (t := 25) ?hr ?_; (case hd => rfl); (case hg => rfl); (case hr => first | (go_simp; done) | (go_simp; rfl)); intro gb359 hg w17 hbox hb; have BK359 := Aside0.mk (hbox); have GW359 := Aside0.mk ((by rw [hg]; exact (below_size bo) : w.heap.size ≤ gb359)); have GE359 := Aside0.mk ((by rw [hg]; exact (below_size bo) : w.heap.size ≤ gb359)); replace HB := Aside0.mk (below_step bo hb); clear hb hbox hg; obtain ⟨hcz18_0, hcz18_1, hcz18_2, hcz18_3, hcz18_4, hcz18_5⟩ := cl6 BK359.out; obtain ⟨hfz18_0, hfz18_1, hfz18_2, hfz18_3, hfz18_4, hfz18_5⟩ := fz6 BK359.out) | (go_at_call 22; (with_reducible refine (rec_Check.calls k a2_0 a2_1 a2_2 a2_3 a2_4 a2_5 t360 _ A4.out).mono ?_); rintro e w19 ⟨rfl, hb⟩; replace BK359 := Aside0.mk (bb BK359.out hb); replace HB := Aside0.mk (below_step bo hb); (try clear hb); (try clear hb2); (try clear hk); (try clear hi); obtain ⟨hcz20_0, hcz20_1, hcz20_2, hcz20_3, hcz20_4, hcz20_5⟩ := cl6 BK359.out; obtain ⟨hfz20_0, hfz20_1, hfz20_2, hfz20_3, hfz20_4, hfz20_5⟩ := fz6 BK359.out)); try go_wp2_with (first | ((with_reducible refine gate_dst (N := 5) rfl ?_); (try (refine gate_guard (by rfl) ?_; dsimp only)); refine box_event ?hg (N := 5) ?hd (cs := #[.int .i64 a2_0, .int .i64 a2_1, .string a2_2, .string a2_3, .int .i64 a2_4, .bool a2_5]) (t := 25) ?hr ?_; (case hd => rfl); (case hg => rfl); (case hr => first | (go_simp; done) | (go_simp; rfl)); intro gb359 hg w17 hbox hb; have BK359 := Aside0.mk (hbox); have GW359 := Aside0.mk ((by rw [hg]; exact (below_size bo) : w.heap.size ≤ gb359)); have GE359 := Aside0.mk ((by rw [hg]; exact (below_size bo) : w.heap.size ≤ gb359)); replace HB := Aside0.mk (below_step bo hb); clear hb hbox hg; obtain ⟨hcz18_0, hcz18_1, hcz18_2, hcz18_3, hcz18_4, hcz18_5⟩ := cl6 BK359.out; obtain ⟨hfz18_0, hfz18_1, hfz18_2, hfz18_3, hfz18_4, hfz18_5⟩ := fz6 BK359.out) | (go_at_call 22; (with_reducible refine (rec_Check.calls k a2_0 a2_1 a2_2 a2_3 a2_4 a2_5 t360 _ A4.out).mono ?_); rintro e w19 ⟨rfl, hb⟩; replace BK359 := Aside0.mk (bb BK359.out hb); replace HB := Aside0.mk (below_step bo hb); (try clear hb); (try clear hb2); (try clear hk); (try clear hi); obtain ⟨hcz20_0, hcz20_1, hcz20_2, hcz20_3, hcz20_4, hcz20_5⟩ := cl6 BK359.out; obtain ⟨hfz20_0, hfz20_1, hfz20_2, hfz20_3, hfz20_4, hfz20_5⟩ := fz6 BK359.out)))
     go_ret
     exact ⟨er, bo⟩
    ·rw [if_neg c16] at H
     have c16b0 : ((l1.length : Int) == 0) = false := beq_eq_false_iff_ne.mpr c16
     have c16b1 : ((l1.length : Int) != 0) = true := bne_iff_ne.mpr c16
     have c16b2 : ¬ (l1 = []) := fun h_ => c16 (by rw [h_]; rfl)
     obtain ⟨ji21, hji21⟩ : ∃ j_ : Int, (wrap64 ((l1.length : Int) - 1)) = j_ := ⟨_, rfl⟩
     replace H : (if 0 ≤ (ji21) then (if (ji21) < (l1.length : Int) then (if ((rd_T25 l1 (ji21)).f0) < a2_0 then (some (decide (((rd_T25 l1 (ji21)).f1) ≤ a2_1))) else (some false)) else (none)) else (none)) = some r := by first | (rw [hji21] at H; exact H) | (simp only [hji21] at H ⊢; exact H)
     (try rw [hji21] at A4)
     have hji21w : (IntKind.i64.wrap ((l1.length : Int) - 1)) = ji21 := (i64_w _).trans hji21
     by_cases c22 : 0 ≤ (ji21)
     ·rw [if_pos c22] at H
      have c22b0 : decide (0 ≤ (ji21)) = true := decide_eq_true c22
      clear c22
      by_cases c23 : (ji21) < (l1.length : Int)
      ·rw [if_pos c23] at H
       have c23b0 : decide ((ji21) < (l1.length : Int)) = true := decide_eq_true c23
       clear c23
       by_cases c24 : ((rd_T25 l1 (ji21)).f0) < a2_0
       ·rw [if_pos c24] at H
        have c24b0 : decide (((rd_T25 l1 (ji21)).f0) < a2_0) = true := decide_eq_true c24
        clear c24
        obtain rfl := Option.some.inj H
        go_enter Try.func75, Try.ntmps75
        go_wp2_with (first | ((with_reducible refine gate_dst (N := 5) rfl ?_); (try (refine gate_guard (by rfl) ?_; dsimp only)); refine box_event ?hg (N := 5) ?hd (cs := #[.int .i64 a2_0, .int .i64 a2_1, .string a2_2, .string a2_3, .int .i64 a2_4, .bool a2_5]) (t := 25) ?hr ?_; (case hd => rfl); (case hg => rfl); (case hr => first | (go_simp; done) | (go_simp; rfl)); intro gb359 hg w25 hbox hb; have BK359 := Aside0.mk (hbox); have GW359 := Aside0.mk ((by rw [hg]; exact (below_size bo) : w.heap.size ≤ gb359)); have GE359 := Aside0.mk ((by rw [hg]; exact (below_size bo) : w.heap.size ≤ gb359)); replace HB := Aside0.mk (below_step bo hb); clear hb hbox hg; obtain ⟨hcz26_0, hcz26_1, hcz26_2, hcz26_3, hcz26_4, hcz26_5⟩ := cl6 BK359.out; obtain ⟨hfz26_0, hfz26_1, hfz26_2, hfz26_3, hfz26_4, hfz26_5⟩ := fz6 BK359.out) | (go_at_call 22; (with_reducible refine (rec_Check.calls k a2_0 a2_1 a2_2 a2_3 a2_4 a2_5 t360 _ A4.out).mono ?_); rintro e w27 ⟨rfl, hb⟩; replace BK359 := Aside0.mk (bb BK359.out hb); replace HB := Aside0.mk (below_step bo hb); (try clear hb); (try clear hb2); (try clear hk); (try clear hi); obtain ⟨hcz28_0, hcz28_1, hcz28_2, hcz28_3, hcz28_4, hcz28_5⟩ := cl6 BK359.out; obtain ⟨hfz28_0, hfz28_1, hfz28_2, hfz28_3, hfz28_4, hfz28_5⟩ := fz6 BK359.out; have p361 : 0 ≤ ((ji21) : Int) := od; have q361 : (ji21) < (l1.length : Int) := od; obtain ⟨ad361, e361, hx361_0, hx361_1, hx361_2, hx361_3, hx361_4, hx361_5⟩ := at_T25 HR1.out (ji21) p361 q361; cases e361; replace hx361_0 := cx HB.out hx361_0; replace hx361_1 := cx HB.out hx361_1; replace hx361_2 := cx HB.out hx361_2; replace hx361_3 := cx HB.out hx361_3; replace hx361_4 := cx HB.out hx361_4; replace hx361_5 := cx HB.out hx361_5; replace p361 := eq_true p361; replace q361 := eq_true q361; have p362 : 0 ≤ ((ji21) : Int) := od; have q362 : (ji21) < (l1.length : Int) := od; obtain ⟨ad362, e362, hx362_0, hx362_1, hx362_2, hx362_3, hx362_4, hx362_5⟩ := at_T25 HR1.out (ji21) p362 q362; obtain rfl : ad361 = ad362 := (by injection e362); replace hx362_0 := cx HB.out hx362_0; replace hx362_1 := cx HB.out hx362_1; replace hx362_2 := cx HB.out hx362_2; replace hx362_3 := cx HB.out hx362_3; replace hx362_4 := cx HB.out hx362_4; replace hx362_5 := cx HB.out hx362_5; replace p362 := eq_true p362; replace q362 := eq_true q362))
        repeat (go_quiet (first | ((with_reducible refine gate_dst (N := 5) rfl ?_); (try (refine gate_guard (by rfl) ?_; dsimp only)); refine box_event ?hg (N := 5) ?hd (cs := #[.int .i64 a2_0, .int .i64 a2_1, .string a2_2, .string a2_3, .int .i64 a2_4, .bool a2_5]) (t := 25) ?hr ?_; (case hd => rfl); (case hg => rfl); (case hr => first | (go_simp; done) | (go_simp; rfl)); intro gb359 hg w25 hbox hb; have BK359 := Aside0.mk (hbox); have GW359 := Aside0.mk ((by rw [hg]; exact (below_size bo) : w.heap.size ≤ gb359)); have GE359 := Aside0.mk ((by rw [hg]; exact (below_size bo) : w.heap.size ≤ gb359)); replace HB := Aside0.mk (below_step bo hb); clear hb hbox hg; obtain ⟨hcz26_0, hcz26_1, hcz26_2, hcz26_3, hcz26_4, hcz26_5⟩ := cl6 BK359.out; obtain ⟨hfz26_0, hfz26_1, hfz26_2, hfz26_3, hfz26_4, hfz26_5⟩ := fz6 BK359.out) | (go_at_call 22; (with_reducible refine (rec_Check.calls k a2_0 a2_1 a2_2 a2_3 a2_4 a2_5 t360 _ A4.out).mono ?_); rintro e w27 ⟨rfl, hb⟩; replace BK359 := Aside0.mk (bb BK359.out hb); replace HB := Aside0.mk (below_step bo hb); (try clear hb); (try clear hb2); (try clear hk); (try clear hi); obtain ⟨hcz28_0, hcz28_1, hcz28_2, hcz28_3, hcz28_4, hcz28_5⟩ := cl6 BK359.out; obtain ⟨hfz28_0, hfz28_1, hfz28_2, hfz28_3, hfz28_4, hfz28_5⟩ := fz6 BK359.out; have p361 : 0 ≤ ((ji21) : Int) := od; have q361 : (ji21) < (l1.length : Int) := od; obtain ⟨ad361, e361, hx361_0, hx361_1, hx361_2, hx361_3, hx361_4, hx361_5⟩ := at_T25 HR1.out (ji21) p361 q361; cases e361; replace hx361_0 := cx HB.out hx361_0; replace hx361_1 := cx HB.out hx361_1; replace hx361_2 := cx HB.out hx361_2; replace hx361_3 := cx HB.out hx361_3; replace hx361_4 := cx HB.out hx361_4; replace hx361_5 := cx HB.out hx361_5; replace p361 := eq_true p361; replace q361 := eq_true q361; have p362 : 0 ≤ ((ji21) : Int) := od; have q362 : (ji21) < (l1.length : Int) := od; obtain ⟨ad362, e362, hx362_0, hx362_1, hx362_2, hx362_3, hx362_4, hx362_5⟩ := at_T25 HR1.out (ji21) p362 q362; obtain rfl : ad361 = ad362 := (by injection e362); replace hx362_0 := cx HB.out hx362_0; replace hx362_1 := cx HB.out hx362_1; replace hx362_2 := cx HB.out hx362_2; replace hx362_3 := cx HB.out hx362_3; replace hx362_4 := cx HB.out hx362_4; replace hx362_5 := cx HB.out hx362_5; replace p362 := eq_true p362; replace q362 := eq_true q362)); try go_wp2_with (first | ((with_reducible refine gate_dst (N := 5) rfl ?_); (try (refine gate_guard (by rfl) ?_; dsimp only)); refine box_event ?hg (N := 5) ?hd (cs := #[.int .i64 a2_0, .int .i64 a2_1, .string a2_2, .string a2_3, .int .i64 a2_4, .bool a2_5]) (t := 25) ?hr ?_; (case hd => rfl); (case hg => rfl); (case hr => first | (go_simp; done) | (go_simp; rfl)); intro gb359 hg w25 hbox hb; have BK359 := Aside0.mk (hbox); have GW359 := Aside0.mk ((by rw [hg]; exact (below_size bo) : w.heap.size ≤ gb359)); have GE359 := Aside0.mk ((by rw [hg]; exact (below_size bo) : w.heap.size ≤ gb359)); replace HB := Aside0.mk (below_step bo hb); clear hb hbox hg; obtain ⟨hcz26_0, hcz26_1, hcz26_2, hcz26_3, hcz26_4, hcz26_5⟩ := cl6 BK359.out; obtain ⟨hfz26_0, hfz26_1, hfz26_2, hfz26_3, hfz26_4, hfz26_5⟩ := fz6 BK359.out) | (go_at_call 22; (with_reducible refine (rec_Check.calls k a2_0 a2_1 a2_2 a2_3 a2_4 a2_5 t360 _ A4.out).mono ?_); rintro e w27 ⟨rfl, hb⟩; replace BK359 := Aside0.mk (bb BK359.out hb); replace HB := Aside0.mk (below_step bo hb); (try clear hb); (try clear hb2); (try clear hk); (try clear hi); obtain ⟨hcz28_0, hcz28_1, hcz28_2, hcz28_3, hcz28_4, hcz28_5⟩ := cl6 BK359.out; obtain ⟨hfz28_0, hfz28_1, hfz28_2, hfz28_3, hfz28_4, hfz28_5⟩ := fz6 BK359.out; have p361 : 0 ≤ ((ji21) : Int) := od; have q361 : (ji21) < (l1.length : Int) := od; obtain ⟨ad361, e361, hx361_0, hx361_1, hx361_2, hx361_3, hx361_4, hx361_5⟩ := at_T25 HR1.out (ji21) p361 q361; cases e361; replace hx361_0 := cx HB.out hx361_0; replace hx361_1 := cx HB.out hx361_1; replace hx361_2 := cx HB.out hx361_2; replace hx361_3 := cx HB.out hx361_3; replace hx361_4 := cx HB.out hx361_4; replace hx361_5 := cx HB.out hx361_5; replace p361 := eq_true p361; replace q361 := eq_true q361; have p362 : 0 ≤ ((ji21) : Int) := od; have q362 : (ji21) < (l1.length : Int) := od; obtain ⟨ad362, e362, hx362_0, hx362_1, hx362_2, hx362_3, hx362_4, hx362_5⟩ := at_T25 HR1.out (ji21) p362 q362; obtain rfl : ad361 = ad362 := (by injection e362); replace hx362_0 := cx HB.out hx362_0; replace hx362_1 := cx HB.out hx362_1; replace hx362_2 := cx HB.out hx362_2; replace hx362_3 := cx HB.out hx362_3; replace hx362_4 := cx HB.out hx362_4; replace hx362_5 := cx HB.out hx362_5; replace p362 := eq_true p362; replace q362 := eq_true q362)))
        go_ret
        exact ⟨by first | rfl | (simp [errW_none, errW_some] <;> rfl) | (simp only [← hji21]; first | rfl | (simp [errW_none, errW_some] <;> rfl)) | (simp [*, errW_none, errW_some] <;> rfl), bo⟩
       ·rw [if_neg c24] at H
        have c24b0 : decide (((rd_T25 l1 (ji21)).f0) < a2_0) = false := decide_eq_false c24
        clear c24
        obtain rfl := Option.some.inj H
        go_enter Try.func75, Try.ntmps75
        go_wp2_with (first | ((with_reducible refine gate_dst (N := 5) rfl ?_); (try (refine gate_guard (by rfl) ?_; dsimp only)); refine box_event ?hg (N := 5) ?hd (cs := #[.int .i64 a2_0, .int .i64 a2_1, .string a2_2, .string a2_3, .int .i64 a2_4, .bool a2_5]) (t := 25) ?hr ?_; (case hd => rfl); (case hg => rfl); (case hr => first | (go_simp; done) | (go_simp; rfl)); intro gb359 hg w29 hbox hb; have BK359 := Aside0.mk (hbox); have GW359 := Aside0.mk ((by rw [hg]; exact (below_size bo) : w.heap.size ≤ gb359)); have GE359 := Aside0.mk ((by rw [hg]; exact (below_size bo) : w.heap.size ≤ gb359)); replace HB := Aside0.mk (below_step bo hb); clear hb hbox hg; obtain ⟨hcz30_0, hcz30_1, hcz30_2, hcz30_3, hcz30_4, hcz30_5⟩ := cl6 BK359.out; obtain ⟨hfz30_0, hfz30_1, hfz30_2, hfz30_3, hfz30_4, hfz30_5⟩ := fz6 BK359.out) | (go_at_call 22; (with_reducible refine (rec_Check.calls k a2_0 a2_1 a2_2 a2_3 a2_4 a2_5 t360 _ A4.out).mono ?_); rintro e w31 ⟨rfl, hb⟩; replace BK359 := Aside0.mk (bb BK359.out hb); replace HB := Aside0.mk (below_step bo hb); (try clear hb); (try clear hb2); (try clear hk); (try clear hi); obtain ⟨hcz32_0, hcz32_1, hcz32_2, hcz32_3, hcz32_4, hcz32_5⟩ := cl6 BK359.out; obtain ⟨hfz32_0, hfz32_1, hfz32_2, hfz32_3, hfz32_4, hfz32_5⟩ := fz6 BK359.out; have p361 : 0 ≤ ((ji21) : Int) := od; have q361 : (ji21) < (l1.length : Int) := od; obtain ⟨ad361, e361, hx361_0, hx361_1, hx361_2, hx361_3, hx361_4, hx361_5⟩ := at_T25 HR1.out (ji21) p361 q361; cases e361; replace hx361_0 := cx HB.out hx361_0; replace hx361_1 := cx HB.out hx361_1; replace hx361_2 := cx HB.out hx361_2; replace hx361_3 := cx HB.out hx361_3; replace hx361_4 := cx HB.out hx361_4; replace hx361_5 := cx HB.out hx361_5; replace p361 := eq_true p361; replace q361 := eq_true q361))
        repeat (go_quiet (first | ((with_reducible refine gate_dst (N := 5) rfl ?_); (try (refine gate_guard (by rfl) ?_; dsimp only)); refine box_event ?hg (N := 5) ?hd (cs := #[.int .i64 a2_0, .int .i64 a2_1, .string a2_2, .string a2_3, .int .i64 a2_4, .bool a2_5]) (t := 25) ?hr ?_; (case hd => rfl); (case hg => rfl); (case hr => first | (go_simp; done) | (go_simp; rfl)); intro gb359 hg w29 hbox hb; have BK359 := Aside0.mk (hbox); have GW359 := Aside0.mk ((by rw [hg]; exact (below_size bo) : w.heap.size ≤ gb359)); have GE359 := Aside0.mk ((by rw [hg]; exact (below_size bo) : w.heap.size ≤ gb359)); replace HB := Aside0.mk (below_step bo hb); clear hb hbox hg; obtain ⟨hcz30_0, hcz30_1, hcz30_2, hcz30_3, hcz30_4, hcz30_5⟩ := cl6 BK359.out; obtain ⟨hfz30_0, hfz30_1, hfz30_2, hfz30_3, hfz30_4, hfz30_5⟩ := fz6 BK359.out) | (go_at_call 22; (with_reducible refine (rec_Check.calls k a2_0 a2_1 a2_2 a2_3 a2_4 a2_5 t360 _ A4.out).mono ?_); rintro e w31 ⟨rfl, hb⟩; replace BK359 := Aside0.mk (bb BK359.out hb); replace HB := Aside0.mk (below_step bo hb); (try clear hb); (try clear hb2); (try clear hk); (try clear hi); obtain ⟨hcz32_0, hcz32_1, hcz32_2, hcz32_3, hcz32_4, hcz32_5⟩ := cl6 BK359.out; obtain ⟨hfz32_0, hfz32_1, hfz32_2, hfz32_3, hfz32_4, hfz32_5⟩ := fz6 BK359.out; have p361 : 0 ≤ ((ji21) : Int) := od; have q361 : (ji21) < (l1.length : Int) := od; obtain ⟨ad361, e361, hx361_0, hx361_1, hx361_2, hx361_3, hx361_4, hx361_5⟩ := at_T25 HR1.out (ji21) p361 q361; cases e361; replace hx361_0 := cx HB.out hx361_0; replace hx361_1 := cx HB.out hx361_1; replace hx361_2 := cx HB.out hx361_2; replace hx361_3 := cx HB.out hx361_3; replace hx361_4 := cx HB.out hx361_4; replace hx361_5 := cx HB.out hx361_5; replace p361 := eq_true p361; replace q361 := eq_true q361)); try go_wp2_with (first | ((with_reducible refine gate_dst (N := 5) rfl ?_); (try (refine gate_guard (by rfl) ?_; dsimp only)); refine box_event ?hg (N := 5) ?hd (cs := #[.int .i64 a2_0, .int .i64 a2_1, .string a2_2, .string a2_3, .int .i64 a2_4, .bool a2_5]) (t := 25) ?hr ?_; (case hd => rfl); (case hg => rfl); (case hr => first | (go_simp; done) | (go_simp; rfl)); intro gb359 hg w29 hbox hb; have BK359 := Aside0.mk (hbox); have GW359 := Aside0.mk ((by rw [hg]; exact (below_size bo) : w.heap.size ≤ gb359)); have GE359 := Aside0.mk ((by rw [hg]; exact (below_size bo) : w.heap.size ≤ gb359)); replace HB := Aside0.mk (below_step bo hb); clear hb hbox hg; obtain ⟨hcz30_0, hcz30_1, hcz30_2, hcz30_3, hcz30_4, hcz30_5⟩ := cl6 BK359.out; obtain ⟨hfz30_0, hfz30_1, hfz30_2, hfz30_3, hfz30_4, hfz30_5⟩ := fz6 BK359.out) | (go_at_call 22; (with_reducible refine (rec_Check.calls k a2_0 a2_1 a2_2 a2_3 a2_4 a2_5 t360 _ A4.out).mono ?_); rintro e w31 ⟨rfl, hb⟩; replace BK359 := Aside0.mk (bb BK359.out hb); replace HB := Aside0.mk (below_step bo hb); (try clear hb); (try clear hb2); (try clear hk); (try clear hi); obtain ⟨hcz32_0, hcz32_1, hcz32_2, hcz32_3, hcz32_4, hcz32_5⟩ := cl6 BK359.out; obtain ⟨hfz32_0, hfz32_1, hfz32_2, hfz32_3, hfz32_4, hfz32_5⟩ := fz6 BK359.out; have p361 : 0 ≤ ((ji21) : Int) := od; have q361 : (ji21) < (l1.length : Int) := od; obtain ⟨ad361, e361, hx361_0, hx361_1, hx361_2, hx361_3, hx361_4, hx361_5⟩ := at_T25 HR1.out (ji21) p361 q361; cases e361; replace hx361_0 := cx HB.out hx361_0; replace hx361_1 := cx HB.out hx361_1; replace hx361_2 := cx HB.out hx361_2; replace hx361_3 := cx HB.out hx361_3; replace hx361_4 := cx HB.out hx361_4; replace hx361_5 := cx HB.out hx361_5; replace p361 := eq_true p361; replace q361 := eq_true q361)))
        go_ret
        exact ⟨by first | rfl | (simp [errW_none, errW_some] <;> rfl) | (simp only [← hji21]; first | rfl | (simp [errW_none, errW_some] <;> rfl)) | (simp [*, errW_none, errW_some] <;> rfl), bo⟩
      ·rw [if_neg c23] at H
       exact absurd H (by simp)
     ·rw [if_neg c22] at H
      exact absurd H (by simp)
 ·rw [if_neg c5] at H
  have c5b0 : (t360 == 0) = false := beq_eq_false_iff_ne.mpr c5
  have c5b1 : (t360 != 0) = true := bne_iff_ne.mpr c5
  obtain rfl := Option.some.inj H
  go_enter Try.func75, Try.ntmps75
  go_wp2_with (first | ((with_reducible refine gate_dst (N := 5) rfl ?_); (try (refine gate_guard (by rfl) ?_; dsimp only)); refine box_event ?hg (N := 5) ?hd (cs := #[.int .i64 a2_0, .int .i64 a2_1, .string a2_2, .string a2_3, .int .i64 a2_4, .bool a2_5]) (t := 25) ?hr ?_; (case hd => rfl); (case hg => rfl); (case hr => first | (go_simp; done) | (go_simp; rfl)); intro gb359 hg w33 hbox hb; have BK359 := Aside0.mk (hbox); have GW359 := Aside0.mk ((by rw [hg]; exact (below_size bo) : w.heap.size ≤ gb359)); have GE359 := Aside0.mk ((by rw [hg]; exact (below_size bo) : w.heap.size ≤ gb359)); replace HB := Aside0.mk (below_step bo hb); clear hb hbox hg; obtain ⟨hcz34_0, hcz34_1, hcz34_2, hcz34_3, hcz34_4, hcz34_5⟩ := cl6 BK359.out; obtain ⟨hfz34_0, hfz34_1, hfz34_2, hfz34_3, hfz34_4, hfz34_5⟩ := fz6 BK359.out) | (go_at_call 22; (with_reducible refine (rec_Check.calls k a2_0 a2_1 a2_2 a2_3 a2_4 a2_5 t360 _ A4.out).mono ?_); rintro e w35 ⟨rfl, hb⟩; replace BK359 := Aside0.mk (bb BK359.out hb); replace HB := Aside0.mk (below_step bo hb); (try clear hb); (try clear hb2); (try clear hk); (try clear hi)))
  repeat (go_quiet (first | ((with_reducible refine gate_dst (N := 5) rfl ?_); (try (refine gate_guard (by rfl) ?_; dsimp only)); refine box_event ?hg (N := 5) ?hd (cs := #[.int .i64 a2_0, .int .i64 a2_1, .string a2_2, .string a2_3, .int .i64 a2_4, .bool a2_5]) (t := 25) ?hr ?_; (case hd => rfl); (case hg => rfl); (case hr => first | (go_simp; done) | (go_simp; rfl)); intro gb359 hg w33 hbox hb; have BK359 := Aside0.mk (hbox); have GW359 := Aside0.mk ((by rw [hg]; exact (below_size bo) : w.heap.size ≤ gb359)); have GE359 := Aside0.mk ((by rw [hg]; exact (below_size bo) : w.heap.size ≤ gb359)); replace HB := Aside0.mk (below_step bo hb); clear hb hbox hg; obtain ⟨hcz34_0, hcz34_1, hcz34_2, hcz34_3, hcz34_4, hcz34_5⟩ := cl6 BK359.out; obtain ⟨hfz34_0, hfz34_1, hfz34_2, hfz34_3, hfz34_4, hfz34_5⟩ := fz6 BK359.out) | (go_at_call 22; (with_reducible refine (rec_Check.calls k a2_0 a2_1 a2_2 a2_3 a2_4 a2_5 t360 _ A4.out).mono ?_); rintro e w35 ⟨rfl, hb⟩; replace BK359 := Aside0.mk (bb BK359.out hb); replace HB := Aside0.mk (below_step bo hb); (try clear hb); (try clear hb2); (try clear hk); (try clear hi))); try go_wp2_with (first | ((with_reducible refine gate_dst (N := 5) rfl ?_); (try (refine gate_guard (by rfl) ?_; dsimp only)); refine box_event ?hg (N := 5) ?hd (cs := #[.int .i64 a2_0, .int .i64 a2_1, .string a2_2, .string a2_3, .int .i64 a2_4, .bool a2_5]) (t := 25) ?hr ?_; (case hd => rfl); (case hg => rfl); (case hr => first | (go_simp; done) | (go_simp; rfl)); intro gb359 hg w33 hbox hb; have BK359 := Aside0.mk (hbox); have GW359 := Aside0.mk ((by rw [hg]; exact (below_size bo) : w.heap.size ≤ gb359)); have GE359 := Aside0.mk ((by rw [hg]; exact (below_size bo) : w.heap.size ≤ gb359)); replace HB := Aside0.mk (below_step bo hb); clear hb hbox hg; obtain ⟨hcz34_0, hcz34_1, hcz34_2, hcz34_3, hcz34_4, hcz34_5⟩ := cl6 BK359.out; obtain ⟨hfz34_0, hfz34_1, hfz34_2, hfz34_3, hfz34_4, hfz34_5⟩ := fz6 BK359.out) | (go_at_call 22; (with_reducible refine (rec_Check.calls k a2_0 a2_1 a2_2 a2_3 a2_4 a2_5 t360 _ A4.out).mono ?_); rintro e w35 ⟨rfl, hb⟩; replace BK359 := Aside0.mk (bb BK359.out hb); replace HB := Aside0.mk (below_step bo hb); (try clear hb); (try clear hb2); (try clear hk); (try clear hi))))
  go_ret
  exact ⟨er, bo⟩

end Go.Proofs.Ytmabdfdmccbfnaa.P

-- written by a program of the proving session, out of the translation; Lean checks it
namespace Go.Proofs.Ytmabdfdmccbfnaa.P
open Go.RowKit Go.Proofs.Ytmabdfdmccbfnaa.Sq Go.Proofs.YtmabdfdmccbfnaaW.PrintWords Go.Proofs.YtmabdfdmccbfnaaW.PrintLast Go.Proofs.YtmabdfdmccbfnaaW.PrintMore
attribute [local go_sem] max2_int min2_int max_two min_two max_three min_three max_four min_four   -- for this text's walks alone
set_option linter.unusedVariables false
set_option linter.unusedSimpArgs false

/-! ### seg_Check: function 46 -/
mutual
def seg_Check.j0 : Nat → Bool → Int → List (S25) → Option (Int)
 | 0, _, _, _ => none
 | k + 1, x12, x364000, x364001 => if x12 = true then (some 1) else (seg_Check.l0 k x364001 (x364001.length : Int) 0 x364000 x364001)
def seg_Check.l0 : Nat → List (S25) → Int → Int → Int → List (S25) → Option (Int)
 | 0, _, _, _, _, _ => none
 | k + 1, x14, x15, x16, x364000, x364001 => if x16 < x15 then (if 0 ≤ x16 then (if x16 < (x14.length : Int) then (if x16 ≤ (x364001.length : Int) then ((seg_behind.f k x364000 (x364001.take (x16 : Int).toNat) ((rd_T25 x14 x16).f0) ((rd_T25 x14 x16).f1) ((rd_T25 x14 x16).f2) ((rd_T25 x14 x16).f3) ((rd_T25 x14 x16).f4) ((rd_T25 x14 x16).f5)).bind fun t370 => (if t370 = true then (seg_Check.l0 k x14 x15 (wrap64 (x16 + 1)) x364000 x364001) else (some 1))) else (none)) else (none)) else (none)) else (some 0)
end
def seg_Check.f (k : Nat) (a0_0 : Int) (l0_1 : List (S25)) : Option (Int) := if a0_0 < 0 then (seg_Check.j0 k true a0_0 l0_1) else (seg_Check.j0 k (decide (a0_0 > 1099511627776)) a0_0 l0_1)
theorem seg_Check.mono_l : ∀ k, (∀ y0 y1 y2, LeO (seg_Check.j0 k y0 y1 y2) (seg_Check.j0 (k + 1) y0 y1 y2)) ∧ (∀ y0 y1 y2 y3 y4, LeO (seg_Check.l0 k y0 y1 y2 y3 y4) (seg_Check.l0 (k + 1) y0 y1 y2 y3 y4))
 | 0 => ⟨fun _ _ _ r h => by simp [seg_Check.j0] at h, fun _ _ _ _ _ r h => by simp [seg_Check.l0] at h⟩
 | k + 1 => by
  obtain ⟨ih0, ih1⟩ := seg_Check.mono_l k
  refine ⟨?_, ?_⟩
  ·intro y0 y1 y2
   unfold seg_Check.j0
   repeat' first
   | (with_reducible exact ih0 _ _ _)
   | (with_reducible exact ih1 _ _ _ _ _)
   | (with_reducible exact seg_behind.mono _ _ _ _ _ _ _ _ _)
   | (with_reducible exact LeO.refl _)
   | (with_reducible exact LeO.none _)
   | (with_reducible refine LeO.ite ?_ ?_)
   | (with_reducible refine LeO.bind ?_ (fun _ => ?_))
   | exact ih0 _ _ _
   | exact ih1 _ _ _ _ _
   | exact seg_behind.mono _ _ _ _ _ _ _ _ _
   | exact LeO.none _
   | refine LeO.ite ?_ ?_
   | refine LeO.bind ?_ (fun _ => ?_)
  ·intro y0 y1 y2 y3 y4
   unfold seg_Check.l0
   repeat' first
   | (with_reducible exact ih0 _ _ _)
   | (with_reducible exact ih1 _ _ _ _ _)
   | (with_reducible exact seg_behind.mono _ _ _ _ _ _ _ _ _)
   | (with_reducible exact LeO.refl _)
   | (with_reducible exact LeO.none _)
   | (with_reducible refine LeO.ite ?_ ?_)
   | (with_reducible refine LeO.bind ?_ (fun _ => ?_))
   | exact ih0 _ _ _
   | exact ih1 _ _ _ _ _
   | exact seg_behind.mono _ _ _ _ _ _ _ _ _
   | exact LeO.none _
   | refine LeO.ite ?_ ?_
   | refine LeO.bind ?_ (fun _ => ?_)
theorem seg_Check.mono : ∀ a0 a1 k, LeO (seg_Check.f k a0 a1) (seg_Check.f (k + 1) a0 a1) := by
 intro a0 a1 k
 obtain ⟨ih0, ih1⟩ := seg_Check.mono_l k
 unfold seg_Check.f
 repeat' first
  | (with_reducible exact ih0 _ _ _)
  | (with_reducible exact ih1 _ _ _ _ _)
  | (with_reducible exact seg_behind.mono _ _ _ _ _ _ _ _ _)
  | (with_reducible exact LeO.refl _)
  | (with_reducible exact LeO.none _)
  | (with_reducible refine LeO.ite ?_ ?_)
  | (with_reducible refine LeO.bind ?_ (fun _ => ?_))
  | exact ih0 _ _ _
  | exact ih1 _ _ _ _ _
  | exact seg_behind.mono _ _ _ _ _ _ _ _ _
  | exact LeO.none _
  | refine LeO.ite ?_ ?_
  | refine LeO.bind ?_ (fun _ => ?_)
def seg_Check.T6 : Bool × List (List Nat × List Nat) := (true, [([], []), ([0], [0]), ([], []), ([2], [2]), ([], []), ([3, 4], [3, 4]), ([], []), ([1, 5, 6], [1, 5, 6]), ([7], [7])])
def seg_Check.B6 : List Nat := [0, 1, 0, 4, 0, 28, 0, 127, 255]
theorem seg_Check.tab6 : rtab .any (opsOf Try.f46 6) = seg_Check.T6 := by kernel_rfl
theorem seg_Check.bits6 : waitsOk seg_Check.T6.2 seg_Check.B6 = true := by kernel_rfl
set_option maxHeartbeats 8000000 in
set_option maxRecDepth 100000 in
theorem seg_Check.calls (k : Nat) (a0_0 : Int) (A0_1 : Option Addr) (c0_1 : Nat) (l0_1 : List (S25)) (r : Int) (w : World) (hr0_1 : Kd.C k25 w A0_1 l0_1.length l0_1) (hc0_1 : l0_1.length ≤ c0_1) (h : seg_Check.f k a0_0 l0_1 = some r) :
 Calls Try.prog 46 #[.agg #[.int .i64 a0_0, .slice A0_1 l0_1.length c0_1]] w fun e w' => e = .returned (.int .i64 r) ∧ Below w.heap.size w w' := by
 have hu53 := Try.underlying53
 have hu25 := Try.underlying25
 have HR0_1 := Aside0.mk hr0_1
 have HC0_1 := Aside0.mk hc0_1
 clear hr0_1 hc0_1
 have HB := Aside0.mk (Below.refl w.heap.size w)
 have H : (if a0_0 < 0 then (seg_Check.j0 k true a0_0 l0_1) else (seg_Check.j0 k (decide (a0_0 > 1099511627776)) a0_0 l0_1)) = some r := h
 clear h
 have HC2 := Aside0.mk H
 clear H
 go_enter Try.func46, Try.ntmps46
 go_upto_region 1 with (first | ((with_reducible refine gate_dst (N := 1) rfl ?_); refine box_event ?hg (N := 1) ?hd (cs := #[.int .i64 a0_0, .slice A0_1 l0_1.length c0_1]) (t := 53) ?hr ?_; (case hd => rfl); (case hg => rfl); (case hr => first | (go_simp; done) | (go_simp; rfl)); intro gb363 hg w3 hbox hb; have BK363 := Aside0.mk (hbox); have GW363 := Aside0.mk ((by rw [hg]; exact (below_size bo) : w.heap.size ≤ gb363)); have GE363 := Aside0.mk ((by rw [hg]; exact (below_size bo) : w.heap.size ≤ gb363)); replace HB := Aside0.mk (below_step bo hb); clear hb hbox hg))
 (try simp only [Act.put, List.setIfInBounds_toArray, List.set_cons_zero, List.set_cons_succ])
 go_cut [12] (fun v12 wc => ∃ (kq : Nat) (x12_1 : Bool), v12 = .bool x12_1 ∧ Aside0 (seg_Check.j0 kq x12_1 a0_0 l0_1 = some r) ∧ Aside0 (kq ≤ k) ∧ Aside0 (wc.heap[gb363]? = some (.cells #[.int .i64 a0_0, (.slice A0_1 l0_1.length c0_1)] 53 (0, 0))) ∧ Aside0 (Below w.heap.size w wc))
 case first =>
  have H := HC2.out
  clear HC2
  by_cases c4 : a0_0 < 0
  ·rw [if_pos c4] at H
   have c4b0 : decide (a0_0 < 0) = true := decide_eq_true c4
   clear c4
   (first | rw [c4b0] | (simp only [i64_w, i32_w]; rw [c4b0]) | skip)
   have H' := Aside0.mk H
   clear H
   have hcz5_0 : w3.cell? ⟨gb363, 0, none⟩ = some (.int .i64 a0_0) := (blk_cell BK363.out 0).trans rfl
   have hcz5_1 : w3.cell? ⟨gb363, 1, none⟩ = some (.slice A0_1 l0_1.length c0_1) := (blk_cell BK363.out 1).trans rfl
   have hfz5_0 := blk_frozen BK363.out 0
   have hfz5_1 := blk_frozen BK363.out 1
   go_wp2
   go_meet
   case rel => exact ⟨_, (true), ap, H', ⟨by first | omega | exact Nat.le_refl _⟩, ⟨by (with_reducible repeat (first | refine blk_drewN ?_ _ | refine blk_drew ?_ | refine blk_alloc ?_ _)); exact BK363.out⟩, ⟨bo⟩⟩
  ·rw [if_neg c4] at H
   have c4b0 : decide (a0_0 < 0) = false := decide_eq_false c4
   clear c4
   (first | rw [c4b0] | (simp only [i64_w, i32_w]; rw [c4b0]) | skip)
   have H' := Aside0.mk H
   clear H
   have hcz6_0 : w3.cell? ⟨gb363, 0, none⟩ = some (.int .i64 a0_0) := (blk_cell BK363.out 0).trans rfl
   have hcz6_1 : w3.cell? ⟨gb363, 1, none⟩ = some (.slice A0_1 l0_1.length c0_1) := (blk_cell BK363.out 1).trans rfl
   have hfz6_0 := blk_frozen BK363.out 0
   have hfz6_1 := blk_frozen BK363.out 1
   go_wp2
   go_meet
   case rel => exact ⟨_, (decide (a0_0 > 1099511627776)), ap, H', ⟨by first | omega | exact Nat.le_refl _⟩, ⟨by (with_reducible repeat (first | refine blk_drewN ?_ _ | refine blk_drew ?_ | refine blk_alloc ?_ _)); exact BK363.out⟩, ⟨bo⟩⟩
 case rest =>
  clear HC2
  (try clear p2); (try clear c4); (try clear c4b0); (try clear hcz5_0); (try clear hcz5_1); (try clear hcz6_0); (try clear hcz6_1); (try clear hfz5_0); (try clear hfz5_1); (try clear hfz6_0); (try clear hfz6_1)
  obtain ⟨kq, x12_1, rfl, HA, HJ1, BK363, HB⟩ := hcut
  cases kq with
  | zero => exact absurd HA.out (by simp [seg_Check.j0])
  | succ kj1 =>
   have H := HA.out
   clear HA
   simp only [seg_Check.j0] at H
   by_cases c7 : x12_1 = true
   ·subst c7
    have H1 : (some 1) = some r := by rw [if_pos rfl] at H; exact H
    clear H
    have H := H1
    clear H1
    obtain rfl := Option.some.inj H
    go_wp2
    go_ret
    exact ⟨er, bo⟩
   ·replace c7 := Bool.eq_false_iff.mpr c7
    subst c7
    have H1 : (seg_Check.l0 kj1 l0_1 (l0_1.length : Int) 0 a0_0 l0_1) = some r := by rw [if_neg (show ¬ (false = true) by decide)] at H; exact H
    clear H
    have H := H1
    clear H1
    have H' := Aside0.mk H
    clear H
    have hcz8_0 : wc.cell? ⟨gb363, 0, none⟩ = some (.int .i64 a0_0) := (blk_cell BK363.out 0).trans rfl
    have hcz8_1 : wc.cell? ⟨gb363, 1, none⟩ = some (.slice A0_1 l0_1.length c0_1) := (blk_cell BK363.out 1).trans rfl
    have hfz8_0 := blk_frozen BK363.out 0
    have hfz8_1 := blk_frozen BK363.out 1
    go_wp2
    go_loopg [16] kj1 (fun kq v16 w' => ∃ (x16_2 : Int), v16 = .int .i64 x16_2 ∧ Aside0 (seg_Check.l0 kq l0_1 (l0_1.length : Int) x16_2 a0_0 l0_1 = some r) ∧ Aside0 (kq ≤ kj1) ∧ Aside0 (w'.heap[gb363]? = some (.cells #[.int .i64 a0_0, (.slice A0_1 l0_1.length c0_1)] 53 (0, 0))) ∧ Aside0 (Below w.heap.size w w'))
    case atStart => exact ⟨(0), ap, H', ⟨Nat.le_refl _⟩, ⟨by (with_reducible repeat (first | refine blk_drewN ?_ _ | refine blk_drew ?_ | refine blk_alloc ?_ _)); exact BK363.out⟩, ⟨bo⟩⟩
    case round =>
     clear H'
     (try clear p2); (try clear c4); (try clear c4b0); (try clear c7); (try clear hcz5_0); (try clear hcz5_1); (try clear hcz6_0); (try clear hcz6_1); (try clear hcz8_0); (try clear hcz8_1); (try clear hfz5_0); (try clear hfz5_1); (try clear hfz6_0); (try clear hfz6_1); (try clear hfz8_0); (try clear hfz8_1); (try clear p2)
     obtain ⟨x16_2, rfl, HA, HK2, BK363, HB⟩ := hrel
     cases gk with
     | zero => exact absurd HA.out (by simp [seg_Check.l0])
     | succ k2 =>
      have H := HA.out
      clear HA
      simp only [seg_Check.l0] at H
      by_cases c9 : x16_2 < (l0_1.length : Int)
      ·rw [if_pos c9] at H
       have c9b0 : decide (x16_2 < (l0_1.length : Int)) = true := decide_eq_true c9
       clear c9
       by_cases c10 : 0 ≤ x16_2
       ·rw [if_pos c10] at H
        have c10b0 : decide (0 ≤ x16_2) = true := decide_eq_true c10
        clear c10
        by_cases c11 : x16_2 < (l0_1.length : Int)
        ·rw [if_pos c11] at H
         have c11b0 : decide (x16_2 < (l0_1.length : Int)) = true := decide_eq_true c11
         clear c11
         have c12b0 := eq_true (od : 0 ≤ x16_2)
         by_cases c13 : x16_2 ≤ (l0_1.length : Int)
         ·rw [if_pos c13] at H
          have c13b0 := eq_true c13
          have c13b1 : decide (x16_2 ≤ (l0_1.length : Int)) = true := decide_eq_true c13
          clear c13
          obtain ⟨y366, hy366⟩ : ∃ y_ : List (S25), y_ = (l0_1.take (x16_2 : Int).toNat) := ⟨_, rfl⟩
          replace H : ((seg_behind.f k2 a0_0 y366 ((rd_T25 l0_1 x16_2).f0) ((rd_T25 l0_1 x16_2).f1) ((rd_T25 l0_1 x16_2).f2) ((rd_T25 l0_1 x16_2).f3) ((rd_T25 l0_1 x16_2).f4) ((rd_T25 l0_1 x16_2).f5)).bind fun t370 => (if t370 = true then (seg_Check.l0 k2 l0_1 (l0_1.length : Int) (wrap64 (x16_2 + 1)) a0_0 l0_1) else (some 1))) = some r := by first | (rw [hy366]; with_reducible exact H) | (have H2_ := (Option.bind_some _ _).symm.trans H; rw [hy366]; with_reducible exact H2_) | (have H2_ := (Option.bind_some _ _).symm.trans H; with_reducible exact H2_) | with_reducible exact H | (rw [hy366]; exact H) | exact H
          have Ny366 := Aside0.mk hy366
          clear hy366
          replace H := Option.bind_eq_some_iff.mp H
          obtain ⟨t370, A140, H⟩ := H
          try dsimp only at H
          have A14 := Aside0.mk A140
          clear A140
          by_cases c15 : t370 = true
          ·subst c15
           have H1 : (seg_Check.l0 k2 l0_1 (l0_1.length : Int) (wrap64 (x16_2 + 1)) a0_0 l0_1) = some r := by rw [if_pos rfl] at H; exact H
           clear H
           have H := H1
           clear H1
           have H' := Aside0.mk H
           clear H
           have p364 : 0 ≤ (x16_2 : Int) := od
           have q364 : x16_2 < (l0_1.length : Int) := od
           obtain ⟨ad364, e364, hx364_0, hx364_1, hx364_2, hx364_3, hx364_4, hx364_5⟩ := at_T25 HR0_1.out x16_2 p364 q364
           cases e364
           replace hx364_0 := cx HB.out hx364_0
           replace hx364_1 := cx HB.out hx364_1
           replace hx364_2 := cx HB.out hx364_2
           replace hx364_3 := cx HB.out hx364_3
           replace hx364_4 := cx HB.out hx364_4
           replace hx364_5 := cx HB.out hx364_5
           replace p364 := eq_true p364
           replace q364 := eq_true q364
           try go_wp2_with (first | ((with_reducible refine gate_dst (N := 4) rfl ?_); refine box_event ?hg (N := 4) ?hd (cs := #[.int .i64 0, .int .i64 0, .string (⟨#[]⟩ : ByteArray), .string (⟨#[]⟩ : ByteArray), .int .i64 0, .bool false]) (t := 25) ?hr ?_; (case hd => rfl); (case hg => rfl); (case hr => first | (go_simp; done) | (go_simp; rfl)); intro gb365 hg w16 hbox hb; have BK365 := Aside0.mk (hbox); have GW365 := Aside0.mk ((by rw [hg]; exact (below_size bo) : w.heap.size ≤ gb365)); have GE365 := Aside0.mk ((by rw [hg]; exact (below_size bo) : w.heap.size ≤ gb365)); replace HB := Aside0.mk (below_step bo hb); have NB363_365 := Aside0.mk (nl BK363.out hg); have NB365_363 := Aside0.mk (ng BK363.out hg); replace BK363 := Aside0.mk (bb BK363.out hb); clear hb hbox hg; have hnb17 := NB365_363.out; have hnc17 := NB363_365.out; obtain ⟨hcz18_0, hcz18_1, hcz18_2, hcz18_3, hcz18_4, hcz18_5⟩ := cl6 BK365.out; obtain ⟨hfz18_0, hfz18_1, hfz18_2, hfz18_3, hfz18_4, hfz18_5⟩ := fz6 BK365.out))
           (try (rw [drewN_self w16]; generalize hq_ : World.drewN w16 _ = w16; have n0_ := Aside0.mk (blk_at hq_ BK363.out); have n1_ := Aside0.mk (blk_at hq_ BK365.out); have n2_ := Aside0.mk (below_at hq_ HB.out); clear hq_ BK363 BK365 HB; have BK363 := n0_; have BK365 := n1_; have HB := n2_; clear n0_ n1_ n2_))
           have n0_ : Aside0 (((((((w16.setCell ⟨gb365, 0, none⟩ (.int .i64 ((rd_T25 l0_1 x16_2).f0))).setCell ⟨gb365, 1, none⟩ (.int .i64 ((rd_T25 l0_1 x16_2).f1))).setCell ⟨gb365, 2, none⟩ (.string ((rd_T25 l0_1 x16_2).f2))).setCell ⟨gb365, 3, none⟩ (.string ((rd_T25 l0_1 x16_2).f3))).setCell ⟨gb365, 4, none⟩ (.int .i64 ((rd_T25 l0_1 x16_2).f4))).setCell ⟨gb365, 5, none⟩ (.bool ((rd_T25 l0_1 x16_2).f5))).heap[gb363]? = some (.cells #[.int .i64 a0_0, .slice (some ad364) l0_1.length c0_1] 53 (0, 0))) := ⟨by (with_reducible repeat (first | refine blk_drewN ?_ _ | refine blk_drew ?_ | refine blk_alloc ?_ _)); refine blk_far ?_ NB363_365.out _; (with_reducible repeat (first | refine blk_drewN ?_ _ | refine blk_drew ?_ | refine blk_alloc ?_ _)); refine blk_far ?_ NB363_365.out _; (with_reducible repeat (first | refine blk_drewN ?_ _ | refine blk_drew ?_ | refine blk_alloc ?_ _)); refine blk_far ?_ NB363_365.out _; (with_reducible repeat (first | refine blk_drewN ?_ _ | refine blk_drew ?_ | refine blk_alloc ?_ _)); refine blk_far ?_ NB363_365.out _; (with_reducible repeat (first | refine blk_drewN ?_ _ | refine blk_drew ?_ | refine blk_alloc ?_ _)); refine blk_far ?_ NB363_365.out _; (with_reducible repeat (first | refine blk_drewN ?_ _ | refine blk_drew ?_ | refine blk_alloc ?_ _)); refine blk_far ?_ NB363_365.out _; (with_reducible repeat (first | refine blk_drewN ?_ _ | refine blk_drew ?_ | refine blk_alloc ?_ _)); exact BK363.out⟩
           have n1_ : Aside0 (((((((w16.setCell ⟨gb365, 0, none⟩ (.int .i64 ((rd_T25 l0_1 x16_2).f0))).setCell ⟨gb365, 1, none⟩ (.int .i64 ((rd_T25 l0_1 x16_2).f1))).setCell ⟨gb365, 2, none⟩ (.string ((rd_T25 l0_1 x16_2).f2))).setCell ⟨gb365, 3, none⟩ (.string ((rd_T25 l0_1 x16_2).f3))).setCell ⟨gb365, 4, none⟩ (.int .i64 ((rd_T25 l0_1 x16_2).f4))).setCell ⟨gb365, 5, none⟩ (.bool ((rd_T25 l0_1 x16_2).f5))).heap[gb365]? = some (.cells #[.int .i64 ((rd_T25 l0_1 x16_2).f0), .int .i64 ((rd_T25 l0_1 x16_2).f1), .string ((rd_T25 l0_1 x16_2).f2), .string ((rd_T25 l0_1 x16_2).f3), .int .i64 ((rd_T25 l0_1 x16_2).f4), .bool ((rd_T25 l0_1 x16_2).f5)] 25 (0, 0))) := ⟨by (with_reducible repeat (first | refine blk_drewN ?_ _ | refine blk_drew ?_ | refine blk_alloc ?_ _)); refine blk_put (cs := #[.int .i64 ((rd_T25 l0_1 x16_2).f0), .int .i64 ((rd_T25 l0_1 x16_2).f1), .string ((rd_T25 l0_1 x16_2).f2), .string ((rd_T25 l0_1 x16_2).f3), .int .i64 ((rd_T25 l0_1 x16_2).f4), .bool false]) ?_ 5 _ rfl; (with_reducible repeat (first | refine blk_drewN ?_ _ | refine blk_drew ?_ | refine blk_alloc ?_ _)); refine blk_put (cs := #[.int .i64 ((rd_T25 l0_1 x16_2).f0), .int .i64 ((rd_T25 l0_1 x16_2).f1), .string ((rd_T25 l0_1 x16_2).f2), .string ((rd_T25 l0_1 x16_2).f3), .int .i64 0, .bool false]) ?_ 4 _ rfl; (with_reducible repeat (first | refine blk_drewN ?_ _ | refine blk_drew ?_ | refine blk_alloc ?_ _)); refine blk_put (cs := #[.int .i64 ((rd_T25 l0_1 x16_2).f0), .int .i64 ((rd_T25 l0_1 x16_2).f1), .string ((rd_T25 l0_1 x16_2).f2), .string (⟨#[]⟩ : ByteArray), .int .i64 0, .bool false]) ?_ 3 _ rfl; (with_reducible repeat (first | refine blk_drewN ?_ _ | refine blk_drew ?_ | refine blk_alloc ?_ _)); refine blk_put (cs := #[.int .i64 ((rd_T25 l0_1 x16_2).f0), .int .i64 ((rd_T25 l0_1 x16_2).f1), .string (⟨#[]⟩ : ByteArray), .string (⟨#[]⟩ : ByteArray), .int .i64 0, .bool false]) ?_ 2 _ rfl; (with_reducible repeat (first | refine blk_drewN ?_ _ | refine blk_drew ?_ | refine blk_alloc ?_ _)); refine blk_put (cs := #[.int .i64 ((rd_T25 l0_1 x16_2).f0), .int .i64 0, .string (⟨#[]⟩ : ByteArray), .string (⟨#[]⟩ : ByteArray), .int .i64 0, .bool false]) ?_ 1 _ rfl; (with_reducible repeat (first | refine blk_drewN ?_ _ | refine blk_drew ?_ | refine blk_alloc ?_ _)); refine blk_put (cs := #[.int .i64 0, .int .i64 0, .string (⟨#[]⟩ : ByteArray), .string (⟨#[]⟩ : ByteArray), .int .i64 0, .bool false]) ?_ 0 _ rfl; (with_reducible repeat (first | refine blk_drewN ?_ _ | refine blk_drew ?_ | refine blk_alloc ?_ _)); exact BK365.out⟩
           have n2_ : Aside0 (Below w.heap.size w ((((((w16.setCell ⟨gb365, 0, none⟩ (.int .i64 ((rd_T25 l0_1 x16_2).f0))).setCell ⟨gb365, 1, none⟩ (.int .i64 ((rd_T25 l0_1 x16_2).f1))).setCell ⟨gb365, 2, none⟩ (.string ((rd_T25 l0_1 x16_2).f2))).setCell ⟨gb365, 3, none⟩ (.string ((rd_T25 l0_1 x16_2).f3))).setCell ⟨gb365, 4, none⟩ (.int .i64 ((rd_T25 l0_1 x16_2).f4))).setCell ⟨gb365, 5, none⟩ (.bool ((rd_T25 l0_1 x16_2).f5)))) := ⟨bo⟩
           (try clear BK363)
           (try clear BK365)
           (try clear HB)
           generalize ((((((w16.setCell ⟨gb365, 0, none⟩ (.int .i64 ((rd_T25 l0_1 x16_2).f0))).setCell ⟨gb365, 1, none⟩ (.int .i64 ((rd_T25 l0_1 x16_2).f1))).setCell ⟨gb365, 2, none⟩ (.string ((rd_T25 l0_1 x16_2).f2))).setCell ⟨gb365, 3, none⟩ (.string ((rd_T25 l0_1 x16_2).f3))).setCell ⟨gb365, 4, none⟩ (.int .i64 ((rd_T25 l0_1 x16_2).f4))).setCell ⟨gb365, 5, none⟩ (.bool ((rd_T25 l0_1 x16_2).f5))) = w19 at n0_ n1_ n2_ ⊢
           have BK363 := n0_
           have BK365 := n1_
           have HB := n2_
           clear n0_ n1_ n2_
           replace BK363 := Aside0.mk (blk_drew BK363.out)
           replace BK365 := Aside0.mk (blk_drew BK365.out)
           replace HB := Aside0.mk (below_drew1 HB.out)
           have q21 : (x16_2 : Int) ≤ ((l0_1.length : Int) : Int) := od
           obtain ⟨i021, hi021, _, hsz21, _⟩ := info_parts info25
           have hroom21 : l0_1.length ≤ c0_1 := HC0_1.out
           have hC21 : Kd.C k25 _ (some ad364) l0_1.length l0_1 := HR0_1.out
           have hcut21 := cut_to (P := Try.prog) 36 25 .i64 Try.underlying36 hi021 (some ad364) l0_1.length c0_1 x16_2 (od) q21 hroom21
           have hr21 := Kd.C_take (m := (x16_2 : Int).toNat) hC21 (by omega)
           have hy21 : y366.length = (x16_2 : Int).toNat := (by rw [Ny366.out, List.length_take]; omega)
           rw [← Ny366.out] at hr21
           rw [← hy21] at hcut21
           have HR369 := Aside0.mk hr21
           have HC369 := Aside0.mk (show y366.length ≤ c0_1 from by omega)
           clear hr21 hC21 hroom21 hi021 hsz21
           have KY21 := Aside0.mk hy21
           clear hy21
           replace q21 := eq_true q21
           refine start_ (n := 9) (S := fun w' => w'.cell? ⟨gb363, 0, none⟩ = some (.int .i64 a0_0) ∧ w'.cell? ⟨gb363, 1, none⟩ = some (.slice (some ad364) l0_1.length c0_1) ∧ w'.cell? ⟨gb365, 0, none⟩ = some (.int .i64 ((rd_T25 l0_1 x16_2).f0)) ∧ w'.cell? ⟨gb365, 1, none⟩ = some (.int .i64 ((rd_T25 l0_1 x16_2).f1)) ∧ w'.cell? ⟨gb365, 2, none⟩ = some (.string ((rd_T25 l0_1 x16_2).f2)) ∧ w'.cell? ⟨gb365, 3, none⟩ = some (.string ((rd_T25 l0_1 x16_2).f3)) ∧ w'.cell? ⟨gb365, 4, none⟩ = some (.int .i64 ((rd_T25 l0_1 x16_2).f4)) ∧ w'.cell? ⟨gb365, 5, none⟩ = some (.bool ((rd_T25 l0_1 x16_2).f5))) (ds := []) #[O,O,O,O,O,O,O,O,O] (by kernel_rfl) rfl rfl ⟨(blk_cell BK363.out 0).trans rfl, (blk_cell BK363.out 1).trans rfl, (blk_cell BK365.out 0).trans rfl, (blk_cell BK365.out 1).trans rfl, (blk_cell BK365.out 2).trans rfl, (blk_cell BK365.out 3).trans rfl, (blk_cell BK365.out 4).trans rfl, (blk_cell BK365.out 5).trans rfl⟩ (fun hHeld => ?_); refine with_tabW seg_Check.tab6 seg_Check.bits6 (fun HT_ HW_ => ?_)
           generalize w19.drew = w20 at BK363 BK365 HB HR369 hHeld ⊢
           refine pz (i := 0) (N := some 21) #[I,O,O,O,O,O,O,O,O] ?_
           refine pz (i := 2) (N := some 23) #[I,O,I,O,O,O,O,O,O] ?_
           refine pz (i := 4) (N := some 25) #[I,O,I,O,I,O,O,O,O] ?_
           refine tz (i := 1) (N := some 22) #[I,I,I,O,I,O,O,O,O] ?_
           refine tz (i := 3) (N := some 24) #[I,I,I,I,I,O,O,O,O] ?_
           refine pz (i := 5) (N := some 26) #[I,I,I,I,I,I,O,O,O] ?_
           refine tz (i := 6) (N := some 27) #[I,I,I,I,I,I,I,O,O] ?_
           refine one_ (i := 7) (N := some 28) #[I,I,I,I,I,I,I,I,O] rfl rfl (one_of HT_.out (by kernel_rfl)) (by decide) (fun K hK => ?_)
           refine goes_ Try.func75 (by kernel_rfl) rfl #[.int .i64 a0_0, .slice (some ad364) y366.length c0_1, .agg #[.int .i64 ((rd_T25 l0_1 x16_2).f0), .int .i64 ((rd_T25 l0_1 x16_2).f1), .string ((rd_T25 l0_1 x16_2).f2), .string ((rd_T25 l0_1 x16_2).f3), .int .i64 ((rd_T25 l0_1 x16_2).f4), .bool ((rd_T25 l0_1 x16_2).f5)]] (by rfl) rfl rfl aa ?_
           with_reducible refine (seg_behind.calls k2 a0_0 _ _ y366 ((rd_T25 l0_1 x16_2).f0) ((rd_T25 l0_1 x16_2).f1) ((rd_T25 l0_1 x16_2).f2) ((rd_T25 l0_1 x16_2).f3) ((rd_T25 l0_1 x16_2).f4) ((rd_T25 l0_1 x16_2).f5) true _ ?side1 ?side2 A14.out).mono ?_
           (case side1 => repeat (first | exact (Kd.C_below HR369.out HB.out) | (with_reducible refine Kd.C_alloc ?_ _) | (with_reducible refine Kd.C_drewN ?_ _) | (with_reducible refine Kd.C_drew ?_)))
           (case side2 => exact HC369.out)
           rintro e w22 ⟨rfl, hb⟩
           refine ⟨_, rfl, ?_⟩
           replace BK363 := Aside0.mk (bb BK363.out hb)
           replace BK365 := Aside0.mk (bb BK365.out hb)
           replace HB := Aside0.mk (below_step bo hb)
           (try clear hb)
           (try clear hb2)
           (try clear hk)
           (try clear hi)
           refine hK.out _ _ ⟨(blk_cell BK363.out 0).trans rfl, (blk_cell BK363.out 1).trans rfl, (blk_cell BK365.out 0).trans rfl, (blk_cell BK365.out 1).trans rfl, (blk_cell BK365.out 2).trans rfl, (blk_cell BK365.out 3).trans rfl, (blk_cell BK365.out 4).trans rfl, (blk_cell BK365.out 5).trans rfl⟩ (fun hHeld => ?_)
           clear hK K
           refine nz (N := (some 28)) ?_
           refine pz (i := 8) (N := some 29) #[I,I,I,I,I,I,I,I,I] ?_
           refine done_ (done_of HT_.out (by kernel_rfl)) ?_
           try go_wp2
           go_roundg k2
           case measure => have := HJ1.out; have := HK2.out; omega
           case rel => exact ⟨(wrap64 (x16_2 + 1)), ap, H', ⟨by have := HJ1.out; have := HK2.out; omega⟩, ⟨by (with_reducible repeat (first | refine blk_drewN ?_ _ | refine blk_drew ?_ | refine blk_alloc ?_ _)); exact BK363.out⟩, ⟨bo⟩⟩
          ·replace c15 := Bool.eq_false_iff.mpr c15
           subst c15
           have H1 : (some 1) = some r := by rw [if_neg (show ¬ (false = true) by decide)] at H; exact H
           clear H
           have H := H1
           clear H1
           obtain rfl := Option.some.inj H
           have p364 : 0 ≤ (x16_2 : Int) := od
           have q364 : x16_2 < (l0_1.length : Int) := od
           obtain ⟨ad364, e364, hx364_0, hx364_1, hx364_2, hx364_3, hx364_4, hx364_5⟩ := at_T25 HR0_1.out x16_2 p364 q364
           cases e364
           replace hx364_0 := cx HB.out hx364_0
           replace hx364_1 := cx HB.out hx364_1
           replace hx364_2 := cx HB.out hx364_2
           replace hx364_3 := cx HB.out hx364_3
           replace hx364_4 := cx HB.out hx364_4
           replace hx364_5 := cx HB.out hx364_5
           replace p364 := eq_true p364
           replace q364 := eq_true q364
           try go_wp2_with (first | ((with_reducible refine gate_dst (N := 4) rfl ?_); refine box_event ?hg (N := 4) ?hd (cs := #[.int .i64 0, .int .i64 0, .string (⟨#[]⟩ : ByteArray), .string (⟨#[]⟩ : ByteArray), .int .i64 0, .bool false]) (t := 25) ?hr ?_; (case hd => rfl); (case hg => rfl); (case hr => first | (go_simp; done) | (go_simp; rfl)); intro gb365 hg w23 hbox hb; have BK365 := Aside0.mk (hbox); have GW365 := Aside0.mk ((by rw [hg]; exact (below_size bo) : w.heap.size ≤ gb365)); have GE365 := Aside0.mk ((by rw [hg]; exact (below_size bo) : w.heap.size ≤ gb365)); replace HB := Aside0.mk (below_step bo hb); have NB363_365 := Aside0.mk (nl BK363.out hg); have NB365_363 := Aside0.mk (ng BK363.out hg); replace BK363 := Aside0.mk (bb BK363.out hb); clear hb hbox hg; have hnb24 := NB365_363.out; have hnc24 := NB363_365.out; obtain ⟨hcz25_0, hcz25_1, hcz25_2, hcz25_3, hcz25_4, hcz25_5⟩ := cl6 BK365.out; obtain ⟨hfz25_0, hfz25_1, hfz25_2, hfz25_3, hfz25_4, hfz25_5⟩ := fz6 BK365.out))
           (try (rw [drewN_self w23]; generalize hq_ : World.drewN w23 _ = w23; have n0_ := Aside0.mk (blk_at hq_ BK363.out); have n1_ := Aside0.mk (blk_at hq_ BK365.out); have n2_ := Aside0.mk (below_at hq_ HB.out); clear hq_ BK363 BK365 HB; have BK363 := n0_; have BK365 := n1_; have HB := n2_; clear n0_ n1_ n2_))
           have n0_ : Aside0 (((((((w23.setCell ⟨gb365, 0, none⟩ (.int .i64 ((rd_T25 l0_1 x16_2).f0))).setCell ⟨gb365, 1, none⟩ (.int .i64 ((rd_T25 l0_1 x16_2).f1))).setCell ⟨gb365, 2, none⟩ (.string ((rd_T25 l0_1 x16_2).f2))).setCell ⟨gb365, 3, none⟩ (.string ((rd_T25 l0_1 x16_2).f3))).setCell ⟨gb365, 4, none⟩ (.int .i64 ((rd_T25 l0_1 x16_2).f4))).setCell ⟨gb365, 5, none⟩ (.bool ((rd_T25 l0_1 x16_2).f5))).heap[gb363]? = some (.cells #[.int .i64 a0_0, .slice (some ad364) l0_1.length c0_1] 53 (0, 0))) := ⟨by (with_reducible repeat (first | refine blk_drewN ?_ _ | refine blk_drew ?_ | refine blk_alloc ?_ _)); refine blk_far ?_ NB363_365.out _; (with_reducible repeat (first | refine blk_drewN ?_ _ | refine blk_drew ?_ | refine blk_alloc ?_ _)); refine blk_far ?_ NB363_365.out _; (with_reducible repeat (first | refine blk_drewN ?_ _ | refine blk_drew ?_ | refine blk_alloc ?_ _)); refine blk_far ?_ NB363_365.out _; (with_reducible repeat (first | refine blk_drewN ?_ _ | refine blk_drew ?_ | refine blk_alloc ?_ _)); refine blk_far ?_ NB363_365.out _; (with_reducible repeat (first | refine blk_drewN ?_ _ | refine blk_drew ?_ | refine blk_alloc ?_ _)); refine blk_far ?_ NB363_365.out _; (with_reducible repeat (first | refine blk_drewN ?_ _ | refine blk_drew ?_ | refine blk_alloc ?_ _)); refine blk_far ?_ NB363_365.out _; (with_reducible repeat (first | refine blk_drewN ?_ _ | refine blk_drew ?_ | refine blk_alloc ?_ _)); exact BK363.out⟩
           have n1_ : Aside0 (((((((w23.setCell ⟨gb365, 0, none⟩ (.int .i64 ((rd_T25 l0_1 x16_2).f0))).setCell ⟨gb365, 1, none⟩ (.int .i64 ((rd_T25 l0_1 x16_2).f1))).setCell ⟨gb365, 2, none⟩ (.string ((rd_T25 l0_1 x16_2).f2))).setCell ⟨gb365, 3, none⟩ (.string ((rd_T25 l0_1 x16_2).f3))).setCell ⟨gb365, 4, none⟩ (.int .i64 ((rd_T25 l0_1 x16_2).f4))).setCell ⟨gb365, 5, none⟩ (.bool ((rd_T25 l0_1 x16_2).f5))).heap[gb365]? = some (.cells #[.int .i64 ((rd_T25 l0_1 x16_2).f0), .int .i64 ((rd_T25 l0_1 x16_2).f1), .string ((rd_T25 l0_1 x16_2).f2), .string ((rd_T25 l0_1 x16_2).f3), .int .i64 ((rd_T25 l0_1 x16_2).f4), .bool ((rd_T25 l0_1 x16_2).f5)] 25 (0, 0))) := ⟨by (with_reducible repeat (first | refine blk_drewN ?_ _ | refine blk_drew ?_ | refine blk_alloc ?_ _)); refine blk_put (cs := #[.int .i64 ((rd_T25 l0_1 x16_2).f0), .int .i64 ((rd_T25 l0_1 x16_2).f1), .string ((rd_T25 l0_1 x16_2).f2), .string ((rd_T25 l0_1 x16_2).f3), .int .i64 ((rd_T25 l0_1 x16_2).f4), .bool false]) ?_ 5 _ rfl; (with_reducible repeat (first | refine blk_drewN ?_ _ | refine blk_drew ?_ | refine blk_alloc ?_ _)); refine blk_put (cs := #[.int .i64 ((rd_T25 l0_1 x16_2).f0), .int .i64 ((rd_T25 l0_1 x16_2).f1), .string ((rd_T25 l0_1 x16_2).f2), .string ((rd_T25 l0_1 x16_2).f3), .int .i64 0, .bool false]) ?_ 4 _ rfl; (with_reducible repeat (first | refine blk_drewN ?_ _ | refine blk_drew ?_ | refine blk_alloc ?_ _)); refine blk_put (cs := #[.int .i64 ((rd_T25 l0_1 x16_2).f0), .int .i64 ((rd_T25 l0_1 x16_2).f1), .string ((rd_T25 l0_1 x16_2).f2), .string (⟨#[]⟩ : ByteArray), .int .i64 0, .bool false]) ?_ 3 _ rfl; (with_reducible repeat (first | refine blk_drewN ?_ _ | refine blk_drew ?_ | refine blk_alloc ?_ _)); refine blk_put (cs := #[.int .i64 ((rd_T25 l0_1 x16_2).f0), .int .i64 ((rd_T25 l0_1 x16_2).f1), .string (⟨#[]⟩ : ByteArray), .string (⟨#[]⟩ : ByteArray), .int .i64 0, .bool false]) ?_ 2 _ rfl; (with_reducible repeat (first | refine blk_drewN ?_ _ | refine blk_drew ?_ | refine blk_alloc ?_ _)); refine blk_put (cs := #[.int .i64 ((rd_T25 l0_1 x16_2).f0), .int .i64 0, .string (⟨#[]⟩ : ByteArray), .string (⟨#[]⟩ : ByteArray), .int .i64 0, .bool false]) ?_ 1 _ rfl; (with_reducible repeat (first | refine blk_drewN ?_ _ | refine blk_drew ?_ | refine blk_alloc ?_ _)); refine blk_put (cs := #[.int .i64 0, .int .i64 0, .string (⟨#[]⟩ : ByteArray), .string (⟨#[]⟩ : ByteArray), .int .i64 0, .bool false]) ?_ 0 _ rfl; (with_reducible repeat (first | refine blk_drewN ?_ _ | refine blk_drew ?_ | refine blk_alloc ?_ _)); exact BK365.out⟩
           have n2_ : Aside0 (Below w.heap.size w ((((((w23.setCell ⟨gb365, 0, none⟩ (.int .i64 ((rd_T25 l0_1 x16_2).f0))).setCell ⟨gb365, 1, none⟩ (.int .i64 ((rd_T25 l0_1 x16_2).f1))).setCell ⟨gb365, 2, none⟩ (.string ((rd_T25 l0_1 x16_2).f2))).setCell ⟨gb365, 3, none⟩ (.string ((rd_T25 l0_1 x16_2).f3))).setCell ⟨gb365, 4, none⟩ (.int .i64 ((rd_T25 l0_1 x16_2).f4))).setCell ⟨gb365, 5, none⟩ (.bool ((rd_T25 l0_1 x16_2).f5)))) := ⟨bo⟩
           (try clear BK363)
           (try clear BK365)
           (try clear HB)
           generalize ((((((w23.setCell ⟨gb365, 0, none⟩ (.int .i64 ((rd_T25 l0_1 x16_2).f0))).setCell ⟨gb365, 1, none⟩ (.int .i64 ((rd_T25 l0_1 x16_2).f1))).setCell ⟨gb365, 2, none⟩ (.string ((rd_T25 l0_1 x16_2).f2))).setCell ⟨gb365, 3, none⟩ (.string ((rd_T25 l0_1 x16_2).f3))).setCell ⟨gb365, 4, none⟩ (.int .i64 ((rd_T25 l0_1 x16_2).f4))).setCell ⟨gb365, 5, none⟩ (.bool ((rd_T25 l0_1 x16_2).f5))) = w26 at n0_ n1_ n2_ ⊢
           have BK363 := n0_
           have BK365 := n1_
           have HB := n2_
           clear n0_ n1_ n2_
           replace BK363 := Aside0.mk (blk_drew BK363.out)
           replace BK365 := Aside0.mk (blk_drew BK365.out)
           replace HB := Aside0.mk (below_drew1 HB.out)
           have q28 : (x16_2 : Int) ≤ ((l0_1.length : Int) : Int) := od
           obtain ⟨i028, hi028, _, hsz28, _⟩ := info_parts info25
           have hroom28 : l0_1.length ≤ c0_1 := HC0_1.out
           have hC28 : Kd.C k25 _ (some ad364) l0_1.length l0_1 := HR0_1.out
           have hcut28 := cut_to (P := Try.prog) 36 25 .i64 Try.underlying36 hi028 (some ad364) l0_1.length c0_1 x16_2 (od) q28 hroom28
           have hr28 := Kd.C_take (m := (x16_2 : Int).toNat) hC28 (by omega)
           have hy28 : y366.length = (x16_2 : Int).toNat := (by rw [Ny366.out, List.length_take]; omega)
           rw [← Ny366.out] at hr28
           rw [← hy28] at hcut28
           have HR369 := Aside0.mk hr28
           have HC369 := Aside0.mk (show y366.length ≤ c0_1 from by omega)
           clear hr28 hC28 hroom28 hi028 hsz28
           have KY28 := Aside0.mk hy28
           clear hy28
           replace q28 := eq_true q28
           refine start_ (n := 9) (S := fun w' => w'.cell? ⟨gb363, 0, none⟩ = some (.int .i64 a0_0) ∧ w'.cell? ⟨gb363, 1, none⟩ = some (.slice (some ad364) l0_1.length c0_1) ∧ w'.cell? ⟨gb365, 0, none⟩ = some (.int .i64 ((rd_T25 l0_1 x16_2).f0)) ∧ w'.cell? ⟨gb365, 1, none⟩ = some (.int .i64 ((rd_T25 l0_1 x16_2).f1)) ∧ w'.cell? ⟨gb365, 2, none⟩ = some (.string ((rd_T25 l0_1 x16_2).f2)) ∧ w'.cell? ⟨gb365, 3, none⟩ = some (.string ((rd_T25 l0_1 x16_2).f3)) ∧ w'.cell? ⟨gb365, 4, none⟩ = some (.int .i64 ((rd_T25 l0_1 x16_2).f4)) ∧ w'.cell? ⟨gb365, 5, none⟩ = some (.bool ((rd_T25 l0_1 x16_2).f5))) (ds := []) #[O,O,O,O,O,O,O,O,O] (by kernel_rfl) rfl rfl ⟨(blk_cell BK363.out 0).trans rfl, (blk_cell BK363.out 1).trans rfl, (blk_cell BK365.out 0).trans rfl, (blk_cell BK365.out 1).trans rfl, (blk_cell BK365.out 2).trans rfl, (blk_cell BK365.out 3).trans rfl, (blk_cell BK365.out 4).trans rfl, (blk_cell BK365.out 5).trans rfl⟩ (fun hHeld => ?_); refine with_tabW seg_Check.tab6 seg_Check.bits6 (fun HT_ HW_ => ?_)
           generalize w26.drew = w27 at BK363 BK365 HB HR369 hHeld ⊢
           refine pz (i := 0) (N := some 21) #[I,O,O,O,O,O,O,O,O] ?_
           refine pz (i := 2) (N := some 23) #[I,O,I,O,O,O,O,O,O] ?_
           refine pz (i := 4) (N := some 25) #[I,O,I,O,I,O,O,O,O] ?_
           refine tz (i := 1) (N := some 22) #[I,I,I,O,I,O,O,O,O] ?_
           refine tz (i := 3) (N := some 24) #[I,I,I,I,I,O,O,O,O] ?_
           refine pz (i := 5) (N := some 26) #[I,I,I,I,I,I,O,O,O] ?_
           refine tz (i := 6) (N := some 27) #[I,I,I,I,I,I,I,O,O] ?_
           refine one_ (i := 7) (N := some 28) #[I,I,I,I,I,I,I,I,O] rfl rfl (one_of HT_.out (by kernel_rfl)) (by decide) (fun K hK => ?_)
           refine goes_ Try.func75 (by kernel_rfl) rfl #[.int .i64 a0_0, .slice (some ad364) y366.length c0_1, .agg #[.int .i64 ((rd_T25 l0_1 x16_2).f0), .int .i64 ((rd_T25 l0_1 x16_2).f1), .string ((rd_T25 l0_1 x16_2).f2), .string ((rd_T25 l0_1 x16_2).f3), .int .i64 ((rd_T25 l0_1 x16_2).f4), .bool ((rd_T25 l0_1 x16_2).f5)]] (by rfl) rfl rfl aa ?_
           with_reducible refine (seg_behind.calls k2 a0_0 _ _ y366 ((rd_T25 l0_1 x16_2).f0) ((rd_T25 l0_1 x16_2).f1) ((rd_T25 l0_1 x16_2).f2) ((rd_T25 l0_1 x16_2).f3) ((rd_T25 l0_1 x16_2).f4) ((rd_T25 l0_1 x16_2).f5) false _ ?side1 ?side2 A14.out).mono ?_
           (case side1 => repeat (first | exact (Kd.C_below HR369.out HB.out) | (with_reducible refine Kd.C_alloc ?_ _) | (with_reducible refine Kd.C_drewN ?_ _) | (with_reducible refine Kd.C_drew ?_)))
           (case side2 => exact HC369.out)
           rintro e w29 ⟨rfl, hb⟩
           refine ⟨_, rfl, ?_⟩
           replace BK363 := Aside0.mk (bb BK363.out hb)
           replace BK365 := Aside0.mk (bb BK365.out hb)
           replace HB := Aside0.mk (below_step bo hb)
           (try clear hb)
           (try clear hb2)
           (try clear hk)
           (try clear hi)
           refine hK.out _ _ ⟨(blk_cell BK363.out 0).trans rfl, (blk_cell BK363.out 1).trans rfl, (blk_cell BK365.out 0).trans rfl, (blk_cell BK365.out 1).trans rfl, (blk_cell BK365.out 2).trans rfl, (blk_cell BK365.out 3).trans rfl, (blk_cell BK365.out 4).trans rfl, (blk_cell BK365.out 5).trans rfl⟩ (fun hHeld => ?_)
           clear hK K
           refine nz (N := (some 28)) ?_
           refine pz (i := 8) (N := some 29) #[I,I,I,I,I,I,I,I,I] ?_
           refine done_ (done_of HT_.out (by kernel_rfl)) ?_
           try go_wp2
           go_ret
           exact ⟨er, bo⟩
         ·rw [if_neg c13] at H
          exact absurd H (by simp)
        ·rw [if_neg c11] at H
         exact absurd H (by simp)
       ·rw [if_neg c10] at H
        exact absurd H (by simp)
      ·rw [if_neg c9] at H
       have c9b0 : decide (x16_2 < (l0_1.length : Int)) = false := decide_eq_false c9
       clear c9
       obtain rfl := Option.some.inj H
       go_wp2
       go_ret
       exact ⟨er, bo⟩

end Go.Proofs.Ytmabdfdmccbfnaa.P

-- written by a program of the proving session, out of the translation; Lean checks it
namespace Go.Proofs.Ytmabdfdmccbfnaa.P
open Go.RowKit Go.Proofs.Ytmabdfdmccbfnaa.Sq Go.Proofs.YtmabdfdmccbfnaaW.PrintWords Go.Proofs.YtmabdfdmccbfnaaW.PrintLast Go.Proofs.YtmabdfdmccbfnaaW.PrintMore
attribute [local go_sem] max2_int min2_int max_two min_two max_three min_three max_four min_four   -- for this text's walks alone
set_option linter.unusedVariables false
set_option linter.unusedSimpArgs false

/-! ### index_Marks: function 54 -/
def index_Marks.l0 : Nat → List (S77) → Int → List (S25) → Int → Int → Option ((List (S77)) × Int)
 | 0, _, _, _, _, _ => none
 | k + 1, x5, x6, x17, x18, x19 => if x19 < x18 then (if 0 ≤ x19 then (if x19 < (x17.length : Int) then (if (Int.tmod x19 4) = 0 then (if x5.length < 8796093022208 then ((rec_Size.f k ((rd_T25 x17 x19).f0) ((rd_T25 x17 x19).f1) ((rd_T25 x17 x19).f2) ((rd_T25 x17 x19).f3) ((rd_T25 x17 x19).f4) ((rd_T25 x17 x19).f5)).bind fun bt625 => (index_Marks.l0 k (x5 ++ [(⟨(rd_T25 x17 x19).f0, x6⟩ : S77)]) (wrap64 (x6 + bt625.1)) x17 x18 (wrap64 (x19 + 1)))) else (none)) else ((rec_Size.f k ((rd_T25 x17 x19).f0) ((rd_T25 x17 x19).f1) ((rd_T25 x17 x19).f2) ((rd_T25 x17 x19).f3) ((rd_T25 x17 x19).f4) ((rd_T25 x17 x19).f5)).bind fun bt627 => (index_Marks.l0 k x5 (wrap64 (x6 + bt627.1)) x17 x18 (wrap64 (x19 + 1))))) else (none)) else (none)) else (some (x5, 0))
def index_Marks.f (k : Nat) (a0_0 : Int) (l0_1 : List (S25)) : Option ((List (S77)) × Int) := (seg_Check.f k a0_0 l0_1).bind fun t619 => (if t619 = 0 then (index_Marks.l0 k ([] : List (S77)) 0 l0_1 (l0_1.length : Int) 0) else (some (([] : List (S77)), t619)))
theorem index_Marks.mono_l : ∀ k, (∀ y0 y1 y2 y3 y4, LeO (index_Marks.l0 k y0 y1 y2 y3 y4) (index_Marks.l0 (k + 1) y0 y1 y2 y3 y4))
 | 0 => fun _ _ _ _ _ r h => by simp [index_Marks.l0] at h
 | k + 1 => by
  have ih0 := index_Marks.mono_l k
  ·intro y0 y1 y2 y3 y4
   unfold index_Marks.l0
   repeat' first
   | (with_reducible exact ih0 _ _ _ _ _)
   | (with_reducible exact rec_Size.mono _ _ _ _ _ _ _)
   | (with_reducible exact seg_Check.mono _ _ _)
   | (with_reducible exact LeO.refl _)
   | (with_reducible exact LeO.none _)
   | (with_reducible refine LeO.ite ?_ ?_)
   | (with_reducible refine LeO.bind ?_ (fun _ => ?_))
   | exact ih0 _ _ _ _ _
   | exact rec_Size.mono _ _ _ _ _ _ _
   | exact seg_Check.mono _ _ _
   | exact LeO.none _
   | refine LeO.ite ?_ ?_
   | refine LeO.bind ?_ (fun _ => ?_)
theorem index_Marks.mono : ∀ a0 a1 k, LeO (index_Marks.f k a0 a1) (index_Marks.f (k + 1) a0 a1) := by
 intro a0 a1 k
 have ih0 := index_Marks.mono_l k
 unfold index_Marks.f
 repeat' first
  | (with_reducible exact ih0 _ _ _ _ _)
  | (with_reducible exact rec_Size.mono _ _ _ _ _ _ _)
  | (with_reducible exact seg_Check.mono _ _ _)
  | (with_reducible exact LeO.refl _)
  | (with_reducible exact LeO.none _)
  | (with_reducible refine LeO.ite ?_ ?_)
  | (with_reducible refine LeO.bind ?_ (fun _ => ?_))
  | exact ih0 _ _ _ _ _
  | exact rec_Size.mono _ _ _ _ _ _ _
  | exact seg_Check.mono _ _ _
  | exact LeO.none _
  | refine LeO.ite ?_ ?_
  | refine LeO.bind ?_ (fun _ => ?_)
set_option maxHeartbeats 8000000 in
set_option maxRecDepth 100000 in
theorem index_Marks.calls (k : Nat) (a0_0 : Int) (A0_1 : Option Addr) (c0_1 : Nat) (l0_1 : List (S25)) (r1 : List (S77)) (r2 : Int) (w : World) (hr0_1 : Kd.C k25 w A0_1 l0_1.length l0_1) (hc0_1 : l0_1.length ≤ c0_1) (h : index_Marks.f k a0_0 l0_1 = some (r1, r2)) :
 Calls Try.prog 54 #[.agg #[.int .i64 a0_0, .slice A0_1 l0_1.length c0_1]] w fun e w' => ∃ v0_ : Value, e = .returned (.tuple #[v0_, .int .i64 r2]) ∧ Kd.R k77 77 w' w.heap.size (fun _ => True) v0_ r1 ∧ Below w.heap.size w w' := by
 have hu53 := Try.underlying53
 have hu25 := Try.underlying25
 have hu77 := Try.underlying77
 have HR0_1 := Aside0.mk hr0_1
 have HC0_1 := Aside0.mk hc0_1
 clear hr0_1 hc0_1
 have HB := Aside0.mk (Below.refl w.heap.size w)
 have H : ((seg_Check.f k a0_0 l0_1).bind fun t619 => (if t619 = 0 then (index_Marks.l0 k ([] : List (S77)) 0 l0_1 (l0_1.length : Int) 0) else (some (([] : List (S77)), t619)))) = some (r1, r2) := h
 clear h
 replace H := Option.bind_eq_some_iff.mp H
 obtain ⟨t619, A20, H⟩ := H
 try dsimp only at H
 have A2 := Aside0.mk A20
 clear A20
 by_cases c3 : t619 = 0
 ·rw [if_pos c3] at H
  have c3b0 : (t619 == 0) = true := beq_iff_eq.mpr c3
  have c3b1 : (t619 != 0) = false := bne_eq_false_iff_eq.mpr c3
  clear c3
  have H' := Aside0.mk H
  clear H
  go_enter Try.func54, Try.ntmps54
  go_wp2_with (first | ((with_reducible refine gate_dst (N := 1) rfl ?_); refine box_event ?hg (N := 1) ?hd (cs := #[.int .i64 a0_0, .slice A0_1 l0_1.length c0_1]) (t := 53) ?hr ?_; (case hd => rfl); (case hg => rfl); (case hr => first | (go_simp; done) | (go_simp; rfl)); intro gb618 hg w4 hbox hb; have BK618 := Aside0.mk (hbox); have GW618 := Aside0.mk ((by rw [hg]; exact (below_size bo) : w.heap.size ≤ gb618)); have GE618 := Aside0.mk ((by rw [hg]; exact (below_size bo) : w.heap.size ≤ gb618)); replace HB := Aside0.mk (below_step bo hb); clear hb hbox hg; obtain ⟨hcz5_0, hcz5_1⟩ := cl2 BK618.out; obtain ⟨hfz5_0, hfz5_1⟩ := fz2 BK618.out) | ((with_reducible refine gate_callee (f := 46) rfl ?_); refine goesL_ (some 12) rfl rfl Try.func46 (by kernel_rfl) rfl #[.agg #[.int .i64 a0_0, .slice A0_1 l0_1.length c0_1]] rfl aa ?_; (with_reducible refine (seg_Check.calls k a0_0 _ _ l0_1 t619 _ ?side1 ?side2 A2.out).mono ?_); (case side1 => repeat (first | exact (Kd.C_below HR0_1.out HB.out) | (with_reducible refine Kd.C_alloc ?_ _) | (with_reducible refine Kd.C_drewN ?_ _) | (with_reducible refine Kd.C_drew ?_))); (case side2 => exact HC0_1.out); rintro e w6 ⟨rfl, hb⟩; refine ⟨_, rfl, ?_⟩; replace BK618 := Aside0.mk (bb BK618.out hb); replace HB := Aside0.mk (below_step bo hb); (try clear hb); (try clear hb2); (try clear hk); (try clear hi); obtain ⟨hcz7_0, hcz7_1⟩ := cl2 BK618.out; obtain ⟨hfz7_0, hfz7_1⟩ := fz2 BK618.out))
  go_loopg [5, 6, 19] k (fun kq v5 v6 v19 w' => ∃ (x5_1 : List (S77)) (x6_1 : Int) (x19_1 : Int), v6 = .int .i64 x6_1 ∧ v19 = .int .i64 x19_1 ∧ Aside0 (index_Marks.l0 kq x5_1 x6_1 l0_1 (l0_1.length : Int) x19_1 = some (r1, r2)) ∧ Aside0 (kq ≤ k) ∧ Aside0 (Kd.R k77 77 w' w.heap.size (fun _ => True) v5 x5_1) ∧ Aside0 (w'.heap[gb618]? = some (.cells #[.int .i64 a0_0, (.slice A0_1 l0_1.length c0_1)] 53 (0, 0))) ∧ Aside0 (Below w.heap.size w w'))
  case atStart => exact ⟨(([] : List (S77))), (0), (0), ap, ap, H', ⟨Nat.le_refl _⟩, ⟨by first | exact Kd.R_nil _ _ _ _ _ | exact Kd.N_nil _ _ _ _ _ | exact Kd.V_nil _ _ _ _ _ | exact Kd.Q_nil _ _ _ _ _ | exact Kd.S_nil _ _ _ _ _⟩, ⟨by (with_reducible repeat (first | refine blk_drewN ?_ _ | refine blk_drew ?_ | refine blk_alloc ?_ _)); exact BK618.out⟩, ⟨bo⟩⟩
  case round =>
   clear H'
   (try clear p2); (try clear c3); (try clear c3b0); (try clear c3b1); (try clear c4); (try clear c5); (try clear hcz5_0); (try clear hcz5_1); (try clear hcz7_0); (try clear hcz7_1); (try clear hfz5_0); (try clear hfz5_1); (try clear hfz7_0); (try clear hfz7_1)
   obtain ⟨x5_1, x6_1, x19_1, rfl, rfl, HA, HK1, HO_5, BK618, HB⟩ := hrel
   cases gk with
   | zero => exact absurd HA.out (by simp [index_Marks.l0])
   | succ k1 =>
    have H := HA.out
    clear HA
    simp only [index_Marks.l0] at H
    by_cases c8 : x19_1 < (l0_1.length : Int)
    ·rw [if_pos c8] at H
     have c8b0 : decide (x19_1 < (l0_1.length : Int)) = true := decide_eq_true c8
     clear c8
     by_cases c9 : 0 ≤ x19_1
     ·rw [if_pos c9] at H
      have c9b0 : decide (0 ≤ x19_1) = true := decide_eq_true c9
      clear c9
      by_cases c10 : x19_1 < (l0_1.length : Int)
      ·rw [if_pos c10] at H
       have c10b0 : decide (x19_1 < (l0_1.length : Int)) = true := decide_eq_true c10
       clear c10
       by_cases c11 : (Int.tmod x19_1 4) = 0
       ·rw [if_pos c11] at H
        have c11b0 : ((Int.tmod x19_1 4) == 0) = true := beq_iff_eq.mpr c11
        have c11b1 : ((Int.tmod x19_1 4) != 0) = false := bne_eq_false_iff_eq.mpr c11
        clear c11
        by_cases c12 : x5_1.length < 8796093022208
        ·rw [if_pos c12] at H
         have LMc12 := Aside0.mk c12
         clear c12
         obtain ⟨y622, hy622⟩ : ∃ y_ : List (S77), y_ = (x5_1 ++ [(⟨(rd_T25 l0_1 x19_1).f0, x6_1⟩ : S77)]) := ⟨_, rfl⟩
         replace H : ((rec_Size.f k1 ((rd_T25 l0_1 x19_1).f0) ((rd_T25 l0_1 x19_1).f1) ((rd_T25 l0_1 x19_1).f2) ((rd_T25 l0_1 x19_1).f3) ((rd_T25 l0_1 x19_1).f4) ((rd_T25 l0_1 x19_1).f5)).bind fun bt625 => (index_Marks.l0 k1 y622 (wrap64 (x6_1 + bt625.1)) l0_1 (l0_1.length : Int) (wrap64 (x19_1 + 1)))) = some (r1, r2) := by first | (rw [hy622]; with_reducible exact H) | (have H2_ := (Option.bind_some _ _).symm.trans H; rw [hy622]; with_reducible exact H2_) | (have H2_ := (Option.bind_some _ _).symm.trans H; with_reducible exact H2_) | with_reducible exact H | (rw [hy622]; exact H) | exact H
         have Ny622 := Aside0.mk hy622
         clear hy622
         replace H := Option.bind_eq_some_iff.mp H
         obtain ⟨⟨t625, t626⟩, A130, H⟩ := H
         replace H : (index_Marks.l0 k1 y622 (wrap64 (x6_1 + t625)) l0_1 (l0_1.length : Int) (wrap64 (x19_1 + 1))) = some (r1, r2) := H
         have A13 := Aside0.mk A130
         clear A130
         have H' := Aside0.mk H
         clear H
         have p620 : 0 ≤ (x19_1 : Int) := od
         have q620 : x19_1 < (l0_1.length : Int) := od
         obtain ⟨ad620, e620, hx620_0, hx620_1, hx620_2, hx620_3, hx620_4, hx620_5⟩ := at_T25 HR0_1.out x19_1 p620 q620
         cases e620
         replace hx620_0 := cx HB.out hx620_0
         replace hx620_1 := cx HB.out hx620_1
         replace hx620_2 := cx HB.out hx620_2
         replace hx620_3 := cx HB.out hx620_3
         replace hx620_4 := cx HB.out hx620_4
         replace hx620_5 := cx HB.out hx620_5
         replace p620 := eq_true p620
         replace q620 := eq_true q620
         go_wp2_with (first | ((with_reducible refine gate_dst (N := 8) rfl ?_); refine box_event ?hg (N := 8) ?hd (cs := #[.int .i64 0, .int .i64 0, .string (⟨#[]⟩ : ByteArray), .string (⟨#[]⟩ : ByteArray), .int .i64 0, .bool false]) (t := 25) ?hr ?_; (case hd => rfl); (case hg => rfl); (case hr => first | (go_simp; done) | (go_simp; rfl)); intro gb621 hg w14 hbox hb; replace HO_5 := Aside0.mk (Kd.R_below (rk HO_5.out) hb); have BK621 := Aside0.mk (hbox); have GW621 := Aside0.mk ((by rw [hg]; exact (below_size bo) : w.heap.size ≤ gb621)); have GE621 := Aside0.mk ((by rw [hg]; exact (below_size bo) : w.heap.size ≤ gb621)); replace HB := Aside0.mk (below_step bo hb); have NB618_621 := Aside0.mk (nl BK618.out hg); have NB621_618 := Aside0.mk (ng BK618.out hg); replace BK618 := Aside0.mk (bb BK618.out hb); clear hb hbox hg; have hnb15 := NB621_618.out; have hnc15 := NB618_621.out; obtain ⟨hcz16_0, hcz16_1, hcz16_2, hcz16_3, hcz16_4, hcz16_5⟩ := cl6 BK621.out; obtain ⟨hfz16_0, hfz16_1, hfz16_2, hfz16_3, hfz16_4, hfz16_5⟩ := fz6 BK621.out) | ((with_reducible refine gate_builtin (b := .append) (xs := #[.tmp 27, .tmp 32]) rfl ?_); at_builtin; refine Kd.R_append k77 (w0 := w) w.heap.size rfl (.tmp 27) (.tmp 32) 75 77 (.agg #[(.int .i64 0), (.int .i64 0)]) 16 rfl Try.underlying75 info77 rfl (by decide) (by omega) u5 x5_1 (⟨(rd_T25 l0_1 x19_1).f0, x6_1⟩ : S77) [.int .i64 ((rd_T25 l0_1 x19_1).f0), .int .i64 x6_1] (fun _ => True) (fun _ => False) rfl (by first | (go_simp; done) | (go_simp; rfl)) ?aP (fun _ hk => hk.elim) ?aF ?aO ?aB ?aS ?aL ?_; (case aP => exact k77_mkM _ _ _ (⟨(rd_T25 l0_1 x19_1).f0, x6_1⟩ : S77)); (case aB => exact bo); (case aF => exact (fun _ _ => trivial)); (case aO => exact (by (with_reducible repeat (first | apply Kd.R_alloc | apply Kd.R_drewN | apply Kd.R_drew)); exact Kd.R_mono (Kd.R_far (p := ⟨gb621, 5, none⟩) (Kd.R_far (p := ⟨gb621, 4, none⟩) (Kd.R_far (p := ⟨gb621, 3, none⟩) (Kd.R_far (p := ⟨gb621, 2, none⟩) (Kd.R_far (p := ⟨gb621, 1, none⟩) (Kd.R_far (p := ⟨gb621, 0, none⟩) (Kd.R_types HO_5.out BK621.out (by decide)) (fun _ hk => hk.2) (.int .i64 ((rd_T25 l0_1 x19_1).f0))) (fun _ hk => hk.2) (.int .i64 ((rd_T25 l0_1 x19_1).f1))) (fun _ hk => hk.2) (.string ((rd_T25 l0_1 x19_1).f2))) (fun _ hk => hk.2) (.string ((rd_T25 l0_1 x19_1).f3))) (fun _ hk => hk.2) (.int .i64 ((rd_T25 l0_1 x19_1).f4))) (fun _ hk => hk.2) (.bool ((rd_T25 l0_1 x19_1).f5))) (fun _ hk => trivial))); (case aS => exact (below_size bo)); (case aL => have := LMc12.out; omega); intro v623 w17 ho hb hg hat; rw [← Ny622.out] at ho; have n0_ := Aside0.mk (blk_grown (g := gb618) (o := .cells #[.int .i64 a0_0, .slice (some ad620) l0_1.length c0_1] 53 (0, 0)) (bf BK618.out) hg (Kd.R_ne HO_5.out BK618.out (by decide))); have n1_ := Aside0.mk (blk_grown (g := gb621) (o := .cells #[.int .i64 ((rd_T25 l0_1 x19_1).f0), .int .i64 ((rd_T25 l0_1 x19_1).f1), .string ((rd_T25 l0_1 x19_1).f2), .string ((rd_T25 l0_1 x19_1).f3), .int .i64 ((rd_T25 l0_1 x19_1).f4), .bool ((rd_T25 l0_1 x19_1).f5)] 25 (0, 0)) (by (with_reducible repeat (first | refine blk_drewN ?_ _ | refine blk_drew ?_ | refine blk_alloc ?_ _)); refine blk_put (cs := #[.int .i64 ((rd_T25 l0_1 x19_1).f0), .int .i64 ((rd_T25 l0_1 x19_1).f1), .string ((rd_T25 l0_1 x19_1).f2), .string ((rd_T25 l0_1 x19_1).f3), .int .i64 ((rd_T25 l0_1 x19_1).f4), .bool false]) ?_ 5 _ rfl; (with_reducible repeat (first | refine blk_drewN ?_ _ | refine blk_drew ?_ | refine blk_alloc ?_ _)); refine blk_put (cs := #[.int .i64 ((rd_T25 l0_1 x19_1).f0), .int .i64 ((rd_T25 l0_1 x19_1).f1), .string ((rd_T25 l0_1 x19_1).f2), .string ((rd_T25 l0_1 x19_1).f3), .int .i64 0, .bool false]) ?_ 4 _ rfl; (with_reducible repeat (first | refine blk_drewN ?_ _ | refine blk_drew ?_ | refine blk_alloc ?_ _)); refine blk_put (cs := #[.int .i64 ((rd_T25 l0_1 x19_1).f0), .int .i64 ((rd_T25 l0_1 x19_1).f1), .string ((rd_T25 l0_1 x19_1).f2), .string (⟨#[]⟩ : ByteArray), .int .i64 0, .bool false]) ?_ 3 _ rfl; (with_reducible repeat (first | refine blk_drewN ?_ _ | refine blk_drew ?_ | refine blk_alloc ?_ _)); refine blk_put (cs := #[.int .i64 ((rd_T25 l0_1 x19_1).f0), .int .i64 ((rd_T25 l0_1 x19_1).f1), .string (⟨#[]⟩ : ByteArray), .string (⟨#[]⟩ : ByteArray), .int .i64 0, .bool false]) ?_ 2 _ rfl; (with_reducible repeat (first | refine blk_drewN ?_ _ | refine blk_drew ?_ | refine blk_alloc ?_ _)); refine blk_put (cs := #[.int .i64 ((rd_T25 l0_1 x19_1).f0), .int .i64 0, .string (⟨#[]⟩ : ByteArray), .string (⟨#[]⟩ : ByteArray), .int .i64 0, .bool false]) ?_ 1 _ rfl; (with_reducible repeat (first | refine blk_drewN ?_ _ | refine blk_drew ?_ | refine blk_alloc ?_ _)); refine blk_put (cs := #[.int .i64 0, .int .i64 0, .string (⟨#[]⟩ : ByteArray), .string (⟨#[]⟩ : ByteArray), .int .i64 0, .bool false]) ?_ 0 _ rfl; (with_reducible repeat (first | refine blk_drewN ?_ _ | refine blk_drew ?_ | refine blk_alloc ?_ _)); exact BK621.out) hg (Kd.R_ne HO_5.out BK621.out (by decide))); have n2_ := Aside0.mk (hb); have n3_ := Aside0.mk (ho); clear BK618; clear BK621; clear HB; clear HO_5; have BK618 := n0_; have BK621 := n1_; have HB := n2_; have HO624 := n3_; clear n0_ n1_ n2_ n3_; clear ho hb hg hat; obtain ⟨hcz18_0, hcz18_1, hcz18_2, hcz18_3, hcz18_4, hcz18_5⟩ := cl6 BK621.out; obtain ⟨hfz18_0, hfz18_1, hfz18_2, hfz18_3, hfz18_4, hfz18_5⟩ := fz6 BK621.out) | ((with_reducible refine gate_callee (f := 21) rfl ?_); refine goesL_ (some 36) rfl rfl Try.func21 (by kernel_rfl) rfl #[.agg #[.int .i64 ((rd_T25 l0_1 x19_1).f0), .int .i64 ((rd_T25 l0_1 x19_1).f1), .string ((rd_T25 l0_1 x19_1).f2), .string ((rd_T25 l0_1 x19_1).f3), .int .i64 ((rd_T25 l0_1 x19_1).f4), .bool ((rd_T25 l0_1 x19_1).f5)]] rfl aa ?_; (with_reducible refine (rec_Size.calls k1 ((rd_T25 l0_1 x19_1).f0) ((rd_T25 l0_1 x19_1).f1) ((rd_T25 l0_1 x19_1).f2) ((rd_T25 l0_1 x19_1).f3) ((rd_T25 l0_1 x19_1).f4) ((rd_T25 l0_1 x19_1).f5) t625 t626 _ A13.out).mono ?_); rintro e w19 ⟨rfl, hb⟩; refine ⟨_, rfl, ?_⟩; replace HO624 := Aside0.mk (Kd.R_below (rk HO624.out) hb); replace BK618 := Aside0.mk (bb BK618.out hb); replace BK621 := Aside0.mk (bb BK621.out hb); replace HB := Aside0.mk (below_step bo hb); (try clear hb); (try clear hb2); (try clear hk); (try clear hi)))
         go_roundg k1
         case measure => have := HK1.out; omega
         case rel => exact ⟨(y622), (wrap64 (x6_1 + t625)), (wrap64 (x19_1 + 1)), ap, ap, H', ⟨by have := HK1.out; omega⟩, ⟨by (with_reducible repeat (first | apply Kd.R_alloc | apply Kd.R_drewN | apply Kd.R_drew)); exact HO624.out⟩, ⟨by (with_reducible repeat (first | refine blk_drewN ?_ _ | refine blk_drew ?_ | refine blk_alloc ?_ _)); exact BK618.out⟩, ⟨bo⟩⟩
        ·rw [if_neg c12] at H
         exact absurd H (by simp)
       ·rw [if_neg c11] at H
        have c11b0 : ((Int.tmod x19_1 4) == 0) = false := beq_eq_false_iff_ne.mpr c11
        have c11b1 : ((Int.tmod x19_1 4) != 0) = true := bne_iff_ne.mpr c11
        replace H := Option.bind_eq_some_iff.mp H
        obtain ⟨⟨t627, t628⟩, A200, H⟩ := H
        replace H : (index_Marks.l0 k1 x5_1 (wrap64 (x6_1 + t627)) l0_1 (l0_1.length : Int) (wrap64 (x19_1 + 1))) = some (r1, r2) := H
        have A20 := Aside0.mk A200
        clear A200
        have H' := Aside0.mk H
        clear H
        have p620 : 0 ≤ (x19_1 : Int) := od
        have q620 : x19_1 < (l0_1.length : Int) := od
        obtain ⟨ad620, e620, hx620_0, hx620_1, hx620_2, hx620_3, hx620_4, hx620_5⟩ := at_T25 HR0_1.out x19_1 p620 q620
        cases e620
        replace hx620_0 := cx HB.out hx620_0
        replace hx620_1 := cx HB.out hx620_1
        replace hx620_2 := cx HB.out hx620_2
        replace hx620_3 := cx HB.out hx620_3
        replace hx620_4 := cx HB.out hx620_4
        replace hx620_5 := cx HB.out hx620_5
        replace p620 := eq_true p620
        replace q620 := eq_true q620
        go_wp2_with (first | ((with_reducible refine gate_dst (N := 8) rfl ?_); refine box_event ?hg (N := 8) ?hd (cs := #[.int .i64 0, .int .i64 0, .string (⟨#[]⟩ : ByteArray), .string (⟨#[]⟩ : ByteArray), .int .i64 0, .bool false]) (t := 25) ?hr ?_; (case hd => rfl); (case hg => rfl); (case hr => first | (go_simp; done) | (go_simp; rfl)); intro gb621 hg w21 hbox hb; replace HO_5 := Aside0.mk (Kd.R_below (rk HO_5.out) hb); have BK621 := Aside0.mk (hbox); have GW621 := Aside0.mk ((by rw [hg]; exact (below_size bo) : w.heap.size ≤ gb621)); have GE621 := Aside0.mk ((by rw [hg]; exact (below_size bo) : w.heap.size ≤ gb621)); replace HB := Aside0.mk (below_step bo hb); have NB618_621 := Aside0.mk (nl BK618.out hg); have NB621_618 := Aside0.mk (ng BK618.out hg); replace BK618 := Aside0.mk (bb BK618.out hb); clear hb hbox hg; have hnb22 := NB621_618.out; have hnc22 := NB618_621.out; obtain ⟨hcz23_0, hcz23_1, hcz23_2, hcz23_3, hcz23_4, hcz23_5⟩ := cl6 BK621.out; obtain ⟨hfz23_0, hfz23_1, hfz23_2, hfz23_3, hfz23_4, hfz23_5⟩ := fz6 BK621.out) | ((with_reducible refine gate_callee (f := 21) rfl ?_); refine goesL_ (some 36) rfl rfl Try.func21 (by kernel_rfl) rfl #[.agg #[.int .i64 ((rd_T25 l0_1 x19_1).f0), .int .i64 ((rd_T25 l0_1 x19_1).f1), .string ((rd_T25 l0_1 x19_1).f2), .string ((rd_T25 l0_1 x19_1).f3), .int .i64 ((rd_T25 l0_1 x19_1).f4), .bool ((rd_T25 l0_1 x19_1).f5)]] rfl aa ?_; (with_reducible refine (rec_Size.calls k1 ((rd_T25 l0_1 x19_1).f0) ((rd_T25 l0_1 x19_1).f1) ((rd_T25 l0_1 x19_1).f2) ((rd_T25 l0_1 x19_1).f3) ((rd_T25 l0_1 x19_1).f4) ((rd_T25 l0_1 x19_1).f5) t627 t628 _ A20.out).mono ?_); rintro e w24 ⟨rfl, hb⟩; refine ⟨_, rfl, ?_⟩; replace HO_5 := Aside0.mk (Kd.R_below (by (with_reducible repeat (first | apply Kd.R_alloc | apply Kd.R_drewN | apply Kd.R_drew)); exact (Kd.R_mono (Kd.R_far (p := ⟨gb621, 5, none⟩) (Kd.R_far (p := ⟨gb621, 4, none⟩) (Kd.R_far (p := ⟨gb621, 3, none⟩) (Kd.R_far (p := ⟨gb621, 2, none⟩) (Kd.R_far (p := ⟨gb621, 1, none⟩) (Kd.R_far (p := ⟨gb621, 0, none⟩) (Kd.R_types HO_5.out BK621.out (by decide)) (fun _ hk => hk.2) (.int .i64 ((rd_T25 l0_1 x19_1).f0))) (fun _ hk => hk.2) (.int .i64 ((rd_T25 l0_1 x19_1).f1))) (fun _ hk => hk.2) (.string ((rd_T25 l0_1 x19_1).f2))) (fun _ hk => hk.2) (.string ((rd_T25 l0_1 x19_1).f3))) (fun _ hk => hk.2) (.int .i64 ((rd_T25 l0_1 x19_1).f4))) (fun _ hk => hk.2) (.bool ((rd_T25 l0_1 x19_1).f5))) (fun _ h_ => h_.1))) hb); replace BK618 := Aside0.mk (bB BK618.out hb); replace BK621 := Aside0.mk (blk_below (g := gb621) (o := .cells #[.int .i64 ((rd_T25 l0_1 x19_1).f0), .int .i64 ((rd_T25 l0_1 x19_1).f1), .string ((rd_T25 l0_1 x19_1).f2), .string ((rd_T25 l0_1 x19_1).f3), .int .i64 ((rd_T25 l0_1 x19_1).f4), .bool ((rd_T25 l0_1 x19_1).f5)] 25 (0, 0)) (by (with_reducible repeat (first | refine blk_drewN ?_ _ | refine blk_drew ?_ | refine blk_alloc ?_ _)); refine blk_put (cs := #[.int .i64 ((rd_T25 l0_1 x19_1).f0), .int .i64 ((rd_T25 l0_1 x19_1).f1), .string ((rd_T25 l0_1 x19_1).f2), .string ((rd_T25 l0_1 x19_1).f3), .int .i64 ((rd_T25 l0_1 x19_1).f4), .bool false]) ?_ 5 _ rfl; (with_reducible repeat (first | refine blk_drewN ?_ _ | refine blk_drew ?_ | refine blk_alloc ?_ _)); refine blk_put (cs := #[.int .i64 ((rd_T25 l0_1 x19_1).f0), .int .i64 ((rd_T25 l0_1 x19_1).f1), .string ((rd_T25 l0_1 x19_1).f2), .string ((rd_T25 l0_1 x19_1).f3), .int .i64 0, .bool false]) ?_ 4 _ rfl; (with_reducible repeat (first | refine blk_drewN ?_ _ | refine blk_drew ?_ | refine blk_alloc ?_ _)); refine blk_put (cs := #[.int .i64 ((rd_T25 l0_1 x19_1).f0), .int .i64 ((rd_T25 l0_1 x19_1).f1), .string ((rd_T25 l0_1 x19_1).f2), .string (⟨#[]⟩ : ByteArray), .int .i64 0, .bool false]) ?_ 3 _ rfl; (with_reducible repeat (first | refine blk_drewN ?_ _ | refine blk_drew ?_ | refine blk_alloc ?_ _)); refine blk_put (cs := #[.int .i64 ((rd_T25 l0_1 x19_1).f0), .int .i64 ((rd_T25 l0_1 x19_1).f1), .string (⟨#[]⟩ : ByteArray), .string (⟨#[]⟩ : ByteArray), .int .i64 0, .bool false]) ?_ 2 _ rfl; (with_reducible repeat (first | refine blk_drewN ?_ _ | refine blk_drew ?_ | refine blk_alloc ?_ _)); refine blk_put (cs := #[.int .i64 ((rd_T25 l0_1 x19_1).f0), .int .i64 0, .string (⟨#[]⟩ : ByteArray), .string (⟨#[]⟩ : ByteArray), .int .i64 0, .bool false]) ?_ 1 _ rfl; (with_reducible repeat (first | refine blk_drewN ?_ _ | refine blk_drew ?_ | refine blk_alloc ?_ _)); refine blk_put (cs := #[.int .i64 0, .int .i64 0, .string (⟨#[]⟩ : ByteArray), .string (⟨#[]⟩ : ByteArray), .int .i64 0, .bool false]) ?_ 0 _ rfl; (with_reducible repeat (first | refine blk_drewN ?_ _ | refine blk_drew ?_ | refine blk_alloc ?_ _)); exact BK621.out) hb); replace HB := Aside0.mk (below_step bo hb); (try clear hb); (try clear hb2); (try clear hk); (try clear hi)))
        go_roundg k1
        case measure => have := HK1.out; omega
        case rel => exact ⟨(x5_1), (wrap64 (x6_1 + t627)), (wrap64 (x19_1 + 1)), ap, ap, H', ⟨by have := HK1.out; omega⟩, ⟨by (with_reducible repeat (first | apply Kd.R_alloc | apply Kd.R_drewN | apply Kd.R_drew)); exact HO_5.out⟩, ⟨by (with_reducible repeat (first | refine blk_drewN ?_ _ | refine blk_drew ?_ | refine blk_alloc ?_ _)); exact BK618.out⟩, ⟨bo⟩⟩
      ·rw [if_neg c10] at H
       exact absurd H (by simp)
     ·rw [if_neg c9] at H
      exact absurd H (by simp)
    ·rw [if_neg c8] at H
     have c8b0 : decide (x19_1 < (l0_1.length : Int)) = false := decide_eq_false c8
     clear c8
     simp only [Option.some.injEq, Prod.mk.injEq] at H
     obtain ⟨rfl, rfl⟩ := H
     go_wp2
     go_ret2
     exact ⟨_, er, by (with_reducible repeat (first | apply Kd.R_alloc | apply Kd.R_drewN | apply Kd.R_drew)); exact HO_5.out, bo⟩
 ·rw [if_neg c3] at H
  have c3b0 : (t619 == 0) = false := beq_eq_false_iff_ne.mpr c3
  have c3b1 : (t619 != 0) = true := bne_iff_ne.mpr c3
  simp only [Option.some.injEq, Prod.mk.injEq] at H
  obtain ⟨rfl, rfl⟩ := H
  go_enter Try.func54, Try.ntmps54
  go_wp2_with (first | ((with_reducible refine gate_dst (N := 1) rfl ?_); refine box_event ?hg (N := 1) ?hd (cs := #[.int .i64 a0_0, .slice A0_1 l0_1.length c0_1]) (t := 53) ?hr ?_; (case hd => rfl); (case hg => rfl); (case hr => first | (go_simp; done) | (go_simp; rfl)); intro gb618 hg w25 hbox hb; have BK618 := Aside0.mk (hbox); have GW618 := Aside0.mk ((by rw [hg]; exact (below_size bo) : w.heap.size ≤ gb618)); have GE618 := Aside0.mk ((by rw [hg]; exact (below_size bo) : w.heap.size ≤ gb618)); replace HB := Aside0.mk (below_step bo hb); clear hb hbox hg; obtain ⟨hcz26_0, hcz26_1⟩ := cl2 BK618.out; obtain ⟨hfz26_0, hfz26_1⟩ := fz2 BK618.out) | ((with_reducible refine gate_callee (f := 46) rfl ?_); refine goesL_ (some 12) rfl rfl Try.func46 (by kernel_rfl) rfl #[.agg #[.int .i64 a0_0, .slice A0_1 l0_1.length c0_1]] rfl aa ?_; (with_reducible refine (seg_Check.calls k a0_0 _ _ l0_1 t619 _ ?side1 ?side2 A2.out).mono ?_); (case side1 => repeat (first | exact (Kd.C_below HR0_1.out HB.out) | (with_reducible refine Kd.C_alloc ?_ _) | (with_reducible refine Kd.C_drewN ?_ _) | (with_reducible refine Kd.C_drew ?_))); (case side2 => exact HC0_1.out); rintro e w27 ⟨rfl, hb⟩; refine ⟨_, rfl, ?_⟩; replace BK618 := Aside0.mk (bb BK618.out hb); replace HB := Aside0.mk (below_step bo hb); (try clear hb); (try clear hb2); (try clear hk); (try clear hi)))
  go_ret2
  exact ⟨_, er, by first | exact Kd.R_nil _ _ _ _ _ | exact Kd.N_nil _ _ _ _ _ | exact Kd.V_nil _ _ _ _ _ | exact Kd.Q_nil _ _ _ _ _ | exact Kd.S_nil _ _ _ _ _, bo⟩

end Go.Proofs.Ytmabdfdmccbfnaa.P

-- written by a program of the proving session, out of the translation; Lean checks it
namespace Go.Proofs.Ytmabdfdmccbfnaa.P
open Go.RowKit Go.Proofs.Ytmabdfdmccbfnaa.Sq Go.Proofs.YtmabdfdmccbfnaaW.PrintWords Go.Proofs.YtmabdfdmccbfnaaW.PrintLast Go.Proofs.YtmabdfdmccbfnaaW.PrintMore
attribute [local go_sem] max2_int min2_int max_two min_two max_three min_three max_four min_four   -- for this text's walks alone
set_option linter.unusedVariables false
set_option linter.unusedSimpArgs false

/-! ### fairwaylaw12_wakes: function 53 -/
def fairwaylaw12_wakes.l0 : Nat → Int → Int → List (S25) → Option (Bool)
 | 0, _, _, _ => none
 | k + 1, x2, x630000, x630001 => if x2 < 9 then ((fairwaylaw10_R.f x2 0 (⟨#[]⟩ : ByteArray) (⟨#[120]⟩ : ByteArray)).bind fun bt630 => (if x630001.length < 2199023255552 then (fairwaylaw12_wakes.l0 k (wrap64 (x2 + 1)) x630000 (x630001 ++ [(⟨bt630.1, bt630.2.1, bt630.2.2.1, bt630.2.2.2.1, bt630.2.2.2.2.1, bt630.2.2.2.2.2⟩ : S25)])) else (none))) else ((index_Marks.f k x630000 x630001).bind fun bt639 => ((fairwaylaw12_num.f bt639.2).bind fun t643 => (if t643 = 0 then (if (bt639.1.length : Int) = 3 then (if 2 < (bt639.1.length : Int) then (some (((rd_T77 bt639.1 2).f0) == 8)) else (none)) else (some false)) else (some false))))
def fairwaylaw12_wakes.f (k : Nat)  : Option (Bool) := fairwaylaw12_wakes.l0 k 0 0 ([] : List (S25))
theorem fairwaylaw12_wakes.mono_l : ∀ k, (∀ y0 y1 y2, LeO (fairwaylaw12_wakes.l0 k y0 y1 y2) (fairwaylaw12_wakes.l0 (k + 1) y0 y1 y2))
 | 0 => fun _ _ _ r h => by simp [fairwaylaw12_wakes.l0] at h
 | k + 1 => by
  have ih0 := fairwaylaw12_wakes.mono_l k
  ·intro y0 y1 y2
   unfold fairwaylaw12_wakes.l0
   repeat' first
   | (with_reducible exact ih0 _ _ _)
   | (with_reducible exact index_Marks.mono _ _ _)
   | (with_reducible exact LeO.refl _)
   | (with_reducible exact LeO.none _)
   | (with_reducible refine LeO.ite ?_ ?_)
   | (with_reducible refine LeO.bind ?_ (fun _ => ?_))
   | exact ih0 _ _ _
   | exact index_Marks.mono _ _ _
   | exact LeO.none _
   | refine LeO.ite ?_ ?_
   | refine LeO.bind ?_ (fun _ => ?_)
theorem fairwaylaw12_wakes.mono : ∀ k, LeO (fairwaylaw12_wakes.f k ) (fairwaylaw12_wakes.f (k + 1) ) := by
 intro  k
 have ih0 := fairwaylaw12_wakes.mono_l k
 unfold fairwaylaw12_wakes.f
 repeat' first
  | (with_reducible exact ih0 _ _ _)
  | (with_reducible exact index_Marks.mono _ _ _)
  | (with_reducible exact LeO.refl _)
  | (with_reducible exact LeO.none _)
  | (with_reducible refine LeO.ite ?_ ?_)
  | (with_reducible refine LeO.bind ?_ (fun _ => ?_))
  | exact ih0 _ _ _
  | exact index_Marks.mono _ _ _
  | exact LeO.none _
  | refine LeO.ite ?_ ?_
  | refine LeO.bind ?_ (fun _ => ?_)
def fairwaylaw12_wakes.T5 : Bool × List (List Nat × List Nat) := (true, [([], []), ([0], [0]), ([], []), ([2], [2]), ([3], [3]), ([1, 4, 3], [1, 4]), ([0, 1, 2, 3, 4, 5], []), ([6, 5, 5, 0, 1, 2, 3, 4, 5], [5, 6])])
def fairwaylaw12_wakes.B5 : List Nat := [0, 1, 0, 4, 12, 31, 63, 127]
theorem fairwaylaw12_wakes.tab5 : rtab .any (opsOf Try.f53 5) = fairwaylaw12_wakes.T5 := by kernel_rfl
theorem fairwaylaw12_wakes.bits5 : waitsOk fairwaylaw12_wakes.T5.2 fairwaylaw12_wakes.B5 = true := by kernel_rfl
set_option maxHeartbeats 8000000 in
set_option maxRecDepth 100000 in
theorem fairwaylaw12_wakes.calls (k : Nat)  (r : Bool) (w : World) (h : fairwaylaw12_wakes.f k  = some r) :
 Calls Try.prog 53 #[] w fun e w' => e = .returned (.bool r) ∧ Below w.heap.size w w' := by
 have hu53 := Try.underlying53
 have HB := Aside0.mk (Below.refl w.heap.size w)
 have H : (fairwaylaw12_wakes.l0 k 0 0 ([] : List (S25))) = some r := h
 clear h
 have H' := Aside0.mk H
 clear H
 go_enter Try.func53, Try.ntmps53
 go_wp2_with (first | ((with_reducible refine gate_dst (N := 1) rfl ?_); (try (refine gate_guard (by rfl) ?_; dsimp only)); refine box_event ?hg (N := 1) ?hd (cs := #[.int .i64 0, .slice none 0 0]) (t := 53) ?hr ?_; (case hd => rfl); (case hg => rfl); (case hr => first | (go_simp; done) | (go_simp; rfl)); intro gb629 hg w1 hbox hb; have BK629 := Aside0.mk (hbox); have GW629 := Aside0.mk ((by rw [hg]; exact (below_size bo) : w.heap.size ≤ gb629)); have GE629 := Aside0.mk ((by rw [hg]; exact (below_size bo) : w.heap.size ≤ gb629)); replace HB := Aside0.mk (below_step bo hb); clear hb hbox hg))
 go_loopg [2] k (fun kq v2 w' => ∃ (x2_1 : Int) (x630001_1 : List (S25)) (u630001 : Value), v2 = .int .i64 x2_1 ∧ Aside0 (fairwaylaw12_wakes.l0 kq x2_1 0 x630001_1 = some r) ∧ Aside0 (kq ≤ k) ∧ Aside0 (Kd.R k25 25 w' w.heap.size (fun _ => True) u630001 x630001_1) ∧ Aside0 (w'.heap[gb629]? = some (.cells #[.int .i64 0, u630001] 53 (0, 0))) ∧ Aside0 (Below w.heap.size w w'))
 case atStart => exact ⟨(0), (([] : List (S25))), (.slice none 0 0), ap, H', ⟨Nat.le_refl _⟩, ⟨by first | exact Kd.R_nil _ _ _ _ _ | exact Kd.N_nil _ _ _ _ _ | exact Kd.V_nil _ _ _ _ _ | exact Kd.Q_nil _ _ _ _ _ | exact Kd.S_nil _ _ _ _ _⟩, ⟨by (with_reducible repeat (first | refine blk_drewN ?_ _ | refine blk_drew ?_ | refine blk_alloc ?_ _)); exact BK629.out⟩, ⟨bo⟩⟩
 case round =>
  clear H'
  obtain ⟨x2_1, x630001_1, u630001, rfl, HA, HK1, HO_630001, BK629, HB⟩ := hrel
  cases gk with
  | zero => exact absurd HA.out (by simp [fairwaylaw12_wakes.l0])
  | succ k1 =>
   have H := HA.out
   clear HA
   simp only [fairwaylaw12_wakes.l0] at H
   by_cases c2 : x2_1 < 9
   ·rw [if_pos c2] at H
    have c2b0 : decide (x2_1 < 9) = true := decide_eq_true c2
    clear c2
    replace H := Option.bind_eq_some_iff.mp H
    obtain ⟨⟨t630, t631, t632, t633, t634, t635⟩, A30, H⟩ := H
    replace H : (if x630001_1.length < 2199023255552 then (fairwaylaw12_wakes.l0 k1 (wrap64 (x2_1 + 1)) 0 (x630001_1 ++ [(⟨t630, t631, t632, t633, t634, t635⟩ : S25)])) else (none)) = some r := H
    have A3 := Aside0.mk A30
    clear A30
    by_cases c4 : x630001_1.length < 2199023255552
    ·rw [if_pos c4] at H
     have LMc4 := Aside0.mk c4
     clear c4
     obtain ⟨y636, hy636⟩ : ∃ y_ : List (S25), y_ = (x630001_1 ++ [(⟨t630, t631, t632, t633, t634, t635⟩ : S25)]) := ⟨_, rfl⟩
     replace H : (fairwaylaw12_wakes.l0 k1 (wrap64 (x2_1 + 1)) 0 y636) = some r := by first | (rw [hy636]; with_reducible exact H) | (have H2_ := (Option.bind_some _ _).symm.trans H; rw [hy636]; with_reducible exact H2_) | (have H2_ := (Option.bind_some _ _).symm.trans H; with_reducible exact H2_) | with_reducible exact H | (rw [hy636]; exact H) | exact H
     have Ny636 := Aside0.mk hy636
     clear hy636
     have H' := Aside0.mk H
     clear H
     try go_wp2
     replace HO_630001 := Aside0.mk (Kd.R_drew HO_630001.out)
     replace BK629 := Aside0.mk (blk_drew BK629.out)
     replace HB := Aside0.mk (below_drew1 HB.out)
     refine start_ (n := 8) (S := fun w' => w'.cell? ⟨gb629, 0, none⟩ = some (.int .i64 0) ∧ w'.cell? ⟨gb629, 1, none⟩ = some (u630001)) (ds := [7]) #[O,O,O,O,O,O,O,O] (by kernel_rfl) rfl rfl ⟨(blk_cell BK629.out 0).trans rfl, (blk_cell BK629.out 1).trans rfl⟩ (fun hHeld => ?_); refine with_tabW fairwaylaw12_wakes.tab5 fairwaylaw12_wakes.bits5 (fun HT_ HW_ => ?_)
     generalize wr.drew = w5 at HO_630001 BK629 HB hHeld ⊢
     refine pz (i := 0) (N := some 9) #[I,O,O,O,O,O,O,O] ?_
     refine pz (i := 2) (N := some 11) #[I,O,I,O,O,O,O,O] ?_
     refine tz (i := 1) (N := some 10) #[I,I,I,O,O,O,O,O] ?_
     refine one_ (i := 3) (N := some 12) #[I,I,I,I,O,O,O,O] rfl rfl (one_of HT_.out (by kernel_rfl)) (by decide) (fun K hK => ?_)
     refine goes_ Try.func67 (by kernel_rfl) rfl #[.int .i64 x2_1, .int .i64 0, .string (⟨#[]⟩ : ByteArray), .string (⟨#[120]⟩ : ByteArray)] (by rfl) rfl rfl aa ?_
     with_reducible refine (fairwaylaw10_R.calls x2_1 0 (⟨#[]⟩ : ByteArray) (⟨#[120]⟩ : ByteArray) t630 t631 t632 t633 t634 t635 _ A3.out).mono ?_
     rintro e w6 ⟨rfl, hb⟩
     refine ⟨_, rfl, ?_⟩
     replace HO_630001 := Aside0.mk (Kd.R_below (rk HO_630001.out) hb)
     replace BK629 := Aside0.mk (bb BK629.out hb)
     replace HB := Aside0.mk (below_step bo hb)
     (try clear hb)
     (try clear hb2)
     (try clear hk)
     (try clear hi)
     refine hK.out _ _ ⟨(blk_cell BK629.out 0).trans rfl, (blk_cell BK629.out 1).trans rfl⟩ (fun hHeld => ?_)
     clear hK K
     refine nz (N := (some 12)) ?_
     refine one_ (i := 4) (N := some 13) #[I,I,I,I,I,O,O,O] rfl rfl (one_of HT_.out (by kernel_rfl)) (by decide) (fun K hK => ?_)
     refine value_ (w1 := ?_) (v := ?_) (by rfl) rfl ?_ ?_
     rotate_left 2
     ·go_simp
      constructor
      ·rfl
      ·rfl
     refine hK.out _ _ ⟨(blk_cell (blk_alloc BK629.out _) 0).trans rfl, (blk_cell (blk_alloc BK629.out _) 1).trans rfl⟩ (fun hHeld => ?_)
     clear hK K
     refine nz (N := (some 13)) ?_
     refine one_ (i := 5) (N := some 14) #[I,I,I,I,I,I,O,O] rfl rfl (one_of HT_.out (by kernel_rfl)) (by decide) (fun K hK => ?_)
     refine Kd.R_append_step k25 (w0 := w) w.heap.size (by rfl) (.tmp 10) (.tmp 13) 36 25 (.agg #[(.int .i64 0), (.int .i64 0), (.string ⟨#[]⟩), (.string ⟨#[]⟩), (.int .i64 0), (.bool false)]) 64 rfl Try.underlying36 info25 rfl (by decide) (by omega) u630001 x630001_1 (⟨t630, t631, t632, t633, t634, t635⟩ : S25) [.int .i64 t630, .int .i64 t631, .string t632, .string t633, .int .i64 t634, .bool t635] (fun _ => True) (fun _ => False) rfl rfl ?aP (fun _ hk => hk.elim) ?aF ?aO ?aB ?aS ?aL ?_
     (case aP => exact k25_mkM _ _ _ (⟨t630, t631, t632, t633, t634, t635⟩ : S25))
     (case aB => exact bo)
     (case aF => exact (fun _ _ => trivial))
     (case aO => exact (rk HO_630001.out))
     (case aS => exact (below_size bo))
     (case aL => have := LMc4.out; omega)
     intro v637 w7 ho hb hg hat
     rw [← Ny636.out] at ho
     have n0_ := Aside0.mk (blk_grown (g := gb629) (o := .cells #[.int .i64 0, u630001] 53 (0, 0)) (bk BK629.out) hg (Kd.R_ne HO_630001.out BK629.out (by decide)))
     have n1_ := Aside0.mk (hb)
     have n2_ := Aside0.mk (ho)
     clear BK629
     clear HB
     clear HO_630001
     have BK629 := n0_
     have HB := n1_
     have HO638 := n2_
     clear n0_ n1_ n2_
     clear ho hb hg hat
     obtain ⟨Ao8, co8, eo8⟩ := Kd.R_slice HO638.out
     (first | subst eo8 | (injection eo8 with f1_ f2_ f3_; have f4_ := f1_.symm; have f5_ := f3_.symm; clear f1_ f2_ f3_; subst f4_; subst f5_))
     refine hK.out _ _ ⟨(blk_cell BK629.out 0).trans rfl, (blk_cell BK629.out 1).trans rfl⟩ (fun hHeld => ?_)
     clear hK K
     refine nz (N := (some 14)) ?_
     refine pz (i := 6) (N := some 15) #[I,I,I,I,I,I,I,O] ?_
     refine last_ (i := 7) (N := none) #[I,I,I,I,I,I,I,I] rfl rfl (one_of HT_.out (by kernel_rfl)) (by decide) (fun K hK => ?_)
     have hs9 : w7.cell? ⟨gb629, 1, none⟩ = some (u630001) := (blk_cell BK629.out 1).trans rfl
     have hfs9 := blk_frozen BK629.out 1
     refine skip_ (w1 := ?_) (by rfl) rfl ?_ ?_
     rotate_left
     ·go_simp
      rfl
     refine hK.out _ _ ?_
     clear hK K
     refine done_ (done_of HT_.out (by kernel_rfl)) ?_
     try go_wp2
     go_roundg k1
     case measure => have := HK1.out; omega
     case rel => exact ⟨(wrap64 (x2_1 + 1)), (y636), (.slice Ao8 y636.length co8), ap, H', ⟨by have := HK1.out; omega⟩, ⟨by (with_reducible repeat (first | apply Kd.R_alloc | apply Kd.R_drewN | apply Kd.R_drew)); exact Kd.R_mono (Kd.R_far (p := ⟨gb629, 1, none⟩) (Kd.R_types HO638.out BK629.out (by decide)) (fun _ hk => hk.2) (.slice Ao8 y636.length co8)) (fun _ hk => trivial)⟩, ⟨by (with_reducible repeat (first | refine blk_drewN ?_ _ | refine blk_drew ?_ | refine blk_alloc ?_ _)); refine blk_put (cs := #[.int .i64 0, u630001]) ?_ 1 _ rfl; (with_reducible repeat (first | refine blk_drewN ?_ _ | refine blk_drew ?_ | refine blk_alloc ?_ _)); exact BK629.out⟩, ⟨bo⟩⟩
    ·rw [if_neg c4] at H
     exact absurd H (by simp)
   ·rw [if_neg c2] at H
    have c2b0 : decide (x2_1 < 9) = false := decide_eq_false c2
    clear c2
    replace H := Option.bind_eq_some_iff.mp H
    obtain ⟨⟨t639, t642⟩, A100, H⟩ := H
    replace H : ((fairwaylaw12_num.f t642).bind fun t643 => (if t643 = 0 then (if (t639.length : Int) = 3 then (if 2 < (t639.length : Int) then (some (((rd_T77 t639 2).f0) == 8)) else (none)) else (some false)) else (some false))) = some r := H
    have A10 := Aside0.mk A100
    clear A100
    replace H := Option.bind_eq_some_iff.mp H
    obtain ⟨t643, A110, H⟩ := H
    try dsimp only at H
    have A11 := Aside0.mk A110
    clear A110
    by_cases c12 : t643 = 0
    ·rw [if_pos c12] at H
     have c12b0 : (t643 == 0) = true := beq_iff_eq.mpr c12
     have c12b1 : (t643 != 0) = false := bne_eq_false_iff_eq.mpr c12
     clear c12
     by_cases c13 : (t639.length : Int) = 3
     ·rw [if_pos c13] at H
      have c13b0 : ((t639.length : Int) == 3) = true := beq_iff_eq.mpr c13
      have c13b1 : ((t639.length : Int) != 3) = false := bne_eq_false_iff_eq.mpr c13
      clear c13
      by_cases c14 : 2 < (t639.length : Int)
      ·rw [if_pos c14] at H
       have c14b0 : decide (2 < (t639.length : Int)) = true := decide_eq_true c14
       have c14b1 : decide (2 < t639.length) = true := decide_eq_true (by omega)
       clear c14
       obtain rfl := Option.some.inj H
       have hcz15_0 : wr.cell? ⟨gb629, 0, none⟩ = some (.int .i64 0) := (blk_cell BK629.out 0).trans rfl
       have hcz15_1 : wr.cell? ⟨gb629, 1, none⟩ = some (u630001) := (blk_cell BK629.out 1).trans rfl
       have hfz15_0 := blk_frozen BK629.out 0
       have hfz15_1 := blk_frozen BK629.out 1
       obtain ⟨Ao16, co16, eo16⟩ := Kd.R_slice HO_630001.out
       subst eo16
       go_wp2_with (first | ((with_reducible refine gate_callee (f := 54) rfl ?_); refine goesL_ (some 18) rfl rfl Try.func54 (by kernel_rfl) rfl #[.agg #[.int .i64 0, .slice Ao16 x630001_1.length co16]] rfl aa ?_; (with_reducible refine (index_Marks.calls k1 0 _ _ x630001_1 t639 t642 _ ?side1 ?side2 A10.out).mono ?_); (case side1 => repeat (first | exact (Kd.R_reads' HO_630001.out).2.2 | (with_reducible refine Kd.C_alloc ?_ _) | (with_reducible refine Kd.C_drewN ?_ _) | (with_reducible refine Kd.C_drew ?_))); (case side2 => exact (Kd.R_reads' HO_630001.out).2.1); rintro e w17 ⟨v640, rfl, ho0, hb⟩; refine ⟨_, rfl, ?_⟩; replace HO_630001 := Aside0.mk (Kd.R_below (rk HO_630001.out) hb); have HO641 := Aside0.mk (Kd.R_lower ho0 (below_size bo)); replace BK629 := Aside0.mk (bb BK629.out hb); replace HB := Aside0.mk (below_step bo hb); (try clear hb); (try clear hb2); (try clear hk); (try clear hi); (try clear ho0)) | ((with_reducible refine gate_callee (f := 52) rfl ?_); refine goesL_ (some 22) rfl rfl Try.func52 (by kernel_rfl) rfl #[.int .i64 t642] rfl aa ?_; (with_reducible refine (fairwaylaw12_num.calls t642 t643 _ A11.out).mono ?_); rintro e w' ⟨rfl, ⟨nd, rfl⟩⟩; refine ⟨_, rfl, ?_⟩; obtain ⟨Ao18, co18, eo18⟩ := Kd.R_slice HO641.out; subst eo18; have p644 : 0 ≤ (2 : Int) := (by omega); have q644 : 2 < (t639.length : Int) := od; obtain ⟨ad644, e644, hx644_0, hx644_1⟩ := at_T77 (Kd.R_reads' HO641.out).2.2 2 p644 q644; cases e644; (try simp only [show (2 : Int).toNat = 2 from rfl, Nat.reduceMul, Nat.reduceEqDiff, Go.Addr.add, ↓reduceIte] at hx644_0); (try simp only [show (2 : Int).toNat = 2 from rfl, Nat.reduceMul, Nat.reduceEqDiff, Go.Addr.add, ↓reduceIte] at hx644_1); have qi644 : (2 < t639.length) = True := eq_true (by omega); (try rw [show ((2 : Int)).toNat = 2 from rfl] at hx644_0); (try rw [show 2 * 2 = 4 from rfl] at hx644_0); (try rw [show ((2 : Int)).toNat = 2 from rfl] at hx644_1); (try rw [show 2 * 2 = 4 from rfl] at hx644_1); replace p644 := eq_true p644; replace q644 := eq_true q644))
       go_ret
       exact ⟨er, bo⟩
      ·rw [if_neg c14] at H
       exact absurd H (by simp)
     ·rw [if_neg c13] at H
      have c13b0 : ((t639.length : Int) == 3) = false := beq_eq_false_iff_ne.mpr c13
      have c13b1 : ((t639.length : Int) != 3) = true := bne_iff_ne.mpr c13
      obtain rfl := Option.some.inj H
      have hcz19_0 : wr.cell? ⟨gb629, 0, none⟩ = some (.int .i64 0) := (blk_cell BK629.out 0).trans rfl
      have hcz19_1 : wr.cell? ⟨gb629, 1, none⟩ = some (u630001) := (blk_cell BK629.out 1).trans rfl
      have hfz19_0 := blk_frozen BK629.out 0
      have hfz19_1 := blk_frozen BK629.out 1
      obtain ⟨Ao20, co20, eo20⟩ := Kd.R_slice HO_630001.out
      subst eo20
      go_wp2_with (first | ((with_reducible refine gate_callee (f := 54) rfl ?_); refine goesL_ (some 18) rfl rfl Try.func54 (by kernel_rfl) rfl #[.agg #[.int .i64 0, .slice Ao20 x630001_1.length co20]] rfl aa ?_; (with_reducible refine (index_Marks.calls k1 0 _ _ x630001_1 t639 t642 _ ?side1 ?side2 A10.out).mono ?_); (case side1 => repeat (first | exact (Kd.R_reads' HO_630001.out).2.2 | (with_reducible refine Kd.C_alloc ?_ _) | (with_reducible refine Kd.C_drewN ?_ _) | (with_reducible refine Kd.C_drew ?_))); (case side2 => exact (Kd.R_reads' HO_630001.out).2.1); rintro e w21 ⟨v640, rfl, ho0, hb⟩; refine ⟨_, rfl, ?_⟩; replace HO_630001 := Aside0.mk (Kd.R_below (rk HO_630001.out) hb); have HO641 := Aside0.mk (Kd.R_lower ho0 (below_size bo)); replace BK629 := Aside0.mk (bb BK629.out hb); replace HB := Aside0.mk (below_step bo hb); (try clear hb); (try clear hb2); (try clear hk); (try clear hi); (try clear ho0)) | ((with_reducible refine gate_callee (f := 52) rfl ?_); refine goesL_ (some 22) rfl rfl Try.func52 (by kernel_rfl) rfl #[.int .i64 t642] rfl aa ?_; (with_reducible refine (fairwaylaw12_num.calls t642 t643 _ A11.out).mono ?_); rintro e w' ⟨rfl, ⟨nd, rfl⟩⟩; refine ⟨_, rfl, ?_⟩; obtain ⟨Ao22, co22, eo22⟩ := Kd.R_slice HO641.out; subst eo22))
      go_ret
      exact ⟨er, bo⟩
    ·rw [if_neg c12] at H
     have c12b0 : (t643 == 0) = false := beq_eq_false_iff_ne.mpr c12
     have c12b1 : (t643 != 0) = true := bne_iff_ne.mpr c12
     obtain rfl := Option.some.inj H
     have hcz23_0 : wr.cell? ⟨gb629, 0, none⟩ = some (.int .i64 0) := (blk_cell BK629.out 0).trans rfl
     have hcz23_1 : wr.cell? ⟨gb629, 1, none⟩ = some (u630001) := (blk_cell BK629.out 1).trans rfl
     have hfz23_0 := blk_frozen BK629.out 0
     have hfz23_1 := blk_frozen BK629.out 1
     obtain ⟨Ao24, co24, eo24⟩ := Kd.R_slice HO_630001.out
     subst eo24
     go_wp2_with (first | ((with_reducible refine gate_callee (f := 54) rfl ?_); refine goesL_ (some 18) rfl rfl Try.func54 (by kernel_rfl) rfl #[.agg #[.int .i64 0, .slice Ao24 x630001_1.length co24]] rfl aa ?_; (with_reducible refine (index_Marks.calls k1 0 _ _ x630001_1 t639 t642 _ ?side1 ?side2 A10.out).mono ?_); (case side1 => repeat (first | exact (Kd.R_reads' HO_630001.out).2.2 | (with_reducible refine Kd.C_alloc ?_ _) | (with_reducible refine Kd.C_drewN ?_ _) | (with_reducible refine Kd.C_drew ?_))); (case side2 => exact (Kd.R_reads' HO_630001.out).2.1); rintro e w25 ⟨v640, rfl, ho0, hb⟩; refine ⟨_, rfl, ?_⟩; replace HO_630001 := Aside0.mk (Kd.R_below (rk HO_630001.out) hb); have HO641 := Aside0.mk (Kd.R_lower ho0 (below_size bo)); replace BK629 := Aside0.mk (bb BK629.out hb); replace HB := Aside0.mk (below_step bo hb); (try clear hb); (try clear hb2); (try clear hk); (try clear hi); (try clear ho0)) | ((with_reducible refine gate_callee (f := 52) rfl ?_); refine goesL_ (some 22) rfl rfl Try.func52 (by kernel_rfl) rfl #[.int .i64 t642] rfl aa ?_; (with_reducible refine (fairwaylaw12_num.calls t642 t643 _ A11.out).mono ?_); rintro e w' ⟨rfl, ⟨nd, rfl⟩⟩; refine ⟨_, rfl, ?_⟩))
     go_ret
     exact ⟨er, bo⟩

end Go.Proofs.Ytmabdfdmccbfnaa.P

-- written by a program of the proving session, out of the translation; Lean checks it
namespace Go.Proofs.Ytmabdfdmccbfnaa.P
open Go.RowKit Go.Proofs.Ytmabdfdmccbfnaa.Sq Go.Proofs.YtmabdfdmccbfnaaW.PrintWords Go.Proofs.YtmabdfdmccbfnaaW.PrintLast Go.Proofs.YtmabdfdmccbfnaaW.PrintMore
attribute [local go_sem] max2_int min2_int max_two min_two max_three min_three max_four min_four   -- for this text's walks alone
set_option linter.unusedVariables false
set_option linter.unusedSimpArgs false

attribute [local go_sem high] eqA77
/-! ### fairwaylaw12_IndexFroms: function 11 -/
mutual
def fairwaylaw12_IndexFroms.j1 : Nat → List (S77) → Int → List (S25) → List (S25) → List Int → ByteArray → Option (Bool)
 | 0, _, _, _, _, _, _ => none
 | k + 1, x3, x646000, x646001, x646002, x646003, x646004 => fairwaylaw12_IndexFroms.l1 k x3 0 x646000 x646001 x646002 x646003 x646004
def fairwaylaw12_IndexFroms.l1 : Nat → List (S77) → Int → Int → List (S25) → List (S25) → List Int → ByteArray → Option (Bool)
 | 0, _, _, _, _, _, _, _ => none
 | k + 1, x3, x5, x646000, x646001, x646002, x646003, x646004 => if x5 < (x646003.length : Int) then (fairwaylaw12_IndexFroms.j3 k x3 x5 (decide (x5 < 20)) x646000 x646001 x646002 x646003 x646004) else (fairwaylaw12_IndexFroms.j3 k x3 x5 false x646000 x646001 x646002 x646003 x646004)
def fairwaylaw12_IndexFroms.j3 : Nat → List (S77) → Int → Bool → Int → List (S25) → List (S25) → List Int → ByteArray → Option (Bool)
 | 0, _, _, _, _, _, _, _, _ => none
 | k + 1, x3, x5, x49, x646000, x646001, x646002, x646003, x646004 => if x49 = true then (fairwaylaw12_IndexFroms.l2 k x3 x5 0 x646000 x646001 x646002 x646003 x646004) else ((fairwaylaw12_wakes.f k).bind fun t652 => (some t652))
def fairwaylaw12_IndexFroms.l2 : Nat → List (S77) → Int → Int → Int → List (S25) → List (S25) → List Int → ByteArray → Option (Bool)
 | 0, _, _, _, _, _, _, _, _ => none
 | k + 1, x3, x5, x6, x646000, x646001, x646002, x646003, x646004 => if x6 ≤ (x3.length : Int) then (if 0 ≤ x6 then (if 0 ≤ x5 then (if x5 < (x646003.length : Int) then ((index_From.f k (x3.take (x6 : Int).toNat) (rd x646003 x5)).bind fun bt658 => ((fairwayref10_Risen.f k (x3.take (x6 : Int).toNat)).bind fun t667 => (if t667 = true then ((fairwayref10_From.f k (x3.take (x6 : Int).toNat) (rd x646003 x5)).bind fun t673 => (if t673 ≥ 0 then (if 0 ≤ t673 then (if t673 < (x3.length : Int) then ((fairwaylaw12_num.f bt658.2.2).bind fun t675 => (if t675 = 0 then (if (!(bt658.1 == ((rd_T77 x3 t673).f0)) || (!(bt658.2.1 == ((rd_T77 x3 t673).f1)))) = true then (some false) else (fairwaylaw12_IndexFroms.l2 k x3 x5 (wrap64 (x6 + 1)) x646000 x646001 x646002 x646003 x646004)) else (some false))) else (none)) else (none)) else ((fairwaylaw12_num.f bt658.2.2).bind fun t676 => (if t676 = 0 then (if (!(bt658.1 == 0) || (!(bt658.2.1 == 0))) = true then (some false) else (fairwaylaw12_IndexFroms.l2 k x3 x5 (wrap64 (x6 + 1)) x646000 x646001 x646002 x646003 x646004)) else (some false))))) else ((fairwaylaw12_num.f bt658.2.2).bind fun t677 => (if t677 = 1 then (if (!(bt658.1 == 0) || (!(bt658.2.1 == 0))) = true then (some false) else (fairwaylaw12_IndexFroms.l2 k x3 x5 (wrap64 (x6 + 1)) x646000 x646001 x646002 x646003 x646004)) else (some false)))))) else (none)) else (none)) else (none)) else (fairwaylaw12_IndexFroms.l1 k x3 (wrap64 (x5 + 1)) x646000 x646001 x646002 x646003 x646004)
def fairwaylaw12_IndexFroms.l0 : Nat → List (S77) → Int → Int → List (S25) → List (S25) → List Int → ByteArray → Option (Bool)
 | 0, _, _, _, _, _, _, _ => none
 | k + 1, x3, x4, x646000, x646001, x646002, x646003, x646004 => if x4 < (x646002.length : Int) then (if x4 < 20 then (if 0 ≤ x4 then (if x3.length < 8796093022208 then (fairwaylaw12_IndexFroms.l0 k (x3 ++ [(⟨(rd_T25 x646002 x4).f0, (rd_T25 x646002 x4).f1⟩ : S77)]) (wrap64 (x4 + 1)) x646000 x646001 x646002 x646003 x646004) else (none)) else (none)) else (fairwaylaw12_IndexFroms.j1 k x3 x646000 x646001 x646002 x646003 x646004)) else (fairwaylaw12_IndexFroms.j1 k x3 x646000 x646001 x646002 x646003 x646004)
end
def fairwaylaw12_IndexFroms.f (k : Nat) (a0_0 : Int) (l0_1 : List (S25)) (l0_2 : List (S25)) (l0_3 : List Int) (a0_4 : ByteArray) : Option (Bool) := (fairwaylaw11_Heavy.f k a0_0 l0_1 l0_2 l0_3 a0_4).bind fun t646 => (if t646 = true then (some true) else (fairwaylaw12_IndexFroms.l0 k ([] : List (S77)) 0 a0_0 l0_1 l0_2 l0_3 a0_4))
theorem fairwaylaw12_IndexFroms.mono_l : ∀ k, (∀ y0 y1 y2 y3 y4 y5, LeO (fairwaylaw12_IndexFroms.j1 k y0 y1 y2 y3 y4 y5) (fairwaylaw12_IndexFroms.j1 (k + 1) y0 y1 y2 y3 y4 y5)) ∧ (∀ y0 y1 y2 y3 y4 y5 y6, LeO (fairwaylaw12_IndexFroms.l1 k y0 y1 y2 y3 y4 y5 y6) (fairwaylaw12_IndexFroms.l1 (k + 1) y0 y1 y2 y3 y4 y5 y6)) ∧ (∀ y0 y1 y2 y3 y4 y5 y6 y7, LeO (fairwaylaw12_IndexFroms.j3 k y0 y1 y2 y3 y4 y5 y6 y7) (fairwaylaw12_IndexFroms.j3 (k + 1) y0 y1 y2 y3 y4 y5 y6 y7)) ∧ (∀ y0 y1 y2 y3 y4 y5 y6 y7, LeO (fairwaylaw12_IndexFroms.l2 k y0 y1 y2 y3 y4 y5 y6 y7) (fairwaylaw12_IndexFroms.l2 (k + 1) y0 y1 y2 y3 y4 y5 y6 y7)) ∧ (∀ y0 y1 y2 y3 y4 y5 y6, LeO (fairwaylaw12_IndexFroms.l0 k y0 y1 y2 y3 y4 y5 y6) (fairwaylaw12_IndexFroms.l0 (k + 1) y0 y1 y2 y3 y4 y5 y6))
 | 0 => ⟨fun _ _ _ _ _ _ r h => by simp [fairwaylaw12_IndexFroms.j1] at h, fun _ _ _ _ _ _ _ r h => by simp [fairwaylaw12_IndexFroms.l1] at h, fun _ _ _ _ _ _ _ _ r h => by simp [fairwaylaw12_IndexFroms.j3] at h, fun _ _ _ _ _ _ _ _ r h => by simp [fairwaylaw12_IndexFroms.l2] at h, fun _ _ _ _ _ _ _ r h => by simp [fairwaylaw12_IndexFroms.l0] at h⟩
 | k + 1 => by
  obtain ⟨ih0, ih1, ih2, ih3, ih4⟩ := fairwaylaw12_IndexFroms.mono_l k
  refine ⟨?_, ?_, ?_, ?_, ?_⟩
  ·intro y0 y1 y2 y3 y4 y5
   unfold fairwaylaw12_IndexFroms.j1
   repeat' first
   | (with_reducible exact ih0 _ _ _ _ _ _)
   | (with_reducible exact ih1 _ _ _ _ _ _ _)
   | (with_reducible exact ih2 _ _ _ _ _ _ _ _)
   | (with_reducible exact ih3 _ _ _ _ _ _ _ _)
   | (with_reducible exact ih4 _ _ _ _ _ _ _)
   | (with_reducible exact fairwaylaw11_Heavy.mono _ _ _ _ _ _)
   | (with_reducible exact fairwaylaw12_wakes.mono _)
   | (with_reducible exact fairwayref10_From.mono _ _ _)
   | (with_reducible exact fairwayref10_Risen.mono _ _)
   | (with_reducible exact index_From.mono _ _ _)
   | (with_reducible exact LeO.refl _)
   | (with_reducible exact LeO.none _)
   | (with_reducible refine LeO.ite ?_ ?_)
   | (with_reducible refine LeO.bind ?_ (fun _ => ?_))
   | exact ih0 _ _ _ _ _ _
   | exact ih1 _ _ _ _ _ _ _
   | exact ih2 _ _ _ _ _ _ _ _
   | exact ih3 _ _ _ _ _ _ _ _
   | exact ih4 _ _ _ _ _ _ _
   | exact fairwaylaw11_Heavy.mono _ _ _ _ _ _
   | exact fairwaylaw12_wakes.mono _
   | exact fairwayref10_From.mono _ _ _
   | exact fairwayref10_Risen.mono _ _
   | exact index_From.mono _ _ _
   | exact LeO.none _
   | refine LeO.ite ?_ ?_
   | refine LeO.bind ?_ (fun _ => ?_)
  ·intro y0 y1 y2 y3 y4 y5 y6
   unfold fairwaylaw12_IndexFroms.l1
   repeat' first
   | (with_reducible exact ih0 _ _ _ _ _ _)
   | (with_reducible exact ih1 _ _ _ _ _ _ _)
   | (with_reducible exact ih2 _ _ _ _ _ _ _ _)
   | (with_reducible exact ih3 _ _ _ _ _ _ _ _)
   | (with_reducible exact ih4 _ _ _ _ _ _ _)
   | (with_reducible exact fairwaylaw11_Heavy.mono _ _ _ _ _ _)
   | (with_reducible exact fairwaylaw12_wakes.mono _)
   | (with_reducible exact fairwayref10_From.mono _ _ _)
   | (with_reducible exact fairwayref10_Risen.mono _ _)
   | (with_reducible exact index_From.mono _ _ _)
   | (with_reducible exact LeO.refl _)
   | (with_reducible exact LeO.none _)
   | (with_reducible refine LeO.ite ?_ ?_)
   | (with_reducible refine LeO.bind ?_ (fun _ => ?_))
   | exact ih0 _ _ _ _ _ _
   | exact ih1 _ _ _ _ _ _ _
   | exact ih2 _ _ _ _ _ _ _ _
   | exact ih3 _ _ _ _ _ _ _ _
   | exact ih4 _ _ _ _ _ _ _
   | exact fairwaylaw11_Heavy.mono _ _ _ _ _ _
   | exact fairwaylaw12_wakes.mono _
   | exact fairwayref10_From.mono _ _ _
   | exact fairwayref10_Risen.mono _ _
   | exact index_From.mono _ _ _
   | exact LeO.none _
   | refine LeO.ite ?_ ?_
   | refine LeO.bind ?_ (fun _ => ?_)
  ·intro y0 y1 y2 y3 y4 y5 y6 y7
   unfold fairwaylaw12_IndexFroms.j3
   repeat' first
   | (with_reducible exact ih0 _ _ _ _ _ _)
   | (with_reducible exact ih1 _ _ _ _ _ _ _)
   | (with_reducible exact ih2 _ _ _ _ _ _ _ _)
   | (with_reducible exact ih3 _ _ _ _ _ _ _ _)
   | (with_reducible exact ih4 _ _ _ _ _ _ _)
   | (with_reducible exact fairwaylaw11_Heavy.mono _ _ _ _ _ _)
   | (with_reducible exact fairwaylaw12_wakes.mono _)
   | (with_reducible exact fairwayref10_From.mono _ _ _)
   | (with_reducible exact fairwayref10_Risen.mono _ _)
   | (with_reducible exact index_From.mono _ _ _)
   | (with_reducible exact LeO.refl _)
   | (with_reducible exact LeO.none _)
   | (with_reducible refine LeO.ite ?_ ?_)
   | (with_reducible refine LeO.bind ?_ (fun _ => ?_))
   | exact ih0 _ _ _ _ _ _
   | exact ih1 _ _ _ _ _ _ _
   | exact ih2 _ _ _ _ _ _ _ _
   | exact ih3 _ _ _ _ _ _ _ _
   | exact ih4 _ _ _ _ _ _ _
   | exact fairwaylaw11_Heavy.mono _ _ _ _ _ _
   | exact fairwaylaw12_wakes.mono _
   | exact fairwayref10_From.mono _ _ _
   | exact fairwayref10_Risen.mono _ _
   | exact index_From.mono _ _ _
   | exact LeO.none _
   | refine LeO.ite ?_ ?_
   | refine LeO.bind ?_ (fun _ => ?_)
  ·intro y0 y1 y2 y3 y4 y5 y6 y7
   unfold fairwaylaw12_IndexFroms.l2
   repeat' first
   | (with_reducible exact ih0 _ _ _ _ _ _)
   | (with_reducible exact ih1 _ _ _ _ _ _ _)
   | (with_reducible exact ih2 _ _ _ _ _ _ _ _)
   | (with_reducible exact ih3 _ _ _ _ _ _ _ _)
   | (with_reducible exact ih4 _ _ _ _ _ _ _)
   | (with_reducible exact fairwaylaw11_Heavy.mono _ _ _ _ _ _)
   | (with_reducible exact fairwaylaw12_wakes.mono _)
   | (with_reducible exact fairwayref10_From.mono _ _ _)
   | (with_reducible exact fairwayref10_Risen.mono _ _)
   | (with_reducible exact index_From.mono _ _ _)
   | (with_reducible exact LeO.refl _)
   | (with_reducible exact LeO.none _)
   | (with_reducible refine LeO.ite ?_ ?_)
   | (with_reducible refine LeO.bind ?_ (fun _ => ?_))
   | exact ih0 _ _ _ _ _ _
   | exact ih1 _ _ _ _ _ _ _
   | exact ih2 _ _ _ _ _ _ _ _
   | exact ih3 _ _ _ _ _ _ _ _
   | exact ih4 _ _ _ _ _ _ _
   | exact fairwaylaw11_Heavy.mono _ _ _ _ _ _
   | exact fairwaylaw12_wakes.mono _
   | exact fairwayref10_From.mono _ _ _
   | exact fairwayref10_Risen.mono _ _
   | exact index_From.mono _ _ _
   | exact LeO.none _
   | refine LeO.ite ?_ ?_
   | refine LeO.bind ?_ (fun _ => ?_)
  ·intro y0 y1 y2 y3 y4 y5 y6
   unfold fairwaylaw12_IndexFroms.l0
   repeat' first
   | (with_reducible exact ih0 _ _ _ _ _ _)
   | (with_reducible exact ih1 _ _ _ _ _ _ _)
   | (with_reducible exact ih2 _ _ _ _ _ _ _ _)
   | (with_reducible exact ih3 _ _ _ _ _ _ _ _)
   | (with_reducible exact ih4 _ _ _ _ _ _ _)
   | (with_reducible exact fairwaylaw11_Heavy.mono _ _ _ _ _ _)
   | (with_reducible exact fairwaylaw12_wakes.mono _)
   | (with_reducible exact fairwayref10_From.mono _ _ _)
   | (with_reducible exact fairwayref10_Risen.mono _ _)
   | (with_reducible exact index_From.mono _ _ _)
   | (with_reducible exact LeO.refl _)
   | (with_reducible exact LeO.none _)
   | (with_reducible refine LeO.ite ?_ ?_)
   | (with_reducible refine LeO.bind ?_ (fun _ => ?_))
   | exact ih0 _ _ _ _ _ _
   | exact ih1 _ _ _ _ _ _ _
   | exact ih2 _ _ _ _ _ _ _ _
   | exact ih3 _ _ _ _ _ _ _ _
   | exact ih4 _ _ _ _ _ _ _
   | exact fairwaylaw11_Heavy.mono _ _ _ _ _ _
   | exact fairwaylaw12_wakes.mono _
   | exact fairwayref10_From.mono _ _ _
   | exact fairwayref10_Risen.mono _ _
   | exact index_From.mono _ _ _
   | exact LeO.none _
   | refine LeO.ite ?_ ?_
   | refine LeO.bind ?_ (fun _ => ?_)
theorem fairwaylaw12_IndexFroms.mono : ∀ a0 a1 a2 a3 a4 k, LeO (fairwaylaw12_IndexFroms.f k a0 a1 a2 a3 a4) (fairwaylaw12_IndexFroms.f (k + 1) a0 a1 a2 a3 a4) := by
 intro a0 a1 a2 a3 a4 k
 obtain ⟨ih0, ih1, ih2, ih3, ih4⟩ := fairwaylaw12_IndexFroms.mono_l k
 unfold fairwaylaw12_IndexFroms.f
 repeat' first
  | (with_reducible exact ih0 _ _ _ _ _ _)
  | (with_reducible exact ih1 _ _ _ _ _ _ _)
  | (with_reducible exact ih2 _ _ _ _ _ _ _ _)
  | (with_reducible exact ih3 _ _ _ _ _ _ _ _)
  | (with_reducible exact ih4 _ _ _ _ _ _ _)
  | (with_reducible exact fairwaylaw11_Heavy.mono _ _ _ _ _ _)
  | (with_reducible exact fairwaylaw12_wakes.mono _)
  | (with_reducible exact fairwayref10_From.mono _ _ _)
  | (with_reducible exact fairwayref10_Risen.mono _ _)
  | (with_reducible exact index_From.mono _ _ _)
  | (with_reducible exact LeO.refl _)
  | (with_reducible exact LeO.none _)
  | (with_reducible refine LeO.ite ?_ ?_)
  | (with_reducible refine LeO.bind ?_ (fun _ => ?_))
  | exact ih0 _ _ _ _ _ _
  | exact ih1 _ _ _ _ _ _ _
  | exact ih2 _ _ _ _ _ _ _ _
  | exact ih3 _ _ _ _ _ _ _ _
  | exact ih4 _ _ _ _ _ _ _
  | exact fairwaylaw11_Heavy.mono _ _ _ _ _ _
  | exact fairwaylaw12_wakes.mono _
  | exact fairwayref10_From.mono _ _ _
  | exact fairwayref10_Risen.mono _ _
  | exact index_From.mono _ _ _
  | exact LeO.none _
  | refine LeO.ite ?_ ?_
  | refine LeO.bind ?_ (fun _ => ?_)
def fairwaylaw12_IndexFroms.T7 : Bool × List (List Nat × List Nat) := (true, [([], []), ([], []), ([1], [1]), ([], []), ([2, 3], [2, 3]), ([4], [4]), ([5], [5]), ([], []), ([7], [7]), ([], []), ([8, 9], [8, 9]), ([10], [10]), ([11], [11]), ([6, 12], [6, 12]), ([13], [13]), ([0, 14], [0, 14]), ([15, 15, 0, 1, 2, 3, 4, 5, 6, 7, 8, 9, 10, 11, 12, 13, 14, 15], [0, 15])])
def fairwaylaw12_IndexFroms.B7 : List Nat := [0, 0, 2, 0, 14, 30, 62, 0, 128, 0, 896, 1920, 3968, 8190, 16382, 32767, 65535]
theorem fairwaylaw12_IndexFroms.tab7 : rtab .any (opsOf Try.f11 7) = fairwaylaw12_IndexFroms.T7 := by kernel_rfl
theorem fairwaylaw12_IndexFroms.bits7 : waitsOk fairwaylaw12_IndexFroms.T7.2 fairwaylaw12_IndexFroms.B7 = true := by kernel_rfl
def fairwaylaw12_IndexFroms.T14 : Bool × List (List Nat × List Nat) := (true, [([], []), ([], []), ([0, 1], [0, 1]), ([], []), ([3], [3]), ([], []), ([4, 5], [4, 5]), ([6], [6]), ([2, 7], [2, 7]), ([8], [8]), ([9], [9]), ([9], [9]), ([], []), ([12, 10, 8, 0, 1, 2, 3, 4, 5, 6, 7, 8, 9, 10, 12], [10, 12]), ([11, 13, 0, 1, 2, 3, 4, 5, 6, 7, 8, 9, 10, 11, 12, 13], [11])])
def fairwaylaw12_IndexFroms.B14 : List Nat := [0, 0, 3, 0, 8, 0, 56, 120, 255, 511, 1023, 1023, 0, 6143, 16383]
theorem fairwaylaw12_IndexFroms.tab14 : rtab .any (opsOf Try.f11 14) = fairwaylaw12_IndexFroms.T14 := by kernel_rfl
theorem fairwaylaw12_IndexFroms.bits14 : waitsOk fairwaylaw12_IndexFroms.T14.2 fairwaylaw12_IndexFroms.B14 = true := by kernel_rfl
def fairwaylaw12_IndexFroms.T18 : Bool × List (List Nat × List Nat) := (true, [([], []), ([], []), ([0, 1], [0, 1]), ([], []), ([3], [3]), ([], []), ([4, 5], [4, 5]), ([6], [6]), ([2, 7], [2, 7]), ([8, 8, 0, 1, 2, 3, 4, 5, 6, 7, 8], [8])])
def fairwaylaw12_IndexFroms.B18 : List Nat := [0, 0, 3, 0, 8, 0, 56, 120, 255, 511]
theorem fairwaylaw12_IndexFroms.tab18 : rtab .any (opsOf Try.f11 18) = fairwaylaw12_IndexFroms.T18 := by kernel_rfl
theorem fairwaylaw12_IndexFroms.bits18 : waitsOk fairwaylaw12_IndexFroms.T18.2 fairwaylaw12_IndexFroms.B18 = true := by kernel_rfl
end Go.Proofs.Ytmabdfdmccbfnaa.P

