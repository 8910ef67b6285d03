/- The law RecBack: printed functions, their contracts, the plain laws and the row, part 4. -/
import Derived.Test.YtmabdfdmccbfnaaProg
import Derived.Below
import Derived.Deep.Draws
import Derived.Deep.AppendLies
import Derived.Maps.AppendAt
import Derived.OwnWalk
import Derived.Laws.BytesArg
import Derived.Laws.MakeOwn
import Derived.Laws.OwnMore
import Derived.Deep.OwnRows
import Derived.Tactics
import Derived.Lib.ConvBytes
import Derived.Laws.Slices
import Derived.WalkKit
import Derived.KernelRfl
import Derived.RowKit3
import Derived.Deep.LoopGhost
import Derived.Deep.QuietTactic
import Derived.BigQuiet
import Derived.WideLaws
import Derived.Deep.DeepCutAuto
import Derived.Deep.CutBlock
import Derived.Deep.RegionHeld3
import Derived.Laws.Rows
import Derived.Lib.AppendStr
import Derived.ArgAppend
import Derived.Laws.IdiomCopy
import Derived.OrdersHeld
import Derived.Laws.BitsLemmas
import Derived.RowKit
import Derived.WalkSpells
import Derived.Test.YtmabdfdmccbfnaaKRecBack2
import Derived.Test.YtmabdfdmccbfnaaKRecBack0
import Derived.Test.YtmabdfdmccbfnaaKRecBack1
import Derived.Test.YtmabdfdmccbfnaaKRecBack3
-- written by a program of the proving session, out of the translation; Lean checks it
namespace Go.Proofs.Ytmabdfdmccbfnaa.P
open Go.RowKit Go.Proofs.Ytmabdfdmccbfnaa.Sq Go.Proofs.YtmabdfdmccbfnaaW.PrintWords Go.Proofs.YtmabdfdmccbfnaaW.PrintLast Go.Proofs.YtmabdfdmccbfnaaW.PrintMore
attribute [local go_sem] max2_int min2_int max_two min_two max_three min_three max_four min_four   -- for this text's walks alone
set_option linter.unusedVariables false
set_option linter.unusedSimpArgs false



def errW : Option Int → Value
 | none => .nilIface
 | some c => .iface 0 (.int .i64 c)
theorem errW_none : errW none = .nilIface := rfl
theorem errW_some (c : Int) : errW (some c) = .iface 0 (.int .i64 c) := rfl

theorem info3 : (Try.prog.info? 3).map (fun i => (i.zero, i.size, i.bytes)) = some (some (.int .i64 0), 1, 8) := by kernel_rfl
theorem info5 : (Try.prog.info? 5).map (fun i => (i.zero, i.size, i.bytes)) = some (some (.int .u8 0), 1, 1) := by kernel_rfl
theorem info25 : (Try.prog.info? 25).map (fun i => (i.zero, i.size, i.bytes)) = some (some (.agg #[(.int .i64 0), (.int .i64 0), (.string ⟨#[]⟩), (.string ⟨#[]⟩), (.int .i64 0), (.bool false)]), 6, 64) := by kernel_rfl
theorem info77 : (Try.prog.info? 77).map (fun i => (i.zero, i.size, i.bytes)) = some (some (.agg #[(.int .i64 0), (.int .i64 0)]), 2, 16) := by kernel_rfl
-- the values' own types
/-! #### struct type 25 -/
structure S25 where
 f0 : Int
 f1 : Int
 f2 : ByteArray
 f3 : ByteArray
 f4 : Int
 f5 : Bool
def z25 : S25 := ⟨(0 : Int), (0 : Int), (⟨#[]⟩ : ByteArray), (⟨#[]⟩ : ByteArray), (0 : Int), false⟩
def k25 : Kd S25 := Kd.iso (Kd.pair (Kd.int .i64) (Kd.pair (Kd.int .i64) (Kd.pair Kd.string (Kd.pair Kd.string (Kd.pair (Kd.int .i64) Kd.bool))))) (fun x : S25 => (x.f0, x.f1, x.f2, x.f3, x.f4, x.f5))
theorem k25_open {w : World} {x : S25} {cs : List Value} (h : k25.K w x cs) : cs = [.int .i64 x.f0, .int .i64 x.f1, .string x.f2, .string x.f3, .int .i64 x.f4, .bool x.f5] := by
 obtain ⟨_, _, rfl, rfl, ⟨_, _, rfl, rfl, ⟨_, _, rfl, rfl, ⟨_, _, rfl, rfl, ⟨_, _, rfl, rfl, rfl⟩⟩⟩⟩⟩ := h
 exact rfl
theorem k25_openM {w : World} {base : Nat} {ok : Nat → Prop} {x : S25} {cs : List Value} (h : k25.M w base ok x cs) : cs = [.int .i64 x.f0, .int .i64 x.f1, .string x.f2, .string x.f3, .int .i64 x.f4, .bool x.f5] := by
 obtain ⟨_, _, rfl, rfl, ⟨_, _, rfl, rfl, ⟨_, _, rfl, rfl, ⟨_, _, rfl, rfl, ⟨_, _, rfl, rfl, rfl⟩⟩⟩⟩⟩ := h
 exact rfl
theorem k25_mk (w : World) (x : S25)  : k25.K w x [.int .i64 x.f0, .int .i64 x.f1, .string x.f2, .string x.f3, .int .i64 x.f4, .bool x.f5] := ⟨[.int .i64 x.f0], [.int .i64 x.f1, .string x.f2, .string x.f3, .int .i64 x.f4, .bool x.f5], rfl, rfl, ⟨[.int .i64 x.f1], [.string x.f2, .string x.f3, .int .i64 x.f4, .bool x.f5], rfl, rfl, ⟨[.string x.f2], [.string x.f3, .int .i64 x.f4, .bool x.f5], rfl, rfl, ⟨[.string x.f3], [.int .i64 x.f4, .bool x.f5], rfl, rfl, ⟨[.int .i64 x.f4], [.bool x.f5], rfl, rfl, rfl⟩⟩⟩⟩⟩
theorem k25_mkM (w : World) (base : Nat) (ok : Nat → Prop) (x : S25)  : k25.M w base ok x [.int .i64 x.f0, .int .i64 x.f1, .string x.f2, .string x.f3, .int .i64 x.f4, .bool x.f5] := ⟨[.int .i64 x.f0], [.int .i64 x.f1, .string x.f2, .string x.f3, .int .i64 x.f4, .bool x.f5], rfl, rfl, ⟨[.int .i64 x.f1], [.string x.f2, .string x.f3, .int .i64 x.f4, .bool x.f5], rfl, rfl, ⟨[.string x.f2], [.string x.f3, .int .i64 x.f4, .bool x.f5], rfl, rfl, ⟨[.string x.f3], [.int .i64 x.f4, .bool x.f5], rfl, rfl, ⟨[.int .i64 x.f4], [.bool x.f5], rfl, rfl, rfl⟩⟩⟩⟩⟩
def rd_T25 (xs : List S25) (i : Int) : S25 := xs.getD i.toNat z25
theorem at_T25 {w : World} {A : Option Addr} {n : Nat} {xs : List S25} (h : Kd.C k25 w A n xs) (i : Int) (h0 : 0 ≤ i) (h1 : i < n) : ∃ ad , A = some ad ∧ w.cell? (ad.add (i.toNat * 6)) = some (.int .i64 (rd_T25 xs i).f0) ∧ w.cell? ⟨(ad.add (i.toNat * 6)).block, (ad.add (i.toNat * 6)).off + 1, none⟩ = some (.int .i64 (rd_T25 xs i).f1) ∧ w.cell? ⟨(ad.add (i.toNat * 6)).block, (ad.add (i.toNat * 6)).off + 2, none⟩ = some (.string (rd_T25 xs i).f2) ∧ w.cell? ⟨(ad.add (i.toNat * 6)).block, (ad.add (i.toNat * 6)).off + 3, none⟩ = some (.string (rd_T25 xs i).f3) ∧ w.cell? ⟨(ad.add (i.toNat * 6)).block, (ad.add (i.toNat * 6)).off + 4, none⟩ = some (.int .i64 (rd_T25 xs i).f4) ∧ w.cell? ⟨(ad.add (i.toNat * 6)).block, (ad.add (i.toNat * 6)).off + 5, none⟩ = some (.bool (rd_T25 xs i).f5) := by
 obtain ⟨ad, c, e, _, hK, hc0⟩ := Kd.C_get h z25 i h0 h1
 have hc : ∀ j u, c[j]? = some u → w.cell? (ad.add (i.toNat * 6 + j)) = some u := hc0
 obtain rfl := k25_open hK
 exact ⟨ad, e, hc 0 _ rfl, by rw [← add_field _ _ 1 (by omega)]; exact hc 1 _ rfl, by rw [← add_field _ _ 2 (by omega)]; exact hc 2 _ rfl, by rw [← add_field _ _ 3 (by omega)]; exact hc 3 _ rfl, by rw [← add_field _ _ 4 (by omega)]; exact hc 4 _ rfl, by rw [← add_field _ _ 5 (by omega)]; exact hc 5 _ rfl⟩

def rd_L5 (xs : List (List S25)) (i : Int) : (List S25) := xs.getD i.toNat ([] : List S25)
theorem at_L5 {w : World} {A : Option Addr} {n : Nat} {xs : List (List S25)} (h : Kd.C (Kd.slice 25 k25) w A n xs) (i : Int) (h0 : 0 ≤ i) (h1 : i < n) : ∃ ad A0 c0, A = some ad ∧ w.cell? (ad.add i.toNat) = some (.slice A0 (rd_L5 xs i).length c0) ∧ (rd_L5 xs i).length ≤ c0 ∧ k25.C w A0 (rd_L5 xs i).length (rd_L5 xs i) := by
 obtain ⟨ad, c, e, _, hK, hc0⟩ := Kd.C_get h ([] : List S25) i h0 h1
 have hc : ∀ j u, c[j]? = some u → w.cell? (ad.add (i.toNat * 1 + j)) = some u := hc0
 obtain ⟨A0, c0, rfl, l0, g0⟩ := hK
 exact ⟨ad, A0, c0, e, by have hq := hc 0 _ rfl; rwa [Nat.mul_one, Nat.add_zero] at hq, l0, g0⟩

/-! #### struct type 38 -/
structure S38 where
 f0 : (List S25)
 f1 : ByteArray
def z38 : S38 := ⟨([] : List S25), (⟨#[]⟩ : ByteArray)⟩
def k38 : Kd S38 := Kd.iso (Kd.pair (Kd.slice 25 k25) Kd.string) (fun x : S38 => (x.f0, x.f1))
theorem k38_open {w : World} {x : S38} {cs : List Value} (h : k38.K w x cs) : ∃ A0 c0, cs = [.slice A0 x.f0.length c0, .string x.f1] ∧ x.f0.length ≤ c0 ∧ k25.C w A0 x.f0.length x.f0 := by
 obtain ⟨_, _, rfl, ⟨A0, c0, rfl, l0, g0⟩, rfl⟩ := h
 exact ⟨A0, c0, rfl, l0, g0⟩
theorem k38_openM {w : World} {base : Nat} {ok : Nat → Prop} {x : S38} {cs : List Value} (h : k38.M w base ok x cs) : ∃ v0, cs = [v0, .string x.f1] ∧ k25.R 25 w base ok v0 x.f0 := by
 obtain ⟨_, _, rfl, ⟨v0, rfl, g0⟩, rfl⟩ := h
 exact ⟨v0, rfl, g0⟩
theorem k38_mk (w : World) (x : S38) {A0 : Option Addr} {c0 : Nat} (l0 : x.f0.length ≤ c0) (g0 : k25.C w A0 x.f0.length x.f0) : k38.K w x [.slice A0 x.f0.length c0, .string x.f1] := ⟨[.slice A0 x.f0.length c0], [.string x.f1], rfl, ⟨A0, c0, rfl, l0, g0⟩, rfl⟩
theorem k38_mkM (w : World) (base : Nat) (ok : Nat → Prop) (x : S38) {v0 : Value} (g0 : k25.R 25 w base ok v0 x.f0) : k38.M w base ok x [v0, .string x.f1] := ⟨[v0], [.string x.f1], rfl, ⟨v0, rfl, g0⟩, rfl⟩
def rd_T38 (xs : List S38) (i : Int) : S38 := xs.getD i.toNat z38
theorem at_T38 {w : World} {A : Option Addr} {n : Nat} {xs : List S38} (h : Kd.C k38 w A n xs) (i : Int) (h0 : 0 ≤ i) (h1 : i < n) : ∃ ad A0 c0, A = some ad ∧ w.cell? (ad.add (i.toNat * 2)) = some (.slice A0 (rd_T38 xs i).f0.length c0) ∧ w.cell? ⟨(ad.add (i.toNat * 2)).block, (ad.add (i.toNat * 2)).off + 1, none⟩ = some (.string (rd_T38 xs i).f1) ∧ (rd_T38 xs i).f0.length ≤ c0 ∧ k25.C w A0 (rd_T38 xs i).f0.length (rd_T38 xs i).f0 := by
 obtain ⟨ad, c, e, _, hK, hc0⟩ := Kd.C_get h z38 i h0 h1
 have hc : ∀ j u, c[j]? = some u → w.cell? (ad.add (i.toNat * 2 + j)) = some u := hc0
 obtain ⟨A0, c0, rfl, l0, g0⟩ := k38_open hK
 exact ⟨ad, A0, c0, e, hc 0 _ rfl, by rw [← add_field _ _ 1 (by omega)]; exact hc 1 _ rfl, l0, g0⟩

/-! #### struct type 53 -/
structure S53 where
 f0 : Int
 f1 : (List S25)
def z53 : S53 := ⟨(0 : Int), ([] : List S25)⟩
def k53 : Kd S53 := Kd.iso (Kd.pair (Kd.int .i64) (Kd.slice 25 k25)) (fun x : S53 => (x.f0, x.f1))
theorem k53_open {w : World} {x : S53} {cs : List Value} (h : k53.K w x cs) : ∃ A1 c1, cs = [.int .i64 x.f0, .slice A1 x.f1.length c1] ∧ x.f1.length ≤ c1 ∧ k25.C w A1 x.f1.length x.f1 := by
 obtain ⟨_, _, rfl, rfl, ⟨A1, c1, rfl, l1, g1⟩⟩ := h
 exact ⟨A1, c1, rfl, l1, g1⟩
theorem k53_openM {w : World} {base : Nat} {ok : Nat → Prop} {x : S53} {cs : List Value} (h : k53.M w base ok x cs) : ∃ v1, cs = [.int .i64 x.f0, v1] ∧ k25.R 25 w base ok v1 x.f1 := by
 obtain ⟨_, _, rfl, rfl, ⟨v1, rfl, g1⟩⟩ := h
 exact ⟨v1, rfl, g1⟩
theorem k53_mk (w : World) (x : S53) {A1 : Option Addr} {c1 : Nat} (l1 : x.f1.length ≤ c1) (g1 : k25.C w A1 x.f1.length x.f1) : k53.K w x [.int .i64 x.f0, .slice A1 x.f1.length c1] := ⟨[.int .i64 x.f0], [.slice A1 x.f1.length c1], rfl, rfl, ⟨A1, c1, rfl, l1, g1⟩⟩
theorem k53_mkM (w : World) (base : Nat) (ok : Nat → Prop) (x : S53) {v1 : Value} (g1 : k25.R 25 w base ok v1 x.f1) : k53.M w base ok x [.int .i64 x.f0, v1] := ⟨[.int .i64 x.f0], [v1], rfl, rfl, ⟨v1, rfl, g1⟩⟩
def rd_T53 (xs : List S53) (i : Int) : S53 := xs.getD i.toNat z53
theorem at_T53 {w : World} {A : Option Addr} {n : Nat} {xs : List S53} (h : Kd.C k53 w A n xs) (i : Int) (h0 : 0 ≤ i) (h1 : i < n) : ∃ ad A1 c1, A = some ad ∧ w.cell? (ad.add (i.toNat * 2)) = some (.int .i64 (rd_T53 xs i).f0) ∧ w.cell? ⟨(ad.add (i.toNat * 2)).block, (ad.add (i.toNat * 2)).off + 1, none⟩ = some (.slice A1 (rd_T53 xs i).f1.length c1) ∧ (rd_T53 xs i).f1.length ≤ c1 ∧ k25.C w A1 (rd_T53 xs i).f1.length (rd_T53 xs i).f1 := by
 obtain ⟨ad, c, e, _, hK, hc0⟩ := Kd.C_get h z53 i h0 h1
 have hc : ∀ j u, c[j]? = some u → w.cell? (ad.add (i.toNat * 2 + j)) = some u := hc0
 obtain ⟨A1, c1, rfl, l1, g1⟩ := k53_open hK
 exact ⟨ad, A1, c1, e, hc 0 _ rfl, by rw [← add_field _ _ 1 (by omega)]; exact hc 1 _ rfl, l1, g1⟩

/-! #### struct type 77 -/
structure S77 where
 f0 : Int
 f1 : Int
def z77 : S77 := ⟨(0 : Int), (0 : Int)⟩
def k77 : Kd S77 := Kd.iso (Kd.pair (Kd.int .i64) (Kd.int .i64)) (fun x : S77 => (x.f0, x.f1))
theorem k77_open {w : World} {x : S77} {cs : List Value} (h : k77.K w x cs) : cs = [.int .i64 x.f0, .int .i64 x.f1] := by
 obtain ⟨_, _, rfl, rfl, rfl⟩ := h
 exact rfl
theorem k77_openM {w : World} {base : Nat} {ok : Nat → Prop} {x : S77} {cs : List Value} (h : k77.M w base ok x cs) : cs = [.int .i64 x.f0, .int .i64 x.f1] := by
 obtain ⟨_, _, rfl, rfl, rfl⟩ := h
 exact rfl
theorem k77_mk (w : World) (x : S77)  : k77.K w x [.int .i64 x.f0, .int .i64 x.f1] := ⟨[.int .i64 x.f0], [.int .i64 x.f1], rfl, rfl, rfl⟩
theorem k77_mkM (w : World) (base : Nat) (ok : Nat → Prop) (x : S77)  : k77.M w base ok x [.int .i64 x.f0, .int .i64 x.f1] := ⟨[.int .i64 x.f0], [.int .i64 x.f1], rfl, rfl, rfl⟩
def rd_T77 (xs : List S77) (i : Int) : S77 := xs.getD i.toNat z77
theorem at_T77 {w : World} {A : Option Addr} {n : Nat} {xs : List S77} (h : Kd.C k77 w A n xs) (i : Int) (h0 : 0 ≤ i) (h1 : i < n) : ∃ ad , A = some ad ∧ w.cell? (ad.add (i.toNat * 2)) = some (.int .i64 (rd_T77 xs i).f0) ∧ w.cell? ⟨(ad.add (i.toNat * 2)).block, (ad.add (i.toNat * 2)).off + 1, none⟩ = some (.int .i64 (rd_T77 xs i).f1) := by
 obtain ⟨ad, c, e, _, hK, hc0⟩ := Kd.C_get h z77 i h0 h1
 have hc : ∀ j u, c[j]? = some u → w.cell? (ad.add (i.toNat * 2 + j)) = some u := hc0
 obtain rfl := k77_open hK
 exact ⟨ad, e, hc 0 _ rfl, by rw [← add_field _ _ 1 (by omega)]; exact hc 1 _ rfl⟩

end Go.Proofs.Ytmabdfdmccbfnaa.P

-- written by a program of the proving session, out of the translation; Lean checks it
namespace Go.Proofs.Ytmabdfdmccbfnaa.P
open Go.RowKit Go.Proofs.Ytmabdfdmccbfnaa.Sq Go.Proofs.YtmabdfdmccbfnaaW.PrintWords Go.Proofs.YtmabdfdmccbfnaaW.PrintLast Go.Proofs.YtmabdfdmccbfnaaW.PrintMore
attribute [local go_sem] max2_int min2_int max_two min_two max_three min_three max_four min_four   -- for this text's walks alone
set_option linter.unusedVariables false
set_option linter.unusedSimpArgs false

/-! ### rec_Check: function 22 -/
def rec_Check.j0 : Nat → Bool → Int → Int → ByteArray → ByteArray → Int → Bool → Option (Int)
 | 0, _, _, _, _, _, _, _ => none
 | k + 1, x3, x102000, x102001, x102002, x102003, x102004, x102005 => if x3 = true then (some 1) else (if (x102002.size : Int) > 1024 then (some 1) else (if (x102003.size : Int) > 1024 then (some 1) else (if x102005 = true then (if x102003.toList = ([] : List UInt8) then (some 0) else (some 1)) else (some 0))))
def rec_Check.f (k : Nat) (a0_0 : Int) (a0_1 : Int) (a0_2 : ByteArray) (a0_3 : ByteArray) (a0_4 : Int) (a0_5 : Bool) : Option (Int) := if a0_0 < 0 then (rec_Check.j0 k true a0_0 a0_1 a0_2 a0_3 a0_4 a0_5) else (if a0_0 ≥ 1099511627776 then (rec_Check.j0 k true a0_0 a0_1 a0_2 a0_3 a0_4 a0_5) else (if a0_1 < 0 then (rec_Check.j0 k true a0_0 a0_1 a0_2 a0_3 a0_4 a0_5) else (if a0_1 > 1099511627776 then (rec_Check.j0 k true a0_0 a0_1 a0_2 a0_3 a0_4 a0_5) else (if a0_4 < 0 then (rec_Check.j0 k true a0_0 a0_1 a0_2 a0_3 a0_4 a0_5) else (rec_Check.j0 k (decide (a0_4 > 2)) a0_0 a0_1 a0_2 a0_3 a0_4 a0_5)))))
theorem rec_Check.mono_l : ∀ k, (∀ y0 y1 y2 y3 y4 y5 y6, LeO (rec_Check.j0 k y0 y1 y2 y3 y4 y5 y6) (rec_Check.j0 (k + 1) y0 y1 y2 y3 y4 y5 y6))
 | 0 => fun _ _ _ _ _ _ _ r h => by simp [rec_Check.j0] at h
 | k + 1 => by
  have ih0 := rec_Check.mono_l k
  ·intro y0 y1 y2 y3 y4 y5 y6
   unfold rec_Check.j0
   repeat' first
   | (with_reducible exact ih0 _ _ _ _ _ _ _)
   | (with_reducible exact LeO.refl _)
   | (with_reducible exact LeO.none _)
   | (with_reducible refine LeO.ite ?_ ?_)
   | (with_reducible refine LeO.bind ?_ (fun _ => ?_))
   | exact ih0 _ _ _ _ _ _ _
   | exact LeO.none _
   | refine LeO.ite ?_ ?_
   | refine LeO.bind ?_ (fun _ => ?_)
theorem rec_Check.mono : ∀ a0 a1 a2 a3 a4 a5 k, LeO (rec_Check.f k a0 a1 a2 a3 a4 a5) (rec_Check.f (k + 1) a0 a1 a2 a3 a4 a5) := by
 intro a0 a1 a2 a3 a4 a5 k
 have ih0 := rec_Check.mono_l k
 unfold rec_Check.f
 repeat' first
  | (with_reducible exact ih0 _ _ _ _ _ _ _)
  | (with_reducible exact LeO.refl _)
  | (with_reducible exact LeO.none _)
  | (with_reducible refine LeO.ite ?_ ?_)
  | (with_reducible refine LeO.bind ?_ (fun _ => ?_))
  | exact ih0 _ _ _ _ _ _ _
  | exact LeO.none _
  | refine LeO.ite ?_ ?_
  | refine LeO.bind ?_ (fun _ => ?_)
set_option maxHeartbeats 8000000 in
set_option maxRecDepth 100000 in
theorem rec_Check.calls (k : Nat) (a0_0 : Int) (a0_1 : Int) (a0_2 : ByteArray) (a0_3 : ByteArray) (a0_4 : Int) (a0_5 : Bool) (r : Int) (w : World) (h : rec_Check.f k a0_0 a0_1 a0_2 a0_3 a0_4 a0_5 = some r) :
 Calls Try.prog 22 #[.agg #[.int .i64 a0_0, .int .i64 a0_1, .string a0_2, .string a0_3, .int .i64 a0_4, .bool a0_5]] w fun e w' => e = .returned (.int .i64 r) ∧ Below w.heap.size w w' := by
 have hu25 := Try.underlying25
 have HB := Aside0.mk (Below.refl w.heap.size w)
 have H : (if a0_0 < 0 then (rec_Check.j0 k true a0_0 a0_1 a0_2 a0_3 a0_4 a0_5) else (if a0_0 ≥ 1099511627776 then (rec_Check.j0 k true a0_0 a0_1 a0_2 a0_3 a0_4 a0_5) else (if a0_1 < 0 then (rec_Check.j0 k true a0_0 a0_1 a0_2 a0_3 a0_4 a0_5) else (if a0_1 > 1099511627776 then (rec_Check.j0 k true a0_0 a0_1 a0_2 a0_3 a0_4 a0_5) else (if a0_4 < 0 then (rec_Check.j0 k true a0_0 a0_1 a0_2 a0_3 a0_4 a0_5) else (rec_Check.j0 k (decide (a0_4 > 2)) a0_0 a0_1 a0_2 a0_3 a0_4 a0_5)))))) = some r := h
 clear h
 have HC2 := Aside0.mk H
 clear H
 go_enter Try.func22, Try.ntmps22
 go_upto_region 1 with (first | ((with_reducible refine gate_dst (N := 1) rfl ?_); (try (refine gate_guard (by rfl) ?_; dsimp only)); refine box_event ?hg (N := 1) ?hd (cs := #[.int .i64 a0_0, .int .i64 a0_1, .string a0_2, .string a0_3, .int .i64 a0_4, .bool a0_5]) (t := 25) ?hr ?_; (case hd => rfl); (case hg => rfl); (case hr => first | (go_simp; done) | (go_simp; rfl)); intro gb101 hg w3 hbox hb; have BK101 := Aside0.mk (hbox); have GW101 := Aside0.mk ((by rw [hg]; exact (below_size bo) : w.heap.size ≤ gb101)); have GE101 := Aside0.mk ((by rw [hg]; exact (below_size bo) : w.heap.size ≤ gb101)); replace HB := Aside0.mk (below_step bo hb); clear hb hbox hg))
 (try simp only [Act.put, List.setIfInBounds_toArray, List.set_cons_zero, List.set_cons_succ])
 go_cut [3] (fun v3 wc => ∃ (kq : Nat) (x3_1 : Bool), v3 = .bool x3_1 ∧ Aside0 (rec_Check.j0 kq x3_1 a0_0 a0_1 a0_2 a0_3 a0_4 a0_5 = some r) ∧ Aside0 (kq ≤ k) ∧ Aside0 (wc.heap[gb101]? = some (.cells #[.int .i64 a0_0, .int .i64 a0_1, .string a0_2, .string a0_3, .int .i64 a0_4, .bool a0_5] 25 (0, 0))) ∧ Aside0 (Below w.heap.size w wc))
 case first =>
  have H := HC2.out
  clear HC2
  by_cases c4 : a0_0 < 0
  ·rw [if_pos c4] at H
   have c4b0 : decide (a0_0 < 0) = true := decide_eq_true c4
   clear c4
   (first | rw [c4b0] | (simp only [i64_w, i32_w]; rw [c4b0]) | skip)
   have H' := Aside0.mk H
   clear H
   have hcz5_0 : w3.cell? ⟨gb101, 0, none⟩ = some (.int .i64 a0_0) := (blk_cell BK101.out 0).trans rfl
   have hcz5_1 : w3.cell? ⟨gb101, 1, none⟩ = some (.int .i64 a0_1) := (blk_cell BK101.out 1).trans rfl
   have hcz5_2 : w3.cell? ⟨gb101, 2, none⟩ = some (.string a0_2) := (blk_cell BK101.out 2).trans rfl
   have hcz5_3 : w3.cell? ⟨gb101, 3, none⟩ = some (.string a0_3) := (blk_cell BK101.out 3).trans rfl
   have hcz5_4 : w3.cell? ⟨gb101, 4, none⟩ = some (.int .i64 a0_4) := (blk_cell BK101.out 4).trans rfl
   have hcz5_5 : w3.cell? ⟨gb101, 5, none⟩ = some (.bool a0_5) := (blk_cell BK101.out 5).trans rfl
   have hfz5_0 := blk_frozen BK101.out 0
   have hfz5_1 := blk_frozen BK101.out 1
   have hfz5_2 := blk_frozen BK101.out 2
   have hfz5_3 := blk_frozen BK101.out 3
   have hfz5_4 := blk_frozen BK101.out 4
   have hfz5_5 := blk_frozen BK101.out 5
   go_wp2
   go_meet
   case rel => exact ⟨_, (true), ap, H', ⟨by first | omega | exact Nat.le_refl _⟩, ⟨by (with_reducible repeat (first | refine blk_drewN ?_ _ | refine blk_drew ?_ | refine blk_alloc ?_ _)); exact BK101.out⟩, ⟨bo⟩⟩
  ·rw [if_neg c4] at H
   have c4b0 : decide (a0_0 < 0) = false := decide_eq_false c4
   clear c4
   (first | rw [c4b0] | (simp only [i64_w, i32_w]; rw [c4b0]) | skip)
   by_cases c6 : a0_0 ≥ 1099511627776
   ·rw [if_pos c6] at H
    have c6b0 : decide (1099511627776 ≤ a0_0) = true := decide_eq_true c6
    clear c6
    have H' := Aside0.mk H
    clear H
    have hcz7_0 : w3.cell? ⟨gb101, 0, none⟩ = some (.int .i64 a0_0) := (blk_cell BK101.out 0).trans rfl
    have hcz7_1 : w3.cell? ⟨gb101, 1, none⟩ = some (.int .i64 a0_1) := (blk_cell BK101.out 1).trans rfl
    have hcz7_2 : w3.cell? ⟨gb101, 2, none⟩ = some (.string a0_2) := (blk_cell BK101.out 2).trans rfl
    have hcz7_3 : w3.cell? ⟨gb101, 3, none⟩ = some (.string a0_3) := (blk_cell BK101.out 3).trans rfl
    have hcz7_4 : w3.cell? ⟨gb101, 4, none⟩ = some (.int .i64 a0_4) := (blk_cell BK101.out 4).trans rfl
    have hcz7_5 : w3.cell? ⟨gb101, 5, none⟩ = some (.bool a0_5) := (blk_cell BK101.out 5).trans rfl
    have hfz7_0 := blk_frozen BK101.out 0
    have hfz7_1 := blk_frozen BK101.out 1
    have hfz7_2 := blk_frozen BK101.out 2
    have hfz7_3 := blk_frozen BK101.out 3
    have hfz7_4 := blk_frozen BK101.out 4
    have hfz7_5 := blk_frozen BK101.out 5
    go_wp2
    go_meet
    case rel => exact ⟨_, (true), ap, H', ⟨by first | omega | exact Nat.le_refl _⟩, ⟨by (with_reducible repeat (first | refine blk_drewN ?_ _ | refine blk_drew ?_ | refine blk_alloc ?_ _)); exact BK101.out⟩, ⟨bo⟩⟩
   ·rw [if_neg c6] at H
    have c6b0 : decide (1099511627776 ≤ a0_0) = false := decide_eq_false c6
    clear c6
    by_cases c8 : a0_1 < 0
    ·rw [if_pos c8] at H
     have c8b0 : decide (a0_1 < 0) = true := decide_eq_true c8
     clear c8
     have H' := Aside0.mk H
     clear H
     have hcz9_0 : w3.cell? ⟨gb101, 0, none⟩ = some (.int .i64 a0_0) := (blk_cell BK101.out 0).trans rfl
     have hcz9_1 : w3.cell? ⟨gb101, 1, none⟩ = some (.int .i64 a0_1) := (blk_cell BK101.out 1).trans rfl
     have hcz9_2 : w3.cell? ⟨gb101, 2, none⟩ = some (.string a0_2) := (blk_cell BK101.out 2).trans rfl
     have hcz9_3 : w3.cell? ⟨gb101, 3, none⟩ = some (.string a0_3) := (blk_cell BK101.out 3).trans rfl
     have hcz9_4 : w3.cell? ⟨gb101, 4, none⟩ = some (.int .i64 a0_4) := (blk_cell BK101.out 4).trans rfl
     have hcz9_5 : w3.cell? ⟨gb101, 5, none⟩ = some (.bool a0_5) := (blk_cell BK101.out 5).trans rfl
     have hfz9_0 := blk_frozen BK101.out 0
     have hfz9_1 := blk_frozen BK101.out 1
     have hfz9_2 := blk_frozen BK101.out 2
     have hfz9_3 := blk_frozen BK101.out 3
     have hfz9_4 := blk_frozen BK101.out 4
     have hfz9_5 := blk_frozen BK101.out 5
     go_wp2
     go_meet
     case rel => exact ⟨_, (true), ap, H', ⟨by first | omega | exact Nat.le_refl _⟩, ⟨by (with_reducible repeat (first | refine blk_drewN ?_ _ | refine blk_drew ?_ | refine blk_alloc ?_ _)); exact BK101.out⟩, ⟨bo⟩⟩
    ·rw [if_neg c8] at H
     have c8b0 : decide (a0_1 < 0) = false := decide_eq_false c8
     clear c8
     by_cases c10 : a0_1 > 1099511627776
     ·rw [if_pos c10] at H
      have c10b0 : decide (1099511627776 < a0_1) = true := decide_eq_true c10
      clear c10
      have H' := Aside0.mk H
      clear H
      have hcz11_0 : w3.cell? ⟨gb101, 0, none⟩ = some (.int .i64 a0_0) := (blk_cell BK101.out 0).trans rfl
      have hcz11_1 : w3.cell? ⟨gb101, 1, none⟩ = some (.int .i64 a0_1) := (blk_cell BK101.out 1).trans rfl
      have hcz11_2 : w3.cell? ⟨gb101, 2, none⟩ = some (.string a0_2) := (blk_cell BK101.out 2).trans rfl
      have hcz11_3 : w3.cell? ⟨gb101, 3, none⟩ = some (.string a0_3) := (blk_cell BK101.out 3).trans rfl
      have hcz11_4 : w3.cell? ⟨gb101, 4, none⟩ = some (.int .i64 a0_4) := (blk_cell BK101.out 4).trans rfl
      have hcz11_5 : w3.cell? ⟨gb101, 5, none⟩ = some (.bool a0_5) := (blk_cell BK101.out 5).trans rfl
      have hfz11_0 := blk_frozen BK101.out 0
      have hfz11_1 := blk_frozen BK101.out 1
      have hfz11_2 := blk_frozen BK101.out 2
      have hfz11_3 := blk_frozen BK101.out 3
      have hfz11_4 := blk_frozen BK101.out 4
      have hfz11_5 := blk_frozen BK101.out 5
      go_wp2
      go_meet
      case rel => exact ⟨_, (true), ap, H', ⟨by first | omega | exact Nat.le_refl _⟩, ⟨by (with_reducible repeat (first | refine blk_drewN ?_ _ | refine blk_drew ?_ | refine blk_alloc ?_ _)); exact BK101.out⟩, ⟨bo⟩⟩
     ·rw [if_neg c10] at H
      have c10b0 : decide (1099511627776 < a0_1) = false := decide_eq_false c10
      clear c10
      by_cases c12 : a0_4 < 0
      ·rw [if_pos c12] at H
       have c12b0 : decide (a0_4 < 0) = true := decide_eq_true c12
       clear c12
       have H' := Aside0.mk H
       clear H
       have hcz13_0 : w3.cell? ⟨gb101, 0, none⟩ = some (.int .i64 a0_0) := (blk_cell BK101.out 0).trans rfl
       have hcz13_1 : w3.cell? ⟨gb101, 1, none⟩ = some (.int .i64 a0_1) := (blk_cell BK101.out 1).trans rfl
       have hcz13_2 : w3.cell? ⟨gb101, 2, none⟩ = some (.string a0_2) := (blk_cell BK101.out 2).trans rfl
       have hcz13_3 : w3.cell? ⟨gb101, 3, none⟩ = some (.string a0_3) := (blk_cell BK101.out 3).trans rfl
       have hcz13_4 : w3.cell? ⟨gb101, 4, none⟩ = some (.int .i64 a0_4) := (blk_cell BK101.out 4).trans rfl
       have hcz13_5 : w3.cell? ⟨gb101, 5, none⟩ = some (.bool a0_5) := (blk_cell BK101.out 5).trans rfl
       have hfz13_0 := blk_frozen BK101.out 0
       have hfz13_1 := blk_frozen BK101.out 1
       have hfz13_2 := blk_frozen BK101.out 2
       have hfz13_3 := blk_frozen BK101.out 3
       have hfz13_4 := blk_frozen BK101.out 4
       have hfz13_5 := blk_frozen BK101.out 5
       go_wp2
       go_meet
       case rel => exact ⟨_, (true), ap, H', ⟨by first | omega | exact Nat.le_refl _⟩, ⟨by (with_reducible repeat (first | refine blk_drewN ?_ _ | refine blk_drew ?_ | refine blk_alloc ?_ _)); exact BK101.out⟩, ⟨bo⟩⟩
      ·rw [if_neg c12] at H
       have c12b0 : decide (a0_4 < 0) = false := decide_eq_false c12
       clear c12
       have H' := Aside0.mk H
       clear H
       have hcz14_0 : w3.cell? ⟨gb101, 0, none⟩ = some (.int .i64 a0_0) := (blk_cell BK101.out 0).trans rfl
       have hcz14_1 : w3.cell? ⟨gb101, 1, none⟩ = some (.int .i64 a0_1) := (blk_cell BK101.out 1).trans rfl
       have hcz14_2 : w3.cell? ⟨gb101, 2, none⟩ = some (.string a0_2) := (blk_cell BK101.out 2).trans rfl
       have hcz14_3 : w3.cell? ⟨gb101, 3, none⟩ = some (.string a0_3) := (blk_cell BK101.out 3).trans rfl
       have hcz14_4 : w3.cell? ⟨gb101, 4, none⟩ = some (.int .i64 a0_4) := (blk_cell BK101.out 4).trans rfl
       have hcz14_5 : w3.cell? ⟨gb101, 5, none⟩ = some (.bool a0_5) := (blk_cell BK101.out 5).trans rfl
       have hfz14_0 := blk_frozen BK101.out 0
       have hfz14_1 := blk_frozen BK101.out 1
       have hfz14_2 := blk_frozen BK101.out 2
       have hfz14_3 := blk_frozen BK101.out 3
       have hfz14_4 := blk_frozen BK101.out 4
       have hfz14_5 := blk_frozen BK101.out 5
       go_wp2
       go_meet
       case rel => exact ⟨_, (decide (a0_4 > 2)), ap, H', ⟨by first | omega | exact Nat.le_refl _⟩, ⟨by (with_reducible repeat (first | refine blk_drewN ?_ _ | refine blk_drew ?_ | refine blk_alloc ?_ _)); exact BK101.out⟩, ⟨bo⟩⟩
 case rest =>
  clear HC2
  try clear c1
  try clear c2
  try clear p2
  try clear c4
  try clear c4b0
  try clear c6
  try clear c6b0
  try clear c8
  try clear c8b0
  try clear c10
  try clear c10b0
  try clear c12
  try clear c12b0
  try clear hcz11_0
  try clear hcz11_1
  try clear hcz11_2
  try clear hcz11_3
  try clear hcz11_4
  try clear hcz11_5
  try clear hcz13_0
  try clear hcz13_1
  try clear hcz13_2
  try clear hcz13_3
  try clear hcz13_4
  try clear hcz13_5
  try clear hcz14_0
  try clear hcz14_1
  try clear hcz14_2
  try clear hcz14_3
  try clear hcz14_4
  try clear hcz14_5
  try clear hcz5_0
  try clear hcz5_1
  try clear hcz5_2
  try clear hcz5_3
  try clear hcz5_4
  try clear hcz5_5
  try clear hcz7_0
  try clear hcz7_1
  try clear hcz7_2
  try clear hcz7_3
  try clear hcz7_4
  try clear hcz7_5
  try clear hcz9_0
  try clear hcz9_1
  try clear hcz9_2
  try clear hcz9_3
  try clear hcz9_4
  try clear hcz9_5
  try clear hfz11_0
  try clear hfz11_1
  try clear hfz11_2
  try clear hfz11_3
  try clear hfz11_4
  try clear hfz11_5
  try clear hfz13_0
  try clear hfz13_1
  try clear hfz13_2
  try clear hfz13_3
  try clear hfz13_4
  try clear hfz13_5
  try clear hfz14_0
  try clear hfz14_1
  try clear hfz14_2
  try clear hfz14_3
  try clear hfz14_4
  try clear hfz14_5
  try clear hfz5_0
  try clear hfz5_1
  try clear hfz5_2
  try clear hfz5_3
  try clear hfz5_4
  try clear hfz5_5
  try clear hfz7_0
  try clear hfz7_1
  try clear hfz7_2
  try clear hfz7_3
  try clear hfz7_4
  try clear hfz7_5
  try clear hfz9_0
  try clear hfz9_1
  try clear hfz9_2
  try clear hfz9_3
  try clear hfz9_4
  try clear hfz9_5
  obtain ⟨kq, x3_1, rfl, HA, HJ1, BK101, HB⟩ := hcut
  cases kq with
  | zero => exact absurd HA.out (by simp [rec_Check.j0])
  | succ kj1 =>
   have H := HA.out
   clear HA
   simp only [rec_Check.j0] at H
   by_cases c15 : x3_1 = true
   ·subst c15
    have H1 : (some 1) = some r := by rw [if_pos rfl] at H; exact H
    clear H
    have H := H1
    clear H1
    obtain rfl := Option.some.inj H
    go_wp2
    go_ret
    exact ⟨er, bo⟩
   ·replace c15 := Bool.eq_false_iff.mpr c15
    subst c15
    have H1 : (if (a0_2.size : Int) > 1024 then (some 1) else (if (a0_3.size : Int) > 1024 then (some 1) else (if a0_5 = true then (if a0_3.toList = ([] : List UInt8) then (some 0) else (some 1)) else (some 0)))) = some r := by rw [if_neg (show ¬ (false = true) by decide)] at H; exact H
    clear H
    have H := H1
    clear H1
    by_cases c16 : (a0_2.size : Int) > 1024
    ·rw [if_pos c16] at H
     have c16b0 : decide (1024 < (a0_2.size : Int)) = true := decide_eq_true c16
     have c16b1 : decide (1024 < a0_2.size) = true := decide_eq_true (by omega)
     clear c16
     obtain rfl := Option.some.inj H
     have hcz17_0 : wc.cell? ⟨gb101, 0, none⟩ = some (.int .i64 a0_0) := (blk_cell BK101.out 0).trans rfl
     have hcz17_1 : wc.cell? ⟨gb101, 1, none⟩ = some (.int .i64 a0_1) := (blk_cell BK101.out 1).trans rfl
     have hcz17_2 : wc.cell? ⟨gb101, 2, none⟩ = some (.string a0_2) := (blk_cell BK101.out 2).trans rfl
     have hcz17_3 : wc.cell? ⟨gb101, 3, none⟩ = some (.string a0_3) := (blk_cell BK101.out 3).trans rfl
     have hcz17_4 : wc.cell? ⟨gb101, 4, none⟩ = some (.int .i64 a0_4) := (blk_cell BK101.out 4).trans rfl
     have hcz17_5 : wc.cell? ⟨gb101, 5, none⟩ = some (.bool a0_5) := (blk_cell BK101.out 5).trans rfl
     have hfz17_0 := blk_frozen BK101.out 0
     have hfz17_1 := blk_frozen BK101.out 1
     have hfz17_2 := blk_frozen BK101.out 2
     have hfz17_3 := blk_frozen BK101.out 3
     have hfz17_4 := blk_frozen BK101.out 4
     have hfz17_5 := blk_frozen BK101.out 5
     go_wp2
     go_ret
     exact ⟨er, bo⟩
    ·rw [if_neg c16] at H
     have c16b0 : decide (1024 < (a0_2.size : Int)) = false := decide_eq_false c16
     have c16b1 : decide (1024 < a0_2.size) = false := decide_eq_false (by omega)
     clear c16
     by_cases c18 : (a0_3.size : Int) > 1024
     ·rw [if_pos c18] at H
      have c18b0 : decide (1024 < (a0_3.size : Int)) = true := decide_eq_true c18
      have c18b1 : decide (1024 < a0_3.size) = true := decide_eq_true (by omega)
      clear c18
      obtain rfl := Option.some.inj H
      have hcz19_0 : wc.cell? ⟨gb101, 0, none⟩ = some (.int .i64 a0_0) := (blk_cell BK101.out 0).trans rfl
      have hcz19_1 : wc.cell? ⟨gb101, 1, none⟩ = some (.int .i64 a0_1) := (blk_cell BK101.out 1).trans rfl
      have hcz19_2 : wc.cell? ⟨gb101, 2, none⟩ = some (.string a0_2) := (blk_cell BK101.out 2).trans rfl
      have hcz19_3 : wc.cell? ⟨gb101, 3, none⟩ = some (.string a0_3) := (blk_cell BK101.out 3).trans rfl
      have hcz19_4 : wc.cell? ⟨gb101, 4, none⟩ = some (.int .i64 a0_4) := (blk_cell BK101.out 4).trans rfl
      have hcz19_5 : wc.cell? ⟨gb101, 5, none⟩ = some (.bool a0_5) := (blk_cell BK101.out 5).trans rfl
      have hfz19_0 := blk_frozen BK101.out 0
      have hfz19_1 := blk_frozen BK101.out 1
      have hfz19_2 := blk_frozen BK101.out 2
      have hfz19_3 := blk_frozen BK101.out 3
      have hfz19_4 := blk_frozen BK101.out 4
      have hfz19_5 := blk_frozen BK101.out 5
      go_wp2
      go_ret
      exact ⟨er, bo⟩
     ·rw [if_neg c18] at H
      have c18b0 : decide (1024 < (a0_3.size : Int)) = false := decide_eq_false c18
      have c18b1 : decide (1024 < a0_3.size) = false := decide_eq_false (by omega)
      clear c18
      by_cases c20 : a0_5 = true
      ·subst c20
       have H1 : (if a0_3.toList = ([] : List UInt8) then (some 0) else (some 1)) = some r := by rw [if_pos rfl] at H; exact H
       clear H
       have H := H1
       clear H1
       by_cases c21 : a0_3.toList = ([] : List UInt8)
       ·rw [if_pos c21] at H
        have c21b0 : (a0_3.toList == ([] : List UInt8)) = true := beq_iff_eq.mpr c21
        have c21b1 : (a0_3.toList != ([] : List UInt8)) = false := bne_eq_false_iff_eq.mpr c21
        clear c21
        obtain rfl := Option.some.inj H
        have hcz22_0 : wc.cell? ⟨gb101, 0, none⟩ = some (.int .i64 a0_0) := (blk_cell BK101.out 0).trans rfl
        have hcz22_1 : wc.cell? ⟨gb101, 1, none⟩ = some (.int .i64 a0_1) := (blk_cell BK101.out 1).trans rfl
        have hcz22_2 : wc.cell? ⟨gb101, 2, none⟩ = some (.string a0_2) := (blk_cell BK101.out 2).trans rfl
        have hcz22_3 : wc.cell? ⟨gb101, 3, none⟩ = some (.string a0_3) := (blk_cell BK101.out 3).trans rfl
        have hcz22_4 : wc.cell? ⟨gb101, 4, none⟩ = some (.int .i64 a0_4) := (blk_cell BK101.out 4).trans rfl
        have hcz22_5 : wc.cell? ⟨gb101, 5, none⟩ = some (.bool true) := (blk_cell BK101.out 5).trans rfl
        have hfz22_0 := blk_frozen BK101.out 0
        have hfz22_1 := blk_frozen BK101.out 1
        have hfz22_2 := blk_frozen BK101.out 2
        have hfz22_3 := blk_frozen BK101.out 3
        have hfz22_4 := blk_frozen BK101.out 4
        have hfz22_5 := blk_frozen BK101.out 5
        go_wp2
        go_ret
        exact ⟨er, bo⟩
       ·rw [if_neg c21] at H
        have c21b0 : (a0_3.toList == ([] : List UInt8)) = false := beq_eq_false_iff_ne.mpr c21
        have c21b1 : (a0_3.toList != ([] : List UInt8)) = true := bne_iff_ne.mpr c21
        obtain rfl := Option.some.inj H
        have hcz23_0 : wc.cell? ⟨gb101, 0, none⟩ = some (.int .i64 a0_0) := (blk_cell BK101.out 0).trans rfl
        have hcz23_1 : wc.cell? ⟨gb101, 1, none⟩ = some (.int .i64 a0_1) := (blk_cell BK101.out 1).trans rfl
        have hcz23_2 : wc.cell? ⟨gb101, 2, none⟩ = some (.string a0_2) := (blk_cell BK101.out 2).trans rfl
        have hcz23_3 : wc.cell? ⟨gb101, 3, none⟩ = some (.string a0_3) := (blk_cell BK101.out 3).trans rfl
        have hcz23_4 : wc.cell? ⟨gb101, 4, none⟩ = some (.int .i64 a0_4) := (blk_cell BK101.out 4).trans rfl
        have hcz23_5 : wc.cell? ⟨gb101, 5, none⟩ = some (.bool true) := (blk_cell BK101.out 5).trans rfl
        have hfz23_0 := blk_frozen BK101.out 0
        have hfz23_1 := blk_frozen BK101.out 1
        have hfz23_2 := blk_frozen BK101.out 2
        have hfz23_3 := blk_frozen BK101.out 3
        have hfz23_4 := blk_frozen BK101.out 4
        have hfz23_5 := blk_frozen BK101.out 5
        go_wp2
        go_ret
        exact ⟨er, bo⟩
      ·replace c20 := Bool.eq_false_iff.mpr c20
       subst c20
       have H1 : (some 0) = some r := by rw [if_neg (show ¬ (false = true) by decide)] at H; exact H
       clear H
       have H := H1
       clear H1
       obtain rfl := Option.some.inj H
       have hcz24_0 : wc.cell? ⟨gb101, 0, none⟩ = some (.int .i64 a0_0) := (blk_cell BK101.out 0).trans rfl
       have hcz24_1 : wc.cell? ⟨gb101, 1, none⟩ = some (.int .i64 a0_1) := (blk_cell BK101.out 1).trans rfl
       have hcz24_2 : wc.cell? ⟨gb101, 2, none⟩ = some (.string a0_2) := (blk_cell BK101.out 2).trans rfl
       have hcz24_3 : wc.cell? ⟨gb101, 3, none⟩ = some (.string a0_3) := (blk_cell BK101.out 3).trans rfl
       have hcz24_4 : wc.cell? ⟨gb101, 4, none⟩ = some (.int .i64 a0_4) := (blk_cell BK101.out 4).trans rfl
       have hcz24_5 : wc.cell? ⟨gb101, 5, none⟩ = some (.bool false) := (blk_cell BK101.out 5).trans rfl
       have hfz24_0 := blk_frozen BK101.out 0
       have hfz24_1 := blk_frozen BK101.out 1
       have hfz24_2 := blk_frozen BK101.out 2
       have hfz24_3 := blk_frozen BK101.out 3
       have hfz24_4 := blk_frozen BK101.out 4
       have hfz24_5 := blk_frozen BK101.out 5
       go_wp2
       go_ret
       exact ⟨er, bo⟩

end Go.Proofs.Ytmabdfdmccbfnaa.P

-- written by a program of the proving session, out of the translation; Lean checks it
namespace Go.Proofs.Ytmabdfdmccbfnaa.P
open Go.RowKit Go.Proofs.Ytmabdfdmccbfnaa.Sq Go.Proofs.YtmabdfdmccbfnaaW.PrintWords Go.Proofs.YtmabdfdmccbfnaaW.PrintLast Go.Proofs.YtmabdfdmccbfnaaW.PrintMore
attribute [local go_sem] max2_int min2_int max_two min_two max_three min_three max_four min_four   -- for this text's walks alone
set_option linter.unusedVariables false
set_option linter.unusedSimpArgs false

/-! ### vbi_high: function 81 -/
mutual
def vbi_high.j0 : Nat → Int → Int → Bool → Option (ByteArray × Int)
 | 0, _, _, _ => none
 | k + 1, x0, x1, x16 => if x16 = true then (some ((⟨#[]⟩ : ByteArray), 2)) else (if 0 ≤ x1 then (if (x1 : Int).toNat ≤ 281474976710656 then ((some (List.replicate (x1 : Int).toNat 0 : List Int)).bind fun y102 => (vbi_high.l0 k x0 x1 y102 (y102.length : Int) 0)) else (none)) else (none))
def vbi_high.l0 : Nat → Int → Int → List Int → Int → Int → Option (ByteArray × Int)
 | 0, _, _, _, _, _ => none
 | k + 1, x0, x1, x6, x20, x21 => if x21 < x20 then (if 0 ≤ (wrap64 (8 * x21)) then (if 0 ≤ (wrap64 ((wrap64 (x1 - 1)) - x21)) then (if (wrap64 ((wrap64 (x1 - 1)) - x21)) < (x6.length : Int) then (vbi_high.l0 k x0 x1 (x6.set ((wrap64 ((wrap64 (x1 - 1)) - x21)) : Int).toNat ((shr .i64 x0 (wrap64 (8 * x21))) % 256)) x20 (wrap64 (x21 + 1))) else (none)) else (none)) else (none)) else (some (strOfNums x6, 0))
end
def vbi_high.f (k : Nat) (a0 : Int) (a1 : Int) : Option (ByteArray × Int) := if a0 < 0 then (vbi_high.j0 k a0 a1 true) else (if 0 ≤ (wrap64 (8 * a1)) then (vbi_high.j0 k a0 a1 ((shr .i64 a0 (wrap64 (8 * a1))) != 0)) else (none))
theorem vbi_high.mono_l : ∀ k, (∀ y0 y1 y2, LeO (vbi_high.j0 k y0 y1 y2) (vbi_high.j0 (k + 1) y0 y1 y2)) ∧ (∀ y0 y1 y2 y3 y4, LeO (vbi_high.l0 k y0 y1 y2 y3 y4) (vbi_high.l0 (k + 1) y0 y1 y2 y3 y4))
 | 0 => ⟨fun _ _ _ r h => by simp [vbi_high.j0] at h, fun _ _ _ _ _ r h => by simp [vbi_high.l0] at h⟩
 | k + 1 => by
  obtain ⟨ih0, ih1⟩ := vbi_high.mono_l k
  refine ⟨?_, ?_⟩
  ·intro y0 y1 y2
   unfold vbi_high.j0
   repeat' first
   | (with_reducible exact ih0 _ _ _)
   | (with_reducible exact ih1 _ _ _ _ _)
   | (with_reducible exact LeO.refl _)
   | (with_reducible exact LeO.none _)
   | (with_reducible refine LeO.ite ?_ ?_)
   | (with_reducible refine LeO.bind ?_ (fun _ => ?_))
   | exact ih0 _ _ _
   | exact ih1 _ _ _ _ _
   | exact LeO.none _
   | refine LeO.ite ?_ ?_
   | refine LeO.bind ?_ (fun _ => ?_)
  ·intro y0 y1 y2 y3 y4
   unfold vbi_high.l0
   repeat' first
   | (with_reducible exact ih0 _ _ _)
   | (with_reducible exact ih1 _ _ _ _ _)
   | (with_reducible exact LeO.refl _)
   | (with_reducible exact LeO.none _)
   | (with_reducible refine LeO.ite ?_ ?_)
   | (with_reducible refine LeO.bind ?_ (fun _ => ?_))
   | exact ih0 _ _ _
   | exact ih1 _ _ _ _ _
   | exact LeO.none _
   | refine LeO.ite ?_ ?_
   | refine LeO.bind ?_ (fun _ => ?_)
theorem vbi_high.mono : ∀ a0 a1 k, LeO (vbi_high.f k a0 a1) (vbi_high.f (k + 1) a0 a1) := by
 intro a0 a1 k
 obtain ⟨ih0, ih1⟩ := vbi_high.mono_l k
 unfold vbi_high.f
 repeat' first
  | (with_reducible exact ih0 _ _ _)
  | (with_reducible exact ih1 _ _ _ _ _)
  | (with_reducible exact LeO.refl _)
  | (with_reducible exact LeO.none _)
  | (with_reducible refine LeO.ite ?_ ?_)
  | (with_reducible refine LeO.bind ?_ (fun _ => ?_))
  | exact ih0 _ _ _
  | exact ih1 _ _ _ _ _
  | exact LeO.none _
  | refine LeO.ite ?_ ?_
  | refine LeO.bind ?_ (fun _ => ?_)
set_option maxHeartbeats 8000000 in
set_option maxRecDepth 100000 in
theorem vbi_high.calls (k : Nat) (a0 : Int) (a1 : Int) (r1 : ByteArray) (r2 : Int) (w : World) (h : vbi_high.f k a0 a1 = some (r1, r2)) :
 Calls Try.prog 81 #[.int .i64 a0, .int .i64 a1] w fun e w' => e = .returned (.tuple #[.string r1, .int .i64 r2]) ∧ Below w.heap.size w w' := by
 have HB := Aside0.mk (Below.refl w.heap.size w)
 have H : (if a0 < 0 then (vbi_high.j0 k a0 a1 true) else (if 0 ≤ (wrap64 (8 * a1)) then (vbi_high.j0 k a0 a1 ((shr .i64 a0 (wrap64 (8 * a1))) != 0)) else (none))) = some (r1, r2) := h
 clear h
 have HC3 := Aside0.mk H
 clear H
 go_enter Try.func81, Try.ntmps81
 go_upto_region 1 with (fail)
 go_cut [16] (fun v16 wc => ∃ (kq : Nat) (x16_2 : Bool), v16 = .bool x16_2 ∧ Aside0 (vbi_high.j0 kq a0 a1 x16_2 = some (r1, r2)) ∧ Aside0 (kq ≤ k) ∧ Aside0 (Below w.heap.size w wc))
 case first =>
  have H := HC3.out
  clear HC3
  by_cases c4 : a0 < 0
  ·rw [if_pos c4] at H
   have c4b0 : decide (a0 < 0) = true := decide_eq_true c4
   clear c4
   (first | rw [c4b0] | (simp only [i64_w, i32_w]; rw [c4b0]) | skip)
   have H' := Aside0.mk H
   clear H
   go_wp2
   go_meet
   case rel => exact ⟨_, (true), ap, H', ⟨by first | omega | exact Nat.le_refl _⟩, ⟨bo⟩⟩
  ·rw [if_neg c4] at H
   have c4b0 : decide (a0 < 0) = false := decide_eq_false c4
   clear c4
   (first | rw [c4b0] | (simp only [i64_w, i32_w]; rw [c4b0]) | skip)
   obtain ⟨ji5, hji5⟩ : ∃ j_ : Int, (wrap64 (8 * a1)) = j_ := ⟨_, rfl⟩
   replace H : (if 0 ≤ (ji5) then (vbi_high.j0 k a0 a1 ((shr .i64 a0 (ji5)) != 0)) else (none)) = some (r1, r2) := by first | (rw [hji5] at H; exact H) | (simp only [hji5] at H ⊢; exact H)
   have hji5w : (IntKind.i64.wrap (8 * a1)) = ji5 := (i64_w _).trans hji5
   by_cases c6 : 0 ≤ (ji5)
   ·rw [if_pos c6] at H
    have c6b0 := eq_true c6
    have c6b1 : decide (0 ≤ (ji5)) = true := decide_eq_true c6
    clear c6
    obtain ⟨ji7, hji7⟩ : ∃ j_ : Int, (shr .i64 a0 (ji5)) = j_ := ⟨_, rfl⟩
    replace H : (vbi_high.j0 k a0 a1 ((ji7) != 0)) = some (r1, r2) := by first | (rw [hji7] at H; exact H) | (simp only [hji7] at H ⊢; exact H)
    have hji7_ : (a0 / 2 ^ min (ji5).toNat 64) = ji7 := hji7
    have hji7z : (ji5) ≤ 64 → (a0 / 2 ^ (ji5).toNat) = ji7 := shr_small hji7
    have H' := Aside0.mk H
    clear H
    go_wp2
    go_meet
    case rel => exact ⟨_, (((ji7) != 0)), (by first | rfl | (simp; done) | (simp only [← hji7] <;> (first | rfl | simp)) | (simp [*]; done)), H', ⟨by first | omega | exact Nat.le_refl _⟩, ⟨bo⟩⟩
   ·rw [if_neg c6] at H
    exact absurd H (by simp)
 case rest =>
  clear HC3
  try clear p2
  try clear c4
  try clear c4b0
  try clear c6
  try clear c6b0
  try clear c6b1
  try clear p6
  obtain ⟨kq, x16_2, rfl, HA, HJ2, HB⟩ := hcut
  cases kq with
  | zero => exact absurd HA.out (by simp [vbi_high.j0])
  | succ kj2 =>
   have H := HA.out
   clear HA
   simp only [vbi_high.j0] at H
   by_cases c8 : x16_2 = true
   ·subst c8
    have H1 : (some ((⟨#[]⟩ : ByteArray), 2)) = some (r1, r2) := by rw [if_pos rfl] at H; exact H
    clear H
    have H := H1
    clear H1
    simp only [Option.some.injEq, Prod.mk.injEq] at H
    obtain ⟨rfl, rfl⟩ := H
    go_wp2
    go_ret2
    exact ⟨er, bo⟩
   ·replace c8 := Bool.eq_false_iff.mpr c8
    subst c8
    have H1 : (if 0 ≤ a1 then (if (a1 : Int).toNat ≤ 281474976710656 then ((some (List.replicate (a1 : Int).toNat 0 : List Int)).bind fun y102 => (vbi_high.l0 kj2 a0 a1 y102 (y102.length : Int) 0)) else (none)) else (none)) = some (r1, r2) := by rw [if_neg (show ¬ (false = true) by decide)] at H; exact H
    clear H
    have H := H1
    clear H1
    by_cases c9 : 0 ≤ a1
    ·rw [if_pos c9] at H
     have c9b0 := eq_true c9
     have c9b1 : decide (0 ≤ a1) = true := decide_eq_true c9
     clear c9
     by_cases c10 : (a1 : Int).toNat ≤ 281474976710656
     ·rw [if_pos c10] at H
      have c10b0 := eq_true c10
      have c10b1 : decide ((a1 : Int).toNat ≤ 281474976710656) = true := decide_eq_true c10
      clear c10
      obtain ⟨y102, hy102⟩ : ∃ y_ : List Int, y_ = (List.replicate (a1 : Int).toNat 0) := ⟨_, rfl⟩
      replace H : (vbi_high.l0 kj2 a0 a1 y102 (y102.length : Int) 0) = some (r1, r2) := by first | (rw [hy102]; with_reducible exact H) | (have H2_ := (Option.bind_some _ _).symm.trans H; rw [hy102]; with_reducible exact H2_) | (have H2_ := (Option.bind_some _ _).symm.trans H; with_reducible exact H2_) | with_reducible exact H | (rw [hy102]; exact H) | exact H
      have Ny102 := Aside0.mk hy102
      clear hy102
      have H' := Aside0.mk H
      clear H
      go_wp2_with (first | ((with_reducible refine gate_dst (N := 18) rfl ?_); refine Kd.R_make (Kd.int .u8) _ 5 rfl (N := 18) rfl 23 _ _ rfl a1 rfl rfl Try.underlying23 (.int .u8 0) 1 info5 rfl (by decide) (by omega) 0 (ok := fun _ => True) (okp := fun _ => True) rfl (fun _ hk => hk) trivial (od) (Nat.le_trans (Nat.mul_le_mul_right _ (od : a1.toNat ≤ 281474976710656)) (by omega)) (Below.refl _ _) (Nat.le_refl _) ?_; intro v103 w11 ho12 hb hg_ hnew_; clear hg_ hnew_; (first | rw [← Ny102.out] at ho12 | (simp only [Int.reduceToNat] at ho12; rw [← Ny102.out] at ho12)); have HO104 := Aside0.mk (Kd.R_lower ho12 (below_size bo)); replace HB := Aside0.mk (below_step bo hb); clear hb ho12; obtain ⟨Ao13, co13, eo13⟩ := Kd.R_slice HO104.out; subst eo13))
      go_loopg [21] kj2 (fun kq v21 w' => ∃ (x6_2 : List Int) (x21_2 : Int), v21 = .int .i64 x21_2 ∧ Aside0 (vbi_high.l0 kq a0 a1 x6_2 (y102.length : Int) x21_2 = some (r1, r2)) ∧ Aside0 (kq ≤ kj2) ∧ Aside0 (Kd.R (Kd.int .u8) 5 w' w.heap.size (fun _ => True) (.slice Ao13 y102.length co13) x6_2) ∧ Aside0 (Below w.heap.size w w'))
      case atStart => exact ⟨(y102), (0), ap, H', ⟨Nat.le_refl _⟩, ⟨by (with_reducible repeat (first | apply Kd.R_alloc | apply Kd.R_drewN | apply Kd.R_drew)); exact HO104.out⟩, ⟨bo⟩⟩
      case round =>
       clear H'
       try clear c1
       try clear p2
       try clear c4
       try clear c4b0
       try clear c6
       try clear c6b0
       try clear c6b1
       try clear p6
       try clear c8
       try clear c9
       try clear c9b0
       try clear c9b1
       try clear c10
       try clear c10b0
       try clear c10b1
       try clear p2
       try clear p6
       obtain ⟨x6_2, x21_2, rfl, HA, HK2, HO_6, HB⟩ := hrel
       have hl6_2 := (Kd.R_reads' HO_6.out).1
       rw [hl6_2] at HO_6
       (try simp only [hl6_2])
       cases gk with
       | zero => exact absurd HA.out (by simp [vbi_high.l0])
       | succ k2 =>
        have H := HA.out
        clear HA
        simp only [vbi_high.l0] at H
        by_cases c14 : x21_2 < (y102.length : Int)
        ·rw [if_pos c14] at H
         have c14b0 : decide (x21_2 < (y102.length : Int)) = true := decide_eq_true c14
         (try (have c14z0hl6_2 := c14b0; rw [hl6_2] at c14z0hl6_2))
         clear c14
         obtain ⟨ji15, hji15⟩ : ∃ j_ : Int, (wrap64 (8 * x21_2)) = j_ := ⟨_, rfl⟩
         replace H : (if 0 ≤ (ji15) then (if 0 ≤ (wrap64 ((wrap64 (a1 - 1)) - x21_2)) then (if (wrap64 ((wrap64 (a1 - 1)) - x21_2)) < (x6_2.length : Int) then (vbi_high.l0 k2 a0 a1 (x6_2.set ((wrap64 ((wrap64 (a1 - 1)) - x21_2)) : Int).toNat ((shr .i64 a0 (ji15)) % 256)) (y102.length : Int) (wrap64 (x21_2 + 1))) else (none)) else (none)) else (none)) = some (r1, r2) := by first | (rw [hji15] at H; exact H) | (simp only [hji15] at H ⊢; exact H)
         have hji15w : (IntKind.i64.wrap (8 * x21_2)) = ji15 := (i64_w _).trans hji15
         by_cases c16 : 0 ≤ (ji15)
         ·rw [if_pos c16] at H
          have c16b0 := eq_true c16
          have c16b1 : decide (0 ≤ (ji15)) = true := decide_eq_true c16
          clear c16
          obtain ⟨ji17, hji17⟩ : ∃ j_ : Int, (shr .i64 a0 (ji15)) = j_ := ⟨_, rfl⟩
          replace H : (if 0 ≤ (wrap64 ((wrap64 (a1 - 1)) - x21_2)) then (if (wrap64 ((wrap64 (a1 - 1)) - x21_2)) < (x6_2.length : Int) then (vbi_high.l0 k2 a0 a1 (x6_2.set ((wrap64 ((wrap64 (a1 - 1)) - x21_2)) : Int).toNat ((ji17) % 256)) (y102.length : Int) (wrap64 (x21_2 + 1))) else (none)) else (none)) = some (r1, r2) := by first | (rw [hji17] at H; exact H) | (simp only [hji17] at H ⊢; exact H)
          have hji17_ : (a0 / 2 ^ min (ji15).toNat 64) = ji17 := hji17
          have hji17z : (ji15) ≤ 64 → (a0 / 2 ^ (ji15).toNat) = ji17 := shr_small hji17
          obtain ⟨ji18, hji18⟩ : ∃ j_ : Int, (wrap64 ((wrap64 (a1 - 1)) - x21_2)) = j_ := ⟨_, rfl⟩
          replace H : (if 0 ≤ (ji18) then (if (ji18) < (x6_2.length : Int) then (vbi_high.l0 k2 a0 a1 (x6_2.set ((ji18) : Int).toNat ((ji17) % 256)) (y102.length : Int) (wrap64 (x21_2 + 1))) else (none)) else (none)) = some (r1, r2) := by first | (rw [hji18] at H; exact H) | (simp only [hji18] at H ⊢; exact H)
          have hji18w : (IntKind.i64.wrap ((wrap64 (a1 - 1)) - x21_2)) = ji18 := (i64_w _).trans hji18
          by_cases c19 : 0 ≤ (ji18)
          ·rw [if_pos c19] at H
           have c19b0 : decide (0 ≤ (ji18)) = true := decide_eq_true c19
           clear c19
           by_cases c20 : (ji18) < (x6_2.length : Int)
           ·rw [if_pos c20] at H
            have c20b0 : decide ((ji18) < (x6_2.length : Int)) = true := decide_eq_true c20
            (try (have c20z0hl6_2 := c20b0; rw [hl6_2] at c20z0hl6_2))
            clear c20
            obtain ⟨y105, hy105⟩ : ∃ y_ : List Int, y_ = (x6_2.set ((ji18) : Int).toNat ((ji17) % 256)) := ⟨_, rfl⟩
            replace H : (vbi_high.l0 k2 a0 a1 y105 (y102.length : Int) (wrap64 (x21_2 + 1))) = some (r1, r2) := by first | (rw [hy105]; with_reducible exact H) | (have H2_ := (Option.bind_some _ _).symm.trans H; rw [hy105]; with_reducible exact H2_) | (have H2_ := (Option.bind_some _ _).symm.trans H; with_reducible exact H2_) | with_reducible exact H | (rw [hy105]; exact H) | exact H
            have Ny105 := Aside0.mk hy105
            clear hy105
            have H' := Aside0.mk H
            clear H
            have p21 : 0 ≤ ((ji18) : Int) := od
            have q21 : ((ji18) : Int) < ((x6_2.length : Int) : Int) := od
            obtain ⟨go21, co21, eo21, gb21, gl21, cl21, HG21⟩ := Kd.R_form HO_6.out (by omega)
            (first | cases eo21 | (injection eo21 with ea_ en_ ec_; (first | subst ea_ | (injection ea_ with ea_; subst ea_)); subst ec_; clear en_))
            have GB21 := Aside0.mk gb21
            have GG21 := Aside0.mk HG21
            clear gb21 gl21 HG21
            obtain ⟨hx21_0, hf21_0⟩ := Kd.R_celln 0 HO_6.out ((ji18) : Int) p21 q21
            replace p21 := eq_true p21
            replace q21 := eq_true q21
            have HP22 := Kd.R_putg HO_6.out ((ji18) : Int) ((ji17) % 256)
            go_wp2_with (first | ((with_reducible refine gate_store (t := 5) (p := 34) rfl ?_); refine store_event (t := 5) (p := 34) (v := ?vo_w23) (w1 := (wr.setCell ⟨go21, ((ji18) : Int).toNat, none⟩ (.int .u8 ((ji17) % 256)))) ?hg ?ho ?hn ?hr ?_; (case ho => rfl); (case hg => rfl); (case hn => rfl); (case hr => first | (go_simp; done) | (go_simp; rfl)); intro w23 hw; have hg : wr.grownBy w23 (some go21) := (by rw [hw]; exact HP22.2); have hp_ : Kd.R (Kd.int .u8) 5 w23 w.heap.size (fun _ => True) (.slice (some ⟨go21, 0, none⟩) x6_2.length co13) y105 := (by rw [hw, Ny105.out]; exact HP22.1); clear HP22; replace HO_6 := Aside0.mk (hp_); replace HB := Aside0.mk ((by rw [hw]; exact below_set (HB.out) GB21.out : Below w.heap.size w w23)); clear hg hw hp_))
            (try simp only [← hl6_2])
            go_roundg k2
            case measure => have := HJ2.out; have := HK2.out; omega
            case rel => exact ⟨(y105), (wrap64 (x21_2 + 1)), ap, H', ⟨by have := HJ2.out; have := HK2.out; omega⟩, ⟨by (try simp only [hl6_2]); (with_reducible repeat (first | apply Kd.R_alloc | apply Kd.R_drewN | apply Kd.R_drew)); exact HO_6.out⟩, ⟨bo⟩⟩
           ·rw [if_neg c20] at H
            exact absurd H (by simp)
          ·rw [if_neg c19] at H
           exact absurd H (by simp)
         ·rw [if_neg c16] at H
          exact absurd H (by simp)
        ·rw [if_neg c14] at H
         have c14b0 : decide (x21_2 < (y102.length : Int)) = false := decide_eq_false c14
         (try (have c14z0hl6_2 := c14b0; rw [hl6_2] at c14z0hl6_2))
         clear c14
         simp only [Option.some.injEq, Prod.mk.injEq] at H
         obtain ⟨rfl, rfl⟩ := H
         have hcv24 := own_string (P := Try.prog) Try.underlying23 Try.underlying5 Try.underlying9 (Kd.own_of_R HO_6.out)
         go_wp2
         go_ret2
         exact ⟨er, bo⟩
     ·rw [if_neg c10] at H
      exact absurd H (by simp)
    ·rw [if_neg c9] at H
     exact absurd H (by simp)

end Go.Proofs.Ytmabdfdmccbfnaa.P

-- written by a program of the proving session, out of the translation; Lean checks it
namespace Go.Proofs.Ytmabdfdmccbfnaa.P
open Go.RowKit Go.Proofs.Ytmabdfdmccbfnaa.Sq Go.Proofs.YtmabdfdmccbfnaaW.PrintWords Go.Proofs.YtmabdfdmccbfnaaW.PrintLast Go.Proofs.YtmabdfdmccbfnaaW.PrintMore
attribute [local go_sem] max2_int min2_int max_two min_two max_three min_three max_four min_four   -- for this text's walks alone
set_option linter.unusedVariables false
set_option linter.unusedSimpArgs false

/-! ### vbi_Two: function 60 -/
def vbi_Two.f (k : Nat) (a0 : Int) : Option (ByteArray × Int) := (vbi_high.f k a0 2).bind fun bt106 => (some (bt106.1, bt106.2))
theorem vbi_Two.mono : ∀ a0 k, LeO (vbi_Two.f k a0) (vbi_Two.f (k + 1) a0) := by
 intro a0 k
 unfold vbi_Two.f
 repeat' first
  | (with_reducible exact vbi_high.mono _ _ _)
  | (with_reducible exact LeO.refl _)
  | (with_reducible exact LeO.none _)
  | (with_reducible refine LeO.ite ?_ ?_)
  | (with_reducible refine LeO.bind ?_ (fun _ => ?_))
  | exact vbi_high.mono _ _ _
  | exact LeO.none _
  | refine LeO.ite ?_ ?_
  | refine LeO.bind ?_ (fun _ => ?_)
set_option maxHeartbeats 8000000 in
set_option maxRecDepth 100000 in
theorem vbi_Two.calls (k : Nat) (a0 : Int) (r1 : ByteArray) (r2 : Int) (w : World) (h : vbi_Two.f k a0 = some (r1, r2)) :
 Calls Try.prog 60 #[.int .i64 a0] w fun e w' => e = .returned (.tuple #[.string r1, .int .i64 r2]) ∧ Below w.heap.size w w' := by
 have HB := Aside0.mk (Below.refl w.heap.size w)
 have H : ((vbi_high.f k a0 2).bind fun bt106 => (some (bt106.1, bt106.2))) = some (r1, r2) := h
 clear h
 replace H := Option.bind_eq_some_iff.mp H
 obtain ⟨⟨t106, t107⟩, A20, H⟩ := H
 replace H : (some (t106, t107)) = some (r1, r2) := H
 have A2 := Aside0.mk A20
 clear A20
 simp only [Option.some.injEq, Prod.mk.injEq] at H
 obtain ⟨rfl, rfl⟩ := H
 go_enter Try.func60, Try.ntmps60
 go_wp2_with (first | ((with_reducible refine gate_callee (f := 81) rfl ?_); refine goesL_ (some 5) rfl rfl Try.func81 (by kernel_rfl) rfl #[.int .i64 a0, .int .i64 2] rfl aa ?_; (with_reducible refine (vbi_high.calls k a0 2 t106 t107 _ A2.out).mono ?_); rintro e w3 ⟨rfl, hb⟩; refine ⟨_, rfl, ?_⟩; replace HB := Aside0.mk (below_step bo hb); (try clear hb); (try clear hb2); (try clear hk); (try clear hi)))
 go_ret2
 exact ⟨er, bo⟩

end Go.Proofs.Ytmabdfdmccbfnaa.P

-- written by a program of the proving session, out of the translation; Lean checks it
namespace Go.Proofs.Ytmabdfdmccbfnaa.P
open Go.RowKit Go.Proofs.Ytmabdfdmccbfnaa.Sq Go.Proofs.YtmabdfdmccbfnaaW.PrintWords Go.Proofs.YtmabdfdmccbfnaaW.PrintLast Go.Proofs.YtmabdfdmccbfnaaW.PrintMore
attribute [local go_sem] max2_int min2_int max_two min_two max_three min_three max_four min_four   -- for this text's walks alone
set_option linter.unusedVariables false
set_option linter.unusedSimpArgs false

/-! ### vbi_Four: function 62 -/
def vbi_Four.f (k : Nat) (a0 : Int) : Option (ByteArray × Int) := (vbi_high.f k a0 4).bind fun bt108 => (some (bt108.1, bt108.2))
theorem vbi_Four.mono : ∀ a0 k, LeO (vbi_Four.f k a0) (vbi_Four.f (k + 1) a0) := by
 intro a0 k
 unfold vbi_Four.f
 repeat' first
  | (with_reducible exact vbi_high.mono _ _ _)
  | (with_reducible exact LeO.refl _)
  | (with_reducible exact LeO.none _)
  | (with_reducible refine LeO.ite ?_ ?_)
  | (with_reducible refine LeO.bind ?_ (fun _ => ?_))
  | exact vbi_high.mono _ _ _
  | exact LeO.none _
  | refine LeO.ite ?_ ?_
  | refine LeO.bind ?_ (fun _ => ?_)
set_option maxHeartbeats 8000000 in
set_option maxRecDepth 100000 in
theorem vbi_Four.calls (k : Nat) (a0 : Int) (r1 : ByteArray) (r2 : Int) (w : World) (h : vbi_Four.f k a0 = some (r1, r2)) :
 Calls Try.prog 62 #[.int .i64 a0] w fun e w' => e = .returned (.tuple #[.string r1, .int .i64 r2]) ∧ Below w.heap.size w w' := by
 have HB := Aside0.mk (Below.refl w.heap.size w)
 have H : ((vbi_high.f k a0 4).bind fun bt108 => (some (bt108.1, bt108.2))) = some (r1, r2) := h
 clear h
 replace H := Option.bind_eq_some_iff.mp H
 obtain ⟨⟨t108, t109⟩, A20, H⟩ := H
 replace H : (some (t108, t109)) = some (r1, r2) := H
 have A2 := Aside0.mk A20
 clear A20
 simp only [Option.some.injEq, Prod.mk.injEq] at H
 obtain ⟨rfl, rfl⟩ := H
 go_enter Try.func62, Try.ntmps62
 go_wp2_with (first | ((with_reducible refine gate_callee (f := 81) rfl ?_); refine goesL_ (some 5) rfl rfl Try.func81 (by kernel_rfl) rfl #[.int .i64 a0, .int .i64 4] rfl aa ?_; (with_reducible refine (vbi_high.calls k a0 4 t108 t109 _ A2.out).mono ?_); rintro e w3 ⟨rfl, hb⟩; refine ⟨_, rfl, ?_⟩; replace HB := Aside0.mk (below_step bo hb); (try clear hb); (try clear hb2); (try clear hk); (try clear hi)))
 go_ret2
 exact ⟨er, bo⟩

end Go.Proofs.Ytmabdfdmccbfnaa.P

-- written by a program of the proving session, out of the translation; Lean checks it
namespace Go.Proofs.Ytmabdfdmccbfnaa.P
open Go.RowKit Go.Proofs.Ytmabdfdmccbfnaa.Sq Go.Proofs.YtmabdfdmccbfnaaW.PrintWords Go.Proofs.YtmabdfdmccbfnaaW.PrintLast Go.Proofs.YtmabdfdmccbfnaaW.PrintMore
attribute [local go_sem] max2_int min2_int max_two min_two max_three min_three max_four min_four   -- for this text's walks alone
set_option linter.unusedVariables false
set_option linter.unusedSimpArgs false

/-! ### rec_eight: function 61 -/
def rec_eight.f (k : Nat) (a0 : Int) : Option (ByteArray) := (vbi_Four.f k (a0 / 4294967296)).bind fun bt110 => ((vbi_Four.f k (Go.bits .and .i64 a0 4294967295)).bind fun bt112 => (if bt110.1.size + bt112.1.size ≤ 9223372036854775807 then (some (bt110.1 ++ bt112.1)) else (none)))
theorem rec_eight.mono : ∀ a0 k, LeO (rec_eight.f k a0) (rec_eight.f (k + 1) a0) := by
 intro a0 k
 unfold rec_eight.f
 repeat' first
  | (with_reducible exact vbi_Four.mono _ _)
  | (with_reducible exact LeO.refl _)
  | (with_reducible exact LeO.none _)
  | (with_reducible refine LeO.ite ?_ ?_)
  | (with_reducible refine LeO.bind ?_ (fun _ => ?_))
  | exact vbi_Four.mono _ _
  | exact LeO.none _
  | refine LeO.ite ?_ ?_
  | refine LeO.bind ?_ (fun _ => ?_)
set_option maxHeartbeats 8000000 in
set_option maxRecDepth 100000 in
theorem rec_eight.calls (k : Nat) (a0 : Int) (r : ByteArray) (w : World) (h : rec_eight.f k a0 = some r) :
 Calls Try.prog 61 #[.int .i64 a0] w fun e w' => e = .returned (.string r) ∧ Below w.heap.size w w' := by
 have HB := Aside0.mk (Below.refl w.heap.size w)
 have H : ((vbi_Four.f k (a0 / 4294967296)).bind fun bt110 => ((vbi_Four.f k (Go.bits .and .i64 a0 4294967295)).bind fun bt112 => (if bt110.1.size + bt112.1.size ≤ 9223372036854775807 then (some (bt110.1 ++ bt112.1)) else (none)))) = some r := h
 clear h
 replace H := Option.bind_eq_some_iff.mp H
 obtain ⟨⟨t110, t111⟩, A20, H⟩ := H
 replace H : ((vbi_Four.f k (Go.bits .and .i64 a0 4294967295)).bind fun bt112 => (if t110.size + bt112.1.size ≤ 9223372036854775807 then (some (t110 ++ bt112.1)) else (none))) = some r := H
 have A2 := Aside0.mk A20
 clear A20
 replace H := Option.bind_eq_some_iff.mp H
 obtain ⟨⟨t112, t113⟩, A30, H⟩ := H
 replace H : (if t110.size + t112.size ≤ 9223372036854775807 then (some (t110 ++ t112)) else (none)) = some r := H
 have A3 := Aside0.mk A30
 clear A30
 by_cases c4 : t110.size + t112.size ≤ 9223372036854775807
 ·rw [if_pos c4] at H
  have c4b0 := eq_true c4
  have c4b1 : decide (t110.size + t112.size ≤ 9223372036854775807) = true := decide_eq_true c4
  try have c4b2 : (9223372036854775807 < t110.size + t112.size) = False := eq_false (Nat.not_lt.2 c4)
  obtain rfl := Option.some.inj H
  go_enter Try.func61, Try.ntmps61
  go_wp2_with (first | ((with_reducible refine gate_callee (f := 62) rfl ?_); refine goesL_ (some 10) rfl rfl Try.func62 (by kernel_rfl) rfl #[.int .i64 (a0 / 4294967296)] rfl aa ?_; (with_reducible refine (vbi_Four.calls k (a0 / 4294967296) t110 t111 _ A2.out).mono ?_); rintro e w5 ⟨rfl, hb⟩; refine ⟨_, rfl, ?_⟩; replace HB := Aside0.mk (below_step bo hb); (try clear hb); (try clear hb2); (try clear hk); (try clear hi)) | ((with_reducible refine gate_callee (f := 62) rfl ?_); refine goesL_ (some 16) rfl rfl Try.func62 (by kernel_rfl) rfl #[.int .i64 (Go.bits .and .i64 a0 4294967295)] rfl aa ?_; (with_reducible refine (vbi_Four.calls k (Go.bits .and .i64 a0 4294967295) t112 t113 _ A3.out).mono ?_); rintro e w6 ⟨rfl, hb⟩; refine ⟨_, rfl, ?_⟩; replace HB := Aside0.mk (below_step bo hb); (try clear hb); (try clear hb2); (try clear hk); (try clear hi)))
  go_ret
  exact ⟨er, bo⟩
 ·rw [if_neg c4] at H
  exact absurd H (by simp)

end Go.Proofs.Ytmabdfdmccbfnaa.P

-- written by a program of the proving session, out of the translation; Lean checks it
namespace Go.Proofs.Ytmabdfdmccbfnaa.P
open Go.RowKit Go.Proofs.Ytmabdfdmccbfnaa.Sq Go.Proofs.YtmabdfdmccbfnaaW.PrintWords Go.Proofs.YtmabdfdmccbfnaaW.PrintLast Go.Proofs.YtmabdfdmccbfnaaW.PrintMore
attribute [local go_sem] max2_int min2_int max_two min_two max_three min_three max_four min_four   -- for this text's walks alone
set_option linter.unusedVariables false
set_option linter.unusedSimpArgs false

/-! ### sum_Sum: function 63 -/
mutual
def sum_Sum.l0 : Nat → Int → ByteArray → Int → Int → Option (Int)
 | 0, _, _, _, _ => none
 | k + 1, x0, x1, x9, x10 => if x10 < x9 then (if 0 ≤ x10 then (if x10 < (x1.size : Int) then (sum_Sum.l1 k (Go.bits .xor .u32 x0 ((bt x1 x10) % 4294967296)) x1 x9 x10 0) else (none)) else (none)) else (some (Go.bits .xor .u32 4294967295 x0))
def sum_Sum.l1 : Nat → Int → ByteArray → Int → Int → Int → Option (Int)
 | 0, _, _, _, _, _ => none
 | k + 1, x0, x1, x9, x10, x19 => if x19 < 8 then (sum_Sum.l1 k (Go.bits .xor .u32 (x0 / 2) (Go.bits .and .u32 2197175160 ((-(Go.bits .and .u32 x0 1)) % 4294967296))) x1 x9 x10 (wrap64 (x19 + 1))) else (sum_Sum.l0 k x0 x1 x9 (wrap64 (x10 + 1)))
end
def sum_Sum.f (k : Nat) (a0 : Int) (a1 : ByteArray) : Option (Int) := sum_Sum.l0 k (Go.bits .xor .u32 4294967295 a0) a1 (a1.size : Int) 0
theorem sum_Sum.mono_l : ∀ k, (∀ y0 y1 y2 y3, LeO (sum_Sum.l0 k y0 y1 y2 y3) (sum_Sum.l0 (k + 1) y0 y1 y2 y3)) ∧ (∀ y0 y1 y2 y3 y4, LeO (sum_Sum.l1 k y0 y1 y2 y3 y4) (sum_Sum.l1 (k + 1) y0 y1 y2 y3 y4))
 | 0 => ⟨fun _ _ _ _ r h => by simp [sum_Sum.l0] at h, fun _ _ _ _ _ r h => by simp [sum_Sum.l1] at h⟩
 | k + 1 => by
  obtain ⟨ih0, ih1⟩ := sum_Sum.mono_l k
  refine ⟨?_, ?_⟩
  ·intro y0 y1 y2 y3
   unfold sum_Sum.l0
   repeat' first
   | (with_reducible exact ih0 _ _ _ _)
   | (with_reducible exact ih1 _ _ _ _ _)
   | (with_reducible exact LeO.refl _)
   | (with_reducible exact LeO.none _)
   | (with_reducible refine LeO.ite ?_ ?_)
   | (with_reducible refine LeO.bind ?_ (fun _ => ?_))
   | exact ih0 _ _ _ _
   | exact ih1 _ _ _ _ _
   | exact LeO.none _
   | refine LeO.ite ?_ ?_
   | refine LeO.bind ?_ (fun _ => ?_)
  ·intro y0 y1 y2 y3 y4
   unfold sum_Sum.l1
   repeat' first
   | (with_reducible exact ih0 _ _ _ _)
   | (with_reducible exact ih1 _ _ _ _ _)
   | (with_reducible exact LeO.refl _)
   | (with_reducible exact LeO.none _)
   | (with_reducible refine LeO.ite ?_ ?_)
   | (with_reducible refine LeO.bind ?_ (fun _ => ?_))
   | exact ih0 _ _ _ _
   | exact ih1 _ _ _ _ _
   | exact LeO.none _
   | refine LeO.ite ?_ ?_
   | refine LeO.bind ?_ (fun _ => ?_)
theorem sum_Sum.mono : ∀ a0 a1 k, LeO (sum_Sum.f k a0 a1) (sum_Sum.f (k + 1) a0 a1) := by
 intro a0 a1 k
 obtain ⟨ih0, ih1⟩ := sum_Sum.mono_l k
 unfold sum_Sum.f
 repeat' first
  | (with_reducible exact ih0 _ _ _ _)
  | (with_reducible exact ih1 _ _ _ _ _)
  | (with_reducible exact LeO.refl _)
  | (with_reducible exact LeO.none _)
  | (with_reducible refine LeO.ite ?_ ?_)
  | (with_reducible refine LeO.bind ?_ (fun _ => ?_))
  | exact ih0 _ _ _ _
  | exact ih1 _ _ _ _ _
  | exact LeO.none _
  | refine LeO.ite ?_ ?_
  | refine LeO.bind ?_ (fun _ => ?_)
set_option maxHeartbeats 8000000 in
set_option maxRecDepth 100000 in
theorem sum_Sum.calls (k : Nat) (a0 : Int) (a1 : ByteArray) (r : Int) (w : World) (h : sum_Sum.f k a0 a1 = some r) :
 Calls Try.prog 63 #[.int .u32 a0, .string a1] w fun e w' => e = .returned (.int .u32 r) ∧ Drawn0 w w' := by
 have H : (sum_Sum.l0 k (Go.bits .xor .u32 4294967295 a0) a1 (a1.size : Int) 0) = some r := h
 clear h
 have H' := Aside0.mk H
 clear H
 go_enter Try.func63, Try.ntmps63
 go_wp2
 go_loopg [0, 10] k (fun kq v0 v10 w' => ∃ (x0_1 : Int) (x10_1 : Int), v0 = .int .u32 x0_1 ∧ v10 = .int .i64 x10_1 ∧ Aside0 (sum_Sum.l0 kq x0_1 a1 (a1.size : Int) x10_1 = some r) ∧ Aside0 (kq ≤ k) ∧ Drawn0 w w')
 case atStart => exact ⟨(Go.bits .xor .u32 4294967295 a0), (0), ap, ap, H', ⟨Nat.le_refl _⟩, dr⟩
 case round =>
  clear H'
  try clear p2
  obtain ⟨x0_1, x10_1, rfl, rfl, HA, HK1, ⟨m1, rfl⟩⟩ := hrel
  cases gk with
  | zero => exact absurd HA.out (by simp [sum_Sum.l0])
  | succ k1 =>
   have H := HA.out
   clear HA
   simp only [sum_Sum.l0] at H
   by_cases c3 : x10_1 < (a1.size : Int)
   ·rw [if_pos c3] at H
    have c3b0 : decide (x10_1 < (a1.size : Int)) = true := decide_eq_true c3
    clear c3
    by_cases c4 : 0 ≤ x10_1
    ·rw [if_pos c4] at H
     have c4b0 : decide (0 ≤ x10_1) = true := decide_eq_true c4
     clear c4
     by_cases c5 : x10_1 < (a1.size : Int)
     ·rw [if_pos c5] at H
      have c5b0 : decide (x10_1 < (a1.size : Int)) = true := decide_eq_true c5
      clear c5
      have H' := Aside0.mk H
      clear H
      have p6 : 0 ≤ (x10_1 : Int) := od
      have q6 : x10_1 < (a1.size : Int) := od
      have hx6 := bt_at a1 x10_1
      replace p6 := eq_true p6
      replace q6 := eq_true q6
      go_wp2
      go_loopg [0, 19] k1 (fun kq v0 v19 w' => ∃ (x0_2 : Int) (x19_2 : Int), v0 = .int .u32 x0_2 ∧ v19 = .int .i64 x19_2 ∧ Aside0 (sum_Sum.l1 kq x0_2 a1 (a1.size : Int) x10_1 x19_2 = some r) ∧ Aside0 (kq ≤ k1) ∧ Drawn0 w w')
      case atStart => exact ⟨(Go.bits .xor .u32 x0_1 ((bt a1 x10_1) % 4294967296)), (0), ap, ap, H', ⟨Nat.le_refl _⟩, dr⟩
      case round =>
       clear H'
       try clear p2
       try clear c3
       try clear c3b0
       try clear c4
       try clear c4b0
       try clear c5
       try clear c5b0
       try clear c6
       try clear p6
       try clear q6
       try clear hx6
       try clear p2
       try clear p6
       try clear q6
       obtain ⟨x0_2, x19_2, rfl, rfl, HA, HK2, ⟨m2, rfl⟩⟩ := hrel
       cases gk with
       | zero => exact absurd HA.out (by simp [sum_Sum.l1])
       | succ k2 =>
        have H := HA.out
        clear HA
        simp only [sum_Sum.l1] at H
        by_cases c7 : x19_2 < 8
        ·rw [if_pos c7] at H
         have c7b0 : decide (x19_2 < 8) = true := decide_eq_true c7
         clear c7
         have H' := Aside0.mk H
         clear H
         go_wp2
         go_roundg k2
         case measure => have := HK1.out; have := HK2.out; omega
         case rel => exact ⟨(Go.bits .xor .u32 (x0_2 / 2) (Go.bits .and .u32 2197175160 ((-(Go.bits .and .u32 x0_2 1)) % 4294967296))), (wrap64 (x19_2 + 1)), ap, ap, H', ⟨by have := HK1.out; have := HK2.out; omega⟩, dr⟩
        ·rw [if_neg c7] at H
         have c7b0 : decide (x19_2 < 8) = false := decide_eq_false c7
         clear c7
         have H' := Aside0.mk H
         clear H
         go_wp2
         go_roundg k2
         case measure => have := HK1.out; have := HK2.out; omega
         case rel => exact ⟨(x0_2), (wrap64 (x10_1 + 1)), ap, ap, H', ⟨by have := HK1.out; have := HK2.out; omega⟩, dr⟩
     ·rw [if_neg c5] at H
      exact absurd H (by simp)
    ·rw [if_neg c4] at H
     exact absurd H (by simp)
   ·rw [if_neg c3] at H
    have c3b0 : decide (x10_1 < (a1.size : Int)) = false := decide_eq_false c3
    clear c3
    obtain rfl := Option.some.inj H
    go_wp2
    go_ret
    exact ⟨ap, dr⟩

end Go.Proofs.Ytmabdfdmccbfnaa.P

-- written by a program of the proving session, out of the translation; Lean checks it
namespace Go.Proofs.Ytmabdfdmccbfnaa.P
open Go.RowKit Go.Proofs.Ytmabdfdmccbfnaa.Sq Go.Proofs.YtmabdfdmccbfnaaW.PrintWords Go.Proofs.YtmabdfdmccbfnaaW.PrintLast Go.Proofs.YtmabdfdmccbfnaaW.PrintMore
attribute [local go_sem] max2_int min2_int max_two min_two max_three min_three max_four min_four   -- for this text's walks alone
set_option linter.unusedVariables false
set_option linter.unusedSimpArgs false

/-! ### rec_Bytes: function 14 -/
def rec_Bytes.j0 : Nat → Int → Int → Int → ByteArray → ByteArray → Int → Bool → Option (ByteArray × Int)
 | 0, _, _, _, _, _, _, _ => none
 | k + 1, x5, x115000, x115001, x115002, x115003, x115004, x115005 => (vbi_Two.f k (x115002.size : Int)).bind fun bt116 => ((rec_eight.f k x115000).bind fun t118 => ((rec_eight.f k x115001).bind fun t119 => (if t118.size + t119.size ≤ 9223372036854775807 then ((some (([x5] : List Int) : List Int)).bind fun y120 => (if (t118 ++ t119).size + (strOfNums y120).size ≤ 9223372036854775807 then (if ((t118 ++ t119) ++ (strOfNums y120)).size + bt116.1.size ≤ 9223372036854775807 then (if (((t118 ++ t119) ++ (strOfNums y120)) ++ bt116.1).size + x115002.size ≤ 9223372036854775807 then (if ((((t118 ++ t119) ++ (strOfNums y120)) ++ bt116.1) ++ x115002).size + x115003.size ≤ 9223372036854775807 then ((vbi_Two.f k ((((((t118 ++ t119) ++ (strOfNums y120)) ++ bt116.1) ++ x115002) ++ x115003).size : Int)).bind fun bt123 => ((sum_Sum.f k 0 bt123.1).bind fun t125 => ((sum_Sum.f k t125 (((((t118 ++ t119) ++ (strOfNums y120)) ++ bt116.1) ++ x115002) ++ x115003)).bind fun t126 => ((vbi_Four.f k (wrap64 (t126))).bind fun bt127 => (if bt123.1.size + bt127.1.size ≤ 9223372036854775807 then (if (bt123.1 ++ bt127.1).size + (((((t118 ++ t119) ++ (strOfNums y120)) ++ bt116.1) ++ x115002) ++ x115003).size ≤ 9223372036854775807 then (some ((bt123.1 ++ bt127.1) ++ (((((t118 ++ t119) ++ (strOfNums y120)) ++ bt116.1) ++ x115002) ++ x115003), 0)) else (none)) else (none)))))) else (none)) else (none)) else (none)) else (none))) else (none))))
def rec_Bytes.f (k : Nat) (a0_0 : Int) (a0_1 : Int) (a0_2 : ByteArray) (a0_3 : ByteArray) (a0_4 : Int) (a0_5 : Bool) : Option (ByteArray × Int) := (rec_Check.f k a0_0 a0_1 a0_2 a0_3 a0_4 a0_5).bind fun t115 => (if t115 = 0 then (if a0_5 = true then (rec_Bytes.j0 k (Go.bits .or .u8 ((a0_4) % 256) 4) a0_0 a0_1 a0_2 a0_3 a0_4 a0_5) else (rec_Bytes.j0 k ((a0_4) % 256) a0_0 a0_1 a0_2 a0_3 a0_4 a0_5)) else (some ((⟨#[]⟩ : ByteArray), t115)))
theorem rec_Bytes.mono_l : ∀ k, (∀ y0 y1 y2 y3 y4 y5 y6, LeO (rec_Bytes.j0 k y0 y1 y2 y3 y4 y5 y6) (rec_Bytes.j0 (k + 1) y0 y1 y2 y3 y4 y5 y6))
 | 0 => fun _ _ _ _ _ _ _ r h => by simp [rec_Bytes.j0] at h
 | k + 1 => by
  have ih0 := rec_Bytes.mono_l k
  ·intro y0 y1 y2 y3 y4 y5 y6
   unfold rec_Bytes.j0
   repeat' first
   | (with_reducible exact ih0 _ _ _ _ _ _ _)
   | (with_reducible exact rec_Check.mono _ _ _ _ _ _ _)
   | (with_reducible exact rec_eight.mono _ _)
   | (with_reducible exact sum_Sum.mono _ _ _)
   | (with_reducible exact vbi_Four.mono _ _)
   | (with_reducible exact vbi_Two.mono _ _)
   | (with_reducible exact LeO.refl _)
   | (with_reducible exact LeO.none _)
   | (with_reducible refine LeO.ite ?_ ?_)
   | (with_reducible refine LeO.bind ?_ (fun _ => ?_))
   | exact ih0 _ _ _ _ _ _ _
   | exact rec_Check.mono _ _ _ _ _ _ _
   | exact rec_eight.mono _ _
   | exact sum_Sum.mono _ _ _
   | exact vbi_Four.mono _ _
   | exact vbi_Two.mono _ _
   | exact LeO.none _
   | refine LeO.ite ?_ ?_
   | refine LeO.bind ?_ (fun _ => ?_)
theorem rec_Bytes.mono : ∀ a0 a1 a2 a3 a4 a5 k, LeO (rec_Bytes.f k a0 a1 a2 a3 a4 a5) (rec_Bytes.f (k + 1) a0 a1 a2 a3 a4 a5) := by
 intro a0 a1 a2 a3 a4 a5 k
 have ih0 := rec_Bytes.mono_l k
 unfold rec_Bytes.f
 repeat' first
  | (with_reducible exact ih0 _ _ _ _ _ _ _)
  | (with_reducible exact rec_Check.mono _ _ _ _ _ _ _)
  | (with_reducible exact rec_eight.mono _ _)
  | (with_reducible exact sum_Sum.mono _ _ _)
  | (with_reducible exact vbi_Four.mono _ _)
  | (with_reducible exact vbi_Two.mono _ _)
  | (with_reducible exact LeO.refl _)
  | (with_reducible exact LeO.none _)
  | (with_reducible refine LeO.ite ?_ ?_)
  | (with_reducible refine LeO.bind ?_ (fun _ => ?_))
  | exact ih0 _ _ _ _ _ _ _
  | exact rec_Check.mono _ _ _ _ _ _ _
  | exact rec_eight.mono _ _
  | exact sum_Sum.mono _ _ _
  | exact vbi_Four.mono _ _
  | exact vbi_Two.mono _ _
  | exact LeO.none _
  | refine LeO.ite ?_ ?_
  | refine LeO.bind ?_ (fun _ => ?_)
def rec_Bytes.T8 : Bool × List (List Nat × List Nat) := (true, [([], []), ([0], [0]), ([1], [1]), ([], []), ([3], [3]), ([4, 2], [4]), ([2, 5], [2, 5]), ([], []), ([7], [7]), ([8], [8]), ([6, 9], [6, 9]), ([], []), ([10, 11], [10, 11]), ([], []), ([13], [13]), ([12, 14], [12, 14]), ([], []), ([16], [16]), ([15, 17], [15, 17]), ([18, 5, 0, 1, 2, 3, 4, 5, 6, 7, 8, 9, 10, 11, 12, 13, 14, 15, 16, 17, 18], [18])])
def rec_Bytes.B8 : List Nat := [0, 1, 3, 0, 8, 31, 63, 0, 128, 384, 1023, 0, 4095, 0, 8192, 32767, 0, 65536, 262143, 524287]
theorem rec_Bytes.tab8 : rtab .any (opsOf Try.f14 8) = rec_Bytes.T8 := by kernel_rfl
theorem rec_Bytes.bits8 : waitsOk rec_Bytes.T8.2 rec_Bytes.B8 = true := by kernel_rfl
set_option maxHeartbeats 8000000 in
set_option maxRecDepth 100000 in
theorem rec_Bytes.calls (k : Nat) (a0_0 : Int) (a0_1 : Int) (a0_2 : ByteArray) (a0_3 : ByteArray) (a0_4 : Int) (a0_5 : Bool) (r1 : ByteArray) (r2 : Int) (w : World) (h : rec_Bytes.f k a0_0 a0_1 a0_2 a0_3 a0_4 a0_5 = some (r1, r2)) :
 Calls Try.prog 14 #[.agg #[.int .i64 a0_0, .int .i64 a0_1, .string a0_2, .string a0_3, .int .i64 a0_4, .bool a0_5]] w fun e w' => e = .returned (.tuple #[.string r1, .int .i64 r2]) ∧ Below w.heap.size w w' := by
 have hu25 := Try.underlying25
 have HB := Aside0.mk (Below.refl w.heap.size w)
 have H : ((rec_Check.f k a0_0 a0_1 a0_2 a0_3 a0_4 a0_5).bind fun t115 => (if t115 = 0 then (if a0_5 = true then (rec_Bytes.j0 k (Go.bits .or .u8 ((a0_4) % 256) 4) a0_0 a0_1 a0_2 a0_3 a0_4 a0_5) else (rec_Bytes.j0 k ((a0_4) % 256) a0_0 a0_1 a0_2 a0_3 a0_4 a0_5)) else (some ((⟨#[]⟩ : ByteArray), t115)))) = some (r1, r2) := h
 clear h
 replace H := Option.bind_eq_some_iff.mp H
 obtain ⟨t115, A20, H⟩ := H
 replace H : (if t115 = 0 then (if a0_5 = true then (rec_Bytes.j0 k (Go.bits .or .u8 ((a0_4) % 256) 4) a0_0 a0_1 a0_2 a0_3 a0_4 a0_5) else (rec_Bytes.j0 k ((a0_4) % 256) a0_0 a0_1 a0_2 a0_3 a0_4 a0_5)) else (some ((⟨#[]⟩ : ByteArray), t115))) = some (r1, r2) := H
 have A2 := Aside0.mk A20
 clear A20
 by_cases c3 : t115 = 0
 ·rw [if_pos c3] at H
  have c3b0 : (t115 == 0) = true := beq_iff_eq.mpr c3
  have c3b1 : (t115 != 0) = false := bne_eq_false_iff_eq.mpr c3
  clear c3
  have HC4 := Aside0.mk H
  clear H
  go_enter Try.func14, Try.ntmps14
  go_upto_if 22 with (first | ((with_reducible refine gate_dst (N := 1) rfl ?_); refine box_event ?hg (N := 1) ?hd (cs := #[.int .i64 a0_0, .int .i64 a0_1, .string a0_2, .string a0_3, .int .i64 a0_4, .bool a0_5]) (t := 25) ?hr ?_; (case hd => rfl); (case hg => rfl); (case hr => first | (go_simp; done) | (go_simp; rfl)); intro gb114 hg w5 hbox hb; have BK114 := Aside0.mk (hbox); have GW114 := Aside0.mk ((by rw [hg]; exact (below_size bo) : w.heap.size ≤ gb114)); have GE114 := Aside0.mk ((by rw [hg]; exact (below_size bo) : w.heap.size ≤ gb114)); replace HB := Aside0.mk (below_step bo hb); clear hb hbox hg; obtain ⟨hcz6_0, hcz6_1, hcz6_2, hcz6_3, hcz6_4, hcz6_5⟩ := cl6 BK114.out; obtain ⟨hfz6_0, hfz6_1, hfz6_2, hfz6_3, hfz6_4, hfz6_5⟩ := fz6 BK114.out) | ((with_reducible refine gate_callee (f := 22) rfl ?_); refine goesL_ (some 14) rfl rfl Try.func22 (by kernel_rfl) rfl #[.agg #[.int .i64 a0_0, .int .i64 a0_1, .string a0_2, .string a0_3, .int .i64 a0_4, .bool a0_5]] rfl aa ?_; (with_reducible refine (rec_Check.calls k a0_0 a0_1 a0_2 a0_3 a0_4 a0_5 t115 _ A2.out).mono ?_); rintro e w7 ⟨rfl, hb⟩; refine ⟨_, rfl, ?_⟩; replace BK114 := Aside0.mk (blk_below (g := gb114) (o := .cells #[.int .i64 a0_0, .int .i64 a0_1, .string a0_2, .string a0_3, .int .i64 a0_4, .bool a0_5] 25 (0, 0)) (bk BK114.out) hb); replace HB := Aside0.mk (below_step bo hb); (try clear hb); (try clear hb2); (try clear hk); (try clear hi); obtain ⟨hcz8_0, hcz8_1, hcz8_2, hcz8_3, hcz8_4, hcz8_5⟩ := cl6 BK114.out; obtain ⟨hfz8_0, hfz8_1, hfz8_2, hfz8_3, hfz8_4, hfz8_5⟩ := fz6 BK114.out))
  (try simp only [Act.put, List.setIfInBounds_toArray, List.set_cons_zero, List.set_cons_succ])
  go_cut [5] (fun v5 wc => ∃ (kq : Nat) (x5_3 : Int), v5 = .int .u8 x5_3 ∧ Aside0 (rec_Bytes.j0 kq x5_3 a0_0 a0_1 a0_2 a0_3 a0_4 a0_5 = some (r1, r2)) ∧ Aside0 (kq ≤ k) ∧ Aside0 (wc.heap[gb114]? = some (.cells #[.int .i64 a0_0, .int .i64 a0_1, .string a0_2, .string a0_3, .int .i64 a0_4, .bool a0_5] 25 (0, 0))) ∧ Aside0 (Below w.heap.size w wc))
  case first =>
   have H := HC4.out
   clear HC4
   by_cases c9 : a0_5 = true
   ·subst c9
    have H1 : (rec_Bytes.j0 k (Go.bits .or .u8 ((a0_4) % 256) 4) a0_0 a0_1 a0_2 a0_3 a0_4 true) = some (r1, r2) := by rw [if_pos rfl] at H; exact H
    clear H
    have H := H1
    clear H1
    have H' := Aside0.mk H
    clear H
    go_wp2
    go_meet
    case rel => exact ⟨_, (Go.bits .or .u8 ((a0_4) % 256) 4), ap, H', ⟨by first | omega | exact Nat.le_refl _⟩, ⟨by (with_reducible repeat (first | refine blk_drewN ?_ _ | refine blk_drew ?_ | refine blk_alloc ?_ _)); exact BK114.out⟩, ⟨bo⟩⟩
   ·replace c9 := Bool.eq_false_iff.mpr c9
    subst c9
    have H1 : (rec_Bytes.j0 k ((a0_4) % 256) a0_0 a0_1 a0_2 a0_3 a0_4 false) = some (r1, r2) := by rw [if_neg (show ¬ (false = true) by decide)] at H; exact H
    clear H
    have H := H1
    clear H1
    have H' := Aside0.mk H
    clear H
    go_wp2
    go_meet
    case rel => exact ⟨_, ((a0_4) % 256), ap, H', ⟨by first | omega | exact Nat.le_refl _⟩, ⟨by (with_reducible repeat (first | refine blk_drewN ?_ _ | refine blk_drew ?_ | refine blk_alloc ?_ _)); exact BK114.out⟩, ⟨bo⟩⟩
  case rest =>
   clear HC4
   try clear c1
   try clear c2
   try clear p2
   try clear c3
   try clear c3b0
   try clear c3b1
   try clear c9
   try clear hcz6_0
   try clear hcz6_1
   try clear hcz6_2
   try clear hcz6_3
   try clear hcz6_4
   try clear hcz6_5
   try clear hcz8_0
   try clear hcz8_1
   try clear hcz8_2
   try clear hcz8_3
   try clear hcz8_4
   try clear hcz8_5
   try clear hfz6_0
   try clear hfz6_1
   try clear hfz6_2
   try clear hfz6_3
   try clear hfz6_4
   try clear hfz6_5
   try clear hfz8_0
   try clear hfz8_1
   try clear hfz8_2
   try clear hfz8_3
   try clear hfz8_4
   try clear hfz8_5
   obtain ⟨kq, x5_3, rfl, HA, HJ3, BK114, HB⟩ := hcut
   cases kq with
   | zero => exact absurd HA.out (by simp [rec_Bytes.j0])
   | succ kj3 =>
    have H := HA.out
    clear HA
    simp only [rec_Bytes.j0] at H
    replace H := Option.bind_eq_some_iff.mp H
    obtain ⟨⟨t116, t117⟩, A100, H⟩ := H
    replace H : ((rec_eight.f kj3 a0_0).bind fun t118 => ((rec_eight.f kj3 a0_1).bind fun t119 => (if t118.size + t119.size ≤ 9223372036854775807 then ((some (([x5_3] : List Int) : List Int)).bind fun y120 => (if (t118 ++ t119).size + (strOfNums y120).size ≤ 9223372036854775807 then (if ((t118 ++ t119) ++ (strOfNums y120)).size + t116.size ≤ 9223372036854775807 then (if (((t118 ++ t119) ++ (strOfNums y120)) ++ t116).size + a0_2.size ≤ 9223372036854775807 then (if ((((t118 ++ t119) ++ (strOfNums y120)) ++ t116) ++ a0_2).size + a0_3.size ≤ 9223372036854775807 then ((vbi_Two.f kj3 ((((((t118 ++ t119) ++ (strOfNums y120)) ++ t116) ++ a0_2) ++ a0_3).size : Int)).bind fun bt123 => ((sum_Sum.f kj3 0 bt123.1).bind fun t125 => ((sum_Sum.f kj3 t125 (((((t118 ++ t119) ++ (strOfNums y120)) ++ t116) ++ a0_2) ++ a0_3)).bind fun t126 => ((vbi_Four.f kj3 (wrap64 (t126))).bind fun bt127 => (if bt123.1.size + bt127.1.size ≤ 9223372036854775807 then (if (bt123.1 ++ bt127.1).size + (((((t118 ++ t119) ++ (strOfNums y120)) ++ t116) ++ a0_2) ++ a0_3).size ≤ 9223372036854775807 then (some ((bt123.1 ++ bt127.1) ++ (((((t118 ++ t119) ++ (strOfNums y120)) ++ t116) ++ a0_2) ++ a0_3), 0)) else (none)) else (none)))))) else (none)) else (none)) else (none)) else (none))) else (none)))) = some (r1, r2) := H
    have A10 := Aside0.mk A100
    clear A100
    replace H := Option.bind_eq_some_iff.mp H
    obtain ⟨t118, A110, H⟩ := H
    replace H : ((rec_eight.f kj3 a0_1).bind fun t119 => (if t118.size + t119.size ≤ 9223372036854775807 then ((some (([x5_3] : List Int) : List Int)).bind fun y120 => (if (t118 ++ t119).size + (strOfNums y120).size ≤ 9223372036854775807 then (if ((t118 ++ t119) ++ (strOfNums y120)).size + t116.size ≤ 9223372036854775807 then (if (((t118 ++ t119) ++ (strOfNums y120)) ++ t116).size + a0_2.size ≤ 9223372036854775807 then (if ((((t118 ++ t119) ++ (strOfNums y120)) ++ t116) ++ a0_2).size + a0_3.size ≤ 9223372036854775807 then ((vbi_Two.f kj3 ((((((t118 ++ t119) ++ (strOfNums y120)) ++ t116) ++ a0_2) ++ a0_3).size : Int)).bind fun bt123 => ((sum_Sum.f kj3 0 bt123.1).bind fun t125 => ((sum_Sum.f kj3 t125 (((((t118 ++ t119) ++ (strOfNums y120)) ++ t116) ++ a0_2) ++ a0_3)).bind fun t126 => ((vbi_Four.f kj3 (wrap64 (t126))).bind fun bt127 => (if bt123.1.size + bt127.1.size ≤ 9223372036854775807 then (if (bt123.1 ++ bt127.1).size + (((((t118 ++ t119) ++ (strOfNums y120)) ++ t116) ++ a0_2) ++ a0_3).size ≤ 9223372036854775807 then (some ((bt123.1 ++ bt127.1) ++ (((((t118 ++ t119) ++ (strOfNums y120)) ++ t116) ++ a0_2) ++ a0_3), 0)) else (none)) else (none)))))) else (none)) else (none)) else (none)) else (none))) else (none))) = some (r1, r2) := H
    have A11 := Aside0.mk A110
    clear A110
    replace H := Option.bind_eq_some_iff.mp H
    obtain ⟨t119, A120, H⟩ := H
    replace H : (if t118.size + t119.size ≤ 9223372036854775807 then ((some (([x5_3] : List Int) : List Int)).bind fun y120 => (if (t118 ++ t119).size + (strOfNums y120).size ≤ 9223372036854775807 then (if ((t118 ++ t119) ++ (strOfNums y120)).size + t116.size ≤ 9223372036854775807 then (if (((t118 ++ t119) ++ (strOfNums y120)) ++ t116).size + a0_2.size ≤ 9223372036854775807 then (if ((((t118 ++ t119) ++ (strOfNums y120)) ++ t116) ++ a0_2).size + a0_3.size ≤ 9223372036854775807 then ((vbi_Two.f kj3 ((((((t118 ++ t119) ++ (strOfNums y120)) ++ t116) ++ a0_2) ++ a0_3).size : Int)).bind fun bt123 => ((sum_Sum.f kj3 0 bt123.1).bind fun t125 => ((sum_Sum.f kj3 t125 (((((t118 ++ t119) ++ (strOfNums y120)) ++ t116) ++ a0_2) ++ a0_3)).bind fun t126 => ((vbi_Four.f kj3 (wrap64 (t126))).bind fun bt127 => (if bt123.1.size + bt127.1.size ≤ 9223372036854775807 then (if (bt123.1 ++ bt127.1).size + (((((t118 ++ t119) ++ (strOfNums y120)) ++ t116) ++ a0_2) ++ a0_3).size ≤ 9223372036854775807 then (some ((bt123.1 ++ bt127.1) ++ (((((t118 ++ t119) ++ (strOfNums y120)) ++ t116) ++ a0_2) ++ a0_3), 0)) else (none)) else (none)))))) else (none)) else (none)) else (none)) else (none))) else (none)) = some (r1, r2) := H
    have A12 := Aside0.mk A120
    clear A120
    by_cases c13 : t118.size + t119.size ≤ 9223372036854775807
    ·rw [if_pos c13] at H
     have c13b0 := eq_true c13
     have c13b1 : decide (t118.size + t119.size ≤ 9223372036854775807) = true := decide_eq_true c13
     try have c13b2 : (9223372036854775807 < t118.size + t119.size) = False := eq_false (Nat.not_lt.2 c13)
     obtain ⟨y120, hy120⟩ : ∃ y_ : List Int, y_ = (([x5_3] : List Int)) := ⟨_, rfl⟩
     replace H : (if (t118 ++ t119).size + (strOfNums y120).size ≤ 9223372036854775807 then (if ((t118 ++ t119) ++ (strOfNums y120)).size + t116.size ≤ 9223372036854775807 then (if (((t118 ++ t119) ++ (strOfNums y120)) ++ t116).size + a0_2.size ≤ 9223372036854775807 then (if ((((t118 ++ t119) ++ (strOfNums y120)) ++ t116) ++ a0_2).size + a0_3.size ≤ 9223372036854775807 then ((vbi_Two.f kj3 ((((((t118 ++ t119) ++ (strOfNums y120)) ++ t116) ++ a0_2) ++ a0_3).size : Int)).bind fun bt123 => ((sum_Sum.f kj3 0 bt123.1).bind fun t125 => ((sum_Sum.f kj3 t125 (((((t118 ++ t119) ++ (strOfNums y120)) ++ t116) ++ a0_2) ++ a0_3)).bind fun t126 => ((vbi_Four.f kj3 (wrap64 (t126))).bind fun bt127 => (if bt123.1.size + bt127.1.size ≤ 9223372036854775807 then (if (bt123.1 ++ bt127.1).size + (((((t118 ++ t119) ++ (strOfNums y120)) ++ t116) ++ a0_2) ++ a0_3).size ≤ 9223372036854775807 then (some ((bt123.1 ++ bt127.1) ++ (((((t118 ++ t119) ++ (strOfNums y120)) ++ t116) ++ a0_2) ++ a0_3), 0)) else (none)) else (none)))))) else (none)) else (none)) else (none)) else (none)) = some (r1, r2) := by first | (rw [hy120]; with_reducible exact H) | (have H2_ := (Option.bind_some _ _).symm.trans H; rw [hy120]; with_reducible exact H2_) | (have H2_ := (Option.bind_some _ _).symm.trans H; with_reducible exact H2_) | with_reducible exact H | (rw [hy120]; exact H) | exact H
     have Ny120 := Aside0.mk hy120
     clear hy120
     by_cases c14 : (t118 ++ t119).size + (strOfNums y120).size ≤ 9223372036854775807
     ·rw [if_pos c14] at H
      have c14b0 := eq_true c14
      have c14b1 : decide ((t118 ++ t119).size + (strOfNums y120).size ≤ 9223372036854775807) = true := decide_eq_true c14
      try have c14b2 : (9223372036854775807 < (t118 ++ t119).size + (strOfNums y120).size) = False := eq_false (Nat.not_lt.2 c14)
      (try (have c14n2 := c14b2; simp only [ByteArray.size_append] at c14n2))
      (try (have c14n1 := c14b1; simp only [ByteArray.size_append] at c14n1))
      by_cases c15 : ((t118 ++ t119) ++ (strOfNums y120)).size + t116.size ≤ 9223372036854775807
      ·rw [if_pos c15] at H
       have c15b0 := eq_true c15
       have c15b1 : decide (((t118 ++ t119) ++ (strOfNums y120)).size + t116.size ≤ 9223372036854775807) = true := decide_eq_true c15
       try have c15b2 : (9223372036854775807 < ((t118 ++ t119) ++ (strOfNums y120)).size + t116.size) = False := eq_false (Nat.not_lt.2 c15)
       (try (have c15n2 := c15b2; simp only [ByteArray.size_append] at c15n2))
       (try (have c15n1 := c15b1; simp only [ByteArray.size_append] at c15n1))
       by_cases c16 : (((t118 ++ t119) ++ (strOfNums y120)) ++ t116).size + a0_2.size ≤ 9223372036854775807
       ·rw [if_pos c16] at H
        have c16b0 := eq_true c16
        have c16b1 : decide ((((t118 ++ t119) ++ (strOfNums y120)) ++ t116).size + a0_2.size ≤ 9223372036854775807) = true := decide_eq_true c16
        try have c16b2 : (9223372036854775807 < (((t118 ++ t119) ++ (strOfNums y120)) ++ t116).size + a0_2.size) = False := eq_false (Nat.not_lt.2 c16)
        (try (have c16n2 := c16b2; simp only [ByteArray.size_append] at c16n2))
        (try (have c16n1 := c16b1; simp only [ByteArray.size_append] at c16n1))
        by_cases c17 : ((((t118 ++ t119) ++ (strOfNums y120)) ++ t116) ++ a0_2).size + a0_3.size ≤ 9223372036854775807
        ·rw [if_pos c17] at H
         have c17b0 := eq_true c17
         have c17b1 : decide (((((t118 ++ t119) ++ (strOfNums y120)) ++ t116) ++ a0_2).size + a0_3.size ≤ 9223372036854775807) = true := decide_eq_true c17
         try have c17b2 : (9223372036854775807 < ((((t118 ++ t119) ++ (strOfNums y120)) ++ t116) ++ a0_2).size + a0_3.size) = False := eq_false (Nat.not_lt.2 c17)
         (try (have c17n2 := c17b2; simp only [ByteArray.size_append] at c17n2))
         (try (have c17n1 := c17b1; simp only [ByteArray.size_append] at c17n1))
         replace H := Option.bind_eq_some_iff.mp H
         obtain ⟨⟨t123, t124⟩, A180, H⟩ := H
         replace H : ((sum_Sum.f kj3 0 t123).bind fun t125 => ((sum_Sum.f kj3 t125 (((((t118 ++ t119) ++ (strOfNums y120)) ++ t116) ++ a0_2) ++ a0_3)).bind fun t126 => ((vbi_Four.f kj3 (wrap64 (t126))).bind fun bt127 => (if t123.size + bt127.1.size ≤ 9223372036854775807 then (if (t123 ++ bt127.1).size + (((((t118 ++ t119) ++ (strOfNums y120)) ++ t116) ++ a0_2) ++ a0_3).size ≤ 9223372036854775807 then (some ((t123 ++ bt127.1) ++ (((((t118 ++ t119) ++ (strOfNums y120)) ++ t116) ++ a0_2) ++ a0_3), 0)) else (none)) else (none))))) = some (r1, r2) := H
         have A18 := Aside0.mk A180
         clear A180
         replace H := Option.bind_eq_some_iff.mp H
         obtain ⟨t125, A190, H⟩ := H
         replace H : ((sum_Sum.f kj3 t125 (((((t118 ++ t119) ++ (strOfNums y120)) ++ t116) ++ a0_2) ++ a0_3)).bind fun t126 => ((vbi_Four.f kj3 (wrap64 (t126))).bind fun bt127 => (if t123.size + bt127.1.size ≤ 9223372036854775807 then (if (t123 ++ bt127.1).size + (((((t118 ++ t119) ++ (strOfNums y120)) ++ t116) ++ a0_2) ++ a0_3).size ≤ 9223372036854775807 then (some ((t123 ++ bt127.1) ++ (((((t118 ++ t119) ++ (strOfNums y120)) ++ t116) ++ a0_2) ++ a0_3), 0)) else (none)) else (none)))) = some (r1, r2) := H
         have A19 := Aside0.mk A190
         clear A190
         replace H := Option.bind_eq_some_iff.mp H
         obtain ⟨t126, A200, H⟩ := H
         replace H : ((vbi_Four.f kj3 (wrap64 (t126))).bind fun bt127 => (if t123.size + bt127.1.size ≤ 9223372036854775807 then (if (t123 ++ bt127.1).size + (((((t118 ++ t119) ++ (strOfNums y120)) ++ t116) ++ a0_2) ++ a0_3).size ≤ 9223372036854775807 then (some ((t123 ++ bt127.1) ++ (((((t118 ++ t119) ++ (strOfNums y120)) ++ t116) ++ a0_2) ++ a0_3), 0)) else (none)) else (none))) = some (r1, r2) := H
         have A20 := Aside0.mk A200
         clear A200
         replace H := Option.bind_eq_some_iff.mp H
         obtain ⟨⟨t127, t128⟩, A210, H⟩ := H
         replace H : (if t123.size + t127.size ≤ 9223372036854775807 then (if (t123 ++ t127).size + (((((t118 ++ t119) ++ (strOfNums y120)) ++ t116) ++ a0_2) ++ a0_3).size ≤ 9223372036854775807 then (some ((t123 ++ t127) ++ (((((t118 ++ t119) ++ (strOfNums y120)) ++ t116) ++ a0_2) ++ a0_3), 0)) else (none)) else (none)) = some (r1, r2) := H
         have A21 := Aside0.mk A210
         clear A210
         by_cases c22 : t123.size + t127.size ≤ 9223372036854775807
         ·rw [if_pos c22] at H
          have c22b0 := eq_true c22
          have c22b1 : decide (t123.size + t127.size ≤ 9223372036854775807) = true := decide_eq_true c22
          try have c22b2 : (9223372036854775807 < t123.size + t127.size) = False := eq_false (Nat.not_lt.2 c22)
          by_cases c23 : (t123 ++ t127).size + (((((t118 ++ t119) ++ (strOfNums y120)) ++ t116) ++ a0_2) ++ a0_3).size ≤ 9223372036854775807
          ·rw [if_pos c23] at H
           have c23b0 := eq_true c23
           have c23b1 : decide ((t123 ++ t127).size + (((((t118 ++ t119) ++ (strOfNums y120)) ++ t116) ++ a0_2) ++ a0_3).size ≤ 9223372036854775807) = true := decide_eq_true c23
           try have c23b2 : (9223372036854775807 < (t123 ++ t127).size + (((((t118 ++ t119) ++ (strOfNums y120)) ++ t116) ++ a0_2) ++ a0_3).size) = False := eq_false (Nat.not_lt.2 c23)
           (try (have c23n2 := c23b2; simp only [ByteArray.size_append] at c23n2))
           (try (have c23n1 := c23b1; simp only [ByteArray.size_append] at c23n1))
           simp only [Option.some.injEq, Prod.mk.injEq] at H
           obtain ⟨rfl, rfl⟩ := H
           have hcz24_0 : wc.cell? ⟨gb114, 0, none⟩ = some (.int .i64 a0_0) := (blk_cell BK114.out 0).trans rfl
           have hcz24_1 : wc.cell? ⟨gb114, 1, none⟩ = some (.int .i64 a0_1) := (blk_cell BK114.out 1).trans rfl
           have hcz24_2 : wc.cell? ⟨gb114, 2, none⟩ = some (.string a0_2) := (blk_cell BK114.out 2).trans rfl
           have hcz24_3 : wc.cell? ⟨gb114, 3, none⟩ = some (.string a0_3) := (blk_cell BK114.out 3).trans rfl
           have hcz24_4 : wc.cell? ⟨gb114, 4, none⟩ = some (.int .i64 a0_4) := (blk_cell BK114.out 4).trans rfl
           have hcz24_5 : wc.cell? ⟨gb114, 5, none⟩ = some (.bool a0_5) := (blk_cell BK114.out 5).trans rfl
           have hfz24_0 := blk_frozen BK114.out 0
           have hfz24_1 := blk_frozen BK114.out 1
           have hfz24_2 := blk_frozen BK114.out 2
           have hfz24_3 := blk_frozen BK114.out 3
           have hfz24_4 := blk_frozen BK114.out 4
           have hfz24_5 := blk_frozen BK114.out 5
           try go_wp2_with (first | ((with_reducible refine gate_callee (f := 60) rfl ?_); refine goesL_ (some 29) rfl rfl Try.func60 (by kernel_rfl) rfl #[.int .i64 (a0_2.size : Int)] rfl aa ?_; (with_reducible refine (vbi_Two.calls kj3 (a0_2.size : Int) t116 t117 _ A10.out).mono ?_); rintro e w25 ⟨rfl, hb⟩; refine ⟨_, rfl, ?_⟩; replace BK114 := Aside0.mk (blk_below (g := gb114) (o := .cells #[.int .i64 a0_0, .int .i64 a0_1, .string a0_2, .string a0_3, .int .i64 a0_4, .bool a0_5] 25 (0, 0)) (bk BK114.out) hb); replace HB := Aside0.mk (below_step bo hb); (try clear hb); (try clear hb2); (try clear hk); (try clear hi)))
           replace BK114 := Aside0.mk (blk_drew BK114.out)
           replace HB := Aside0.mk (below_drew1 HB.out)
           refine start_ (n := 20) (S := fun w' => w'.cell? ⟨gb114, 0, none⟩ = some (.int .i64 a0_0) ∧ w'.cell? ⟨gb114, 1, none⟩ = some (.int .i64 a0_1) ∧ w'.cell? ⟨gb114, 2, none⟩ = some (.string a0_2) ∧ w'.cell? ⟨gb114, 3, none⟩ = some (.string a0_3) ∧ w'.cell? ⟨gb114, 4, none⟩ = some (.int .i64 a0_4) ∧ w'.cell? ⟨gb114, 5, none⟩ = some (.bool a0_5)) (ds := []) #[O,O,O,O,O,O,O,O,O,O,O,O,O,O,O,O,O,O,O,O] (by kernel_rfl) rfl rfl ⟨(blk_cell BK114.out 0).trans rfl, (blk_cell BK114.out 1).trans rfl, (blk_cell BK114.out 2).trans rfl, (blk_cell BK114.out 3).trans rfl, (blk_cell BK114.out 4).trans rfl, (blk_cell BK114.out 5).trans rfl⟩ (fun hHeld => ?_); refine with_tabW rec_Bytes.tab8 rec_Bytes.bits8 (fun HT_ HW_ => ?_)
           generalize w25.drew = w26 at BK114 HB hHeld ⊢
           refine pz (i := 0) (N := some 32) #[I,O,O,O,O,O,O,O,O,O,O,O,O,O,O,O,O,O,O,O] ?_
           refine pz (i := 3) (N := some 35) #[I,O,O,I,O,O,O,O,O,O,O,O,O,O,O,O,O,O,O,O] ?_
           refine pz (i := 7) (N := some 39) #[I,O,O,I,O,O,O,I,O,O,O,O,O,O,O,O,O,O,O,O] ?_
           refine pz (i := 11) (N := some 43) #[I,O,O,I,O,O,O,I,O,O,O,I,O,O,O,O,O,O,O,O] ?_
           refine pz (i := 13) (N := some 45) #[I,O,O,I,O,O,O,I,O,O,O,I,O,I,O,O,O,O,O,O] ?_
           refine pz (i := 16) (N := some 48) #[I,O,O,I,O,O,O,I,O,O,O,I,O,I,O,O,I,O,O,O] ?_
           refine tz (i := 1) (N := some 33) #[I,I,O,I,O,O,O,I,O,O,O,I,O,I,O,O,I,O,O,O] ?_
           refine tz (i := 4) (N := some 36) #[I,I,O,I,I,O,O,I,O,O,O,I,O,I,O,O,I,O,O,O] ?_
           refine tz (i := 14) (N := some 46) #[I,I,O,I,I,O,O,I,O,O,O,I,O,I,I,O,I,O,O,O] ?_
           refine tz (i := 17) (N := some 49) #[I,I,O,I,I,O,O,I,O,O,O,I,O,I,I,O,I,I,O,O] ?_
           refine join_ (σ := Value) 5 #[I,I,I,I,I,I,I,I,I,I,O,I,O,I,I,O,I,I,O,O] (fun s_ => [(34, .string t118), (37, .string t119), (40, s_), (41, .string (strOfNums y120)), (38, .string (t118 ++ t119))]) (fun s_ w' => (w'.cell? ⟨gb114, 0, none⟩ = some (.int .i64 a0_0) ∧ w'.cell? ⟨gb114, 1, none⟩ = some (.int .i64 a0_1) ∧ w'.cell? ⟨gb114, 2, none⟩ = some (.string a0_2) ∧ w'.cell? ⟨gb114, 3, none⟩ = some (.string a0_3) ∧ w'.cell? ⟨gb114, 4, none⟩ = some (.int .i64 a0_4) ∧ w'.cell? ⟨gb114, 5, none⟩ = some (.bool a0_5)) ∧ (Kd.R (Kd.int .u8) 5 w' w.heap.size (fun _ => True) s_ y120) ∧ (w'.heap[gb114]? = some (.cells #[.int .i64 a0_0, .int .i64 a0_1, .string a0_2, .string a0_3, .int .i64 a0_4, .bool a0_5] 25 (0, 0))) ∧ (Below w.heap.size w w')) ?_ ?_
           rotate_left
           ·intro hJ2_5_8_9
            refine join_ (σ := Value) 6 #[I,I,I,I,I,I,I,I,I,O,O,I,O,I,I,O,I,I,O,O] (fun s_ => [(34, .string t118), (37, .string t119), (40, s_), (38, .string (t118 ++ t119))]) (fun s_ w' => (w'.cell? ⟨gb114, 0, none⟩ = some (.int .i64 a0_0) ∧ w'.cell? ⟨gb114, 1, none⟩ = some (.int .i64 a0_1) ∧ w'.cell? ⟨gb114, 2, none⟩ = some (.string a0_2) ∧ w'.cell? ⟨gb114, 3, none⟩ = some (.string a0_3) ∧ w'.cell? ⟨gb114, 4, none⟩ = some (.int .i64 a0_4) ∧ w'.cell? ⟨gb114, 5, none⟩ = some (.bool a0_5)) ∧ (Kd.R (Kd.int .u8) 5 w' w.heap.size (fun _ => True) s_ y120) ∧ (w'.heap[gb114]? = some (.cells #[.int .i64 a0_0, .int .i64 a0_1, .string a0_2, .string a0_3, .int .i64 a0_4, .bool a0_5] 25 (0, 0))) ∧ (Below w.heap.size w w')) ?_ ?_
            rotate_left
            ·intro hJ2_5_8
             refine join_ (σ := Value) 7 #[I,I,I,I,I,O,O,I,I,I,O,I,O,I,I,O,I,I,O,O] (fun s_ => [(34, .string t118), (40, s_), (41, .string (strOfNums y120))]) (fun s_ w' => (w'.cell? ⟨gb114, 0, none⟩ = some (.int .i64 a0_0) ∧ w'.cell? ⟨gb114, 1, none⟩ = some (.int .i64 a0_1) ∧ w'.cell? ⟨gb114, 2, none⟩ = some (.string a0_2) ∧ w'.cell? ⟨gb114, 3, none⟩ = some (.string a0_3) ∧ w'.cell? ⟨gb114, 4, none⟩ = some (.int .i64 a0_4) ∧ w'.cell? ⟨gb114, 5, none⟩ = some (.bool a0_5)) ∧ (Kd.R (Kd.int .u8) 5 w' w.heap.size (fun _ => True) s_ y120) ∧ (w'.heap[gb114]? = some (.cells #[.int .i64 a0_0, .int .i64 a0_1, .string a0_2, .string a0_3, .int .i64 a0_4, .bool a0_5] 25 (0, 0))) ∧ (Below w.heap.size w w')) ?_ ?_
             rotate_left
             ·intro hJ2_8_9
              refine join_ (σ := Unit) 7 #[I,I,I,I,I,I,I,I,O,O,O,I,O,I,I,O,I,I,O,O] (fun s_ => [(34, .string t118), (37, .string t119), (38, .string (t118 ++ t119))]) (fun s_ w' => (w'.cell? ⟨gb114, 0, none⟩ = some (.int .i64 a0_0) ∧ w'.cell? ⟨gb114, 1, none⟩ = some (.int .i64 a0_1) ∧ w'.cell? ⟨gb114, 2, none⟩ = some (.string a0_2) ∧ w'.cell? ⟨gb114, 3, none⟩ = some (.string a0_3) ∧ w'.cell? ⟨gb114, 4, none⟩ = some (.int .i64 a0_4) ∧ w'.cell? ⟨gb114, 5, none⟩ = some (.bool a0_5)) ∧ (w'.heap[gb114]? = some (.cells #[.int .i64 a0_0, .int .i64 a0_1, .string a0_2, .string a0_3, .int .i64 a0_4, .bool a0_5] 25 (0, 0))) ∧ (Below w.heap.size w w')) ?_ ?_
              rotate_left
              ·intro hJ2_5
               refine join_ (σ := Value) 8 #[I,I,I,I,I,O,O,I,I,O,O,I,O,I,I,O,I,I,O,O] (fun s_ => [(34, .string t118), (40, s_)]) (fun s_ w' => (w'.cell? ⟨gb114, 0, none⟩ = some (.int .i64 a0_0) ∧ w'.cell? ⟨gb114, 1, none⟩ = some (.int .i64 a0_1) ∧ w'.cell? ⟨gb114, 2, none⟩ = some (.string a0_2) ∧ w'.cell? ⟨gb114, 3, none⟩ = some (.string a0_3) ∧ w'.cell? ⟨gb114, 4, none⟩ = some (.int .i64 a0_4) ∧ w'.cell? ⟨gb114, 5, none⟩ = some (.bool a0_5)) ∧ (Kd.R (Kd.int .u8) 5 w' w.heap.size (fun _ => True) s_ y120) ∧ (w'.heap[gb114]? = some (.cells #[.int .i64 a0_0, .int .i64 a0_1, .string a0_2, .string a0_3, .int .i64 a0_4, .bool a0_5] 25 (0, 0))) ∧ (Below w.heap.size w w')) ?_ ?_
               rotate_left
               ·intro hJ2_8
                refine join_ (σ := Value) 8 #[I,I,O,I,I,O,O,I,I,I,O,I,O,I,I,O,I,I,O,O] (fun s_ => [(40, s_), (41, .string (strOfNums y120))]) (fun s_ w' => (w'.cell? ⟨gb114, 0, none⟩ = some (.int .i64 a0_0) ∧ w'.cell? ⟨gb114, 1, none⟩ = some (.int .i64 a0_1) ∧ w'.cell? ⟨gb114, 2, none⟩ = some (.string a0_2) ∧ w'.cell? ⟨gb114, 3, none⟩ = some (.string a0_3) ∧ w'.cell? ⟨gb114, 4, none⟩ = some (.int .i64 a0_4) ∧ w'.cell? ⟨gb114, 5, none⟩ = some (.bool a0_5)) ∧ (Kd.R (Kd.int .u8) 5 w' w.heap.size (fun _ => True) s_ y120) ∧ (w'.heap[gb114]? = some (.cells #[.int .i64 a0_0, .int .i64 a0_1, .string a0_2, .string a0_3, .int .i64 a0_4, .bool a0_5] 25 (0, 0))) ∧ (Below w.heap.size w w')) ?_ ?_
                rotate_left
                ·intro hJ8_9
                 refine join_ (σ := Unit) 9 #[I,I,I,I,I,O,O,I,O,O,O,I,O,I,I,O,I,I,O,O] (fun s_ => [(34, .string t118)]) (fun s_ w' => (w'.cell? ⟨gb114, 0, none⟩ = some (.int .i64 a0_0) ∧ w'.cell? ⟨gb114, 1, none⟩ = some (.int .i64 a0_1) ∧ w'.cell? ⟨gb114, 2, none⟩ = some (.string a0_2) ∧ w'.cell? ⟨gb114, 3, none⟩ = some (.string a0_3) ∧ w'.cell? ⟨gb114, 4, none⟩ = some (.int .i64 a0_4) ∧ w'.cell? ⟨gb114, 5, none⟩ = some (.bool a0_5)) ∧ (w'.heap[gb114]? = some (.cells #[.int .i64 a0_0, .int .i64 a0_1, .string a0_2, .string a0_3, .int .i64 a0_4, .bool a0_5] 25 (0, 0))) ∧ (Below w.heap.size w w')) ?_ ?_
                 rotate_left
                 ·intro hJ2
                  refine join_ (σ := Value) 9 #[I,I,O,I,I,O,O,I,I,O,O,I,O,I,I,O,I,I,O,O] (fun s_ => [(40, s_)]) (fun s_ w' => (w'.cell? ⟨gb114, 0, none⟩ = some (.int .i64 a0_0) ∧ w'.cell? ⟨gb114, 1, none⟩ = some (.int .i64 a0_1) ∧ w'.cell? ⟨gb114, 2, none⟩ = some (.string a0_2) ∧ w'.cell? ⟨gb114, 3, none⟩ = some (.string a0_3) ∧ w'.cell? ⟨gb114, 4, none⟩ = some (.int .i64 a0_4) ∧ w'.cell? ⟨gb114, 5, none⟩ = some (.bool a0_5)) ∧ (Kd.R (Kd.int .u8) 5 w' w.heap.size (fun _ => True) s_ y120) ∧ (w'.heap[gb114]? = some (.cells #[.int .i64 a0_0, .int .i64 a0_1, .string a0_2, .string a0_3, .int .i64 a0_4, .bool a0_5] 25 (0, 0))) ∧ (Below w.heap.size w w')) ?_ ?_
                  rotate_left
                  ·intro hJ8
                   refine two_ (i := 2) (j := 8) (Ni := some 34) (Nj := some 40) #[I,I,I,I,I,O,O,I,O,O,O,I,O,I,I,O,I,I,O,O] #[I,I,O,I,I,O,O,I,I,O,O,I,O,I,I,O,I,I,O,O] rfl rfl rfl rfl (two_of HT_.out (by kernel_rfl)) (by decide) (by decide) (fun K hK => ?_) (fun K hK => ?_)
                   ·skip
                    refine goes_ Try.func61 (by kernel_rfl) rfl #[.int .i64 a0_0] (by rfl) rfl rfl aa ?_
                    with_reducible refine (rec_eight.calls kj3 a0_0 t118 _ A11.out).mono ?_
                    rintro e w27 ⟨rfl, hb⟩
                    refine ⟨_, rfl, ?_⟩
                    replace BK114 := Aside0.mk (blk_below (g := gb114) (o := .cells #[.int .i64 a0_0, .int .i64 a0_1, .string a0_2, .string a0_3, .int .i64 a0_4, .bool a0_5] 25 (0, 0)) (bk BK114.out) hb)
                    replace HB := Aside0.mk (below_step bo hb)
                    (try clear hb)
                    (try clear hb2)
                    (try clear hk)
                    (try clear hi)
                    refine hK.out _ _ ⟨(blk_cell BK114.out 0).trans rfl, (blk_cell BK114.out 1).trans rfl, (blk_cell BK114.out 2).trans rfl, (blk_cell BK114.out 3).trans rfl, (blk_cell BK114.out 4).trans rfl, (blk_cell BK114.out 5).trans rfl⟩ (fun hHeld => ?_)
                    clear hK K
                    refine norm_ (a' := ?_) ?_ ?_
                    rotate_left
                    ·show Act.put _ (some 34) _ = _
                     simp only [Act.put, List.setIfInBounds_toArray, List.set_cons_zero, List.set_cons_succ, i64_w, i32_w]
                     rfl
                    exact norm_ (by first | (simp only [putAll, Act.put, List.setIfInBounds_toArray, List.set_cons_zero, List.set_cons_succ]; done) | (simp only [putAll, Act.put, List.setIfInBounds_toArray, List.set_cons_zero, List.set_cons_succ]; rfl)) (hJ2 () _ ⟨hHeld, (bk BK114.out), bo⟩)
                   ·skip
                    refine Kd.R_lit_step (Kd.int .u8) _ 5 ?hg (N := 40) ?hd (xs := ([x5_3] : List Int)) (inner := [.int .u8 x5_3]) (ok := fun _ => True) (okp := fun _ => True) ?hr ?hp (fun _ hk => hk) trivial (Below.refl _ _) (Nat.le_refl _) (by simp) ?_; (case hd => rfl); (case hg => rfl); (case hr => first | (go_simp; done) | (go_simp; rfl)); (case hp => exact (Reps.one (show Kd.M (Kd.int .u8) _ _ _ x5_3 [.int .u8 x5_3] from rfl) (Reps.none _ _)))
                    intro v121 w27 ho28 hb hg_ hnew_
                    clear hg_ hnew_
                    (first | rw [← Ny120.out] at ho28 | (simp only [Int.reduceToNat] at ho28; rw [← Ny120.out] at ho28))
                    have HO122 := Aside0.mk (Kd.R_lower ho28 (below_size bo))
                    replace BK114 := Aside0.mk (blk_below (g := gb114) (o := .cells #[.int .i64 a0_0, .int .i64 a0_1, .string a0_2, .string a0_3, .int .i64 a0_4, .bool a0_5] 25 (0, 0)) (bk BK114.out) hb)
                    replace HB := Aside0.mk (below_step bo hb)
                    clear hb ho28
                    refine hK.out _ _ ⟨(blk_cell BK114.out 0).trans rfl, (blk_cell BK114.out 1).trans rfl, (blk_cell BK114.out 2).trans rfl, (blk_cell BK114.out 3).trans rfl, (blk_cell BK114.out 4).trans rfl, (blk_cell BK114.out 5).trans rfl⟩ (fun hHeld => ?_)
                    clear hK K
                    refine norm_ (a' := ?_) ?_ ?_
                    rotate_left
                    ·show Act.put _ (some 40) _ = _
                     simp only [Act.put, List.setIfInBounds_toArray, List.set_cons_zero, List.set_cons_succ, i64_w, i32_w]
                     rfl
                    exact norm_ (by first | (simp only [putAll, Act.put, List.setIfInBounds_toArray, List.set_cons_zero, List.set_cons_succ]; done) | (simp only [putAll, Act.put, List.setIfInBounds_toArray, List.set_cons_zero, List.set_cons_succ]; rfl)) (hJ8 (v121) _ ⟨hHeld, (rk HO122.out), (bk BK114.out), bo⟩)
                  ·skip
                   rintro v121 w29 ⟨hS_, h0_, h1_, h2_⟩
                   have n0_ : Aside0 (Kd.R (Kd.int .u8) 5 w29 w.heap.size (fun _ => True) v121 y120) := ⟨h0_⟩
                   have n1_ : Aside0 (w29.heap[gb114]? = some (.cells #[.int .i64 a0_0, .int .i64 a0_1, .string a0_2, .string a0_3, .int .i64 a0_4, .bool a0_5] 25 (0, 0))) := ⟨h1_⟩
                   have n2_ : Aside0 (Below w.heap.size w w29) := ⟨h2_⟩
                   clear BK114
                   clear HB
                   clear h0_ h1_ h2_
                   have HO122 := n0_
                   have BK114 := n1_
                   have HB := n2_
                   clear n0_ n1_ n2_
                   have hHeld : w29.cell? ⟨gb114, 0, none⟩ = some (.int .i64 a0_0) ∧ w29.cell? ⟨gb114, 1, none⟩ = some (.int .i64 a0_1) ∧ w29.cell? ⟨gb114, 2, none⟩ = some (.string a0_2) ∧ w29.cell? ⟨gb114, 3, none⟩ = some (.string a0_3) ∧ w29.cell? ⟨gb114, 4, none⟩ = some (.int .i64 a0_4) ∧ w29.cell? ⟨gb114, 5, none⟩ = some (.bool a0_5) := hS_
                   refine norm_ (a' := ?_) ?_ ?_
                   rotate_left
                   ·simp only [putAll, Act.put, List.setIfInBounds_toArray, List.set_cons_zero, List.set_cons_succ]
                    rfl
                   refine two_ (i := 2) (j := 9) (Ni := some 34) (Nj := some 41) #[I,I,I,I,I,O,O,I,I,O,O,I,O,I,I,O,I,I,O,O] #[I,I,O,I,I,O,O,I,I,I,O,I,O,I,I,O,I,I,O,O] rfl rfl rfl rfl (two_of HT_.out (by kernel_rfl)) (by decide) (by decide) (fun K hK => ?_) (fun K hK => ?_)
                   ·skip
                    refine goes_ Try.func61 (by kernel_rfl) rfl #[.int .i64 a0_0] (by rfl) rfl rfl aa ?_
                    with_reducible refine (rec_eight.calls kj3 a0_0 t118 _ A11.out).mono ?_
                    rintro e w30 ⟨rfl, hb⟩
                    refine ⟨_, rfl, ?_⟩
                    replace HO122 := Aside0.mk (Kd.R_below (rk HO122.out) hb)
                    replace BK114 := Aside0.mk (blk_below (g := gb114) (o := .cells #[.int .i64 a0_0, .int .i64 a0_1, .string a0_2, .string a0_3, .int .i64 a0_4, .bool a0_5] 25 (0, 0)) (bk BK114.out) hb)
                    replace HB := Aside0.mk (below_step bo hb)
                    (try clear hb)
                    (try clear hb2)
                    (try clear hk)
                    (try clear hi)
                    refine hK.out _ _ ⟨(blk_cell BK114.out 0).trans rfl, (blk_cell BK114.out 1).trans rfl, (blk_cell BK114.out 2).trans rfl, (blk_cell BK114.out 3).trans rfl, (blk_cell BK114.out 4).trans rfl, (blk_cell BK114.out 5).trans rfl⟩ (fun hHeld => ?_)
                    clear hK K
                    refine norm_ (a' := ?_) ?_ ?_
                    rotate_left
                    ·show Act.put _ (some 34) _ = _
                     simp only [Act.put, List.setIfInBounds_toArray, List.set_cons_zero, List.set_cons_succ, i64_w, i32_w]
                     rfl
                    exact norm_ (by first | (simp only [putAll, Act.put, List.setIfInBounds_toArray, List.set_cons_zero, List.set_cons_succ]; done) | (simp only [putAll, Act.put, List.setIfInBounds_toArray, List.set_cons_zero, List.set_cons_succ]; rfl)) (hJ2_8 (v121) _ ⟨hHeld, (rk HO122.out), (bk BK114.out), bo⟩)
                   ·skip
                    have hcv30 := own_string (P := Try.prog) Try.underlying23 Try.underlying5 Try.underlying9 (Kd.own_of_R HO122.out)
                    refine value_ (w1 := ?_) (v := ?_) (by rfl) rfl ?_ ?_
                    rotate_left 2
                    ·go_simp
                     constructor
                     ·rfl
                     ·rfl
                    clear hcv30
                    refine hK.out _ _ ⟨(blk_cell BK114.out 0).trans rfl, (blk_cell BK114.out 1).trans rfl, (blk_cell BK114.out 2).trans rfl, (blk_cell BK114.out 3).trans rfl, (blk_cell BK114.out 4).trans rfl, (blk_cell BK114.out 5).trans rfl⟩ (fun hHeld => ?_)
                    clear hK K
                    refine norm_ (a' := ?_) ?_ ?_
                    rotate_left
                    ·show Act.put _ (some 41) _ = _
                     simp only [Act.put, List.setIfInBounds_toArray, List.set_cons_zero, List.set_cons_succ, i64_w, i32_w]
                     rfl
                    exact norm_ (by first | (simp only [putAll, Act.put, List.setIfInBounds_toArray, List.set_cons_zero, List.set_cons_succ]; done) | (simp only [putAll, Act.put, List.setIfInBounds_toArray, List.set_cons_zero, List.set_cons_succ]; rfl)) (hJ8_9 (v121) _ ⟨hHeld, (rk HO122.out), (bk BK114.out), bo⟩)
                 ·skip
                  rintro _ w28 ⟨hS_, h0_, h1_⟩
                  have n0_ : Aside0 (w28.heap[gb114]? = some (.cells #[.int .i64 a0_0, .int .i64 a0_1, .string a0_2, .string a0_3, .int .i64 a0_4, .bool a0_5] 25 (0, 0))) := ⟨h0_⟩
                  have n1_ : Aside0 (Below w.heap.size w w28) := ⟨h1_⟩
                  clear BK114
                  clear HB
                  clear h0_ h1_
                  have BK114 := n0_
                  have HB := n1_
                  clear n0_ n1_
                  have hHeld : w28.cell? ⟨gb114, 0, none⟩ = some (.int .i64 a0_0) ∧ w28.cell? ⟨gb114, 1, none⟩ = some (.int .i64 a0_1) ∧ w28.cell? ⟨gb114, 2, none⟩ = some (.string a0_2) ∧ w28.cell? ⟨gb114, 3, none⟩ = some (.string a0_3) ∧ w28.cell? ⟨gb114, 4, none⟩ = some (.int .i64 a0_4) ∧ w28.cell? ⟨gb114, 5, none⟩ = some (.bool a0_5) := hS_
                  refine norm_ (a' := ?_) ?_ ?_
                  rotate_left
                  ·simp only [putAll, Act.put, List.setIfInBounds_toArray, List.set_cons_zero, List.set_cons_succ]
                   rfl
                  refine two_ (i := 5) (j := 8) (Ni := some 37) (Nj := some 40) #[I,I,I,I,I,I,O,I,O,O,O,I,O,I,I,O,I,I,O,O] #[I,I,I,I,I,O,O,I,I,O,O,I,O,I,I,O,I,I,O,O] rfl rfl rfl rfl (two_of HT_.out (by kernel_rfl)) (by decide) (by decide) (fun K hK => ?_) (fun K hK => ?_)
                  ·skip
                   refine goes_ Try.func61 (by kernel_rfl) rfl #[.int .i64 a0_1] (by rfl) rfl rfl aa ?_
                   with_reducible refine (rec_eight.calls kj3 a0_1 t119 _ A12.out).mono ?_
                   rintro e w29 ⟨rfl, hb⟩
                   refine ⟨_, rfl, ?_⟩
                   replace BK114 := Aside0.mk (blk_below (g := gb114) (o := .cells #[.int .i64 a0_0, .int .i64 a0_1, .string a0_2, .string a0_3, .int .i64 a0_4, .bool a0_5] 25 (0, 0)) (bk BK114.out) hb)
                   replace HB := Aside0.mk (below_step bo hb)
                   (try clear hb)
                   (try clear hb2)
                   (try clear hk)
                   (try clear hi)
                   refine hK.out _ _ ⟨(blk_cell BK114.out 0).trans rfl, (blk_cell BK114.out 1).trans rfl, (blk_cell BK114.out 2).trans rfl, (blk_cell BK114.out 3).trans rfl, (blk_cell BK114.out 4).trans rfl, (blk_cell BK114.out 5).trans rfl⟩ (fun hHeld => ?_)
                   clear hK K
                   refine norm_ (a' := ?_) ?_ ?_
                   rotate_left
                   ·show Act.put _ (some 37) _ = _
                    simp only [Act.put, List.setIfInBounds_toArray, List.set_cons_zero, List.set_cons_succ, i64_w, i32_w]
                    rfl
                   refine pz (i := 6) (N := some 38) #[I,I,I,I,I,I,I,I,O,O,O,I,O,I,I,O,I,I,O,O] ?_
                   exact norm_ (by first | (simp only [putAll, Act.put, List.setIfInBounds_toArray, List.set_cons_zero, List.set_cons_succ]; done) | (simp only [putAll, Act.put, List.setIfInBounds_toArray, List.set_cons_zero, List.set_cons_succ]; rfl)) (hJ2_5 () _ ⟨hHeld, (bk BK114.out), bo⟩)
                  ·skip
                   refine Kd.R_lit_step (Kd.int .u8) _ 5 ?hg (N := 40) ?hd (xs := ([x5_3] : List Int)) (inner := [.int .u8 x5_3]) (ok := fun _ => True) (okp := fun _ => True) ?hr ?hp (fun _ hk => hk) trivial (Below.refl _ _) (Nat.le_refl _) (by simp) ?_; (case hd => rfl); (case hg => rfl); (case hr => first | (go_simp; done) | (go_simp; rfl)); (case hp => exact (Reps.one (show Kd.M (Kd.int .u8) _ _ _ x5_3 [.int .u8 x5_3] from rfl) (Reps.none _ _)))
                   intro v121 w29 ho30 hb hg_ hnew_
                   clear hg_ hnew_
                   (first | rw [← Ny120.out] at ho30 | (simp only [Int.reduceToNat] at ho30; rw [← Ny120.out] at ho30))
                   have HO122 := Aside0.mk (Kd.R_lower ho30 (below_size bo))
                   replace BK114 := Aside0.mk (blk_below (g := gb114) (o := .cells #[.int .i64 a0_0, .int .i64 a0_1, .string a0_2, .string a0_3, .int .i64 a0_4, .bool a0_5] 25 (0, 0)) (bk BK114.out) hb)
                   replace HB := Aside0.mk (below_step bo hb)
                   clear hb ho30
                   refine hK.out _ _ ⟨(blk_cell BK114.out 0).trans rfl, (blk_cell BK114.out 1).trans rfl, (blk_cell BK114.out 2).trans rfl, (blk_cell BK114.out 3).trans rfl, (blk_cell BK114.out 4).trans rfl, (blk_cell BK114.out 5).trans rfl⟩ (fun hHeld => ?_)
                   clear hK K
                   refine norm_ (a' := ?_) ?_ ?_
                   rotate_left
                   ·show Act.put _ (some 40) _ = _
                    simp only [Act.put, List.setIfInBounds_toArray, List.set_cons_zero, List.set_cons_succ, i64_w, i32_w]
                    rfl
                   exact norm_ (by first | (simp only [putAll, Act.put, List.setIfInBounds_toArray, List.set_cons_zero, List.set_cons_succ]; done) | (simp only [putAll, Act.put, List.setIfInBounds_toArray, List.set_cons_zero, List.set_cons_succ]; rfl)) (hJ2_8 (v121) _ ⟨hHeld, (rk HO122.out), (bk BK114.out), bo⟩)
                ·skip
                 rintro v121 w30 ⟨hS_, h0_, h1_, h2_⟩
                 have n0_ : Aside0 (Kd.R (Kd.int .u8) 5 w30 w.heap.size (fun _ => True) v121 y120) := ⟨h0_⟩
                 have n1_ : Aside0 (w30.heap[gb114]? = some (.cells #[.int .i64 a0_0, .int .i64 a0_1, .string a0_2, .string a0_3, .int .i64 a0_4, .bool a0_5] 25 (0, 0))) := ⟨h1_⟩
                 have n2_ : Aside0 (Below w.heap.size w w30) := ⟨h2_⟩
                 clear BK114
                 clear HB
                 clear h0_ h1_ h2_
                 have HO122 := n0_
                 have BK114 := n1_
                 have HB := n2_
                 clear n0_ n1_ n2_
                 have hHeld : w30.cell? ⟨gb114, 0, none⟩ = some (.int .i64 a0_0) ∧ w30.cell? ⟨gb114, 1, none⟩ = some (.int .i64 a0_1) ∧ w30.cell? ⟨gb114, 2, none⟩ = some (.string a0_2) ∧ w30.cell? ⟨gb114, 3, none⟩ = some (.string a0_3) ∧ w30.cell? ⟨gb114, 4, none⟩ = some (.int .i64 a0_4) ∧ w30.cell? ⟨gb114, 5, none⟩ = some (.bool a0_5) := hS_
                 refine norm_ (a' := ?_) ?_ ?_
                 rotate_left
                 ·simp only [putAll, Act.put, List.setIfInBounds_toArray, List.set_cons_zero, List.set_cons_succ]
                  rfl
                 refine one_ (i := 2) (N := some 34) #[I,I,I,I,I,O,O,I,I,I,O,I,O,I,I,O,I,I,O,O] rfl rfl (one_of HT_.out (by kernel_rfl)) (by decide) (fun K hK => ?_)
                 refine goes_ Try.func61 (by kernel_rfl) rfl #[.int .i64 a0_0] (by rfl) rfl rfl aa ?_
                 with_reducible refine (rec_eight.calls kj3 a0_0 t118 _ A11.out).mono ?_
                 rintro e w31 ⟨rfl, hb⟩
                 refine ⟨_, rfl, ?_⟩
                 replace HO122 := Aside0.mk (Kd.R_below (rk HO122.out) hb)
                 replace BK114 := Aside0.mk (blk_below (g := gb114) (o := .cells #[.int .i64 a0_0, .int .i64 a0_1, .string a0_2, .string a0_3, .int .i64 a0_4, .bool a0_5] 25 (0, 0)) (bk BK114.out) hb)
                 replace HB := Aside0.mk (below_step bo hb)
                 (try clear hb)
                 (try clear hb2)
                 (try clear hk)
                 (try clear hi)
                 refine hK.out _ _ ⟨(blk_cell BK114.out 0).trans rfl, (blk_cell BK114.out 1).trans rfl, (blk_cell BK114.out 2).trans rfl, (blk_cell BK114.out 3).trans rfl, (blk_cell BK114.out 4).trans rfl, (blk_cell BK114.out 5).trans rfl⟩ (fun hHeld => ?_)
                 clear hK K
                 refine norm_ (a' := ?_) ?_ ?_
                 rotate_left
                 ·show Act.put _ (some 34) _ = _
                  simp only [Act.put, List.setIfInBounds_toArray, List.set_cons_zero, List.set_cons_succ, i64_w, i32_w]
                  rfl
                 exact norm_ (by first | (simp only [putAll, Act.put, List.setIfInBounds_toArray, List.set_cons_zero, List.set_cons_succ]; done) | (simp only [putAll, Act.put, List.setIfInBounds_toArray, List.set_cons_zero, List.set_cons_succ]; rfl)) (hJ2_8_9 (v121) _ ⟨hHeld, (rk HO122.out), (bk BK114.out), bo⟩)
               ·skip
                rintro v121 w30 ⟨hS_, h0_, h1_, h2_⟩
                have n0_ : Aside0 (Kd.R (Kd.int .u8) 5 w30 w.heap.size (fun _ => True) v121 y120) := ⟨h0_⟩
                have n1_ : Aside0 (w30.heap[gb114]? = some (.cells #[.int .i64 a0_0, .int .i64 a0_1, .string a0_2, .string a0_3, .int .i64 a0_4, .bool a0_5] 25 (0, 0))) := ⟨h1_⟩
                have n2_ : Aside0 (Below w.heap.size w w30) := ⟨h2_⟩
                clear BK114
                clear HB
                clear h0_ h1_ h2_
                have HO122 := n0_
                have BK114 := n1_
                have HB := n2_
                clear n0_ n1_ n2_
                have hHeld : w30.cell? ⟨gb114, 0, none⟩ = some (.int .i64 a0_0) ∧ w30.cell? ⟨gb114, 1, none⟩ = some (.int .i64 a0_1) ∧ w30.cell? ⟨gb114, 2, none⟩ = some (.string a0_2) ∧ w30.cell? ⟨gb114, 3, none⟩ = some (.string a0_3) ∧ w30.cell? ⟨gb114, 4, none⟩ = some (.int .i64 a0_4) ∧ w30.cell? ⟨gb114, 5, none⟩ = some (.bool a0_5) := hS_
                refine norm_ (a' := ?_) ?_ ?_
                rotate_left
                ·simp only [putAll, Act.put, List.setIfInBounds_toArray, List.set_cons_zero, List.set_cons_succ]
                 rfl
                refine two_ (i := 5) (j := 9) (Ni := some 37) (Nj := some 41) #[I,I,I,I,I,I,O,I,I,O,O,I,O,I,I,O,I,I,O,O] #[I,I,I,I,I,O,O,I,I,I,O,I,O,I,I,O,I,I,O,O] rfl rfl rfl rfl (two_of HT_.out (by kernel_rfl)) (by decide) (by decide) (fun K hK => ?_) (fun K hK => ?_)
                ·skip
                 refine goes_ Try.func61 (by kernel_rfl) rfl #[.int .i64 a0_1] (by rfl) rfl rfl aa ?_
                 with_reducible refine (rec_eight.calls kj3 a0_1 t119 _ A12.out).mono ?_
                 rintro e w31 ⟨rfl, hb⟩
                 refine ⟨_, rfl, ?_⟩
                 replace HO122 := Aside0.mk (Kd.R_below (rk HO122.out) hb)
                 replace BK114 := Aside0.mk (blk_below (g := gb114) (o := .cells #[.int .i64 a0_0, .int .i64 a0_1, .string a0_2, .string a0_3, .int .i64 a0_4, .bool a0_5] 25 (0, 0)) (bk BK114.out) hb)
                 replace HB := Aside0.mk (below_step bo hb)
                 (try clear hb)
                 (try clear hb2)
                 (try clear hk)
                 (try clear hi)
                 refine hK.out _ _ ⟨(blk_cell BK114.out 0).trans rfl, (blk_cell BK114.out 1).trans rfl, (blk_cell BK114.out 2).trans rfl, (blk_cell BK114.out 3).trans rfl, (blk_cell BK114.out 4).trans rfl, (blk_cell BK114.out 5).trans rfl⟩ (fun hHeld => ?_)
                 clear hK K
                 refine norm_ (a' := ?_) ?_ ?_
                 rotate_left
                 ·show Act.put _ (some 37) _ = _
                  simp only [Act.put, List.setIfInBounds_toArray, List.set_cons_zero, List.set_cons_succ, i64_w, i32_w]
                  rfl
                 refine pz (i := 6) (N := some 38) #[I,I,I,I,I,I,I,I,I,O,O,I,O,I,I,O,I,I,O,O] ?_
                 exact norm_ (by first | (simp only [putAll, Act.put, List.setIfInBounds_toArray, List.set_cons_zero, List.set_cons_succ]; done) | (simp only [putAll, Act.put, List.setIfInBounds_toArray, List.set_cons_zero, List.set_cons_succ]; rfl)) (hJ2_5_8 (v121) _ ⟨hHeld, (rk HO122.out), (bk BK114.out), bo⟩)
                ·skip
                 have hcv31 := own_string (P := Try.prog) Try.underlying23 Try.underlying5 Try.underlying9 (Kd.own_of_R HO122.out)
                 refine value_ (w1 := ?_) (v := ?_) (by rfl) rfl ?_ ?_
                 rotate_left 2
                 ·go_simp
                  constructor
                  ·rfl
                  ·rfl
                 clear hcv31
                 refine hK.out _ _ ⟨(blk_cell BK114.out 0).trans rfl, (blk_cell BK114.out 1).trans rfl, (blk_cell BK114.out 2).trans rfl, (blk_cell BK114.out 3).trans rfl, (blk_cell BK114.out 4).trans rfl, (blk_cell BK114.out 5).trans rfl⟩ (fun hHeld => ?_)
                 clear hK K
                 refine norm_ (a' := ?_) ?_ ?_
                 rotate_left
                 ·show Act.put _ (some 41) _ = _
                  simp only [Act.put, List.setIfInBounds_toArray, List.set_cons_zero, List.set_cons_succ, i64_w, i32_w]
                  rfl
                 exact norm_ (by first | (simp only [putAll, Act.put, List.setIfInBounds_toArray, List.set_cons_zero, List.set_cons_succ]; done) | (simp only [putAll, Act.put, List.setIfInBounds_toArray, List.set_cons_zero, List.set_cons_succ]; rfl)) (hJ2_8_9 (v121) _ ⟨hHeld, (rk HO122.out), (bk BK114.out), bo⟩)
              ·skip
               rintro _ w29 ⟨hS_, h0_, h1_⟩
               have n0_ : Aside0 (w29.heap[gb114]? = some (.cells #[.int .i64 a0_0, .int .i64 a0_1, .string a0_2, .string a0_3, .int .i64 a0_4, .bool a0_5] 25 (0, 0))) := ⟨h0_⟩
               have n1_ : Aside0 (Below w.heap.size w w29) := ⟨h1_⟩
               clear BK114
               clear HB
               clear h0_ h1_
               have BK114 := n0_
               have HB := n1_
               clear n0_ n1_
               have hHeld : w29.cell? ⟨gb114, 0, none⟩ = some (.int .i64 a0_0) ∧ w29.cell? ⟨gb114, 1, none⟩ = some (.int .i64 a0_1) ∧ w29.cell? ⟨gb114, 2, none⟩ = some (.string a0_2) ∧ w29.cell? ⟨gb114, 3, none⟩ = some (.string a0_3) ∧ w29.cell? ⟨gb114, 4, none⟩ = some (.int .i64 a0_4) ∧ w29.cell? ⟨gb114, 5, none⟩ = some (.bool a0_5) := hS_
               refine norm_ (a' := ?_) ?_ ?_
               rotate_left
               ·simp only [putAll, Act.put, List.setIfInBounds_toArray, List.set_cons_zero, List.set_cons_succ]
                rfl
               refine one_ (i := 8) (N := some 40) #[I,I,I,I,I,I,I,I,I,O,O,I,O,I,I,O,I,I,O,O] rfl rfl (one_of HT_.out (by kernel_rfl)) (by decide) (fun K hK => ?_)
               refine Kd.R_lit_step (Kd.int .u8) _ 5 ?hg (N := 40) ?hd (xs := ([x5_3] : List Int)) (inner := [.int .u8 x5_3]) (ok := fun _ => True) (okp := fun _ => True) ?hr ?hp (fun _ hk => hk) trivial (Below.refl _ _) (Nat.le_refl _) (by simp) ?_; (case hd => rfl); (case hg => rfl); (case hr => first | (go_simp; done) | (go_simp; rfl)); (case hp => exact (Reps.one (show Kd.M (Kd.int .u8) _ _ _ x5_3 [.int .u8 x5_3] from rfl) (Reps.none _ _)))
               intro v121 w30 ho31 hb hg_ hnew_
               clear hg_ hnew_
               (first | rw [← Ny120.out] at ho31 | (simp only [Int.reduceToNat] at ho31; rw [← Ny120.out] at ho31))
               have HO122 := Aside0.mk (Kd.R_lower ho31 (below_size bo))
               replace BK114 := Aside0.mk (blk_below (g := gb114) (o := .cells #[.int .i64 a0_0, .int .i64 a0_1, .string a0_2, .string a0_3, .int .i64 a0_4, .bool a0_5] 25 (0, 0)) (bk BK114.out) hb)
               replace HB := Aside0.mk (below_step bo hb)
               clear hb ho31
               refine hK.out _ _ ⟨(blk_cell BK114.out 0).trans rfl, (blk_cell BK114.out 1).trans rfl, (blk_cell BK114.out 2).trans rfl, (blk_cell BK114.out 3).trans rfl, (blk_cell BK114.out 4).trans rfl, (blk_cell BK114.out 5).trans rfl⟩ (fun hHeld => ?_)
               clear hK K
               refine norm_ (a' := ?_) ?_ ?_
               rotate_left
               ·show Act.put _ (some 40) _ = _
                simp only [Act.put, List.setIfInBounds_toArray, List.set_cons_zero, List.set_cons_succ, i64_w, i32_w]
                rfl
               exact norm_ (by first | (simp only [putAll, Act.put, List.setIfInBounds_toArray, List.set_cons_zero, List.set_cons_succ]; done) | (simp only [putAll, Act.put, List.setIfInBounds_toArray, List.set_cons_zero, List.set_cons_succ]; rfl)) (hJ2_5_8 (v121) _ ⟨hHeld, (rk HO122.out), (bk BK114.out), bo⟩)
             ·skip
              rintro v121 w31 ⟨hS_, h0_, h1_, h2_⟩
              have n0_ : Aside0 (Kd.R (Kd.int .u8) 5 w31 w.heap.size (fun _ => True) v121 y120) := ⟨h0_⟩
              have n1_ : Aside0 (w31.heap[gb114]? = some (.cells #[.int .i64 a0_0, .int .i64 a0_1, .string a0_2, .string a0_3, .int .i64 a0_4, .bool a0_5] 25 (0, 0))) := ⟨h1_⟩
              have n2_ : Aside0 (Below w.heap.size w w31) := ⟨h2_⟩
              clear BK114
              clear HB
              clear h0_ h1_ h2_
              have HO122 := n0_
              have BK114 := n1_
              have HB := n2_
              clear n0_ n1_ n2_
              have hHeld : w31.cell? ⟨gb114, 0, none⟩ = some (.int .i64 a0_0) ∧ w31.cell? ⟨gb114, 1, none⟩ = some (.int .i64 a0_1) ∧ w31.cell? ⟨gb114, 2, none⟩ = some (.string a0_2) ∧ w31.cell? ⟨gb114, 3, none⟩ = some (.string a0_3) ∧ w31.cell? ⟨gb114, 4, none⟩ = some (.int .i64 a0_4) ∧ w31.cell? ⟨gb114, 5, none⟩ = some (.bool a0_5) := hS_
              refine norm_ (a' := ?_) ?_ ?_
              rotate_left
              ·simp only [putAll, Act.put, List.setIfInBounds_toArray, List.set_cons_zero, List.set_cons_succ]
               rfl
              refine one_ (i := 5) (N := some 37) #[I,I,I,I,I,I,O,I,I,I,O,I,O,I,I,O,I,I,O,O] rfl rfl (one_of HT_.out (by kernel_rfl)) (by decide) (fun K hK => ?_)
              refine goes_ Try.func61 (by kernel_rfl) rfl #[.int .i64 a0_1] (by rfl) rfl rfl aa ?_
              with_reducible refine (rec_eight.calls kj3 a0_1 t119 _ A12.out).mono ?_
              rintro e w32 ⟨rfl, hb⟩
              refine ⟨_, rfl, ?_⟩
              replace HO122 := Aside0.mk (Kd.R_below (rk HO122.out) hb)
              replace BK114 := Aside0.mk (blk_below (g := gb114) (o := .cells #[.int .i64 a0_0, .int .i64 a0_1, .string a0_2, .string a0_3, .int .i64 a0_4, .bool a0_5] 25 (0, 0)) (bk BK114.out) hb)
              replace HB := Aside0.mk (below_step bo hb)
              (try clear hb)
              (try clear hb2)
              (try clear hk)
              (try clear hi)
              refine hK.out _ _ ⟨(blk_cell BK114.out 0).trans rfl, (blk_cell BK114.out 1).trans rfl, (blk_cell BK114.out 2).trans rfl, (blk_cell BK114.out 3).trans rfl, (blk_cell BK114.out 4).trans rfl, (blk_cell BK114.out 5).trans rfl⟩ (fun hHeld => ?_)
              clear hK K
              refine norm_ (a' := ?_) ?_ ?_
              rotate_left
              ·show Act.put _ (some 37) _ = _
               simp only [Act.put, List.setIfInBounds_toArray, List.set_cons_zero, List.set_cons_succ, i64_w, i32_w]
               rfl
              refine pz (i := 6) (N := some 38) #[I,I,I,I,I,I,I,I,I,I,O,I,O,I,I,O,I,I,O,O] ?_
              exact norm_ (by first | (simp only [putAll, Act.put, List.setIfInBounds_toArray, List.set_cons_zero, List.set_cons_succ]; done) | (simp only [putAll, Act.put, List.setIfInBounds_toArray, List.set_cons_zero, List.set_cons_succ]; rfl)) (hJ2_5_8_9 (v121) _ ⟨hHeld, (rk HO122.out), (bk BK114.out), bo⟩)
            ·skip
             rintro v121 w31 ⟨hS_, h0_, h1_, h2_⟩
             have n0_ : Aside0 (Kd.R (Kd.int .u8) 5 w31 w.heap.size (fun _ => True) v121 y120) := ⟨h0_⟩
             have n1_ : Aside0 (w31.heap[gb114]? = some (.cells #[.int .i64 a0_0, .int .i64 a0_1, .string a0_2, .string a0_3, .int .i64 a0_4, .bool a0_5] 25 (0, 0))) := ⟨h1_⟩
             have n2_ : Aside0 (Below w.heap.size w w31) := ⟨h2_⟩
             clear BK114
             clear HB
             clear h0_ h1_ h2_
             have HO122 := n0_
             have BK114 := n1_
             have HB := n2_
             clear n0_ n1_ n2_
             have hHeld : w31.cell? ⟨gb114, 0, none⟩ = some (.int .i64 a0_0) ∧ w31.cell? ⟨gb114, 1, none⟩ = some (.int .i64 a0_1) ∧ w31.cell? ⟨gb114, 2, none⟩ = some (.string a0_2) ∧ w31.cell? ⟨gb114, 3, none⟩ = some (.string a0_3) ∧ w31.cell? ⟨gb114, 4, none⟩ = some (.int .i64 a0_4) ∧ w31.cell? ⟨gb114, 5, none⟩ = some (.bool a0_5) := hS_
             refine norm_ (a' := ?_) ?_ ?_
             rotate_left
             ·simp only [putAll, Act.put, List.setIfInBounds_toArray, List.set_cons_zero, List.set_cons_succ]
              rfl
             refine one_ (i := 9) (N := some 41) #[I,I,I,I,I,I,I,I,I,I,O,I,O,I,I,O,I,I,O,O] rfl rfl (one_of HT_.out (by kernel_rfl)) (by decide) (fun K hK => ?_)
             have hcv32 := own_string (P := Try.prog) Try.underlying23 Try.underlying5 Try.underlying9 (Kd.own_of_R HO122.out)
             refine value_ (w1 := ?_) (v := ?_) (by rfl) rfl ?_ ?_
             rotate_left 2
             ·go_simp
              constructor
              ·rfl
              ·rfl
             clear hcv32
             refine hK.out _ _ ⟨(blk_cell BK114.out 0).trans rfl, (blk_cell BK114.out 1).trans rfl, (blk_cell BK114.out 2).trans rfl, (blk_cell BK114.out 3).trans rfl, (blk_cell BK114.out 4).trans rfl, (blk_cell BK114.out 5).trans rfl⟩ (fun hHeld => ?_)
             clear hK K
             refine norm_ (a' := ?_) ?_ ?_
             rotate_left
             ·show Act.put _ (some 41) _ = _
              simp only [Act.put, List.setIfInBounds_toArray, List.set_cons_zero, List.set_cons_succ, i64_w, i32_w]
              rfl
             exact norm_ (by first | (simp only [putAll, Act.put, List.setIfInBounds_toArray, List.set_cons_zero, List.set_cons_succ]; done) | (simp only [putAll, Act.put, List.setIfInBounds_toArray, List.set_cons_zero, List.set_cons_succ]; rfl)) (hJ2_5_8_9 (v121) _ ⟨hHeld, (rk HO122.out), (bk BK114.out), bo⟩)
           rintro v121 w32 ⟨hS_, h0_, h1_, h2_⟩
           have n0_ : Aside0 (Kd.R (Kd.int .u8) 5 w32 w.heap.size (fun _ => True) v121 y120) := ⟨h0_⟩
           have n1_ : Aside0 (w32.heap[gb114]? = some (.cells #[.int .i64 a0_0, .int .i64 a0_1, .string a0_2, .string a0_3, .int .i64 a0_4, .bool a0_5] 25 (0, 0))) := ⟨h1_⟩
           have n2_ : Aside0 (Below w.heap.size w w32) := ⟨h2_⟩
           clear BK114
           clear HB
           clear h0_ h1_ h2_
           have HO122 := n0_
           have BK114 := n1_
           have HB := n2_
           clear n0_ n1_ n2_
           have hHeld : w32.cell? ⟨gb114, 0, none⟩ = some (.int .i64 a0_0) ∧ w32.cell? ⟨gb114, 1, none⟩ = some (.int .i64 a0_1) ∧ w32.cell? ⟨gb114, 2, none⟩ = some (.string a0_2) ∧ w32.cell? ⟨gb114, 3, none⟩ = some (.string a0_3) ∧ w32.cell? ⟨gb114, 4, none⟩ = some (.int .i64 a0_4) ∧ w32.cell? ⟨gb114, 5, none⟩ = some (.bool a0_5) := hS_
           refine norm_ (a' := ?_) ?_ ?_
           rotate_left
           ·simp only [putAll, Act.put, List.setIfInBounds_toArray, List.set_cons_zero, List.set_cons_succ]
            rfl
           refine pz (i := 10) (N := some 42) #[I,I,I,I,I,I,I,I,I,I,I,I,O,I,I,O,I,I,O,O] ?_
           refine pz (i := 12) (N := some 44) #[I,I,I,I,I,I,I,I,I,I,I,I,I,I,I,O,I,I,O,O] ?_
           refine pz (i := 15) (N := some 47) #[I,I,I,I,I,I,I,I,I,I,I,I,I,I,I,I,I,I,O,O] ?_
           refine pz (i := 18) (N := some 50) #[I,I,I,I,I,I,I,I,I,I,I,I,I,I,I,I,I,I,I,O] ?_
           refine pz (i := 19) (N := some 8) #[I,I,I,I,I,I,I,I,I,I,I,I,I,I,I,I,I,I,I,I] ?_
           refine done_ (done_of HT_.out (by kernel_rfl)) ?_
           try go_wp2_with (first | ((with_reducible refine gate_callee (f := 60) rfl ?_); refine goesL_ (some 54) rfl rfl Try.func60 (by kernel_rfl) rfl #[.int .i64 ((((((t118 ++ t119) ++ (strOfNums y120)) ++ t116) ++ a0_2) ++ a0_3).size : Int)] rfl aa ?_; (with_reducible refine (vbi_Two.calls kj3 ((((((t118 ++ t119) ++ (strOfNums y120)) ++ t116) ++ a0_2) ++ a0_3).size : Int) t123 t124 _ A18.out).mono ?_); rintro e w33 ⟨rfl, hb⟩; refine ⟨_, rfl, ?_⟩; replace HO122 := Aside0.mk (Kd.R_below (rk HO122.out) hb); replace BK114 := Aside0.mk (blk_below (g := gb114) (o := .cells #[.int .i64 a0_0, .int .i64 a0_1, .string a0_2, .string a0_3, .int .i64 a0_4, .bool a0_5] 25 (0, 0)) (bk BK114.out) hb); replace HB := Aside0.mk (below_step bo hb); (try clear hb); (try clear hb2); (try clear hk); (try clear hi)) | ((with_reducible refine gate_callee (f := 63) rfl ?_); refine goesL_ (some 59) rfl rfl Try.func63 (by kernel_rfl) rfl #[.int .u32 0, .string t123] rfl aa ?_; (with_reducible refine (sum_Sum.calls kj3 0 t123 t125 _ A19.out).mono ?_); rintro e w' ⟨rfl, ⟨nd, rfl⟩⟩; refine ⟨_, rfl, ?_⟩) | ((with_reducible refine gate_callee (f := 63) rfl ?_); refine goesL_ (some 61) rfl rfl Try.func63 (by kernel_rfl) rfl #[.int .u32 t125, .string (((((t118 ++ t119) ++ (strOfNums y120)) ++ t116) ++ a0_2) ++ a0_3)] rfl aa ?_; (with_reducible refine (sum_Sum.calls kj3 t125 (((((t118 ++ t119) ++ (strOfNums y120)) ++ t116) ++ a0_2) ++ a0_3) t126 _ A20.out).mono ?_); rintro e w' ⟨rfl, ⟨nd, rfl⟩⟩; refine ⟨_, rfl, ?_⟩) | ((with_reducible refine gate_callee (f := 62) rfl ?_); refine goesL_ (some 63) rfl rfl Try.func62 (by kernel_rfl) rfl #[.int .i64 (wrap64 (t126))] rfl aa ?_; (with_reducible refine (vbi_Four.calls kj3 (wrap64 (t126)) t127 t128 _ A21.out).mono ?_); rintro e w34 ⟨rfl, hb⟩; refine ⟨_, rfl, ?_⟩; replace HO122 := Aside0.mk (Kd.R_below (rk HO122.out) hb); replace BK114 := Aside0.mk (blk_below (g := gb114) (o := .cells #[.int .i64 a0_0, .int .i64 a0_1, .string a0_2, .string a0_3, .int .i64 a0_4, .bool a0_5] 25 (0, 0)) (bk BK114.out) hb); replace HB := Aside0.mk (below_step bo hb); (try clear hb); (try clear hb2); (try clear hk); (try clear hi)))
           go_ret2
           exact ⟨er, bo⟩
          ·rw [if_neg c23] at H
           exact absurd H (by simp)
         ·rw [if_neg c22] at H
          exact absurd H (by simp)
        ·rw [if_neg c17] at H
         exact absurd H (by simp)
       ·rw [if_neg c16] at H
        exact absurd H (by simp)
      ·rw [if_neg c15] at H
       exact absurd H (by simp)
     ·rw [if_neg c14] at H
      exact absurd H (by simp)
    ·rw [if_neg c13] at H
     exact absurd H (by simp)
 ·rw [if_neg c3] at H
  have c3b0 : (t115 == 0) = false := beq_eq_false_iff_ne.mpr c3
  have c3b1 : (t115 != 0) = true := bne_iff_ne.mpr c3
  simp only [Option.some.injEq, Prod.mk.injEq] at H
  obtain ⟨rfl, rfl⟩ := H
  go_enter Try.func14, Try.ntmps14
  go_wp2_with (first | ((with_reducible refine gate_dst (N := 1) rfl ?_); refine box_event ?hg (N := 1) ?hd (cs := #[.int .i64 a0_0, .int .i64 a0_1, .string a0_2, .string a0_3, .int .i64 a0_4, .bool a0_5]) (t := 25) ?hr ?_; (case hd => rfl); (case hg => rfl); (case hr => first | (go_simp; done) | (go_simp; rfl)); intro gb114 hg w35 hbox hb; have BK114 := Aside0.mk (hbox); have GW114 := Aside0.mk ((by rw [hg]; exact (below_size bo) : w.heap.size ≤ gb114)); have GE114 := Aside0.mk ((by rw [hg]; exact (below_size bo) : w.heap.size ≤ gb114)); replace HB := Aside0.mk (below_step bo hb); clear hb hbox hg; obtain ⟨hcz36_0, hcz36_1, hcz36_2, hcz36_3, hcz36_4, hcz36_5⟩ := cl6 BK114.out; obtain ⟨hfz36_0, hfz36_1, hfz36_2, hfz36_3, hfz36_4, hfz36_5⟩ := fz6 BK114.out) | ((with_reducible refine gate_callee (f := 22) rfl ?_); refine goesL_ (some 14) rfl rfl Try.func22 (by kernel_rfl) rfl #[.agg #[.int .i64 a0_0, .int .i64 a0_1, .string a0_2, .string a0_3, .int .i64 a0_4, .bool a0_5]] rfl aa ?_; (with_reducible refine (rec_Check.calls k a0_0 a0_1 a0_2 a0_3 a0_4 a0_5 t115 _ A2.out).mono ?_); rintro e w37 ⟨rfl, hb⟩; refine ⟨_, rfl, ?_⟩; replace BK114 := Aside0.mk (blk_below (g := gb114) (o := .cells #[.int .i64 a0_0, .int .i64 a0_1, .string a0_2, .string a0_3, .int .i64 a0_4, .bool a0_5] 25 (0, 0)) (bk BK114.out) hb); replace HB := Aside0.mk (below_step bo hb); (try clear hb); (try clear hb2); (try clear hk); (try clear hi)))
  go_ret2
  exact ⟨er, bo⟩

end Go.Proofs.Ytmabdfdmccbfnaa.P

-- written by a program of the proving session, out of the translation; Lean checks it
namespace Go.Proofs.Ytmabdfdmccbfnaa.P
open Go.RowKit Go.Proofs.Ytmabdfdmccbfnaa.Sq Go.Proofs.YtmabdfdmccbfnaaW.PrintWords Go.Proofs.YtmabdfdmccbfnaaW.PrintLast Go.Proofs.YtmabdfdmccbfnaaW.PrintMore
attribute [local go_sem] max2_int min2_int max_two min_two max_three min_three max_four min_four   -- for this text's walks alone
set_option linter.unusedVariables false
set_option linter.unusedSimpArgs false

/-! ### fairwaylaw10_num: function 15 -/
def fairwaylaw10_num.f (a0 : Int) : Option (Int) := some a0
set_option maxHeartbeats 8000000 in
set_option maxRecDepth 100000 in
theorem fairwaylaw10_num.calls (a0 : Int) (r : Int) (w : World) (h : fairwaylaw10_num.f a0 = some r) :
 Calls Try.prog 15 #[.int .i64 a0] w fun e w' => e = .returned (.int .i64 r) ∧ Drawn0 w w' := by
 have H : (some a0) = some r := h
 clear h
 obtain rfl := Option.some.inj H
 go_enter Try.func15, Try.ntmps15
 go_wp2
 go_ret
 exact ⟨ap, dr⟩

end Go.Proofs.Ytmabdfdmccbfnaa.P

-- written by a program of the proving session, out of the translation; Lean checks it
namespace Go.Proofs.Ytmabdfdmccbfnaa.P
open Go.RowKit Go.Proofs.Ytmabdfdmccbfnaa.Sq Go.Proofs.YtmabdfdmccbfnaaW.PrintWords Go.Proofs.YtmabdfdmccbfnaaW.PrintLast Go.Proofs.YtmabdfdmccbfnaaW.PrintMore
attribute [local go_sem] max2_int min2_int max_two min_two max_three min_three max_four min_four   -- for this text's walks alone
set_option linter.unusedVariables false
set_option linter.unusedSimpArgs false

/-! ### vbi_taken: function 82 -/
def vbi_taken.l0 : Nat → ByteArray → Int → Int → Int → Option (Int × Int)
 | 0, _, _, _, _ => none
 | k + 1, x0, x6, x12, x13 => if x13 < x12 then (if 0 ≤ x13 then (if x13 < (x0.size : Int) then (vbi_taken.l0 k x0 (Go.bits .or .i64 (wrap64 (x6 * 256)) (wrap64 (bt x0 x13))) x12 (wrap64 (x13 + 1))) else (none)) else (none)) else (some (x6, 0))
def vbi_taken.f (k : Nat) (a0 : ByteArray) (a1 : Int) : Option (Int × Int) := if (a0.size : Int) < a1 then (some (0, 7)) else (vbi_taken.l0 k a0 0 a1 0)
theorem vbi_taken.mono_l : ∀ k, (∀ y0 y1 y2 y3, LeO (vbi_taken.l0 k y0 y1 y2 y3) (vbi_taken.l0 (k + 1) y0 y1 y2 y3))
 | 0 => fun _ _ _ _ r h => by simp [vbi_taken.l0] at h
 | k + 1 => by
  have ih0 := vbi_taken.mono_l k
  ·intro y0 y1 y2 y3
   unfold vbi_taken.l0
   repeat' first
   | (with_reducible exact ih0 _ _ _ _)
   | (with_reducible exact LeO.refl _)
   | (with_reducible exact LeO.none _)
   | (with_reducible refine LeO.ite ?_ ?_)
   | (with_reducible refine LeO.bind ?_ (fun _ => ?_))
   | exact ih0 _ _ _ _
   | exact LeO.none _
   | refine LeO.ite ?_ ?_
   | refine LeO.bind ?_ (fun _ => ?_)
theorem vbi_taken.mono : ∀ a0 a1 k, LeO (vbi_taken.f k a0 a1) (vbi_taken.f (k + 1) a0 a1) := by
 intro a0 a1 k
 have ih0 := vbi_taken.mono_l k
 unfold vbi_taken.f
 repeat' first
  | (with_reducible exact ih0 _ _ _ _)
  | (with_reducible exact LeO.refl _)
  | (with_reducible exact LeO.none _)
  | (with_reducible refine LeO.ite ?_ ?_)
  | (with_reducible refine LeO.bind ?_ (fun _ => ?_))
  | exact ih0 _ _ _ _
  | exact LeO.none _
  | refine LeO.ite ?_ ?_
  | refine LeO.bind ?_ (fun _ => ?_)
set_option maxHeartbeats 8000000 in
set_option maxRecDepth 100000 in
theorem vbi_taken.calls (k : Nat) (a0 : ByteArray) (a1 : Int) (r1 : Int) (r2 : Int) (w : World) (h : vbi_taken.f k a0 a1 = some (r1, r2)) :
 Calls Try.prog 82 #[.string a0, .int .i64 a1] w fun e w' => e = .returned (.tuple #[.int .i64 r1, .int .i64 r2]) ∧ Drawn0 w w' := by
 have H : (if (a0.size : Int) < a1 then (some (0, 7)) else (vbi_taken.l0 k a0 0 a1 0)) = some (r1, r2) := h
 clear h
 by_cases c3 : (a0.size : Int) < a1
 ·rw [if_pos c3] at H
  have c3b0 : decide ((a0.size : Int) < a1) = true := decide_eq_true c3
  clear c3
  simp only [Option.some.injEq, Prod.mk.injEq] at H
  obtain ⟨rfl, rfl⟩ := H
  go_enter Try.func82, Try.ntmps82
  go_wp2
  go_ret2
  exact ⟨ap, dr⟩
 ·rw [if_neg c3] at H
  have c3b0 : decide ((a0.size : Int) < a1) = false := decide_eq_false c3
  clear c3
  have H' := Aside0.mk H
  clear H
  go_enter Try.func82, Try.ntmps82
  go_wp2
  go_loopg [6, 13] k (fun kq v6 v13 w' => ∃ (x6_1 : Int) (x13_1 : Int), v6 = .int .i64 x6_1 ∧ v13 = .int .i64 x13_1 ∧ Aside0 (vbi_taken.l0 kq a0 x6_1 a1 x13_1 = some (r1, r2)) ∧ Aside0 (kq ≤ k) ∧ Drawn0 w w')
  case atStart => exact ⟨(0), (0), ap, ap, H', ⟨Nat.le_refl _⟩, dr⟩
  case round =>
   clear H'
   try clear p2
   try clear c3
   try clear c3b0
   obtain ⟨x6_1, x13_1, rfl, rfl, HA, HK1, ⟨m1, rfl⟩⟩ := hrel
   cases gk with
   | zero => exact absurd HA.out (by simp [vbi_taken.l0])
   | succ k1 =>
    have H := HA.out
    clear HA
    simp only [vbi_taken.l0] at H
    by_cases c4 : x13_1 < a1
    ·rw [if_pos c4] at H
     have c4b0 : decide (x13_1 < a1) = true := decide_eq_true c4
     clear c4
     by_cases c5 : 0 ≤ x13_1
     ·rw [if_pos c5] at H
      have c5b0 : decide (0 ≤ x13_1) = true := decide_eq_true c5
      clear c5
      by_cases c6 : x13_1 < (a0.size : Int)
      ·rw [if_pos c6] at H
       have c6b0 : decide (x13_1 < (a0.size : Int)) = true := decide_eq_true c6
       clear c6
       have H' := Aside0.mk H
       clear H
       have p7 : 0 ≤ (x13_1 : Int) := od
       have q7 : x13_1 < (a0.size : Int) := od
       have hx7 := bt_at a0 x13_1
       replace p7 := eq_true p7
       replace q7 := eq_true q7
       go_wp2
       go_roundg k1
       case measure => have := HK1.out; omega
       case rel => exact ⟨(Go.bits .or .i64 (wrap64 (x6_1 * 256)) (wrap64 (bt a0 x13_1))), (wrap64 (x13_1 + 1)), ap, ap, H', ⟨by have := HK1.out; omega⟩, dr⟩
      ·rw [if_neg c6] at H
       exact absurd H (by simp)
     ·rw [if_neg c5] at H
      exact absurd H (by simp)
    ·rw [if_neg c4] at H
     have c4b0 : decide (x13_1 < a1) = false := decide_eq_false c4
     clear c4
     simp only [Option.some.injEq, Prod.mk.injEq] at H
     obtain ⟨rfl, rfl⟩ := H
     go_wp2
     go_ret2
     exact ⟨ap, dr⟩

end Go.Proofs.Ytmabdfdmccbfnaa.P

-- written by a program of the proving session, out of the translation; Lean checks it
namespace Go.Proofs.Ytmabdfdmccbfnaa.P
open Go.RowKit Go.Proofs.Ytmabdfdmccbfnaa.Sq Go.Proofs.YtmabdfdmccbfnaaW.PrintWords Go.Proofs.YtmabdfdmccbfnaaW.PrintLast Go.Proofs.YtmabdfdmccbfnaaW.PrintMore
attribute [local go_sem] max2_int min2_int max_two min_two max_three min_three max_four min_four   -- for this text's walks alone
set_option linter.unusedVariables false
set_option linter.unusedSimpArgs false

/-! ### vbi_TakeTwo: function 64 -/
def vbi_TakeTwo.f (k : Nat) (a0 : ByteArray) : Option (Int × Int) := (vbi_taken.f k a0 2).bind fun bt129 => (some (bt129.1, bt129.2))
theorem vbi_TakeTwo.mono : ∀ a0 k, LeO (vbi_TakeTwo.f k a0) (vbi_TakeTwo.f (k + 1) a0) := by
 intro a0 k
 unfold vbi_TakeTwo.f
 repeat' first
  | (with_reducible exact vbi_taken.mono _ _ _)
  | (with_reducible exact LeO.refl _)
  | (with_reducible exact LeO.none _)
  | (with_reducible refine LeO.ite ?_ ?_)
  | (with_reducible refine LeO.bind ?_ (fun _ => ?_))
  | exact vbi_taken.mono _ _ _
  | exact LeO.none _
  | refine LeO.ite ?_ ?_
  | refine LeO.bind ?_ (fun _ => ?_)
set_option maxHeartbeats 8000000 in
set_option maxRecDepth 100000 in
theorem vbi_TakeTwo.calls (k : Nat) (a0 : ByteArray) (r1 : Int) (r2 : Int) (w : World) (h : vbi_TakeTwo.f k a0 = some (r1, r2)) :
 Calls Try.prog 64 #[.string a0] w fun e w' => e = .returned (.tuple #[.int .i64 r1, .int .i64 r2]) ∧ Drawn0 w w' := by
 have H : ((vbi_taken.f k a0 2).bind fun bt129 => (some (bt129.1, bt129.2))) = some (r1, r2) := h
 clear h
 replace H := Option.bind_eq_some_iff.mp H
 obtain ⟨⟨t129, t130⟩, A20, H⟩ := H
 replace H : (some (t129, t130)) = some (r1, r2) := H
 have A2 := Aside0.mk A20
 clear A20
 simp only [Option.some.injEq, Prod.mk.injEq] at H
 obtain ⟨rfl, rfl⟩ := H
 go_enter Try.func64, Try.ntmps64
 go_wp2_with (first | ((with_reducible refine gate_callee (f := 82) rfl ?_); refine goesL_ (some 5) rfl rfl Try.func82 (by kernel_rfl) rfl #[.string a0, .int .i64 2] rfl aa ?_; (with_reducible refine (vbi_taken.calls k a0 2 t129 t130 _ A2.out).mono ?_); rintro e w' ⟨rfl, ⟨nd, rfl⟩⟩; refine ⟨_, rfl, ?_⟩))
 go_ret2
 exact ⟨ap, dr⟩

end Go.Proofs.Ytmabdfdmccbfnaa.P

-- written by a program of the proving session, out of the translation; Lean checks it
namespace Go.Proofs.Ytmabdfdmccbfnaa.P
open Go.RowKit Go.Proofs.Ytmabdfdmccbfnaa.Sq Go.Proofs.YtmabdfdmccbfnaaW.PrintWords Go.Proofs.YtmabdfdmccbfnaaW.PrintLast Go.Proofs.YtmabdfdmccbfnaaW.PrintMore
attribute [local go_sem] max2_int min2_int max_two min_two max_three min_three max_four min_four   -- for this text's walks alone
set_option linter.unusedVariables false
set_option linter.unusedSimpArgs false

/-! ### vbi_TakeFour: function 65 -/
def vbi_TakeFour.f (k : Nat) (a0 : ByteArray) : Option (Int × Int) := (vbi_taken.f k a0 4).bind fun bt131 => (some (bt131.1, bt131.2))
theorem vbi_TakeFour.mono : ∀ a0 k, LeO (vbi_TakeFour.f k a0) (vbi_TakeFour.f (k + 1) a0) := by
 intro a0 k
 unfold vbi_TakeFour.f
 repeat' first
  | (with_reducible exact vbi_taken.mono _ _ _)
  | (with_reducible exact LeO.refl _)
  | (with_reducible exact LeO.none _)
  | (with_reducible refine LeO.ite ?_ ?_)
  | (with_reducible refine LeO.bind ?_ (fun _ => ?_))
  | exact vbi_taken.mono _ _ _
  | exact LeO.none _
  | refine LeO.ite ?_ ?_
  | refine LeO.bind ?_ (fun _ => ?_)
set_option maxHeartbeats 8000000 in
set_option maxRecDepth 100000 in
theorem vbi_TakeFour.calls (k : Nat) (a0 : ByteArray) (r1 : Int) (r2 : Int) (w : World) (h : vbi_TakeFour.f k a0 = some (r1, r2)) :
 Calls Try.prog 65 #[.string a0] w fun e w' => e = .returned (.tuple #[.int .i64 r1, .int .i64 r2]) ∧ Drawn0 w w' := by
 have H : ((vbi_taken.f k a0 4).bind fun bt131 => (some (bt131.1, bt131.2))) = some (r1, r2) := h
 clear h
 replace H := Option.bind_eq_some_iff.mp H
 obtain ⟨⟨t131, t132⟩, A20, H⟩ := H
 replace H : (some (t131, t132)) = some (r1, r2) := H
 have A2 := Aside0.mk A20
 clear A20
 simp only [Option.some.injEq, Prod.mk.injEq] at H
 obtain ⟨rfl, rfl⟩ := H
 go_enter Try.func65, Try.ntmps65
 go_wp2_with (first | ((with_reducible refine gate_callee (f := 82) rfl ?_); refine goesL_ (some 5) rfl rfl Try.func82 (by kernel_rfl) rfl #[.string a0, .int .i64 4] rfl aa ?_; (with_reducible refine (vbi_taken.calls k a0 4 t131 t132 _ A2.out).mono ?_); rintro e w' ⟨rfl, ⟨nd, rfl⟩⟩; refine ⟨_, rfl, ?_⟩))
 go_ret2
 exact ⟨ap, dr⟩

end Go.Proofs.Ytmabdfdmccbfnaa.P

-- written by a program of the proving session, out of the translation; Lean checks it
namespace Go.Proofs.Ytmabdfdmccbfnaa.P
open Go.RowKit Go.Proofs.Ytmabdfdmccbfnaa.Sq Go.Proofs.YtmabdfdmccbfnaaW.PrintWords Go.Proofs.YtmabdfdmccbfnaaW.PrintLast Go.Proofs.YtmabdfdmccbfnaaW.PrintMore
attribute [local go_sem] max2_int min2_int max_two min_two max_three min_three max_four min_four   -- for this text's walks alone
set_option linter.unusedVariables false
set_option linter.unusedSimpArgs false

/-! ### rec_number: function 83 -/
def rec_number.f (k : Nat) (a0 : ByteArray) : Option (Int) := (vbi_TakeFour.f k a0).bind fun bt133 => (if 4 ≤ (a0.size : Int) then ((vbi_TakeFour.f k (a0.extract 4 a0.size)).bind fun bt135 => (some (Go.bits .or .i64 (wrap64 (bt133.1 * 4294967296)) bt135.1))) else (none))
theorem rec_number.mono : ∀ a0 k, LeO (rec_number.f k a0) (rec_number.f (k + 1) a0) := by
 intro a0 k
 unfold rec_number.f
 repeat' first
  | (with_reducible exact vbi_TakeFour.mono _ _)
  | (with_reducible exact LeO.refl _)
  | (with_reducible exact LeO.none _)
  | (with_reducible refine LeO.ite ?_ ?_)
  | (with_reducible refine LeO.bind ?_ (fun _ => ?_))
  | exact vbi_TakeFour.mono _ _
  | exact LeO.none _
  | refine LeO.ite ?_ ?_
  | refine LeO.bind ?_ (fun _ => ?_)
set_option maxHeartbeats 8000000 in
set_option maxRecDepth 100000 in
theorem rec_number.calls (k : Nat) (a0 : ByteArray) (r : Int) (w : World) (h : rec_number.f k a0 = some r) :
 Calls Try.prog 83 #[.string a0] w fun e w' => e = .returned (.int .i64 r) ∧ Drawn0 w w' := by
 have H : ((vbi_TakeFour.f k a0).bind fun bt133 => (if 4 ≤ (a0.size : Int) then ((vbi_TakeFour.f k (a0.extract 4 a0.size)).bind fun bt135 => (some (Go.bits .or .i64 (wrap64 (bt133.1 * 4294967296)) bt135.1))) else (none))) = some r := h
 clear h
 replace H := Option.bind_eq_some_iff.mp H
 obtain ⟨⟨t133, t134⟩, A20, H⟩ := H
 replace H : (if 4 ≤ (a0.size : Int) then ((vbi_TakeFour.f k (a0.extract 4 a0.size)).bind fun bt135 => (some (Go.bits .or .i64 (wrap64 (t133 * 4294967296)) bt135.1))) else (none)) = some r := H
 have A2 := Aside0.mk A20
 clear A20
 by_cases c3 : 4 ≤ (a0.size : Int)
 ·rw [if_pos c3] at H
  have c3b0 := eq_true c3
  have c3b1 : decide (4 ≤ (a0.size : Int)) = true := decide_eq_true c3
  clear c3
  replace H := Option.bind_eq_some_iff.mp H
  obtain ⟨⟨t135, t136⟩, A40, H⟩ := H
  replace H : (some (Go.bits .or .i64 (wrap64 (t133 * 4294967296)) t135)) = some r := H
  have A4 := Aside0.mk A40
  clear A40
  obtain rfl := Option.some.inj H
  go_enter Try.func83, Try.ntmps83
  go_wp2_with (first | ((with_reducible refine gate_callee (f := 65) rfl ?_); refine goesL_ (some 9) rfl rfl Try.func65 (by kernel_rfl) rfl #[.string a0] rfl aa ?_; (with_reducible refine (vbi_TakeFour.calls k a0 t133 t134 _ A2.out).mono ?_); rintro e w' ⟨rfl, ⟨nd, rfl⟩⟩; refine ⟨_, rfl, ?_⟩) | ((with_reducible refine gate_callee (f := 65) rfl ?_); refine goesL_ (some 15) rfl rfl Try.func65 (by kernel_rfl) rfl #[.string (a0.extract 4 a0.size)] rfl aa ?_; (with_reducible refine (vbi_TakeFour.calls k (a0.extract 4 a0.size) t135 t136 _ A4.out).mono ?_); rintro e w' ⟨rfl, ⟨nd, rfl⟩⟩; refine ⟨_, rfl, ?_⟩))
  go_ret
  exact ⟨ap, dr⟩
 ·rw [if_neg c3] at H
  exact absurd H (by simp)

end Go.Proofs.Ytmabdfdmccbfnaa.P

-- written by a program of the proving session, out of the translation; Lean checks it
namespace Go.Proofs.Ytmabdfdmccbfnaa.P
open Go.RowKit Go.Proofs.Ytmabdfdmccbfnaa.Sq Go.Proofs.YtmabdfdmccbfnaaW.PrintWords Go.Proofs.YtmabdfdmccbfnaaW.PrintLast Go.Proofs.YtmabdfdmccbfnaaW.PrintMore
attribute [local go_sem] max2_int min2_int max_two min_two max_three min_three max_four min_four   -- for this text's walks alone
set_option linter.unusedVariables false
set_option linter.unusedSimpArgs false

/-! ### rec_read: function 66 -/
def rec_read.j0 : Nat → ByteArray → Int → Bool → Int → Int → ByteArray → ByteArray → Int → Bool → Option (Int × Int × ByteArray × ByteArray × Int × Bool × Bool)
 | 0, _, _, _, _, _, _, _, _, _ => none
 | k + 1, x0, x4, x35, x138000, x138001, x138002, x138003, x138004, x138005 => if x35 = true then (some (x138000, x138001, x138002, x138003, x138004, x138005, false)) else ((rec_number.f k x0).bind fun t140 => (if 8 ≤ (x0.size : Int) then ((rec_number.f k (x0.extract 8 x0.size)).bind fun t141 => (if 19 ≤ (wrap64 (19 + x4)) then (if (wrap64 (19 + x4)) ≤ (x0.size : Int) then (if 0 ≤ (wrap64 (19 + x4)) then (if 16 < (x0.size : Int) then ((rec_Check.f k t140 t141 (x0.extract 19 ((wrap64 (19 + x4)) : Int).toNat) (x0.extract ((wrap64 (19 + x4)) : Int).toNat x0.size) (wrap64 (Go.bits .and .u8 (bt x0 16) 3)) (decide ((Go.bits .and .u8 (bt x0 16) 4) > 0))).bind fun t142 => (some (t140, t141, x0.extract 19 ((wrap64 (19 + x4)) : Int).toNat, x0.extract ((wrap64 (19 + x4)) : Int).toNat x0.size, wrap64 (Go.bits .and .u8 (bt x0 16) 3), decide ((Go.bits .and .u8 (bt x0 16) 4) > 0), (t142 == 0)))) else (none)) else (none)) else (none)) else (none))) else (none)))
def rec_read.f (k : Nat) (a0 : ByteArray) : Option (Int × Int × ByteArray × ByteArray × Int × Bool × Bool) := if (a0.size : Int) < 19 then (some (0, 0, (⟨#[]⟩ : ByteArray), (⟨#[]⟩ : ByteArray), 0, false, false)) else (if 17 ≤ (a0.size : Int) then ((vbi_TakeTwo.f k (a0.extract 17 a0.size)).bind fun bt138 => (if 16 < (a0.size : Int) then (if (bt a0 16) > 7 then (rec_read.j0 k a0 bt138.1 true 0 0 (⟨#[]⟩ : ByteArray) (⟨#[]⟩ : ByteArray) 0 false) else (if bt138.1 > (wrap64 ((a0.size : Int) - 19)) then (rec_read.j0 k a0 bt138.1 true 0 0 (⟨#[]⟩ : ByteArray) (⟨#[]⟩ : ByteArray) 0 false) else (if 0 < (a0.size : Int) then (if (bt a0 0) > 127 then (rec_read.j0 k a0 bt138.1 true 0 0 (⟨#[]⟩ : ByteArray) (⟨#[]⟩ : ByteArray) 0 false) else (if 8 < (a0.size : Int) then (rec_read.j0 k a0 bt138.1 (decide ((bt a0 8) > 127)) 0 0 (⟨#[]⟩ : ByteArray) (⟨#[]⟩ : ByteArray) 0 false) else (none))) else (none)))) else (none))) else (none))
theorem rec_read.mono_l : ∀ k, (∀ y0 y1 y2 y3 y4 y5 y6 y7 y8, LeO (rec_read.j0 k y0 y1 y2 y3 y4 y5 y6 y7 y8) (rec_read.j0 (k + 1) y0 y1 y2 y3 y4 y5 y6 y7 y8))
 | 0 => fun _ _ _ _ _ _ _ _ _ r h => by simp [rec_read.j0] at h
 | k + 1 => by
  have ih0 := rec_read.mono_l k
  ·intro y0 y1 y2 y3 y4 y5 y6 y7 y8
   unfold rec_read.j0
   repeat' first
   | (with_reducible exact ih0 _ _ _ _ _ _ _ _ _)
   | (with_reducible exact rec_Check.mono _ _ _ _ _ _ _)
   | (with_reducible exact rec_number.mono _ _)
   | (with_reducible exact vbi_TakeTwo.mono _ _)
   | (with_reducible exact LeO.refl _)
   | (with_reducible exact LeO.none _)
   | (with_reducible refine LeO.ite ?_ ?_)
   | (with_reducible refine LeO.bind ?_ (fun _ => ?_))
   | exact ih0 _ _ _ _ _ _ _ _ _
   | exact rec_Check.mono _ _ _ _ _ _ _
   | exact rec_number.mono _ _
   | exact vbi_TakeTwo.mono _ _
   | exact LeO.none _
   | refine LeO.ite ?_ ?_
   | refine LeO.bind ?_ (fun _ => ?_)
theorem rec_read.mono : ∀ a0 k, LeO (rec_read.f k a0) (rec_read.f (k + 1) a0) := by
 intro a0 k
 have ih0 := rec_read.mono_l k
 unfold rec_read.f
 repeat' first
  | (with_reducible exact ih0 _ _ _ _ _ _ _ _ _)
  | (with_reducible exact rec_Check.mono _ _ _ _ _ _ _)
  | (with_reducible exact rec_number.mono _ _)
  | (with_reducible exact vbi_TakeTwo.mono _ _)
  | (with_reducible exact LeO.refl _)
  | (with_reducible exact LeO.none _)
  | (with_reducible refine LeO.ite ?_ ?_)
  | (with_reducible refine LeO.bind ?_ (fun _ => ?_))
  | exact ih0 _ _ _ _ _ _ _ _ _
  | exact rec_Check.mono _ _ _ _ _ _ _
  | exact rec_number.mono _ _
  | exact vbi_TakeTwo.mono _ _
  | exact LeO.none _
  | refine LeO.ite ?_ ?_
  | refine LeO.bind ?_ (fun _ => ?_)
def rec_read.T6 : Bool × List (List Nat × List Nat) := (true, [([], []), ([0], [0]), ([], []), ([2], [2]), ([3, 1], [3]), ([], []), ([], []), ([6], [6]), ([5, 7], [5, 7]), ([], []), ([], []), ([10], [10]), ([9, 11], [9, 11]), ([], []), ([13], [13]), ([14], [14]), ([15], [15]), ([], []), ([17], [17]), ([18], [18]), ([19], [19]), ([1, 4, 8, 12, 16, 20], [1, 4, 8, 12, 16, 20]), ([21, 4, 0, 1, 2, 3, 4, 5, 6, 7, 8, 9, 10, 11, 12, 13, 14, 15, 16, 17, 18, 19, 20, 21], [21])])
def rec_read.B6 : List Nat := [0, 1, 0, 4, 15, 0, 0, 64, 224, 0, 0, 1024, 3584, 0, 8192, 24576, 57344, 0, 131072, 393216, 917504, 2097151, 4194303]
theorem rec_read.tab6 : rtab .any (opsOf Try.f66 6) = rec_read.T6 := by kernel_rfl
theorem rec_read.bits6 : waitsOk rec_read.T6.2 rec_read.B6 = true := by kernel_rfl
set_option maxHeartbeats 8000000 in
set_option maxRecDepth 100000 in
theorem rec_read.calls (k : Nat) (a0 : ByteArray) (r1 : Int) (r2 : Int) (r3 : ByteArray) (r4 : ByteArray) (r5 : Int) (r6 : Bool) (r7 : Bool) (w : World) (h : rec_read.f k a0 = some (r1, r2, r3, r4, r5, r6, r7)) :
 Calls Try.prog 66 #[.string a0] w fun e w' => e = .returned (.tuple #[.agg #[.int .i64 r1, .int .i64 r2, .string r3, .string r4, .int .i64 r5, .bool r6], .bool r7]) ∧ Below w.heap.size w w' := by
 have hu25 := Try.underlying25
 have HB := Aside0.mk (Below.refl w.heap.size w)
 have H : (if (a0.size : Int) < 19 then (some (0, 0, (⟨#[]⟩ : ByteArray), (⟨#[]⟩ : ByteArray), 0, false, false)) else (if 17 ≤ (a0.size : Int) then ((vbi_TakeTwo.f k (a0.extract 17 a0.size)).bind fun bt138 => (if 16 < (a0.size : Int) then (if (bt a0 16) > 7 then (rec_read.j0 k a0 bt138.1 true 0 0 (⟨#[]⟩ : ByteArray) (⟨#[]⟩ : ByteArray) 0 false) else (if bt138.1 > (wrap64 ((a0.size : Int) - 19)) then (rec_read.j0 k a0 bt138.1 true 0 0 (⟨#[]⟩ : ByteArray) (⟨#[]⟩ : ByteArray) 0 false) else (if 0 < (a0.size : Int) then (if (bt a0 0) > 127 then (rec_read.j0 k a0 bt138.1 true 0 0 (⟨#[]⟩ : ByteArray) (⟨#[]⟩ : ByteArray) 0 false) else (if 8 < (a0.size : Int) then (rec_read.j0 k a0 bt138.1 (decide ((bt a0 8) > 127)) 0 0 (⟨#[]⟩ : ByteArray) (⟨#[]⟩ : ByteArray) 0 false) else (none))) else (none)))) else (none))) else (none))) = some (r1, r2, r3, r4, r5, r6, r7) := h
 clear h
 by_cases c2 : (a0.size : Int) < 19
 ·rw [if_pos c2] at H
  have c2b0 : decide ((a0.size : Int) < 19) = true := decide_eq_true c2
  have c2b1 : decide (a0.size < 19) = true := decide_eq_true (by omega)
  clear c2
  simp only [Option.some.injEq, Prod.mk.injEq] at H
  obtain ⟨rfl, rfl, rfl, rfl, rfl, rfl, rfl⟩ := H
  go_enter Try.func66, Try.ntmps66
  go_wp2_with (first | ((with_reducible refine gate_dst (N := 2) rfl ?_); (try (refine gate_guard (by rfl) ?_; dsimp only)); refine box_event ?hg (N := 2) ?hd (cs := #[.int .i64 0, .int .i64 0, .string (⟨#[]⟩ : ByteArray), .string (⟨#[]⟩ : ByteArray), .int .i64 0, .bool false]) (t := 25) ?hr ?_; (case hd => rfl); (case hg => rfl); (case hr => first | (go_simp; done) | (go_simp; rfl)); intro gb137 hg w3 hbox hb; have BK137 := Aside0.mk (hbox); have GW137 := Aside0.mk ((by rw [hg]; exact (below_size bo) : w.heap.size ≤ gb137)); have GE137 := Aside0.mk ((by rw [hg]; exact (below_size bo) : w.heap.size ≤ gb137)); replace HB := Aside0.mk (below_step bo hb); clear hb hbox hg; obtain ⟨hcz4_0, hcz4_1, hcz4_2, hcz4_3, hcz4_4, hcz4_5⟩ := cl6 BK137.out; obtain ⟨hfz4_0, hfz4_1, hfz4_2, hfz4_3, hfz4_4, hfz4_5⟩ := fz6 BK137.out))
  refine bodyPost_ret (results_ct rfl _ _ gb137 25 #[.int .i64 0, .int .i64 0, .string (⟨#[]⟩ : ByteArray), .string (⟨#[]⟩ : ByteArray), .int .i64 0, .bool false] (0, 0) _ rfl (by (with_reducible repeat (first | refine blk_drewN ?_ _ | refine blk_drew ?_ | refine blk_alloc ?_ _)); refine blk_put (cs := #[.int .i64 0, .int .i64 0, .string (⟨#[]⟩ : ByteArray), .string (⟨#[]⟩ : ByteArray), .int .i64 0, .bool false]) ?_ 5 _ rfl; (with_reducible repeat (first | refine blk_drewN ?_ _ | refine blk_drew ?_ | refine blk_alloc ?_ _)); refine blk_put (cs := #[.int .i64 0, .int .i64 0, .string (⟨#[]⟩ : ByteArray), .string (⟨#[]⟩ : ByteArray), .int .i64 0, .bool false]) ?_ 4 _ rfl; (with_reducible repeat (first | refine blk_drewN ?_ _ | refine blk_drew ?_ | refine blk_alloc ?_ _)); refine blk_put (cs := #[.int .i64 0, .int .i64 0, .string (⟨#[]⟩ : ByteArray), .string (⟨#[]⟩ : ByteArray), .int .i64 0, .bool false]) ?_ 3 _ rfl; (with_reducible repeat (first | refine blk_drewN ?_ _ | refine blk_drew ?_ | refine blk_alloc ?_ _)); refine blk_put (cs := #[.int .i64 0, .int .i64 0, .string (⟨#[]⟩ : ByteArray), .string (⟨#[]⟩ : ByteArray), .int .i64 0, .bool false]) ?_ 2 _ rfl; (with_reducible repeat (first | refine blk_drewN ?_ _ | refine blk_drew ?_ | refine blk_alloc ?_ _)); refine blk_put (cs := #[.int .i64 0, .int .i64 0, .string (⟨#[]⟩ : ByteArray), .string (⟨#[]⟩ : ByteArray), .int .i64 0, .bool false]) ?_ 1 _ rfl; (with_reducible repeat (first | refine blk_drewN ?_ _ | refine blk_drew ?_ | refine blk_alloc ?_ _)); refine blk_put (cs := #[.int .i64 0, .int .i64 0, .string (⟨#[]⟩ : ByteArray), .string (⟨#[]⟩ : ByteArray), .int .i64 0, .bool false]) ?_ 0 _ rfl; (with_reducible repeat (first | refine blk_drewN ?_ _ | refine blk_drew ?_ | refine blk_alloc ?_ _)); exact BK137.out) Try.underlying25 rfl (by kernel_rfl)) rfl ?_
  exact ⟨er, bo⟩
 ·rw [if_neg c2] at H
  have c2b0 : decide ((a0.size : Int) < 19) = false := decide_eq_false c2
  have c2b1 : decide (a0.size < 19) = false := decide_eq_false (by omega)
  clear c2
  by_cases c5 : 17 ≤ (a0.size : Int)
  ·rw [if_pos c5] at H
   have c5b0 := eq_true c5
   have c5b1 : decide (17 ≤ (a0.size : Int)) = true := decide_eq_true c5
   clear c5
   replace H := Option.bind_eq_some_iff.mp H
   obtain ⟨⟨t138, t139⟩, A60, H⟩ := H
   replace H : (if 16 < (a0.size : Int) then (if (bt a0 16) > 7 then (rec_read.j0 k a0 t138 true 0 0 (⟨#[]⟩ : ByteArray) (⟨#[]⟩ : ByteArray) 0 false) else (if t138 > (wrap64 ((a0.size : Int) - 19)) then (rec_read.j0 k a0 t138 true 0 0 (⟨#[]⟩ : ByteArray) (⟨#[]⟩ : ByteArray) 0 false) else (if 0 < (a0.size : Int) then (if (bt a0 0) > 127 then (rec_read.j0 k a0 t138 true 0 0 (⟨#[]⟩ : ByteArray) (⟨#[]⟩ : ByteArray) 0 false) else (if 8 < (a0.size : Int) then (rec_read.j0 k a0 t138 (decide ((bt a0 8) > 127)) 0 0 (⟨#[]⟩ : ByteArray) (⟨#[]⟩ : ByteArray) 0 false) else (none))) else (none)))) else (none)) = some (r1, r2, r3, r4, r5, r6, r7) := H
   have A6 := Aside0.mk A60
   clear A60
   have HC7 := Aside0.mk H
   clear H
   go_enter Try.func66, Try.ntmps66
   go_upto_region 4 with (first | ((with_reducible refine gate_dst (N := 2) rfl ?_); (try (refine gate_guard (by rfl) ?_; dsimp only)); refine box_event ?hg (N := 2) ?hd (cs := #[.int .i64 0, .int .i64 0, .string (⟨#[]⟩ : ByteArray), .string (⟨#[]⟩ : ByteArray), .int .i64 0, .bool false]) (t := 25) ?hr ?_; (case hd => rfl); (case hg => rfl); (case hr => first | (go_simp; done) | (go_simp; rfl)); intro gb137 hg w8 hbox hb; have BK137 := Aside0.mk (hbox); have GW137 := Aside0.mk ((by rw [hg]; exact (below_size bo) : w.heap.size ≤ gb137)); have GE137 := Aside0.mk ((by rw [hg]; exact (below_size bo) : w.heap.size ≤ gb137)); replace HB := Aside0.mk (below_step bo hb); clear hb hbox hg) | ((with_reducible refine gate_callee (f := 64) rfl ?_); refine goesL_ (some 13) rfl rfl Try.func64 (by kernel_rfl) rfl #[.string (a0.extract 17 a0.size)] rfl aa ?_; (with_reducible refine (vbi_TakeTwo.calls k (a0.extract 17 a0.size) t138 t139 _ A6.out).mono ?_); rintro e w' ⟨rfl, ⟨nd, rfl⟩⟩; refine ⟨_, rfl, ?_⟩))
   (try simp only [Act.put, List.setIfInBounds_toArray, List.set_cons_zero, List.set_cons_succ])
   go_cut [35] (fun v35 wc => ∃ (kq : Nat) (x35_6 : Bool), v35 = .bool x35_6 ∧ Aside0 (rec_read.j0 kq a0 t138 x35_6 0 0 (⟨#[]⟩ : ByteArray) (⟨#[]⟩ : ByteArray) 0 false = some (r1, r2, r3, r4, r5, r6, r7)) ∧ Aside0 (kq ≤ k) ∧ Aside0 (wc.heap[gb137]? = some (.cells #[.int .i64 0, .int .i64 0, .string (⟨#[]⟩ : ByteArray), .string (⟨#[]⟩ : ByteArray), .int .i64 0, .bool false] 25 (0, 0))) ∧ Aside0 (Below w.heap.size w wc))
   case first =>
    have H := HC7.out
    clear HC7
    by_cases c9 : 16 < (a0.size : Int)
    ·rw [if_pos c9] at H
     have c9b0 : decide (16 < (a0.size : Int)) = true := decide_eq_true c9
     have c9b1 : decide (16 < a0.size) = true := decide_eq_true (by omega)
     clear c9
     (first | rw [c9b0] | (simp only [i64_w, i32_w]; rw [c9b0]) | skip)
     by_cases c11 : (bt a0 16) > 7
     ·rw [if_pos c11] at H
      have c11b0 : decide (7 < (bt a0 16)) = true := decide_eq_true c11
      clear c11
      have H' := Aside0.mk H
      clear H
      have p10 : 0 ≤ (16 : Int) := (by omega)
      have q10 : 16 < a0.size := (by have : (16 : Int) < (a0.size : Int) := od; omega)
      have hx10 : ∀ h : 16 < a0.size, ((a0[16]'h).toNat : Int) = bt a0 16 := bt_at a0 16
      clear p10
      have qi10 : (16 < (a0.size : Int)) = True := eq_true (od)
      replace q10 := eq_true q10
      go_wp2
      go_meet
      case rel => exact ⟨_, (true), ap, H', ⟨by first | omega | exact Nat.le_refl _⟩, ⟨by (with_reducible repeat (first | refine blk_drewN ?_ _ | refine blk_drew ?_ | refine blk_alloc ?_ _)); exact BK137.out⟩, ⟨bo⟩⟩
     ·rw [if_neg c11] at H
      have c11b0 : decide (7 < (bt a0 16)) = false := decide_eq_false c11
      clear c11
      by_cases c12 : t138 > (wrap64 ((a0.size : Int) - 19))
      ·rw [if_pos c12] at H
       have c12b0 : decide ((wrap64 ((a0.size : Int) - 19)) < t138) = true := decide_eq_true c12
       clear c12
       have H' := Aside0.mk H
       clear H
       have p10 : 0 ≤ (16 : Int) := (by omega)
       have q10 : 16 < a0.size := (by have : (16 : Int) < (a0.size : Int) := od; omega)
       have hx10 : ∀ h : 16 < a0.size, ((a0[16]'h).toNat : Int) = bt a0 16 := bt_at a0 16
       clear p10
       have qi10 : (16 < (a0.size : Int)) = True := eq_true (od)
       replace q10 := eq_true q10
       go_wp2
       go_meet
       case rel => exact ⟨_, (true), ap, H', ⟨by first | omega | exact Nat.le_refl _⟩, ⟨by (with_reducible repeat (first | refine blk_drewN ?_ _ | refine blk_drew ?_ | refine blk_alloc ?_ _)); exact BK137.out⟩, ⟨bo⟩⟩
      ·rw [if_neg c12] at H
       have c12b0 : decide ((wrap64 ((a0.size : Int) - 19)) < t138) = false := decide_eq_false c12
       clear c12
       by_cases c13 : 0 < (a0.size : Int)
       ·rw [if_pos c13] at H
        have c13b0 : decide (0 < (a0.size : Int)) = true := decide_eq_true c13
        have c13b1 : decide (0 < a0.size) = true := decide_eq_true (by omega)
        clear c13
        by_cases c15 : (bt a0 0) > 127
        ·rw [if_pos c15] at H
         have c15b0 : decide (127 < (bt a0 0)) = true := decide_eq_true c15
         clear c15
         have H' := Aside0.mk H
         clear H
         have p10 : 0 ≤ (16 : Int) := (by omega)
         have q10 : 16 < a0.size := (by have : (16 : Int) < (a0.size : Int) := od; omega)
         have hx10 : ∀ h : 16 < a0.size, ((a0[16]'h).toNat : Int) = bt a0 16 := bt_at a0 16
         clear p10
         have qi10 : (16 < (a0.size : Int)) = True := eq_true (od)
         replace q10 := eq_true q10
         have p14 : 0 ≤ (0 : Int) := (by omega)
         have q14 : 0 < a0.size := (by have : (0 : Int) < (a0.size : Int) := od; omega)
         have hx14 : ∀ h : 0 < a0.size, ((a0[0]'h).toNat : Int) = bt a0 0 := bt_at a0 0
         clear p14
         have qi14 : (0 < (a0.size : Int)) = True := eq_true (od)
         replace q14 := eq_true q14
         go_wp2
         go_meet
         case rel => exact ⟨_, (true), ap, H', ⟨by first | omega | exact Nat.le_refl _⟩, ⟨by (with_reducible repeat (first | refine blk_drewN ?_ _ | refine blk_drew ?_ | refine blk_alloc ?_ _)); exact BK137.out⟩, ⟨bo⟩⟩
        ·rw [if_neg c15] at H
         have c15b0 : decide (127 < (bt a0 0)) = false := decide_eq_false c15
         clear c15
         by_cases c16 : 8 < (a0.size : Int)
         ·rw [if_pos c16] at H
          have c16b0 : decide (8 < (a0.size : Int)) = true := decide_eq_true c16
          have c16b1 : decide (8 < a0.size) = true := decide_eq_true (by omega)
          clear c16
          have H' := Aside0.mk H
          clear H
          have p10 : 0 ≤ (16 : Int) := (by omega)
          have q10 : 16 < a0.size := (by have : (16 : Int) < (a0.size : Int) := od; omega)
          have hx10 : ∀ h : 16 < a0.size, ((a0[16]'h).toNat : Int) = bt a0 16 := bt_at a0 16
          clear p10
          have qi10 : (16 < (a0.size : Int)) = True := eq_true (od)
          replace q10 := eq_true q10
          have p14 : 0 ≤ (0 : Int) := (by omega)
          have q14 : 0 < a0.size := (by have : (0 : Int) < (a0.size : Int) := od; omega)
          have hx14 : ∀ h : 0 < a0.size, ((a0[0]'h).toNat : Int) = bt a0 0 := bt_at a0 0
          clear p14
          have qi14 : (0 < (a0.size : Int)) = True := eq_true (od)
          replace q14 := eq_true q14
          have p17 : 0 ≤ (8 : Int) := (by omega)
          have q17 : 8 < a0.size := (by have : (8 : Int) < (a0.size : Int) := od; omega)
          have hx17 : ∀ h : 8 < a0.size, ((a0[8]'h).toNat : Int) = bt a0 8 := bt_at a0 8
          clear p17
          have qi17 : (8 < (a0.size : Int)) = True := eq_true (od)
          replace q17 := eq_true q17
          go_wp2
          go_meet
          case rel => exact ⟨_, (decide ((bt a0 8) > 127)), ap, H', ⟨by first | omega | exact Nat.le_refl _⟩, ⟨by (with_reducible repeat (first | refine blk_drewN ?_ _ | refine blk_drew ?_ | refine blk_alloc ?_ _)); exact BK137.out⟩, ⟨bo⟩⟩
         ·rw [if_neg c16] at H
          exact absurd H (by simp)
       ·rw [if_neg c13] at H
        exact absurd H (by simp)
    ·rw [if_neg c9] at H
     exact absurd H (by simp)
   case rest =>
    clear HC7
    try clear c1
    try clear p1
    try clear q1
    try clear hx1
    try clear qi1
    try clear c2
    try clear c2b0
    try clear c2b1
    try clear p2
    try clear c5
    try clear c5b0
    try clear c5b1
    try clear c6
    try clear p6
    try clear c9
    try clear c9b0
    try clear c9b1
    try clear p10
    try clear q10
    try clear hx10
    try clear qi10
    try clear c11
    try clear c11b0
    try clear c12
    try clear c12b0
    try clear c13
    try clear c13b0
    try clear c13b1
    try clear p14
    try clear q14
    try clear hx14
    try clear qi14
    try clear c15
    try clear c15b0
    try clear c16
    try clear c16b0
    try clear c16b1
    try clear p17
    try clear q17
    try clear hx17
    try clear qi17
    try clear hcz4_0
    try clear hcz4_1
    try clear hcz4_2
    try clear hcz4_3
    try clear hcz4_4
    try clear hcz4_5
    try clear hfz4_0
    try clear hfz4_1
    try clear hfz4_2
    try clear hfz4_3
    try clear hfz4_4
    try clear hfz4_5
    try clear p10
    try clear p14
    try clear p17
    try clear q10
    try clear q14
    try clear q17
    obtain ⟨kq, x35_6, rfl, HA, HJ6, BK137, HB⟩ := hcut
    cases kq with
    | zero => exact absurd HA.out (by simp [rec_read.j0])
    | succ kj6 =>
     have H := HA.out
     clear HA
     simp only [rec_read.j0] at H
     by_cases c18 : x35_6 = true
     ·subst c18
      have H1 : (some (0, 0, (⟨#[]⟩ : ByteArray), (⟨#[]⟩ : ByteArray), 0, false, false)) = some (r1, r2, r3, r4, r5, r6, r7) := by rw [if_pos rfl] at H; exact H
      clear H
      have H := H1
      clear H1
      simp only [Option.some.injEq, Prod.mk.injEq] at H
      obtain ⟨rfl, rfl, rfl, rfl, rfl, rfl, rfl⟩ := H
      have hcz19_0 : wc.cell? ⟨gb137, 0, none⟩ = some (.int .i64 0) := (blk_cell BK137.out 0).trans rfl
      have hcz19_1 : wc.cell? ⟨gb137, 1, none⟩ = some (.int .i64 0) := (blk_cell BK137.out 1).trans rfl
      have hcz19_2 : wc.cell? ⟨gb137, 2, none⟩ = some (.string (⟨#[]⟩ : ByteArray)) := (blk_cell BK137.out 2).trans rfl
      have hcz19_3 : wc.cell? ⟨gb137, 3, none⟩ = some (.string (⟨#[]⟩ : ByteArray)) := (blk_cell BK137.out 3).trans rfl
      have hcz19_4 : wc.cell? ⟨gb137, 4, none⟩ = some (.int .i64 0) := (blk_cell BK137.out 4).trans rfl
      have hcz19_5 : wc.cell? ⟨gb137, 5, none⟩ = some (.bool false) := (blk_cell BK137.out 5).trans rfl
      have hfz19_0 := blk_frozen BK137.out 0
      have hfz19_1 := blk_frozen BK137.out 1
      have hfz19_2 := blk_frozen BK137.out 2
      have hfz19_3 := blk_frozen BK137.out 3
      have hfz19_4 := blk_frozen BK137.out 4
      have hfz19_5 := blk_frozen BK137.out 5
      go_wp2
      refine bodyPost_ret (results_ct rfl _ _ gb137 25 #[.int .i64 0, .int .i64 0, .string (⟨#[]⟩ : ByteArray), .string (⟨#[]⟩ : ByteArray), .int .i64 0, .bool false] (0, 0) _ rfl (by (with_reducible repeat (first | refine blk_drewN ?_ _ | refine blk_drew ?_ | refine blk_alloc ?_ _)); refine blk_put (cs := #[.int .i64 0, .int .i64 0, .string (⟨#[]⟩ : ByteArray), .string (⟨#[]⟩ : ByteArray), .int .i64 0, .bool false]) ?_ 5 _ rfl; (with_reducible repeat (first | refine blk_drewN ?_ _ | refine blk_drew ?_ | refine blk_alloc ?_ _)); refine blk_put (cs := #[.int .i64 0, .int .i64 0, .string (⟨#[]⟩ : ByteArray), .string (⟨#[]⟩ : ByteArray), .int .i64 0, .bool false]) ?_ 4 _ rfl; (with_reducible repeat (first | refine blk_drewN ?_ _ | refine blk_drew ?_ | refine blk_alloc ?_ _)); refine blk_put (cs := #[.int .i64 0, .int .i64 0, .string (⟨#[]⟩ : ByteArray), .string (⟨#[]⟩ : ByteArray), .int .i64 0, .bool false]) ?_ 3 _ rfl; (with_reducible repeat (first | refine blk_drewN ?_ _ | refine blk_drew ?_ | refine blk_alloc ?_ _)); refine blk_put (cs := #[.int .i64 0, .int .i64 0, .string (⟨#[]⟩ : ByteArray), .string (⟨#[]⟩ : ByteArray), .int .i64 0, .bool false]) ?_ 2 _ rfl; (with_reducible repeat (first | refine blk_drewN ?_ _ | refine blk_drew ?_ | refine blk_alloc ?_ _)); refine blk_put (cs := #[.int .i64 0, .int .i64 0, .string (⟨#[]⟩ : ByteArray), .string (⟨#[]⟩ : ByteArray), .int .i64 0, .bool false]) ?_ 1 _ rfl; (with_reducible repeat (first | refine blk_drewN ?_ _ | refine blk_drew ?_ | refine blk_alloc ?_ _)); refine blk_put (cs := #[.int .i64 0, .int .i64 0, .string (⟨#[]⟩ : ByteArray), .string (⟨#[]⟩ : ByteArray), .int .i64 0, .bool false]) ?_ 0 _ rfl; (with_reducible repeat (first | refine blk_drewN ?_ _ | refine blk_drew ?_ | refine blk_alloc ?_ _)); exact BK137.out) Try.underlying25 rfl (by kernel_rfl)) rfl ?_
      exact ⟨er, bo⟩
     ·replace c18 := Bool.eq_false_iff.mpr c18
      subst c18
      have H1 : ((rec_number.f kj6 a0).bind fun t140 => (if 8 ≤ (a0.size : Int) then ((rec_number.f kj6 (a0.extract 8 a0.size)).bind fun t141 => (if 19 ≤ (wrap64 (19 + t138)) then (if (wrap64 (19 + t138)) ≤ (a0.size : Int) then (if 0 ≤ (wrap64 (19 + t138)) then (if 16 < (a0.size : Int) then ((rec_Check.f kj6 t140 t141 (a0.extract 19 ((wrap64 (19 + t138)) : Int).toNat) (a0.extract ((wrap64 (19 + t138)) : Int).toNat a0.size) (wrap64 (Go.bits .and .u8 (bt a0 16) 3)) (decide ((Go.bits .and .u8 (bt a0 16) 4) > 0))).bind fun t142 => (some (t140, t141, a0.extract 19 ((wrap64 (19 + t138)) : Int).toNat, a0.extract ((wrap64 (19 + t138)) : Int).toNat a0.size, wrap64 (Go.bits .and .u8 (bt a0 16) 3), decide ((Go.bits .and .u8 (bt a0 16) 4) > 0), (t142 == 0)))) else (none)) else (none)) else (none)) else (none))) else (none))) = some (r1, r2, r3, r4, r5, r6, r7) := by rw [if_neg (show ¬ (false = true) by decide)] at H; exact H
      clear H
      have H := H1
      clear H1
      replace H := Option.bind_eq_some_iff.mp H
      obtain ⟨t140, A200, H⟩ := H
      replace H : (if 8 ≤ (a0.size : Int) then ((rec_number.f kj6 (a0.extract 8 a0.size)).bind fun t141 => (if 19 ≤ (wrap64 (19 + t138)) then (if (wrap64 (19 + t138)) ≤ (a0.size : Int) then (if 0 ≤ (wrap64 (19 + t138)) then (if 16 < (a0.size : Int) then ((rec_Check.f kj6 t140 t141 (a0.extract 19 ((wrap64 (19 + t138)) : Int).toNat) (a0.extract ((wrap64 (19 + t138)) : Int).toNat a0.size) (wrap64 (Go.bits .and .u8 (bt a0 16) 3)) (decide ((Go.bits .and .u8 (bt a0 16) 4) > 0))).bind fun t142 => (some (t140, t141, a0.extract 19 ((wrap64 (19 + t138)) : Int).toNat, a0.extract ((wrap64 (19 + t138)) : Int).toNat a0.size, wrap64 (Go.bits .and .u8 (bt a0 16) 3), decide ((Go.bits .and .u8 (bt a0 16) 4) > 0), (t142 == 0)))) else (none)) else (none)) else (none)) else (none))) else (none)) = some (r1, r2, r3, r4, r5, r6, r7) := H
      have A20 := Aside0.mk A200
      clear A200
      by_cases c21 : 8 ≤ (a0.size : Int)
      ·rw [if_pos c21] at H
       have c21b0 := eq_true c21
       have c21b1 : decide (8 ≤ (a0.size : Int)) = true := decide_eq_true c21
       clear c21
       replace H := Option.bind_eq_some_iff.mp H
       obtain ⟨t141, A220, H⟩ := H
       replace H : (if 19 ≤ (wrap64 (19 + t138)) then (if (wrap64 (19 + t138)) ≤ (a0.size : Int) then (if 0 ≤ (wrap64 (19 + t138)) then (if 16 < (a0.size : Int) then ((rec_Check.f kj6 t140 t141 (a0.extract 19 ((wrap64 (19 + t138)) : Int).toNat) (a0.extract ((wrap64 (19 + t138)) : Int).toNat a0.size) (wrap64 (Go.bits .and .u8 (bt a0 16) 3)) (decide ((Go.bits .and .u8 (bt a0 16) 4) > 0))).bind fun t142 => (some (t140, t141, a0.extract 19 ((wrap64 (19 + t138)) : Int).toNat, a0.extract ((wrap64 (19 + t138)) : Int).toNat a0.size, wrap64 (Go.bits .and .u8 (bt a0 16) 3), decide ((Go.bits .and .u8 (bt a0 16) 4) > 0), (t142 == 0)))) else (none)) else (none)) else (none)) else (none)) = some (r1, r2, r3, r4, r5, r6, r7) := H
       have A22 := Aside0.mk A220
       clear A220
       by_cases c23 : 19 ≤ (wrap64 (19 + t138))
       ·rw [if_pos c23] at H
        have c23b0 := eq_true c23
        have c23b1 : decide (19 ≤ (wrap64 (19 + t138))) = true := decide_eq_true c23
        by_cases c24 : (wrap64 (19 + t138)) ≤ (a0.size : Int)
        ·rw [if_pos c24] at H
         have c24b0 := eq_true c24
         have c24b1 : decide ((wrap64 (19 + t138)) ≤ (a0.size : Int)) = true := decide_eq_true c24
         obtain ⟨ji25, hji25⟩ : ∃ j_ : Int, (wrap64 (19 + t138)) = j_ := ⟨_, rfl⟩
         replace H : (if 0 ≤ (ji25) then (if 16 < (a0.size : Int) then ((rec_Check.f kj6 t140 t141 (a0.extract 19 ((ji25) : Int).toNat) (a0.extract ((ji25) : Int).toNat a0.size) (wrap64 (Go.bits .and .u8 (bt a0 16) 3)) (decide ((Go.bits .and .u8 (bt a0 16) 4) > 0))).bind fun t142 => (some (t140, t141, a0.extract 19 ((ji25) : Int).toNat, a0.extract ((ji25) : Int).toNat a0.size, wrap64 (Go.bits .and .u8 (bt a0 16) 3), decide ((Go.bits .and .u8 (bt a0 16) 4) > 0), (t142 == 0)))) else (none)) else (none)) = some (r1, r2, r3, r4, r5, r6, r7) := by first | (rw [hji25] at H; exact H) | (simp only [hji25] at H ⊢; exact H)
         (try rw [hji25] at c23b0)
         (try rw [hji25] at c23b1)
         (try rw [hji25] at c23)
         (try rw [hji25] at c24b0)
         (try rw [hji25] at c24b1)
         (try rw [hji25] at c24)
         (try rw [hji25] at A20)
         (try rw [hji25] at A22)
         have hji25w : (IntKind.i64.wrap (19 + t138)) = ji25 := (i64_w _).trans hji25
         by_cases c26 : 0 ≤ (ji25)
         ·rw [if_pos c26] at H
          have c26b0 := eq_true c26
          have c26b1 : decide (0 ≤ (ji25)) = true := decide_eq_true c26
          clear c26
          have c27b0 := eq_true (od : (ji25) ≤ (a0.size : Int))
          by_cases c28 : 16 < (a0.size : Int)
          ·rw [if_pos c28] at H
           have c28b0 : decide (16 < (a0.size : Int)) = true := decide_eq_true c28
           have c28b1 : decide (16 < a0.size) = true := decide_eq_true (by omega)
           clear c28
           replace H := Option.bind_eq_some_iff.mp H
           obtain ⟨t142, A310, H⟩ := H
           replace H : (some (t140, t141, a0.extract 19 ((ji25) : Int).toNat, a0.extract ((ji25) : Int).toNat a0.size, wrap64 (Go.bits .and .u8 (bt a0 16) 3), decide ((Go.bits .and .u8 (bt a0 16) 4) > 0), (t142 == 0))) = some (r1, r2, r3, r4, r5, r6, r7) := H
           have A31 := Aside0.mk A310
           clear A310
           simp only [Option.some.injEq, Prod.mk.injEq] at H
           obtain ⟨rfl, rfl, rfl, rfl, rfl, rfl, rfl⟩ := H
           try go_wp2
           replace BK137 := Aside0.mk (blk_drew BK137.out)
           replace HB := Aside0.mk (below_drew1 HB.out)
           have p29 : 0 ≤ (16 : Int) := (by omega)
           have q29 : 16 < a0.size := (by have : (16 : Int) < (a0.size : Int) := od; omega)
           have hx29 : ∀ h : 16 < a0.size, ((a0[16]'h).toNat : Int) = bt a0 16 := bt_at a0 16
           clear p29
           have qi29 : (16 < (a0.size : Int)) = True := eq_true (od)
           replace q29 := eq_true q29
           have p30 : 0 ≤ (16 : Int) := (by omega)
           have q30 : 16 < a0.size := (by have : (16 : Int) < (a0.size : Int) := od; omega)
           have hx30 : ∀ h : 16 < a0.size, ((a0[16]'h).toNat : Int) = bt a0 16 := bt_at a0 16
           clear p30
           have qi30 : (16 < (a0.size : Int)) = True := eq_true (od)
           replace q30 := eq_true q30
           refine start_ (n := 23) (S := fun w' => True) (ds := []) #[O,O,O,O,O,O,O,O,O,O,O,O,O,O,O,O,O,O,O,O,O,O,O] (by kernel_rfl) rfl rfl trivial (fun hHeld => ?_); refine with_tabW rec_read.tab6 rec_read.bits6 (fun HT_ HW_ => ?_)
           generalize wc.drew = w32 at BK137 HB hHeld ⊢
           refine pz (i := 0) (N := some 37) #[I,O,O,O,O,O,O,O,O,O,O,O,O,O,O,O,O,O,O,O,O,O,O] ?_
           refine pz (i := 2) (N := some 39) #[I,O,I,O,O,O,O,O,O,O,O,O,O,O,O,O,O,O,O,O,O,O,O] ?_
           refine pz (i := 3) (N := some 40) #[I,O,I,I,O,O,O,O,O,O,O,O,O,O,O,O,O,O,O,O,O,O,O] ?_
           refine pz (i := 5) (N := some 42) #[I,O,I,I,O,I,O,O,O,O,O,O,O,O,O,O,O,O,O,O,O,O,O] ?_
           refine pz (i := 6) (N := some 43) #[I,O,I,I,O,I,I,O,O,O,O,O,O,O,O,O,O,O,O,O,O,O,O] ?_
           refine pz (i := 7) (N := some 44) #[I,O,I,I,O,I,I,I,O,O,O,O,O,O,O,O,O,O,O,O,O,O,O] ?_
           refine pz (i := 8) (N := some 45) #[I,O,I,I,O,I,I,I,I,O,O,O,O,O,O,O,O,O,O,O,O,O,O] ?_
           refine pz (i := 9) (N := some 46) #[I,O,I,I,O,I,I,I,I,I,O,O,O,O,O,O,O,O,O,O,O,O,O] ?_
           refine pz (i := 10) (N := some 47) #[I,O,I,I,O,I,I,I,I,I,I,O,O,O,O,O,O,O,O,O,O,O,O] ?_
           refine pz (i := 11) (N := some 48) #[I,O,I,I,O,I,I,I,I,I,I,I,O,O,O,O,O,O,O,O,O,O,O] ?_
           refine pz (i := 12) (N := some 49) #[I,O,I,I,O,I,I,I,I,I,I,I,I,O,O,O,O,O,O,O,O,O,O] ?_
           refine pz (i := 13) (N := some 50) #[I,O,I,I,O,I,I,I,I,I,I,I,I,I,O,O,O,O,O,O,O,O,O] ?_
           refine pz (i := 17) (N := some 54) #[I,O,I,I,O,I,I,I,I,I,I,I,I,I,O,O,O,I,O,O,O,O,O] ?_
           refine take_ (i := 14) (N := some 51) (v := ?_) (a' := ?_) #[I,O,I,I,O,I,I,I,I,I,I,I,I,I,I,O,O,I,O,O,O,O,O] rfl rfl (take_ofW HT_.out HW_.out (by kernel_rfl)) (fun _ _ _ h => h) (Or.inl ⟨by rfl, ?_⟩) hHeld ?_ ?_
           rotate_left
           ·intro w' _
            go_simp
            with_reducible rfl
           rotate_left
           ·simp only [Act.put, List.setIfInBounds_toArray, List.set_cons_zero, List.set_cons_succ, i64_w, i32_w]
            rfl
           refine pz (i := 15) (N := some 52) #[I,O,I,I,O,I,I,I,I,I,I,I,I,I,I,I,O,I,O,O,O,O,O] ?_
           refine pz (i := 16) (N := some 53) #[I,O,I,I,O,I,I,I,I,I,I,I,I,I,I,I,I,I,O,O,O,O,O] ?_
           refine take_ (i := 18) (N := some 55) (v := ?_) (a' := ?_) #[I,O,I,I,O,I,I,I,I,I,I,I,I,I,I,I,I,I,I,O,O,O,O] rfl rfl (take_ofW HT_.out HW_.out (by kernel_rfl)) (fun _ _ _ h => h) (Or.inl ⟨by rfl, ?_⟩) hHeld ?_ ?_
           rotate_left
           ·intro w' _
            go_simp
            with_reducible rfl
           rotate_left
           ·simp only [Act.put, List.setIfInBounds_toArray, List.set_cons_zero, List.set_cons_succ, i64_w, i32_w]
            rfl
           refine pz (i := 19) (N := some 56) #[I,O,I,I,O,I,I,I,I,I,I,I,I,I,I,I,I,I,I,I,O,O,O] ?_
           refine pz (i := 20) (N := some 57) #[I,O,I,I,O,I,I,I,I,I,I,I,I,I,I,I,I,I,I,I,I,O,O] ?_
           refine one_ (i := 1) (N := some 38) #[I,I,I,I,O,I,I,I,I,I,I,I,I,I,I,I,I,I,I,I,I,O,O] rfl rfl (one_of HT_.out (by kernel_rfl)) (by decide) (fun K hK => ?_)
           refine goes_ Try.func83 (by kernel_rfl) rfl #[.string a0] (by rfl) rfl rfl aa ?_
           with_reducible refine (rec_number.calls kj6 a0 t140 _ A20.out).mono ?_
           rintro e w' ⟨rfl, ⟨nd, rfl⟩⟩
           refine ⟨_, rfl, ?_⟩
           refine hK.out _ _ trivial (fun hHeld => ?_)
           clear hK K
           refine norm_ (a' := ?_) ?_ ?_
           rotate_left
           ·show Act.put _ (some 38) _ = _
            simp only [Act.put, List.setIfInBounds_toArray, List.set_cons_zero, List.set_cons_succ, i64_w, i32_w]
            rfl
           refine one_ (i := 4) (N := some 41) #[I,I,I,I,I,I,I,I,I,I,I,I,I,I,I,I,I,I,I,I,I,O,O] rfl rfl (one_of HT_.out (by kernel_rfl)) (by decide) (fun K hK => ?_)
           refine goes_ Try.func83 (by kernel_rfl) rfl #[.string (a0.extract 8 a0.size)] (by rfl) rfl rfl aa ?_
           with_reducible refine (rec_number.calls kj6 (a0.extract 8 a0.size) t141 _ A22.out).mono ?_
           rintro e w' ⟨rfl, ⟨nd, rfl⟩⟩
           refine ⟨_, rfl, ?_⟩
           refine hK.out _ _ trivial (fun hHeld => ?_)
           clear hK K
           refine norm_ (a' := ?_) ?_ ?_
           rotate_left
           ·show Act.put _ (some 41) _ = _
            simp only [Act.put, List.setIfInBounds_toArray, List.set_cons_zero, List.set_cons_succ, i64_w, i32_w]
            rfl
           refine pz (i := 21) (N := some 58) #[I,I,I,I,I,I,I,I,I,I,I,I,I,I,I,I,I,I,I,I,I,I,O] ?_
           refine one_ (i := 22) (N := none) #[I,I,I,I,I,I,I,I,I,I,I,I,I,I,I,I,I,I,I,I,I,I,I] rfl rfl (one_of HT_.out (by kernel_rfl)) (by decide) (fun K hK => ?_)
           have hs33 : w32.cell? ⟨gb137, 0, none⟩ = some (.int .i64 0) := (blk_cell BK137.out 0).trans rfl
           have hfs33 := blk_frozen BK137.out 0
           have hs34 : w32.cell? ⟨gb137, 1, none⟩ = some (.int .i64 0) := (blk_cell BK137.out 1).trans rfl
           have hfs34 := blk_frozen BK137.out 1
           have hs35 : w32.cell? ⟨gb137, 2, none⟩ = some (.string (⟨#[]⟩ : ByteArray)) := (blk_cell BK137.out 2).trans rfl
           have hfs35 := blk_frozen BK137.out 2
           have hs36 : w32.cell? ⟨gb137, 3, none⟩ = some (.string (⟨#[]⟩ : ByteArray)) := (blk_cell BK137.out 3).trans rfl
           have hfs36 := blk_frozen BK137.out 3
           have hs37 : w32.cell? ⟨gb137, 4, none⟩ = some (.int .i64 0) := (blk_cell BK137.out 4).trans rfl
           have hfs37 := blk_frozen BK137.out 4
           have hs38 : w32.cell? ⟨gb137, 5, none⟩ = some (.bool false) := (blk_cell BK137.out 5).trans rfl
           have hfs38 := blk_frozen BK137.out 5
           refine skip_ (w1 := ?_) (by rfl) rfl ?_ ?_
           rotate_left
           ·go_simp
            rfl
           refine hK.out _ _ trivial (fun hHeld => ?_)
           clear hK K
           refine done_ (done_of HT_.out (by kernel_rfl)) ?_
           try go_wp2
           (try (rw [drewN_self w32]; generalize hq_ : World.drewN w32 _ = w32; have n0_ := Aside0.mk (blk_at hq_ BK137.out); have n1_ := Aside0.mk (below_at hq_ HB.out); clear hq_ BK137 HB; have BK137 := n0_; have HB := n1_; clear n0_ n1_))
           have n0_ : Aside0 (((((((w32.setCell ⟨gb137, 0, none⟩ (.int .i64 t140)).setCell ⟨gb137, 1, none⟩ (.int .i64 t141)).setCell ⟨gb137, 2, none⟩ (.string (a0.extract 19 ((ji25) : Int).toNat))).setCell ⟨gb137, 3, none⟩ (.string (a0.extract ((ji25) : Int).toNat a0.size))).setCell ⟨gb137, 4, none⟩ (.int .i64 (wrap64 (Go.bits .and .u8 (bt a0 16) 3)))).setCell ⟨gb137, 5, none⟩ (.bool (decide ((Go.bits .and .u8 (bt a0 16) 4) > 0)))).heap[gb137]? = some (.cells #[.int .i64 t140, .int .i64 t141, .string (a0.extract 19 ((ji25) : Int).toNat), .string (a0.extract ((ji25) : Int).toNat a0.size), .int .i64 (wrap64 (Go.bits .and .u8 (bt a0 16) 3)), .bool (decide ((Go.bits .and .u8 (bt a0 16) 4) > 0))] 25 (0, 0))) := ⟨by (with_reducible repeat (first | refine blk_drewN ?_ _ | refine blk_drew ?_ | refine blk_alloc ?_ _)); refine blk_put (cs := #[.int .i64 t140, .int .i64 t141, .string (a0.extract 19 ((ji25) : Int).toNat), .string (a0.extract ((ji25) : Int).toNat a0.size), .int .i64 (wrap64 (Go.bits .and .u8 (bt a0 16) 3)), .bool false]) ?_ 5 _ rfl; (with_reducible repeat (first | refine blk_drewN ?_ _ | refine blk_drew ?_ | refine blk_alloc ?_ _)); refine blk_put (cs := #[.int .i64 t140, .int .i64 t141, .string (a0.extract 19 ((ji25) : Int).toNat), .string (a0.extract ((ji25) : Int).toNat a0.size), .int .i64 0, .bool false]) ?_ 4 _ rfl; (with_reducible repeat (first | refine blk_drewN ?_ _ | refine blk_drew ?_ | refine blk_alloc ?_ _)); refine blk_put (cs := #[.int .i64 t140, .int .i64 t141, .string (a0.extract 19 ((ji25) : Int).toNat), .string (⟨#[]⟩ : ByteArray), .int .i64 0, .bool false]) ?_ 3 _ rfl; (with_reducible repeat (first | refine blk_drewN ?_ _ | refine blk_drew ?_ | refine blk_alloc ?_ _)); refine blk_put (cs := #[.int .i64 t140, .int .i64 t141, .string (⟨#[]⟩ : ByteArray), .string (⟨#[]⟩ : ByteArray), .int .i64 0, .bool false]) ?_ 2 _ rfl; (with_reducible repeat (first | refine blk_drewN ?_ _ | refine blk_drew ?_ | refine blk_alloc ?_ _)); refine blk_put (cs := #[.int .i64 t140, .int .i64 0, .string (⟨#[]⟩ : ByteArray), .string (⟨#[]⟩ : ByteArray), .int .i64 0, .bool false]) ?_ 1 _ rfl; (with_reducible repeat (first | refine blk_drewN ?_ _ | refine blk_drew ?_ | refine blk_alloc ?_ _)); refine blk_put (cs := #[.int .i64 0, .int .i64 0, .string (⟨#[]⟩ : ByteArray), .string (⟨#[]⟩ : ByteArray), .int .i64 0, .bool false]) ?_ 0 _ rfl; (with_reducible repeat (first | refine blk_drewN ?_ _ | refine blk_drew ?_ | refine blk_alloc ?_ _)); exact BK137.out⟩
           have n1_ : Aside0 (Below w.heap.size w ((((((w32.setCell ⟨gb137, 0, none⟩ (.int .i64 t140)).setCell ⟨gb137, 1, none⟩ (.int .i64 t141)).setCell ⟨gb137, 2, none⟩ (.string (a0.extract 19 ((ji25) : Int).toNat))).setCell ⟨gb137, 3, none⟩ (.string (a0.extract ((ji25) : Int).toNat a0.size))).setCell ⟨gb137, 4, none⟩ (.int .i64 (wrap64 (Go.bits .and .u8 (bt a0 16) 3)))).setCell ⟨gb137, 5, none⟩ (.bool (decide ((Go.bits .and .u8 (bt a0 16) 4) > 0))))) := ⟨bo⟩
           (try clear BK137)
           (try clear HB)
           generalize ((((((w32.setCell ⟨gb137, 0, none⟩ (.int .i64 t140)).setCell ⟨gb137, 1, none⟩ (.int .i64 t141)).setCell ⟨gb137, 2, none⟩ (.string (a0.extract 19 ((ji25) : Int).toNat))).setCell ⟨gb137, 3, none⟩ (.string (a0.extract ((ji25) : Int).toNat a0.size))).setCell ⟨gb137, 4, none⟩ (.int .i64 (wrap64 (Go.bits .and .u8 (bt a0 16) 3)))).setCell ⟨gb137, 5, none⟩ (.bool (decide ((Go.bits .and .u8 (bt a0 16) 4) > 0)))) = w39 at n0_ n1_ ⊢
           have BK137 := n0_
           have HB := n1_
           clear n0_ n1_
           (try (rw [drewN_self w39]; generalize hq_ : World.drewN w39 _ = w39; have n0_ : Aside0 (w39.heap[gb137]? = some (.cells #[.int .i64 t140, .int .i64 t141, .string (a0.extract 19 ((ji25) : Int).toNat), .string (a0.extract ((ji25) : Int).toNat a0.size), .int .i64 (wrap64 (Go.bits .and .u8 (bt a0 16) 3)), .bool (decide ((Go.bits .and .u8 (bt a0 16) 4) > 0))] 25 (0, 0))) := ⟨by rw [← hq_]; exact (bk BK137.out)⟩; have n1_ : Aside0 (Below w.heap.size w w39) := ⟨by rw [← hq_]; exact bo⟩; clear BK137 HB hq_; have BK137 := n0_; have HB := n1_; clear n0_ n1_))
           replace BK137 := Aside0.mk (blk_drew BK137.out)
           replace HB := Aside0.mk (below_drew1 HB.out)
           refine start_ (n := 6) (S := fun w' => w'.cell? ⟨gb137, 0, none⟩ = some (.int .i64 t140) ∧ w'.cell? ⟨gb137, 1, none⟩ = some (.int .i64 t141) ∧ w'.cell? ⟨gb137, 2, none⟩ = some (.string (a0.extract 19 ((ji25) : Int).toNat)) ∧ w'.cell? ⟨gb137, 3, none⟩ = some (.string (a0.extract ((ji25) : Int).toNat a0.size)) ∧ w'.cell? ⟨gb137, 4, none⟩ = some (.int .i64 (wrap64 (Go.bits .and .u8 (bt a0 16) 3))) ∧ w'.cell? ⟨gb137, 5, none⟩ = some (.bool (decide ((Go.bits .and .u8 (bt a0 16) 4) > 0)))) (ds := [4]) #[O,O,O,O,O,O] (by kernel_rfl) rfl rfl ⟨(blk_cell BK137.out 0).trans rfl, (blk_cell BK137.out 1).trans rfl, (blk_cell BK137.out 2).trans rfl, (blk_cell BK137.out 3).trans rfl, (blk_cell BK137.out 4).trans rfl, (blk_cell BK137.out 5).trans rfl⟩ (fun hHeld => ?_)
           generalize w39.drew = w40 at BK137 HB hHeld ⊢
           refine take_ (i := 0) (N := some 59) (v := ?_) (a' := ?_) #[I,O,O,O,O,O] rfl rfl (by kernel_rfl) (fun _ _ _ h => h) (Or.inl ⟨by rfl, ?_⟩) hHeld ?_ ?_
           rotate_left
           ·rintro w' ⟨s0, s1, s2, s3, s4, s5⟩
            go_simp
            with_reducible rfl
           rotate_left
           ·simp only [Act.put, List.setIfInBounds_toArray, List.set_cons_zero, List.set_cons_succ, i64_w, i32_w]
            rfl
           refine take_ (i := 1) (N := some 60) (v := ?_) (a' := ?_) #[I,I,O,O,O,O] rfl rfl (by kernel_rfl) (fun _ _ _ h => h) (Or.inl ⟨by rfl, ?_⟩) hHeld ?_ ?_
           rotate_left
           ·rintro w' ⟨s0, s1, s2, s3, s4, s5⟩
            go_simp
            with_reducible rfl
           rotate_left
           ·simp only [Act.put, List.setIfInBounds_toArray, List.set_cons_zero, List.set_cons_succ, i64_w, i32_w]
            rfl
           refine one_ (i := 2) (N := some 61) #[I,I,I,O,O,O] rfl rfl (by kernel_rfl) (by decide) (fun K hK => ?_)
           refine goes_ Try.func22 (by kernel_rfl) rfl #[.agg #[.int .i64 t140, .int .i64 t141, .string (a0.extract 19 ((ji25) : Int).toNat), .string (a0.extract ((ji25) : Int).toNat a0.size), .int .i64 (wrap64 (Go.bits .and .u8 (bt a0 16) 3)), .bool (decide ((Go.bits .and .u8 (bt a0 16) 4) > 0))]] (by rfl) rfl rfl (by (try simp only [List.map_toArray, List.map_cons, List.map_nil]); first | done | (simp only [hji25]; rfl) | rfl | (simp only [List.length_drop, List.length_take]; rfl) | (simp only [ByteArray.size_append]; rfl) | (simp; done)) ?_
           with_reducible refine (rec_Check.calls kj6 t140 t141 (a0.extract 19 ((ji25) : Int).toNat) (a0.extract ((ji25) : Int).toNat a0.size) (wrap64 (Go.bits .and .u8 (bt a0 16) 3)) (decide ((Go.bits .and .u8 (bt a0 16) 4) > 0)) t142 _ A31.out).mono ?_
           rintro e w41 ⟨rfl, hb⟩
           refine ⟨_, rfl, ?_⟩
           replace BK137 := Aside0.mk (blk_below (g := gb137) (o := .cells #[.int .i64 t140, .int .i64 t141, .string (a0.extract 19 ((ji25) : Int).toNat), .string (a0.extract ((ji25) : Int).toNat a0.size), .int .i64 (wrap64 (Go.bits .and .u8 (bt a0 16) 3)), .bool (decide ((Go.bits .and .u8 (bt a0 16) 4) > 0))] 25 (0, 0)) (bk BK137.out) hb)
           replace HB := Aside0.mk (below_step bo hb)
           (try clear hb)
           (try clear hb2)
           (try clear hk)
           (try clear hi)
           refine hK.out _ _ ⟨(blk_cell BK137.out 0).trans rfl, (blk_cell BK137.out 1).trans rfl, (blk_cell BK137.out 2).trans rfl, (blk_cell BK137.out 3).trans rfl, (blk_cell BK137.out 4).trans rfl, (blk_cell BK137.out 5).trans rfl⟩ (fun hHeld => ?_)
           clear hK K
           refine norm_ (a' := ?_) ?_ ?_
           rotate_left
           ·show Act.put _ (some 61) _ = _
            simp only [Act.put, List.setIfInBounds_toArray, List.set_cons_zero, List.set_cons_succ, i64_w, i32_w]
            rfl
           refine pure_ (i := 3) (N := some 62) (v := ?_) (a' := ?_) #[I,I,I,I,O,O] rfl rfl (by kernel_rfl) (fun _ _ _ h => h) (Or.inl ⟨by rfl, ?_⟩) ?_ ?_
           rotate_left
           ·intro w'
            go_simp
            with_reducible rfl
           rotate_left
           ·simp only [Act.put, List.setIfInBounds_toArray, List.set_cons_zero, List.set_cons_succ, i64_w, i32_w]
            rfl
           refine last_ (i := 4) (N := none) #[I,I,I,I,I,O] rfl rfl (by kernel_rfl) (by decide) (fun K hK => ?_)
           have hs42 : w41.cell? ⟨gb137, 0, none⟩ = some (.int .i64 t140) := (blk_cell BK137.out 0).trans rfl
           have hfs42 := blk_frozen BK137.out 0
           have hs43 : w41.cell? ⟨gb137, 1, none⟩ = some (.int .i64 t141) := (blk_cell BK137.out 1).trans rfl
           have hfs43 := blk_frozen BK137.out 1
           have hs44 : w41.cell? ⟨gb137, 2, none⟩ = some (.string (a0.extract 19 ((ji25) : Int).toNat)) := (blk_cell BK137.out 2).trans rfl
           have hfs44 := blk_frozen BK137.out 2
           have hs45 : w41.cell? ⟨gb137, 3, none⟩ = some (.string (a0.extract ((ji25) : Int).toNat a0.size)) := (blk_cell BK137.out 3).trans rfl
           have hfs45 := blk_frozen BK137.out 3
           have hs46 : w41.cell? ⟨gb137, 4, none⟩ = some (.int .i64 (wrap64 (Go.bits .and .u8 (bt a0 16) 3))) := (blk_cell BK137.out 4).trans rfl
           have hfs46 := blk_frozen BK137.out 4
           have hs47 : w41.cell? ⟨gb137, 5, none⟩ = some (.bool (decide ((Go.bits .and .u8 (bt a0 16) 4) > 0))) := (blk_cell BK137.out 5).trans rfl
           have hfs47 := blk_frozen BK137.out 5
           refine skip_ (w1 := ?_) (by rfl) rfl ?_ ?_
           rotate_left
           ·go_simp
            rfl
           refine hK.out _ _ ?_
           clear hK K
           refine pure_ (i := 5) (N := some 3) (v := ?_) (a' := ?_) #[I,I,I,I,I,I] rfl rfl (by kernel_rfl) (fun _ _ _ h => h) (Or.inl ⟨by rfl, ?_⟩) ?_ ?_
           rotate_left
           ·intro w'
            go_simp
            with_reducible rfl
           rotate_left
           ·simp only [Act.put, List.setIfInBounds_toArray, List.set_cons_zero, List.set_cons_succ, i64_w, i32_w]
            rfl
           refine done_ (by kernel_rfl) ?_
           try go_wp2
           refine bodyPost_ret (results_ct rfl _ _ gb137 25 #[.int .i64 t140, .int .i64 t141, .string (a0.extract 19 ((ji25) : Int).toNat), .string (a0.extract ((ji25) : Int).toNat a0.size), .int .i64 (wrap64 (Go.bits .and .u8 (bt a0 16) 3)), .bool (decide ((Go.bits .and .u8 (bt a0 16) 4) > 0))] (0, 0) _ rfl (by (with_reducible repeat (first | refine blk_drewN ?_ _ | refine blk_drew ?_ | refine blk_alloc ?_ _)); refine blk_put (cs := #[.int .i64 t140, .int .i64 t141, .string (a0.extract 19 ((ji25) : Int).toNat), .string (a0.extract ((ji25) : Int).toNat a0.size), .int .i64 (wrap64 (Go.bits .and .u8 (bt a0 16) 3)), .bool (decide ((Go.bits .and .u8 (bt a0 16) 4) > 0))]) ?_ 5 _ rfl; (with_reducible repeat (first | refine blk_drewN ?_ _ | refine blk_drew ?_ | refine blk_alloc ?_ _)); refine blk_put (cs := #[.int .i64 t140, .int .i64 t141, .string (a0.extract 19 ((ji25) : Int).toNat), .string (a0.extract ((ji25) : Int).toNat a0.size), .int .i64 (wrap64 (Go.bits .and .u8 (bt a0 16) 3)), .bool (decide ((Go.bits .and .u8 (bt a0 16) 4) > 0))]) ?_ 4 _ rfl; (with_reducible repeat (first | refine blk_drewN ?_ _ | refine blk_drew ?_ | refine blk_alloc ?_ _)); refine blk_put (cs := #[.int .i64 t140, .int .i64 t141, .string (a0.extract 19 ((ji25) : Int).toNat), .string (a0.extract ((ji25) : Int).toNat a0.size), .int .i64 (wrap64 (Go.bits .and .u8 (bt a0 16) 3)), .bool (decide ((Go.bits .and .u8 (bt a0 16) 4) > 0))]) ?_ 3 _ rfl; (with_reducible repeat (first | refine blk_drewN ?_ _ | refine blk_drew ?_ | refine blk_alloc ?_ _)); refine blk_put (cs := #[.int .i64 t140, .int .i64 t141, .string (a0.extract 19 ((ji25) : Int).toNat), .string (a0.extract ((ji25) : Int).toNat a0.size), .int .i64 (wrap64 (Go.bits .and .u8 (bt a0 16) 3)), .bool (decide ((Go.bits .and .u8 (bt a0 16) 4) > 0))]) ?_ 2 _ rfl; (with_reducible repeat (first | refine blk_drewN ?_ _ | refine blk_drew ?_ | refine blk_alloc ?_ _)); refine blk_put (cs := #[.int .i64 t140, .int .i64 t141, .string (a0.extract 19 ((ji25) : Int).toNat), .string (a0.extract ((ji25) : Int).toNat a0.size), .int .i64 (wrap64 (Go.bits .and .u8 (bt a0 16) 3)), .bool (decide ((Go.bits .and .u8 (bt a0 16) 4) > 0))]) ?_ 1 _ rfl; (with_reducible repeat (first | refine blk_drewN ?_ _ | refine blk_drew ?_ | refine blk_alloc ?_ _)); refine blk_put (cs := #[.int .i64 t140, .int .i64 t141, .string (a0.extract 19 ((ji25) : Int).toNat), .string (a0.extract ((ji25) : Int).toNat a0.size), .int .i64 (wrap64 (Go.bits .and .u8 (bt a0 16) 3)), .bool (decide ((Go.bits .and .u8 (bt a0 16) 4) > 0))]) ?_ 0 _ rfl; (with_reducible repeat (first | refine blk_drewN ?_ _ | refine blk_drew ?_ | refine blk_alloc ?_ _)); exact BK137.out) Try.underlying25 rfl (by kernel_rfl)) rfl ?_
           exact ⟨by first | rfl | (simp [errW_none, errW_some] <;> rfl) | (simp only [← hji25]; first | rfl | (simp [errW_none, errW_some] <;> rfl)) | (simp [*, errW_none, errW_some] <;> rfl), bo⟩
          ·rw [if_neg c28] at H
           exact absurd H (by simp)
         ·rw [if_neg c26] at H
          exact absurd H (by simp)
        ·rw [if_neg c24] at H
         exact absurd H (by simp)
       ·rw [if_neg c23] at H
        exact absurd H (by simp)
      ·rw [if_neg c21] at H
       exact absurd H (by simp)
  ·rw [if_neg c5] at H
   exact absurd H (by simp)

end Go.Proofs.Ytmabdfdmccbfnaa.P

-- written by a program of the proving session, out of the translation; Lean checks it
namespace Go.Proofs.Ytmabdfdmccbfnaa.P
open Go.RowKit Go.Proofs.Ytmabdfdmccbfnaa.Sq Go.Proofs.YtmabdfdmccbfnaaW.PrintWords Go.Proofs.YtmabdfdmccbfnaaW.PrintLast Go.Proofs.YtmabdfdmccbfnaaW.PrintMore
attribute [local go_sem] max2_int min2_int max_two min_two max_three min_three max_four min_four   -- for this text's walks alone
set_option linter.unusedVariables false
set_option linter.unusedSimpArgs false

/-! ### rec_Take: function 16 -/
def rec_Take.j0 : Nat → ByteArray → Int → Bool → Int → Int → ByteArray → ByteArray → Int → Bool → Option (Int × Int × ByteArray × ByteArray × Int × Bool × Int × Int)
 | 0, _, _, _, _, _, _, _, _, _ => none
 | k + 1, x0, x5, x25, x144000, x144001, x144002, x144003, x144004, x144005 => if x25 = true then (some (x144000, x144001, x144002, x144003, x144004, x144005, 0, 7)) else (if 2 ≤ (x0.size : Int) then ((vbi_TakeFour.f k (x0.extract 2 x0.size)).bind fun bt146 => (if 6 ≤ (wrap64 (6 + x5)) then (if (wrap64 (6 + x5)) ≤ (x0.size : Int) then ((rec_read.f k (x0.extract 6 ((wrap64 (6 + x5)) : Int).toNat)).bind fun bt148 => (if bt148.2.2.2.2.2.2 = true then (if 0 ≤ 2 then ((sum_Sum.f k 0 (x0.extract 0 2)).bind fun t155 => ((sum_Sum.f k t155 (x0.extract 6 ((wrap64 (6 + x5)) : Int).toNat)).bind fun t156 => (if (wrap64 (t156)) = bt146.1 then (some (bt148.1, bt148.2.1, bt148.2.2.1, bt148.2.2.2.1, bt148.2.2.2.2.1, bt148.2.2.2.2.2.1, wrap64 (6 + x5), 0)) else (some (0, 0, (⟨#[]⟩ : ByteArray), (⟨#[]⟩ : ByteArray), 0, false, 0, 8))))) else (none)) else (some (0, 0, (⟨#[]⟩ : ByteArray), (⟨#[]⟩ : ByteArray), 0, false, 0, 8)))) else (none)) else (none))) else (none))
def rec_Take.f (k : Nat) (a0 : ByteArray) : Option (Int × Int × ByteArray × ByteArray × Int × Bool × Int × Int) := (vbi_TakeTwo.f k a0).bind fun bt144 => (if (a0.size : Int) < 6 then (rec_Take.j0 k a0 bt144.1 true 0 0 (⟨#[]⟩ : ByteArray) (⟨#[]⟩ : ByteArray) 0 false) else (rec_Take.j0 k a0 bt144.1 (decide ((wrap64 ((a0.size : Int) - 6)) < bt144.1)) 0 0 (⟨#[]⟩ : ByteArray) (⟨#[]⟩ : ByteArray) 0 false))
theorem rec_Take.mono_l : ∀ k, (∀ y0 y1 y2 y3 y4 y5 y6 y7 y8, LeO (rec_Take.j0 k y0 y1 y2 y3 y4 y5 y6 y7 y8) (rec_Take.j0 (k + 1) y0 y1 y2 y3 y4 y5 y6 y7 y8))
 | 0 => fun _ _ _ _ _ _ _ _ _ r h => by simp [rec_Take.j0] at h
 | k + 1 => by
  have ih0 := rec_Take.mono_l k
  ·intro y0 y1 y2 y3 y4 y5 y6 y7 y8
   unfold rec_Take.j0
   repeat' first
   | (with_reducible exact ih0 _ _ _ _ _ _ _ _ _)
   | (with_reducible exact rec_read.mono _ _)
   | (with_reducible exact sum_Sum.mono _ _ _)
   | (with_reducible exact vbi_TakeFour.mono _ _)
   | (with_reducible exact vbi_TakeTwo.mono _ _)
   | (with_reducible exact LeO.refl _)
   | (with_reducible exact LeO.none _)
   | (with_reducible refine LeO.ite ?_ ?_)
   | (with_reducible refine LeO.bind ?_ (fun _ => ?_))
   | exact ih0 _ _ _ _ _ _ _ _ _
   | exact rec_read.mono _ _
   | exact sum_Sum.mono _ _ _
   | exact vbi_TakeFour.mono _ _
   | exact vbi_TakeTwo.mono _ _
   | exact LeO.none _
   | refine LeO.ite ?_ ?_
   | refine LeO.bind ?_ (fun _ => ?_)
theorem rec_Take.mono : ∀ a0 k, LeO (rec_Take.f k a0) (rec_Take.f (k + 1) a0) := by
 intro a0 k
 have ih0 := rec_Take.mono_l k
 unfold rec_Take.f
 repeat' first
  | (with_reducible exact ih0 _ _ _ _ _ _ _ _ _)
  | (with_reducible exact rec_read.mono _ _)
  | (with_reducible exact sum_Sum.mono _ _ _)
  | (with_reducible exact vbi_TakeFour.mono _ _)
  | (with_reducible exact vbi_TakeTwo.mono _ _)
  | (with_reducible exact LeO.refl _)
  | (with_reducible exact LeO.none _)
  | (with_reducible refine LeO.ite ?_ ?_)
  | (with_reducible refine LeO.bind ?_ (fun _ => ?_))
  | exact ih0 _ _ _ _ _ _ _ _ _
  | exact rec_read.mono _ _
  | exact sum_Sum.mono _ _ _
  | exact vbi_TakeFour.mono _ _
  | exact vbi_TakeTwo.mono _ _
  | exact LeO.none _
  | refine LeO.ite ?_ ?_
  | refine LeO.bind ?_ (fun _ => ?_)
set_option maxHeartbeats 8000000 in
set_option maxRecDepth 100000 in
theorem rec_Take.calls (k : Nat) (a0 : ByteArray) (r1 : Int) (r2 : Int) (r3 : ByteArray) (r4 : ByteArray) (r5 : Int) (r6 : Bool) (r7 : Int) (r8 : Int) (w : World) (h : rec_Take.f k a0 = some (r1, r2, r3, r4, r5, r6, r7, r8)) :
 Calls Try.prog 16 #[.string a0] w fun e w' => e = .returned (.tuple #[.agg #[.int .i64 r1, .int .i64 r2, .string r3, .string r4, .int .i64 r5, .bool r6], .int .i64 r7, .int .i64 r8]) ∧ Below w.heap.size w w' := by
 have hu25 := Try.underlying25
 have HB := Aside0.mk (Below.refl w.heap.size w)
 have H : ((vbi_TakeTwo.f k a0).bind fun bt144 => (if (a0.size : Int) < 6 then (rec_Take.j0 k a0 bt144.1 true 0 0 (⟨#[]⟩ : ByteArray) (⟨#[]⟩ : ByteArray) 0 false) else (rec_Take.j0 k a0 bt144.1 (decide ((wrap64 ((a0.size : Int) - 6)) < bt144.1)) 0 0 (⟨#[]⟩ : ByteArray) (⟨#[]⟩ : ByteArray) 0 false))) = some (r1, r2, r3, r4, r5, r6, r7, r8) := h
 clear h
 replace H := Option.bind_eq_some_iff.mp H
 obtain ⟨⟨t144, t145⟩, A20, H⟩ := H
 replace H : (if (a0.size : Int) < 6 then (rec_Take.j0 k a0 t144 true 0 0 (⟨#[]⟩ : ByteArray) (⟨#[]⟩ : ByteArray) 0 false) else (rec_Take.j0 k a0 t144 (decide ((wrap64 ((a0.size : Int) - 6)) < t144)) 0 0 (⟨#[]⟩ : ByteArray) (⟨#[]⟩ : ByteArray) 0 false)) = some (r1, r2, r3, r4, r5, r6, r7, r8) := H
 have A2 := Aside0.mk A20
 clear A20
 have HC3 := Aside0.mk H
 clear H
 go_enter Try.func16, Try.ntmps16
 go_upto_region 2 with (first | ((with_reducible refine gate_dst (N := 2) rfl ?_); (try (refine gate_guard (by rfl) ?_; dsimp only)); refine box_event ?hg (N := 2) ?hd (cs := #[.int .i64 0, .int .i64 0, .string (⟨#[]⟩ : ByteArray), .string (⟨#[]⟩ : ByteArray), .int .i64 0, .bool false]) (t := 25) ?hr ?_; (case hd => rfl); (case hg => rfl); (case hr => first | (go_simp; done) | (go_simp; rfl)); intro gb143 hg w4 hbox hb; have BK143 := Aside0.mk (hbox); have GW143 := Aside0.mk ((by rw [hg]; exact (below_size bo) : w.heap.size ≤ gb143)); have GE143 := Aside0.mk ((by rw [hg]; exact (below_size bo) : w.heap.size ≤ gb143)); replace HB := Aside0.mk (below_step bo hb); clear hb hbox hg) | (go_at_call 64; (with_reducible refine (vbi_TakeTwo.calls k a0 t144 t145 _ A2.out).mono ?_); rintro e w' ⟨rfl, ⟨nd, rfl⟩⟩; (try first | exact ⟨rfl, _, World.drewN_drewN _ _ _⟩ | exact ⟨rfl, _, Eq.trans (World.drewN_drewN _ _ _) (congrArg (World.drewN _) (Nat.add_assoc _ _ _))⟩)))
 repeat (go_quiet (first | ((with_reducible refine gate_dst (N := 2) rfl ?_); (try (refine gate_guard (by rfl) ?_; dsimp only)); refine box_event ?hg (N := 2) ?hd (cs := #[.int .i64 0, .int .i64 0, .string (⟨#[]⟩ : ByteArray), .string (⟨#[]⟩ : ByteArray), .int .i64 0, .bool false]) (t := 25) ?hr ?_; (case hd => rfl); (case hg => rfl); (case hr => first | (go_simp; done) | (go_simp; rfl)); intro gb143 hg w4 hbox hb; have BK143 := Aside0.mk (hbox); have GW143 := Aside0.mk ((by rw [hg]; exact (below_size bo) : w.heap.size ≤ gb143)); have GE143 := Aside0.mk ((by rw [hg]; exact (below_size bo) : w.heap.size ≤ gb143)); replace HB := Aside0.mk (below_step bo hb); clear hb hbox hg) | (go_at_call 64; (with_reducible refine (vbi_TakeTwo.calls k a0 t144 t145 _ A2.out).mono ?_); rintro e w' ⟨rfl, ⟨nd, rfl⟩⟩; (try first | exact ⟨rfl, _, World.drewN_drewN _ _ _⟩ | exact ⟨rfl, _, Eq.trans (World.drewN_drewN _ _ _) (congrArg (World.drewN _) (Nat.add_assoc _ _ _))⟩))); go_upto_region 2 with (first | ((with_reducible refine gate_dst (N := 2) rfl ?_); (try (refine gate_guard (by rfl) ?_; dsimp only)); refine box_event ?hg (N := 2) ?hd (cs := #[.int .i64 0, .int .i64 0, .string (⟨#[]⟩ : ByteArray), .string (⟨#[]⟩ : ByteArray), .int .i64 0, .bool false]) (t := 25) ?hr ?_; (case hd => rfl); (case hg => rfl); (case hr => first | (go_simp; done) | (go_simp; rfl)); intro gb143 hg w4 hbox hb; have BK143 := Aside0.mk (hbox); have GW143 := Aside0.mk ((by rw [hg]; exact (below_size bo) : w.heap.size ≤ gb143)); have GE143 := Aside0.mk ((by rw [hg]; exact (below_size bo) : w.heap.size ≤ gb143)); replace HB := Aside0.mk (below_step bo hb); clear hb hbox hg) | (go_at_call 64; (with_reducible refine (vbi_TakeTwo.calls k a0 t144 t145 _ A2.out).mono ?_); rintro e w' ⟨rfl, ⟨nd, rfl⟩⟩; (try first | exact ⟨rfl, _, World.drewN_drewN _ _ _⟩ | exact ⟨rfl, _, Eq.trans (World.drewN_drewN _ _ _) (congrArg (World.drewN _) (Nat.add_assoc _ _ _))⟩))))
 (try simp only [Act.put, List.setIfInBounds_toArray, List.set_cons_zero, List.set_cons_succ])
 go_cut [25] (fun v25 wc => ∃ (kq : Nat) (x25_2 : Bool), v25 = .bool x25_2 ∧ Aside0 (rec_Take.j0 kq a0 t144 x25_2 0 0 (⟨#[]⟩ : ByteArray) (⟨#[]⟩ : ByteArray) 0 false = some (r1, r2, r3, r4, r5, r6, r7, r8)) ∧ Aside0 (kq ≤ k) ∧ Aside0 (wc.heap[gb143]? = some (.cells #[.int .i64 0, .int .i64 0, .string (⟨#[]⟩ : ByteArray), .string (⟨#[]⟩ : ByteArray), .int .i64 0, .bool false] 25 (0, 0))) ∧ Aside0 (Below w.heap.size w wc))
 case first =>
  have H := HC3.out
  clear HC3
  by_cases c5 : (a0.size : Int) < 6
  ·rw [if_pos c5] at H
   have c5b0 : decide ((a0.size : Int) < 6) = true := decide_eq_true c5
   have c5b1 : decide (a0.size < 6) = true := decide_eq_true (by omega)
   clear c5
   (first | rw [c5b0] | (simp only [i64_w, i32_w]; rw [c5b0]) | skip)
   have H' := Aside0.mk H
   clear H
   go_wp2
   repeat (go_quiet (fail); try go_wp2)
   go_meet
   case rel => exact ⟨_, (true), ap, H', ⟨by first | omega | exact Nat.le_refl _⟩, ⟨by (with_reducible repeat (first | refine blk_drewN ?_ _ | refine blk_drew ?_ | refine blk_alloc ?_ _)); exact BK143.out⟩, ⟨bo⟩⟩
  ·rw [if_neg c5] at H
   have c5b0 : decide ((a0.size : Int) < 6) = false := decide_eq_false c5
   have c5b1 : decide (a0.size < 6) = false := decide_eq_false (by omega)
   clear c5
   (first | rw [c5b0] | (simp only [i64_w, i32_w]; rw [c5b0]) | skip)
   have H' := Aside0.mk H
   clear H
   go_wp2
   repeat (go_quiet (fail); try go_wp2)
   go_meet
   case rel => exact ⟨_, (decide ((wrap64 ((a0.size : Int) - 6)) < t144)), ap, H', ⟨by first | omega | exact Nat.le_refl _⟩, ⟨by (with_reducible repeat (first | refine blk_drewN ?_ _ | refine blk_drew ?_ | refine blk_alloc ?_ _)); exact BK143.out⟩, ⟨bo⟩⟩
 case rest =>
  clear HC3
  try clear c1
  try clear p2
  try clear c5
  try clear c5b0
  try clear c5b1
  obtain ⟨kq, x25_2, rfl, HA, HJ2, BK143, HB⟩ := hcut
  cases kq with
  | zero => exact absurd HA.out (by simp [rec_Take.j0])
  | succ kj2 =>
   have H := HA.out
   clear HA
   simp only [rec_Take.j0] at H
   by_cases c6 : x25_2 = true
   ·subst c6
    have H1 : (some (0, 0, (⟨#[]⟩ : ByteArray), (⟨#[]⟩ : ByteArray), 0, false, 0, 7)) = some (r1, r2, r3, r4, r5, r6, r7, r8) := by rw [if_pos rfl] at H; exact H
    clear H
    have H := H1
    clear H1
    simp only [Option.some.injEq, Prod.mk.injEq] at H
    obtain ⟨rfl, rfl, rfl, rfl, rfl, rfl, rfl, rfl⟩ := H
    have hcz7_0 : wc.cell? ⟨gb143, 0, none⟩ = some (.int .i64 0) := (blk_cell BK143.out 0).trans rfl
    have hcz7_1 : wc.cell? ⟨gb143, 1, none⟩ = some (.int .i64 0) := (blk_cell BK143.out 1).trans rfl
    have hcz7_2 : wc.cell? ⟨gb143, 2, none⟩ = some (.string (⟨#[]⟩ : ByteArray)) := (blk_cell BK143.out 2).trans rfl
    have hcz7_3 : wc.cell? ⟨gb143, 3, none⟩ = some (.string (⟨#[]⟩ : ByteArray)) := (blk_cell BK143.out 3).trans rfl
    have hcz7_4 : wc.cell? ⟨gb143, 4, none⟩ = some (.int .i64 0) := (blk_cell BK143.out 4).trans rfl
    have hcz7_5 : wc.cell? ⟨gb143, 5, none⟩ = some (.bool false) := (blk_cell BK143.out 5).trans rfl
    have hfz7_0 := blk_frozen BK143.out 0
    have hfz7_1 := blk_frozen BK143.out 1
    have hfz7_2 := blk_frozen BK143.out 2
    have hfz7_3 := blk_frozen BK143.out 3
    have hfz7_4 := blk_frozen BK143.out 4
    have hfz7_5 := blk_frozen BK143.out 5
    go_wp2
    repeat (go_quiet (fail); try go_wp2)
    refine bodyPost_ret (results_ctt rfl _ _ gb143 25 #[.int .i64 0, .int .i64 0, .string (⟨#[]⟩ : ByteArray), .string (⟨#[]⟩ : ByteArray), .int .i64 0, .bool false] (0, 0) _ rfl (by (with_reducible repeat (first | refine blk_drewN ?_ _ | refine blk_drew ?_ | refine blk_alloc ?_ _)); refine blk_put (cs := #[.int .i64 0, .int .i64 0, .string (⟨#[]⟩ : ByteArray), .string (⟨#[]⟩ : ByteArray), .int .i64 0, .bool false]) ?_ 5 _ rfl; (with_reducible repeat (first | refine blk_drewN ?_ _ | refine blk_drew ?_ | refine blk_alloc ?_ _)); refine blk_put (cs := #[.int .i64 0, .int .i64 0, .string (⟨#[]⟩ : ByteArray), .string (⟨#[]⟩ : ByteArray), .int .i64 0, .bool false]) ?_ 4 _ rfl; (with_reducible repeat (first | refine blk_drewN ?_ _ | refine blk_drew ?_ | refine blk_alloc ?_ _)); refine blk_put (cs := #[.int .i64 0, .int .i64 0, .string (⟨#[]⟩ : ByteArray), .string (⟨#[]⟩ : ByteArray), .int .i64 0, .bool false]) ?_ 3 _ rfl; (with_reducible repeat (first | refine blk_drewN ?_ _ | refine blk_drew ?_ | refine blk_alloc ?_ _)); refine blk_put (cs := #[.int .i64 0, .int .i64 0, .string (⟨#[]⟩ : ByteArray), .string (⟨#[]⟩ : ByteArray), .int .i64 0, .bool false]) ?_ 2 _ rfl; (with_reducible repeat (first | refine blk_drewN ?_ _ | refine blk_drew ?_ | refine blk_alloc ?_ _)); refine blk_put (cs := #[.int .i64 0, .int .i64 0, .string (⟨#[]⟩ : ByteArray), .string (⟨#[]⟩ : ByteArray), .int .i64 0, .bool false]) ?_ 1 _ rfl; (with_reducible repeat (first | refine blk_drewN ?_ _ | refine blk_drew ?_ | refine blk_alloc ?_ _)); refine blk_put (cs := #[.int .i64 0, .int .i64 0, .string (⟨#[]⟩ : ByteArray), .string (⟨#[]⟩ : ByteArray), .int .i64 0, .bool false]) ?_ 0 _ rfl; (with_reducible repeat (first | refine blk_drewN ?_ _ | refine blk_drew ?_ | refine blk_alloc ?_ _)); exact BK143.out) Try.underlying25 rfl (by kernel_rfl)) rfl ?_
    exact ⟨er, bo⟩
   ·replace c6 := Bool.eq_false_iff.mpr c6
    subst c6
    have H1 : (if 2 ≤ (a0.size : Int) then ((vbi_TakeFour.f kj2 (a0.extract 2 a0.size)).bind fun bt146 => (if 6 ≤ (wrap64 (6 + t144)) then (if (wrap64 (6 + t144)) ≤ (a0.size : Int) then ((rec_read.f kj2 (a0.extract 6 ((wrap64 (6 + t144)) : Int).toNat)).bind fun bt148 => (if bt148.2.2.2.2.2.2 = true then (if 0 ≤ 2 then ((sum_Sum.f kj2 0 (a0.extract 0 2)).bind fun t155 => ((sum_Sum.f kj2 t155 (a0.extract 6 ((wrap64 (6 + t144)) : Int).toNat)).bind fun t156 => (if (wrap64 (t156)) = bt146.1 then (some (bt148.1, bt148.2.1, bt148.2.2.1, bt148.2.2.2.1, bt148.2.2.2.2.1, bt148.2.2.2.2.2.1, wrap64 (6 + t144), 0)) else (some (0, 0, (⟨#[]⟩ : ByteArray), (⟨#[]⟩ : ByteArray), 0, false, 0, 8))))) else (none)) else (some (0, 0, (⟨#[]⟩ : ByteArray), (⟨#[]⟩ : ByteArray), 0, false, 0, 8)))) else (none)) else (none))) else (none)) = some (r1, r2, r3, r4, r5, r6, r7, r8) := by rw [if_neg (show ¬ (false = true) by decide)] at H; exact H
    clear H
    have H := H1
    clear H1
    by_cases c8 : 2 ≤ (a0.size : Int)
    ·rw [if_pos c8] at H
     have c8b0 := eq_true c8
     have c8b1 : decide (2 ≤ (a0.size : Int)) = true := decide_eq_true c8
     clear c8
     replace H := Option.bind_eq_some_iff.mp H
     obtain ⟨⟨t146, t147⟩, A90, H⟩ := H
     replace H : (if 6 ≤ (wrap64 (6 + t144)) then (if (wrap64 (6 + t144)) ≤ (a0.size : Int) then ((rec_read.f kj2 (a0.extract 6 ((wrap64 (6 + t144)) : Int).toNat)).bind fun bt148 => (if bt148.2.2.2.2.2.2 = true then (if 0 ≤ 2 then ((sum_Sum.f kj2 0 (a0.extract 0 2)).bind fun t155 => ((sum_Sum.f kj2 t155 (a0.extract 6 ((wrap64 (6 + t144)) : Int).toNat)).bind fun t156 => (if (wrap64 (t156)) = t146 then (some (bt148.1, bt148.2.1, bt148.2.2.1, bt148.2.2.2.1, bt148.2.2.2.2.1, bt148.2.2.2.2.2.1, wrap64 (6 + t144), 0)) else (some (0, 0, (⟨#[]⟩ : ByteArray), (⟨#[]⟩ : ByteArray), 0, false, 0, 8))))) else (none)) else (some (0, 0, (⟨#[]⟩ : ByteArray), (⟨#[]⟩ : ByteArray), 0, false, 0, 8)))) else (none)) else (none)) = some (r1, r2, r3, r4, r5, r6, r7, r8) := H
     have A9 := Aside0.mk A90
     clear A90
     by_cases c10 : 6 ≤ (wrap64 (6 + t144))
     ·rw [if_pos c10] at H
      have c10b0 := eq_true c10
      have c10b1 : decide (6 ≤ (wrap64 (6 + t144))) = true := decide_eq_true c10
      by_cases c11 : (wrap64 (6 + t144)) ≤ (a0.size : Int)
      ·rw [if_pos c11] at H
       have c11b0 := eq_true c11
       have c11b1 : decide ((wrap64 (6 + t144)) ≤ (a0.size : Int)) = true := decide_eq_true c11
       replace H := Option.bind_eq_some_iff.mp H
       obtain ⟨⟨t148, t149, t150, t151, t152, t153, t154⟩, A120, H⟩ := H
       replace H : (if t154 = true then (if 0 ≤ 2 then ((sum_Sum.f kj2 0 (a0.extract 0 2)).bind fun t155 => ((sum_Sum.f kj2 t155 (a0.extract 6 ((wrap64 (6 + t144)) : Int).toNat)).bind fun t156 => (if (wrap64 (t156)) = t146 then (some (t148, t149, t150, t151, t152, t153, wrap64 (6 + t144), 0)) else (some (0, 0, (⟨#[]⟩ : ByteArray), (⟨#[]⟩ : ByteArray), 0, false, 0, 8))))) else (none)) else (some (0, 0, (⟨#[]⟩ : ByteArray), (⟨#[]⟩ : ByteArray), 0, false, 0, 8))) = some (r1, r2, r3, r4, r5, r6, r7, r8) := H
       have A12 := Aside0.mk A120
       clear A120
       by_cases c13 : t154 = true
       ·subst c13
        have H1 : (if 0 ≤ 2 then ((sum_Sum.f kj2 0 (a0.extract 0 2)).bind fun t155 => ((sum_Sum.f kj2 t155 (a0.extract 6 ((wrap64 (6 + t144)) : Int).toNat)).bind fun t156 => (if (wrap64 (t156)) = t146 then (some (t148, t149, t150, t151, t152, t153, wrap64 (6 + t144), 0)) else (some (0, 0, (⟨#[]⟩ : ByteArray), (⟨#[]⟩ : ByteArray), 0, false, 0, 8))))) else (none)) = some (r1, r2, r3, r4, r5, r6, r7, r8) := by rw [if_pos rfl] at H; exact H
        clear H
        have H := H1
        clear H1
        by_cases c14 : 0 ≤ 2
        ·rw [if_pos c14] at H
         have c14b0 := eq_true c14
         have c14b1 : decide (0 ≤ 2) = true := decide_eq_true c14
         clear c14
         have c15b0 := eq_true (od : 2 ≤ (a0.size : Int))
         replace H := Option.bind_eq_some_iff.mp H
         obtain ⟨t155, A160, H⟩ := H
         replace H : ((sum_Sum.f kj2 t155 (a0.extract 6 ((wrap64 (6 + t144)) : Int).toNat)).bind fun t156 => (if (wrap64 (t156)) = t146 then (some (t148, t149, t150, t151, t152, t153, wrap64 (6 + t144), 0)) else (some (0, 0, (⟨#[]⟩ : ByteArray), (⟨#[]⟩ : ByteArray), 0, false, 0, 8)))) = some (r1, r2, r3, r4, r5, r6, r7, r8) := H
         have A16 := Aside0.mk A160
         clear A160
         have c17b0 := eq_true (od : 6 ≤ (wrap64 (6 + t144)))
         have c18b0 := eq_true (od : (wrap64 (6 + t144)) ≤ (a0.size : Int))
         replace H := Option.bind_eq_some_iff.mp H
         obtain ⟨t156, A190, H⟩ := H
         replace H : (if (wrap64 (t156)) = t146 then (some (t148, t149, t150, t151, t152, t153, wrap64 (6 + t144), 0)) else (some (0, 0, (⟨#[]⟩ : ByteArray), (⟨#[]⟩ : ByteArray), 0, false, 0, 8))) = some (r1, r2, r3, r4, r5, r6, r7, r8) := H
         have A19 := Aside0.mk A190
         clear A190
         by_cases c20 : (wrap64 (t156)) = t146
         ·rw [if_pos c20] at H
          have c20b0 : ((wrap64 (t156)) == t146) = true := beq_iff_eq.mpr c20
          have c20b1 : ((wrap64 (t156)) != t146) = false := bne_eq_false_iff_eq.mpr c20
          clear c20
          simp only [Option.some.injEq, Prod.mk.injEq] at H
          obtain ⟨rfl, rfl, rfl, rfl, rfl, rfl, rfl, rfl⟩ := H
          go_wp2_with (first | (go_at_call 65; (with_reducible refine (vbi_TakeFour.calls kj2 (a0.extract 2 a0.size) t146 t147 _ A9.out).mono ?_); rintro e w' ⟨rfl, ⟨nd, rfl⟩⟩; (try first | exact ⟨rfl, _, World.drewN_drewN _ _ _⟩ | exact ⟨rfl, _, Eq.trans (World.drewN_drewN _ _ _) (congrArg (World.drewN _) (Nat.add_assoc _ _ _))⟩)) | (go_at_call 66; (with_reducible refine (rec_read.calls kj2 (a0.extract 6 ((wrap64 (6 + t144)) : Int).toNat) t148 t149 t150 t151 t152 t153 true _ A12.out).mono ?_); rintro e w21 ⟨rfl, hb⟩; replace BK143 := Aside0.mk (blk_below (g := gb143) (o := .cells #[.int .i64 0, .int .i64 0, .string (⟨#[]⟩ : ByteArray), .string (⟨#[]⟩ : ByteArray), .int .i64 0, .bool false] 25 (0, 0)) (bk BK143.out) hb); replace HB := Aside0.mk (below_step bo hb); (try clear hb); (try clear hb2); (try clear hk); (try clear hi); obtain ⟨hcz22_0, hcz22_1, hcz22_2, hcz22_3, hcz22_4, hcz22_5⟩ := cl6 BK143.out; obtain ⟨hfz22_0, hfz22_1, hfz22_2, hfz22_3, hfz22_4, hfz22_5⟩ := fz6 BK143.out) | (go_at_call 63; (with_reducible refine (sum_Sum.calls kj2 0 (a0.extract 0 2) t155 _ A16.out).mono ?_); rintro e w' ⟨rfl, ⟨nd, rfl⟩⟩; (try first | exact ⟨rfl, _, World.drewN_drewN _ _ _⟩ | exact ⟨rfl, _, Eq.trans (World.drewN_drewN _ _ _) (congrArg (World.drewN _) (Nat.add_assoc _ _ _))⟩)) | (go_at_call 63; (with_reducible refine (sum_Sum.calls kj2 t155 (a0.extract 6 ((wrap64 (6 + t144)) : Int).toNat) t156 _ A19.out).mono ?_); rintro e w' ⟨rfl, ⟨nd, rfl⟩⟩; (try first | exact ⟨rfl, _, World.drewN_drewN _ _ _⟩ | exact ⟨rfl, _, Eq.trans (World.drewN_drewN _ _ _) (congrArg (World.drewN _) (Nat.add_assoc _ _ _))⟩)))
          repeat (go_quiet (first | (go_at_call 65; (with_reducible refine (vbi_TakeFour.calls kj2 (a0.extract 2 a0.size) t146 t147 _ A9.out).mono ?_); rintro e w' ⟨rfl, ⟨nd, rfl⟩⟩; (try first | exact ⟨rfl, _, World.drewN_drewN _ _ _⟩ | exact ⟨rfl, _, Eq.trans (World.drewN_drewN _ _ _) (congrArg (World.drewN _) (Nat.add_assoc _ _ _))⟩)) | (go_at_call 66; (with_reducible refine (rec_read.calls kj2 (a0.extract 6 ((wrap64 (6 + t144)) : Int).toNat) t148 t149 t150 t151 t152 t153 true _ A12.out).mono ?_); rintro e w21 ⟨rfl, hb⟩; replace BK143 := Aside0.mk (blk_below (g := gb143) (o := .cells #[.int .i64 0, .int .i64 0, .string (⟨#[]⟩ : ByteArray), .string (⟨#[]⟩ : ByteArray), .int .i64 0, .bool false] 25 (0, 0)) (bk BK143.out) hb); replace HB := Aside0.mk (below_step bo hb); (try clear hb); (try clear hb2); (try clear hk); (try clear hi); obtain ⟨hcz22_0, hcz22_1, hcz22_2, hcz22_3, hcz22_4, hcz22_5⟩ := cl6 BK143.out; obtain ⟨hfz22_0, hfz22_1, hfz22_2, hfz22_3, hfz22_4, hfz22_5⟩ := fz6 BK143.out) | (go_at_call 63; (with_reducible refine (sum_Sum.calls kj2 0 (a0.extract 0 2) t155 _ A16.out).mono ?_); rintro e w' ⟨rfl, ⟨nd, rfl⟩⟩; (try first | exact ⟨rfl, _, World.drewN_drewN _ _ _⟩ | exact ⟨rfl, _, Eq.trans (World.drewN_drewN _ _ _) (congrArg (World.drewN _) (Nat.add_assoc _ _ _))⟩)) | (go_at_call 63; (with_reducible refine (sum_Sum.calls kj2 t155 (a0.extract 6 ((wrap64 (6 + t144)) : Int).toNat) t156 _ A19.out).mono ?_); rintro e w' ⟨rfl, ⟨nd, rfl⟩⟩; (try first | exact ⟨rfl, _, World.drewN_drewN _ _ _⟩ | exact ⟨rfl, _, Eq.trans (World.drewN_drewN _ _ _) (congrArg (World.drewN _) (Nat.add_assoc _ _ _))⟩))); try go_wp2_with (first | (go_at_call 65; (with_reducible refine (vbi_TakeFour.calls kj2 (a0.extract 2 a0.size) t146 t147 _ A9.out).mono ?_); rintro e w' ⟨rfl, ⟨nd, rfl⟩⟩; (try first | exact ⟨rfl, _, World.drewN_drewN _ _ _⟩ | exact ⟨rfl, _, Eq.trans (World.drewN_drewN _ _ _) (congrArg (World.drewN _) (Nat.add_assoc _ _ _))⟩)) | (go_at_call 66; (with_reducible refine (rec_read.calls kj2 (a0.extract 6 ((wrap64 (6 + t144)) : Int).toNat) t148 t149 t150 t151 t152 t153 true _ A12.out).mono ?_); rintro e w21 ⟨rfl, hb⟩; replace BK143 := Aside0.mk (blk_below (g := gb143) (o := .cells #[.int .i64 0, .int .i64 0, .string (⟨#[]⟩ : ByteArray), .string (⟨#[]⟩ : ByteArray), .int .i64 0, .bool false] 25 (0, 0)) (bk BK143.out) hb); replace HB := Aside0.mk (below_step bo hb); (try clear hb); (try clear hb2); (try clear hk); (try clear hi); obtain ⟨hcz22_0, hcz22_1, hcz22_2, hcz22_3, hcz22_4, hcz22_5⟩ := cl6 BK143.out; obtain ⟨hfz22_0, hfz22_1, hfz22_2, hfz22_3, hfz22_4, hfz22_5⟩ := fz6 BK143.out) | (go_at_call 63; (with_reducible refine (sum_Sum.calls kj2 0 (a0.extract 0 2) t155 _ A16.out).mono ?_); rintro e w' ⟨rfl, ⟨nd, rfl⟩⟩; (try first | exact ⟨rfl, _, World.drewN_drewN _ _ _⟩ | exact ⟨rfl, _, Eq.trans (World.drewN_drewN _ _ _) (congrArg (World.drewN _) (Nat.add_assoc _ _ _))⟩)) | (go_at_call 63; (with_reducible refine (sum_Sum.calls kj2 t155 (a0.extract 6 ((wrap64 (6 + t144)) : Int).toNat) t156 _ A19.out).mono ?_); rintro e w' ⟨rfl, ⟨nd, rfl⟩⟩; (try first | exact ⟨rfl, _, World.drewN_drewN _ _ _⟩ | exact ⟨rfl, _, Eq.trans (World.drewN_drewN _ _ _) (congrArg (World.drewN _) (Nat.add_assoc _ _ _))⟩))))
          refine bodyPost_ret (results_ctt rfl _ _ gb143 25 #[.int .i64 t148, .int .i64 t149, .string t150, .string t151, .int .i64 t152, .bool t153] (0, 0) _ rfl (by (with_reducible repeat (first | refine blk_drewN ?_ _ | refine blk_drew ?_ | refine blk_alloc ?_ _)); refine blk_put (cs := #[.int .i64 t148, .int .i64 t149, .string t150, .string t151, .int .i64 t152, .bool t153]) ?_ 5 _ rfl; (with_reducible repeat (first | refine blk_drewN ?_ _ | refine blk_drew ?_ | refine blk_alloc ?_ _)); refine blk_put (cs := #[.int .i64 t148, .int .i64 t149, .string t150, .string t151, .int .i64 t152, .bool t153]) ?_ 4 _ rfl; (with_reducible repeat (first | refine blk_drewN ?_ _ | refine blk_drew ?_ | refine blk_alloc ?_ _)); refine blk_put (cs := #[.int .i64 t148, .int .i64 t149, .string t150, .string t151, .int .i64 t152, .bool t153]) ?_ 3 _ rfl; (with_reducible repeat (first | refine blk_drewN ?_ _ | refine blk_drew ?_ | refine blk_alloc ?_ _)); refine blk_put (cs := #[.int .i64 t148, .int .i64 t149, .string t150, .string t151, .int .i64 t152, .bool t153]) ?_ 2 _ rfl; (with_reducible repeat (first | refine blk_drewN ?_ _ | refine blk_drew ?_ | refine blk_alloc ?_ _)); refine blk_put (cs := #[.int .i64 t148, .int .i64 t149, .string t150, .string t151, .int .i64 t152, .bool t153]) ?_ 1 _ rfl; (with_reducible repeat (first | refine blk_drewN ?_ _ | refine blk_drew ?_ | refine blk_alloc ?_ _)); refine blk_put (cs := #[.int .i64 t148, .int .i64 t149, .string t150, .string t151, .int .i64 t152, .bool t153]) ?_ 0 _ rfl; (with_reducible repeat (first | refine blk_drewN ?_ _ | refine blk_drew ?_ | refine blk_alloc ?_ _)); refine blk_put (cs := #[.int .i64 t148, .int .i64 t149, .string t150, .string t151, .int .i64 t152, .bool false]) ?_ 5 _ rfl; (with_reducible repeat (first | refine blk_drewN ?_ _ | refine blk_drew ?_ | refine blk_alloc ?_ _)); refine blk_put (cs := #[.int .i64 t148, .int .i64 t149, .string t150, .string t151, .int .i64 0, .bool false]) ?_ 4 _ rfl; (with_reducible repeat (first | refine blk_drewN ?_ _ | refine blk_drew ?_ | refine blk_alloc ?_ _)); refine blk_put (cs := #[.int .i64 t148, .int .i64 t149, .string t150, .string (⟨#[]⟩ : ByteArray), .int .i64 0, .bool false]) ?_ 3 _ rfl; (with_reducible repeat (first | refine blk_drewN ?_ _ | refine blk_drew ?_ | refine blk_alloc ?_ _)); refine blk_put (cs := #[.int .i64 t148, .int .i64 t149, .string (⟨#[]⟩ : ByteArray), .string (⟨#[]⟩ : ByteArray), .int .i64 0, .bool false]) ?_ 2 _ rfl; (with_reducible repeat (first | refine blk_drewN ?_ _ | refine blk_drew ?_ | refine blk_alloc ?_ _)); refine blk_put (cs := #[.int .i64 t148, .int .i64 0, .string (⟨#[]⟩ : ByteArray), .string (⟨#[]⟩ : ByteArray), .int .i64 0, .bool false]) ?_ 1 _ rfl; (with_reducible repeat (first | refine blk_drewN ?_ _ | refine blk_drew ?_ | refine blk_alloc ?_ _)); refine blk_put (cs := #[.int .i64 0, .int .i64 0, .string (⟨#[]⟩ : ByteArray), .string (⟨#[]⟩ : ByteArray), .int .i64 0, .bool false]) ?_ 0 _ rfl; (with_reducible repeat (first | refine blk_drewN ?_ _ | refine blk_drew ?_ | refine blk_alloc ?_ _)); exact BK143.out) Try.underlying25 rfl (by kernel_rfl)) rfl ?_
          exact ⟨er, bo⟩
         ·rw [if_neg c20] at H
          have c20b0 : ((wrap64 (t156)) == t146) = false := beq_eq_false_iff_ne.mpr c20
          have c20b1 : ((wrap64 (t156)) != t146) = true := bne_iff_ne.mpr c20
          simp only [Option.some.injEq, Prod.mk.injEq] at H
          obtain ⟨rfl, rfl, rfl, rfl, rfl, rfl, rfl, rfl⟩ := H
          go_wp2_with (first | (go_at_call 65; (with_reducible refine (vbi_TakeFour.calls kj2 (a0.extract 2 a0.size) t146 t147 _ A9.out).mono ?_); rintro e w' ⟨rfl, ⟨nd, rfl⟩⟩; (try first | exact ⟨rfl, _, World.drewN_drewN _ _ _⟩ | exact ⟨rfl, _, Eq.trans (World.drewN_drewN _ _ _) (congrArg (World.drewN _) (Nat.add_assoc _ _ _))⟩)) | (go_at_call 66; (with_reducible refine (rec_read.calls kj2 (a0.extract 6 ((wrap64 (6 + t144)) : Int).toNat) t148 t149 t150 t151 t152 t153 true _ A12.out).mono ?_); rintro e w23 ⟨rfl, hb⟩; replace BK143 := Aside0.mk (blk_below (g := gb143) (o := .cells #[.int .i64 0, .int .i64 0, .string (⟨#[]⟩ : ByteArray), .string (⟨#[]⟩ : ByteArray), .int .i64 0, .bool false] 25 (0, 0)) (bk BK143.out) hb); replace HB := Aside0.mk (below_step bo hb); (try clear hb); (try clear hb2); (try clear hk); (try clear hi); obtain ⟨hcz24_0, hcz24_1, hcz24_2, hcz24_3, hcz24_4, hcz24_5⟩ := cl6 BK143.out; obtain ⟨hfz24_0, hfz24_1, hfz24_2, hfz24_3, hfz24_4, hfz24_5⟩ := fz6 BK143.out) | (go_at_call 63; (with_reducible refine (sum_Sum.calls kj2 0 (a0.extract 0 2) t155 _ A16.out).mono ?_); rintro e w' ⟨rfl, ⟨nd, rfl⟩⟩; (try first | exact ⟨rfl, _, World.drewN_drewN _ _ _⟩ | exact ⟨rfl, _, Eq.trans (World.drewN_drewN _ _ _) (congrArg (World.drewN _) (Nat.add_assoc _ _ _))⟩)) | (go_at_call 63; (with_reducible refine (sum_Sum.calls kj2 t155 (a0.extract 6 ((wrap64 (6 + t144)) : Int).toNat) t156 _ A19.out).mono ?_); rintro e w' ⟨rfl, ⟨nd, rfl⟩⟩; (try first | exact ⟨rfl, _, World.drewN_drewN _ _ _⟩ | exact ⟨rfl, _, Eq.trans (World.drewN_drewN _ _ _) (congrArg (World.drewN _) (Nat.add_assoc _ _ _))⟩)))
          repeat (go_quiet (first | (go_at_call 65; (with_reducible refine (vbi_TakeFour.calls kj2 (a0.extract 2 a0.size) t146 t147 _ A9.out).mono ?_); rintro e w' ⟨rfl, ⟨nd, rfl⟩⟩; (try first | exact ⟨rfl, _, World.drewN_drewN _ _ _⟩ | exact ⟨rfl, _, Eq.trans (World.drewN_drewN _ _ _) (congrArg (World.drewN _) (Nat.add_assoc _ _ _))⟩)) | (go_at_call 66; (with_reducible refine (rec_read.calls kj2 (a0.extract 6 ((wrap64 (6 + t144)) : Int).toNat) t148 t149 t150 t151 t152 t153 true _ A12.out).mono ?_); rintro e w23 ⟨rfl, hb⟩; replace BK143 := Aside0.mk (blk_below (g := gb143) (o := .cells #[.int .i64 0, .int .i64 0, .string (⟨#[]⟩ : ByteArray), .string (⟨#[]⟩ : ByteArray), .int .i64 0, .bool false] 25 (0, 0)) (bk BK143.out) hb); replace HB := Aside0.mk (below_step bo hb); (try clear hb); (try clear hb2); (try clear hk); (try clear hi); obtain ⟨hcz24_0, hcz24_1, hcz24_2, hcz24_3, hcz24_4, hcz24_5⟩ := cl6 BK143.out; obtain ⟨hfz24_0, hfz24_1, hfz24_2, hfz24_3, hfz24_4, hfz24_5⟩ := fz6 BK143.out) | (go_at_call 63; (with_reducible refine (sum_Sum.calls kj2 0 (a0.extract 0 2) t155 _ A16.out).mono ?_); rintro e w' ⟨rfl, ⟨nd, rfl⟩⟩; (try first | exact ⟨rfl, _, World.drewN_drewN _ _ _⟩ | exact ⟨rfl, _, Eq.trans (World.drewN_drewN _ _ _) (congrArg (World.drewN _) (Nat.add_assoc _ _ _))⟩)) | (go_at_call 63; (with_reducible refine (sum_Sum.calls kj2 t155 (a0.extract 6 ((wrap64 (6 + t144)) : Int).toNat) t156 _ A19.out).mono ?_); rintro e w' ⟨rfl, ⟨nd, rfl⟩⟩; (try first | exact ⟨rfl, _, World.drewN_drewN _ _ _⟩ | exact ⟨rfl, _, Eq.trans (World.drewN_drewN _ _ _) (congrArg (World.drewN _) (Nat.add_assoc _ _ _))⟩))); try go_wp2_with (first | (go_at_call 65; (with_reducible refine (vbi_TakeFour.calls kj2 (a0.extract 2 a0.size) t146 t147 _ A9.out).mono ?_); rintro e w' ⟨rfl, ⟨nd, rfl⟩⟩; (try first | exact ⟨rfl, _, World.drewN_drewN _ _ _⟩ | exact ⟨rfl, _, Eq.trans (World.drewN_drewN _ _ _) (congrArg (World.drewN _) (Nat.add_assoc _ _ _))⟩)) | (go_at_call 66; (with_reducible refine (rec_read.calls kj2 (a0.extract 6 ((wrap64 (6 + t144)) : Int).toNat) t148 t149 t150 t151 t152 t153 true _ A12.out).mono ?_); rintro e w23 ⟨rfl, hb⟩; replace BK143 := Aside0.mk (blk_below (g := gb143) (o := .cells #[.int .i64 0, .int .i64 0, .string (⟨#[]⟩ : ByteArray), .string (⟨#[]⟩ : ByteArray), .int .i64 0, .bool false] 25 (0, 0)) (bk BK143.out) hb); replace HB := Aside0.mk (below_step bo hb); (try clear hb); (try clear hb2); (try clear hk); (try clear hi); obtain ⟨hcz24_0, hcz24_1, hcz24_2, hcz24_3, hcz24_4, hcz24_5⟩ := cl6 BK143.out; obtain ⟨hfz24_0, hfz24_1, hfz24_2, hfz24_3, hfz24_4, hfz24_5⟩ := fz6 BK143.out) | (go_at_call 63; (with_reducible refine (sum_Sum.calls kj2 0 (a0.extract 0 2) t155 _ A16.out).mono ?_); rintro e w' ⟨rfl, ⟨nd, rfl⟩⟩; (try first | exact ⟨rfl, _, World.drewN_drewN _ _ _⟩ | exact ⟨rfl, _, Eq.trans (World.drewN_drewN _ _ _) (congrArg (World.drewN _) (Nat.add_assoc _ _ _))⟩)) | (go_at_call 63; (with_reducible refine (sum_Sum.calls kj2 t155 (a0.extract 6 ((wrap64 (6 + t144)) : Int).toNat) t156 _ A19.out).mono ?_); rintro e w' ⟨rfl, ⟨nd, rfl⟩⟩; (try first | exact ⟨rfl, _, World.drewN_drewN _ _ _⟩ | exact ⟨rfl, _, Eq.trans (World.drewN_drewN _ _ _) (congrArg (World.drewN _) (Nat.add_assoc _ _ _))⟩))))
          refine bodyPost_ret (results_ctt rfl _ _ gb143 25 #[.int .i64 0, .int .i64 0, .string (⟨#[]⟩ : ByteArray), .string (⟨#[]⟩ : ByteArray), .int .i64 0, .bool false] (0, 0) _ rfl (by (with_reducible repeat (first | refine blk_drewN ?_ _ | refine blk_drew ?_ | refine blk_alloc ?_ _)); refine blk_put (cs := #[.int .i64 0, .int .i64 0, .string (⟨#[]⟩ : ByteArray), .string (⟨#[]⟩ : ByteArray), .int .i64 0, .bool t153]) ?_ 5 _ rfl; (with_reducible repeat (first | refine blk_drewN ?_ _ | refine blk_drew ?_ | refine blk_alloc ?_ _)); refine blk_put (cs := #[.int .i64 0, .int .i64 0, .string (⟨#[]⟩ : ByteArray), .string (⟨#[]⟩ : ByteArray), .int .i64 t152, .bool t153]) ?_ 4 _ rfl; (with_reducible repeat (first | refine blk_drewN ?_ _ | refine blk_drew ?_ | refine blk_alloc ?_ _)); refine blk_put (cs := #[.int .i64 0, .int .i64 0, .string (⟨#[]⟩ : ByteArray), .string t151, .int .i64 t152, .bool t153]) ?_ 3 _ rfl; (with_reducible repeat (first | refine blk_drewN ?_ _ | refine blk_drew ?_ | refine blk_alloc ?_ _)); refine blk_put (cs := #[.int .i64 0, .int .i64 0, .string t150, .string t151, .int .i64 t152, .bool t153]) ?_ 2 _ rfl; (with_reducible repeat (first | refine blk_drewN ?_ _ | refine blk_drew ?_ | refine blk_alloc ?_ _)); refine blk_put (cs := #[.int .i64 0, .int .i64 t149, .string t150, .string t151, .int .i64 t152, .bool t153]) ?_ 1 _ rfl; (with_reducible repeat (first | refine blk_drewN ?_ _ | refine blk_drew ?_ | refine blk_alloc ?_ _)); refine blk_put (cs := #[.int .i64 t148, .int .i64 t149, .string t150, .string t151, .int .i64 t152, .bool t153]) ?_ 0 _ rfl; (with_reducible repeat (first | refine blk_drewN ?_ _ | refine blk_drew ?_ | refine blk_alloc ?_ _)); refine blk_put (cs := #[.int .i64 t148, .int .i64 t149, .string t150, .string t151, .int .i64 t152, .bool false]) ?_ 5 _ rfl; (with_reducible repeat (first | refine blk_drewN ?_ _ | refine blk_drew ?_ | refine blk_alloc ?_ _)); refine blk_put (cs := #[.int .i64 t148, .int .i64 t149, .string t150, .string t151, .int .i64 0, .bool false]) ?_ 4 _ rfl; (with_reducible repeat (first | refine blk_drewN ?_ _ | refine blk_drew ?_ | refine blk_alloc ?_ _)); refine blk_put (cs := #[.int .i64 t148, .int .i64 t149, .string t150, .string (⟨#[]⟩ : ByteArray), .int .i64 0, .bool false]) ?_ 3 _ rfl; (with_reducible repeat (first | refine blk_drewN ?_ _ | refine blk_drew ?_ | refine blk_alloc ?_ _)); refine blk_put (cs := #[.int .i64 t148, .int .i64 t149, .string (⟨#[]⟩ : ByteArray), .string (⟨#[]⟩ : ByteArray), .int .i64 0, .bool false]) ?_ 2 _ rfl; (with_reducible repeat (first | refine blk_drewN ?_ _ | refine blk_drew ?_ | refine blk_alloc ?_ _)); refine blk_put (cs := #[.int .i64 t148, .int .i64 0, .string (⟨#[]⟩ : ByteArray), .string (⟨#[]⟩ : ByteArray), .int .i64 0, .bool false]) ?_ 1 _ rfl; (with_reducible repeat (first | refine blk_drewN ?_ _ | refine blk_drew ?_ | refine blk_alloc ?_ _)); refine blk_put (cs := #[.int .i64 0, .int .i64 0, .string (⟨#[]⟩ : ByteArray), .string (⟨#[]⟩ : ByteArray), .int .i64 0, .bool false]) ?_ 0 _ rfl; (with_reducible repeat (first | refine blk_drewN ?_ _ | refine blk_drew ?_ | refine blk_alloc ?_ _)); exact BK143.out) Try.underlying25 rfl (by kernel_rfl)) rfl ?_
          exact ⟨er, bo⟩
        ·rw [if_neg c14] at H
         exact absurd H (by simp)
       ·replace c13 := Bool.eq_false_iff.mpr c13
        subst c13
        have H1 : (some (0, 0, (⟨#[]⟩ : ByteArray), (⟨#[]⟩ : ByteArray), 0, false, 0, 8)) = some (r1, r2, r3, r4, r5, r6, r7, r8) := by rw [if_neg (show ¬ (false = true) by decide)] at H; exact H
        clear H
        have H := H1
        clear H1
        simp only [Option.some.injEq, Prod.mk.injEq] at H
        obtain ⟨rfl, rfl, rfl, rfl, rfl, rfl, rfl, rfl⟩ := H
        go_wp2_with (first | (go_at_call 65; (with_reducible refine (vbi_TakeFour.calls kj2 (a0.extract 2 a0.size) t146 t147 _ A9.out).mono ?_); rintro e w' ⟨rfl, ⟨nd, rfl⟩⟩; (try first | exact ⟨rfl, _, World.drewN_drewN _ _ _⟩ | exact ⟨rfl, _, Eq.trans (World.drewN_drewN _ _ _) (congrArg (World.drewN _) (Nat.add_assoc _ _ _))⟩)) | (go_at_call 66; (with_reducible refine (rec_read.calls kj2 (a0.extract 6 ((wrap64 (6 + t144)) : Int).toNat) t148 t149 t150 t151 t152 t153 false _ A12.out).mono ?_); rintro e w25 ⟨rfl, hb⟩; replace BK143 := Aside0.mk (blk_below (g := gb143) (o := .cells #[.int .i64 0, .int .i64 0, .string (⟨#[]⟩ : ByteArray), .string (⟨#[]⟩ : ByteArray), .int .i64 0, .bool false] 25 (0, 0)) (bk BK143.out) hb); replace HB := Aside0.mk (below_step bo hb); (try clear hb); (try clear hb2); (try clear hk); (try clear hi); obtain ⟨hcz26_0, hcz26_1, hcz26_2, hcz26_3, hcz26_4, hcz26_5⟩ := cl6 BK143.out; obtain ⟨hfz26_0, hfz26_1, hfz26_2, hfz26_3, hfz26_4, hfz26_5⟩ := fz6 BK143.out))
        repeat (go_quiet (first | (go_at_call 65; (with_reducible refine (vbi_TakeFour.calls kj2 (a0.extract 2 a0.size) t146 t147 _ A9.out).mono ?_); rintro e w' ⟨rfl, ⟨nd, rfl⟩⟩; (try first | exact ⟨rfl, _, World.drewN_drewN _ _ _⟩ | exact ⟨rfl, _, Eq.trans (World.drewN_drewN _ _ _) (congrArg (World.drewN _) (Nat.add_assoc _ _ _))⟩)) | (go_at_call 66; (with_reducible refine (rec_read.calls kj2 (a0.extract 6 ((wrap64 (6 + t144)) : Int).toNat) t148 t149 t150 t151 t152 t153 false _ A12.out).mono ?_); rintro e w25 ⟨rfl, hb⟩; replace BK143 := Aside0.mk (blk_below (g := gb143) (o := .cells #[.int .i64 0, .int .i64 0, .string (⟨#[]⟩ : ByteArray), .string (⟨#[]⟩ : ByteArray), .int .i64 0, .bool false] 25 (0, 0)) (bk BK143.out) hb); replace HB := Aside0.mk (below_step bo hb); (try clear hb); (try clear hb2); (try clear hk); (try clear hi); obtain ⟨hcz26_0, hcz26_1, hcz26_2, hcz26_3, hcz26_4, hcz26_5⟩ := cl6 BK143.out; obtain ⟨hfz26_0, hfz26_1, hfz26_2, hfz26_3, hfz26_4, hfz26_5⟩ := fz6 BK143.out)); try go_wp2_with (first | (go_at_call 65; (with_reducible refine (vbi_TakeFour.calls kj2 (a0.extract 2 a0.size) t146 t147 _ A9.out).mono ?_); rintro e w' ⟨rfl, ⟨nd, rfl⟩⟩; (try first | exact ⟨rfl, _, World.drewN_drewN _ _ _⟩ | exact ⟨rfl, _, Eq.trans (World.drewN_drewN _ _ _) (congrArg (World.drewN _) (Nat.add_assoc _ _ _))⟩)) | (go_at_call 66; (with_reducible refine (rec_read.calls kj2 (a0.extract 6 ((wrap64 (6 + t144)) : Int).toNat) t148 t149 t150 t151 t152 t153 false _ A12.out).mono ?_); rintro e w25 ⟨rfl, hb⟩; replace BK143 := Aside0.mk (blk_below (g := gb143) (o := .cells #[.int .i64 0, .int .i64 0, .string (⟨#[]⟩ : ByteArray), .string (⟨#[]⟩ : ByteArray), .int .i64 0, .bool false] 25 (0, 0)) (bk BK143.out) hb); replace HB := Aside0.mk (below_step bo hb); (try clear hb); (try clear hb2); (try clear hk); (try clear hi); obtain ⟨hcz26_0, hcz26_1, hcz26_2, hcz26_3, hcz26_4, hcz26_5⟩ := cl6 BK143.out; obtain ⟨hfz26_0, hfz26_1, hfz26_2, hfz26_3, hfz26_4, hfz26_5⟩ := fz6 BK143.out)))
        refine bodyPost_ret (results_ctt rfl _ _ gb143 25 #[.int .i64 0, .int .i64 0, .string (⟨#[]⟩ : ByteArray), .string (⟨#[]⟩ : ByteArray), .int .i64 0, .bool false] (0, 0) _ rfl (by (with_reducible repeat (first | refine blk_drewN ?_ _ | refine blk_drew ?_ | refine blk_alloc ?_ _)); refine blk_put (cs := #[.int .i64 0, .int .i64 0, .string (⟨#[]⟩ : ByteArray), .string (⟨#[]⟩ : ByteArray), .int .i64 0, .bool t153]) ?_ 5 _ rfl; (with_reducible repeat (first | refine blk_drewN ?_ _ | refine blk_drew ?_ | refine blk_alloc ?_ _)); refine blk_put (cs := #[.int .i64 0, .int .i64 0, .string (⟨#[]⟩ : ByteArray), .string (⟨#[]⟩ : ByteArray), .int .i64 t152, .bool t153]) ?_ 4 _ rfl; (with_reducible repeat (first | refine blk_drewN ?_ _ | refine blk_drew ?_ | refine blk_alloc ?_ _)); refine blk_put (cs := #[.int .i64 0, .int .i64 0, .string (⟨#[]⟩ : ByteArray), .string t151, .int .i64 t152, .bool t153]) ?_ 3 _ rfl; (with_reducible repeat (first | refine blk_drewN ?_ _ | refine blk_drew ?_ | refine blk_alloc ?_ _)); refine blk_put (cs := #[.int .i64 0, .int .i64 0, .string t150, .string t151, .int .i64 t152, .bool t153]) ?_ 2 _ rfl; (with_reducible repeat (first | refine blk_drewN ?_ _ | refine blk_drew ?_ | refine blk_alloc ?_ _)); refine blk_put (cs := #[.int .i64 0, .int .i64 t149, .string t150, .string t151, .int .i64 t152, .bool t153]) ?_ 1 _ rfl; (with_reducible repeat (first | refine blk_drewN ?_ _ | refine blk_drew ?_ | refine blk_alloc ?_ _)); refine blk_put (cs := #[.int .i64 t148, .int .i64 t149, .string t150, .string t151, .int .i64 t152, .bool t153]) ?_ 0 _ rfl; (with_reducible repeat (first | refine blk_drewN ?_ _ | refine blk_drew ?_ | refine blk_alloc ?_ _)); refine blk_put (cs := #[.int .i64 t148, .int .i64 t149, .string t150, .string t151, .int .i64 t152, .bool false]) ?_ 5 _ rfl; (with_reducible repeat (first | refine blk_drewN ?_ _ | refine blk_drew ?_ | refine blk_alloc ?_ _)); refine blk_put (cs := #[.int .i64 t148, .int .i64 t149, .string t150, .string t151, .int .i64 0, .bool false]) ?_ 4 _ rfl; (with_reducible repeat (first | refine blk_drewN ?_ _ | refine blk_drew ?_ | refine blk_alloc ?_ _)); refine blk_put (cs := #[.int .i64 t148, .int .i64 t149, .string t150, .string (⟨#[]⟩ : ByteArray), .int .i64 0, .bool false]) ?_ 3 _ rfl; (with_reducible repeat (first | refine blk_drewN ?_ _ | refine blk_drew ?_ | refine blk_alloc ?_ _)); refine blk_put (cs := #[.int .i64 t148, .int .i64 t149, .string (⟨#[]⟩ : ByteArray), .string (⟨#[]⟩ : ByteArray), .int .i64 0, .bool false]) ?_ 2 _ rfl; (with_reducible repeat (first | refine blk_drewN ?_ _ | refine blk_drew ?_ | refine blk_alloc ?_ _)); refine blk_put (cs := #[.int .i64 t148, .int .i64 0, .string (⟨#[]⟩ : ByteArray), .string (⟨#[]⟩ : ByteArray), .int .i64 0, .bool false]) ?_ 1 _ rfl; (with_reducible repeat (first | refine blk_drewN ?_ _ | refine blk_drew ?_ | refine blk_alloc ?_ _)); refine blk_put (cs := #[.int .i64 0, .int .i64 0, .string (⟨#[]⟩ : ByteArray), .string (⟨#[]⟩ : ByteArray), .int .i64 0, .bool false]) ?_ 0 _ rfl; (with_reducible repeat (first | refine blk_drewN ?_ _ | refine blk_drew ?_ | refine blk_alloc ?_ _)); exact BK143.out) Try.underlying25 rfl (by kernel_rfl)) rfl ?_
        exact ⟨er, bo⟩
      ·rw [if_neg c11] at H
       exact absurd H (by simp)
     ·rw [if_neg c10] at H
      exact absurd H (by simp)
    ·rw [if_neg c8] at H
     exact absurd H (by simp)

end Go.Proofs.Ytmabdfdmccbfnaa.P

-- written by a program of the proving session, out of the translation; Lean checks it
namespace Go.Proofs.Ytmabdfdmccbfnaa.P
open Go.RowKit Go.Proofs.Ytmabdfdmccbfnaa.Sq Go.Proofs.YtmabdfdmccbfnaaW.PrintWords Go.Proofs.YtmabdfdmccbfnaaW.PrintLast Go.Proofs.YtmabdfdmccbfnaaW.PrintMore
attribute [local go_sem] max2_int min2_int max_two min_two max_three min_three max_four min_four   -- for this text's walks alone
set_option linter.unusedVariables false
set_option linter.unusedSimpArgs false

theorem eqA25 (d : Nat) (w : World) (x0 y0 : Int) (x1 y1 : Int) (x2 y2 : ByteArray) (x3 y3 : ByteArray) (x4 y4 : Int) (x5 y5 : Bool) :
 (Op.equalIn (d + 2) 25 (.agg #[.int .i64 x0, .int .i64 x1, .string x2, .string x3, .int .i64 x4, .bool x5]) (.agg #[.int .i64 y0, .int .i64 y1, .string y2, .string y3, .int .i64 y4, .bool y5])).run Try.prog w = .ok (x0 == y0 && (x1 == y1 && (x2.toList == y2.toList && (x3.toList == y3.toList && (x4 == y4 && (x5 == y5)))))) w := by
 refine eqA_of Try.underlying25 (by kernel_rfl) ?_
 refine eqf_cons (by rfl) (by go_simp; rfl) (by go_simp; rfl) (by go_simp) ?_
 refine eqf_cons (by rfl) (by go_simp; rfl) (by go_simp; rfl) (by go_simp) ?_
 refine eqf_cons (by rfl) (by go_simp; rfl) (by go_simp; rfl) (by go_simp) ?_
 refine eqf_cons (by rfl) (by go_simp; rfl) (by go_simp; rfl) (by go_simp) ?_
 refine eqf_cons (by rfl) (by go_simp; rfl) (by go_simp; rfl) (by go_simp) ?_
 exact eqf_last (by rfl) (by go_simp; rfl) (by go_simp; rfl) (by go_simp)
end Go.Proofs.Ytmabdfdmccbfnaa.P

-- written by a program of the proving session, out of the translation; Lean checks it
namespace Go.Proofs.Ytmabdfdmccbfnaa.P
open Go.RowKit Go.Proofs.Ytmabdfdmccbfnaa.Sq Go.Proofs.YtmabdfdmccbfnaaW.PrintWords Go.Proofs.YtmabdfdmccbfnaaW.PrintLast Go.Proofs.YtmabdfdmccbfnaaW.PrintMore
attribute [local go_sem] max2_int min2_int max_two min_two max_three min_three max_four min_four   -- for this text's walks alone
set_option linter.unusedVariables false
set_option linter.unusedSimpArgs false

/-! ### fairwaylaw10_R: function 67 -/
def fairwaylaw10_R.f (a0 : Int) (a1 : Int) (a2 : ByteArray) (a3 : ByteArray) : Option (Int × Int × ByteArray × ByteArray × Int × Bool) := some (a0, a1, a2, a3, 1, false)
set_option maxHeartbeats 8000000 in
set_option maxRecDepth 100000 in
theorem fairwaylaw10_R.calls (a0 : Int) (a1 : Int) (a2 : ByteArray) (a3 : ByteArray) (r1 : Int) (r2 : Int) (r3 : ByteArray) (r4 : ByteArray) (r5 : Int) (r6 : Bool) (w : World) (h : fairwaylaw10_R.f a0 a1 a2 a3 = some (r1, r2, r3, r4, r5, r6)) :
 Calls Try.prog 67 #[.int .i64 a0, .int .i64 a1, .string a2, .string a3] w fun e w' => e = .returned (.agg #[.int .i64 r1, .int .i64 r2, .string r3, .string r4, .int .i64 r5, .bool r6]) ∧ Below w.heap.size w w' := by
 have hu25 := Try.underlying25
 have HB := Aside0.mk (Below.refl w.heap.size w)
 have H : (some (a0, a1, a2, a3, 1, false)) = some (r1, r2, r3, r4, r5, r6) := h
 clear h
 simp only [Option.some.injEq, Prod.mk.injEq] at H
 obtain ⟨rfl, rfl, rfl, rfl, rfl, rfl⟩ := H
 go_enter Try.func67, Try.ntmps67
 go_wp2_with (first | ((with_reducible refine gate_dst (N := 8) rfl ?_); refine box_event ?hg (N := 8) ?hd (cs := #[.int .i64 0, .int .i64 0, .string (⟨#[]⟩ : ByteArray), .string (⟨#[]⟩ : ByteArray), .int .i64 0, .bool false]) (t := 25) ?hr ?_; (case hd => rfl); (case hg => rfl); (case hr => first | (go_simp; done) | (go_simp; rfl)); intro gb161 hg w5 hbox hb; have BK161 := Aside0.mk (hbox); have GW161 := Aside0.mk ((by rw [hg]; exact (below_size bo) : w.heap.size ≤ gb161)); have GE161 := Aside0.mk ((by rw [hg]; exact (below_size bo) : w.heap.size ≤ gb161)); replace HB := Aside0.mk (below_step bo hb); clear hb hbox hg; obtain ⟨hcz6_0, hcz6_1, hcz6_2, hcz6_3, hcz6_4, hcz6_5⟩ := cl6 BK161.out; obtain ⟨hfz6_0, hfz6_1, hfz6_2, hfz6_3, hfz6_4, hfz6_5⟩ := fz6 BK161.out))
 refine bodyPost_ret (results_cell_row rfl _ _ gb161 25 #[.int .i64 a0, .int .i64 a1, .string a2, .string a3, .int .i64 1, .bool false] (0, 0) _ rfl (by (with_reducible repeat (first | refine blk_drewN ?_ _ | refine blk_drew ?_ | refine blk_alloc ?_ _)); refine blk_put (cs := #[.int .i64 a0, .int .i64 a1, .string a2, .string a3, .int .i64 1, .bool false]) ?_ 5 _ rfl; (with_reducible repeat (first | refine blk_drewN ?_ _ | refine blk_drew ?_ | refine blk_alloc ?_ _)); refine blk_put (cs := #[.int .i64 a0, .int .i64 a1, .string a2, .string a3, .int .i64 0, .bool false]) ?_ 4 _ rfl; (with_reducible repeat (first | refine blk_drewN ?_ _ | refine blk_drew ?_ | refine blk_alloc ?_ _)); refine blk_put (cs := #[.int .i64 a0, .int .i64 a1, .string a2, .string (⟨#[]⟩ : ByteArray), .int .i64 0, .bool false]) ?_ 3 _ rfl; (with_reducible repeat (first | refine blk_drewN ?_ _ | refine blk_drew ?_ | refine blk_alloc ?_ _)); refine blk_put (cs := #[.int .i64 a0, .int .i64 a1, .string (⟨#[]⟩ : ByteArray), .string (⟨#[]⟩ : ByteArray), .int .i64 0, .bool false]) ?_ 2 _ rfl; (with_reducible repeat (first | refine blk_drewN ?_ _ | refine blk_drew ?_ | refine blk_alloc ?_ _)); refine blk_put (cs := #[.int .i64 a0, .int .i64 0, .string (⟨#[]⟩ : ByteArray), .string (⟨#[]⟩ : ByteArray), .int .i64 0, .bool false]) ?_ 1 _ rfl; (with_reducible repeat (first | refine blk_drewN ?_ _ | refine blk_drew ?_ | refine blk_alloc ?_ _)); refine blk_put (cs := #[.int .i64 0, .int .i64 0, .string (⟨#[]⟩ : ByteArray), .string (⟨#[]⟩ : ByteArray), .int .i64 0, .bool false]) ?_ 0 _ rfl; (with_reducible repeat (first | refine blk_drewN ?_ _ | refine blk_drew ?_ | refine blk_alloc ?_ _)); exact BK161.out) Try.underlying25 rfl (by kernel_rfl)) rfl ?_
 exact ⟨er, bo⟩

end Go.Proofs.Ytmabdfdmccbfnaa.P

