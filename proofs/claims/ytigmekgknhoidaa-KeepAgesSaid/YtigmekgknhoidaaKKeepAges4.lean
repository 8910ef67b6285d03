/- The law KeepAges: printed functions, their contracts, the plain laws and the row, part 4. -/
import Derived.Test.YtigmekgknhoidaaProg
import Derived.Below
import Derived.Deep.Draws
import Derived.Deep.AppendLies
import Derived.Maps.AppendAt
import Derived.OwnWalk
import Derived.Laws.BytesArg
import Derived.Laws.MakeOwn
import Derived.Laws.OwnMore
import Derived.Deep.OwnRows
import Derived.Tactics
import Derived.Lib.ConvBytes
import Derived.Laws.Slices
import Derived.WalkKit
import Derived.KernelRfl
import Derived.RowKit3
import Derived.Deep.LoopGhost
import Derived.Deep.QuietTactic
import Derived.BigQuiet
import Derived.WideLaws
import Derived.Deep.DeepCutAuto
import Derived.Deep.CutBlock
import Derived.Deep.RegionHeld3
import Derived.Laws.Rows
import Derived.Lib.AppendStr
import Derived.ArgAppend
import Derived.Laws.IdiomCopy
import Derived.OrdersHeld
import Derived.Laws.BitsLemmas
import Derived.RowKit
import Derived.WalkSpells
import Derived.Test.YtigmekgknhoidaaKKeepAges2
import Derived.Test.YtigmekgknhoidaaKKeepAges0
import Derived.Test.YtigmekgknhoidaaKKeepAges1
import Derived.Test.YtigmekgknhoidaaKKeepAges3
import Derived.StillTailTactics
import Derived.IntWalk
-- written by a program of the proving session, out of the translation; Lean checks it
namespace Go.Proofs.Ytigmekgknhoidaa.P
open Go.RowKit Go.Proofs.Ytigmekgknhoidaa.Sq Go.Proofs.YtigmekgknhoidaaW.PrintWords Go.Proofs.YtigmekgknhoidaaW.PrintLast Go.Proofs.YtigmekgknhoidaaW.PrintMore
attribute [local go_sem] max2_int min2_int max_two min_two max_three min_three max_four min_four   -- for this text's walks alone
set_option linter.unusedVariables false
set_option linter.unusedSimpArgs false



def errW : Option Int → Value
 | none => .nilIface
 | some c => .iface 0 (.int .i64 c)
theorem errW_none : errW none = .nilIface := rfl
theorem errW_some (c : Int) : errW (some c) = .iface 0 (.int .i64 c) := rfl

theorem info3 : (Try.prog.info? 3).map (fun i => (i.zero, i.size, i.bytes)) = some (some (.int .i64 0), 1, 8) := by kernel_rfl
theorem info5 : (Try.prog.info? 5).map (fun i => (i.zero, i.size, i.bytes)) = some (some (.int .u8 0), 1, 1) := by kernel_rfl
theorem info25 : (Try.prog.info? 25).map (fun i => (i.zero, i.size, i.bytes)) = some (some (.agg #[(.int .i64 0), (.int .i64 0), (.string ⟨#[]⟩), (.string ⟨#[]⟩), (.int .i64 0), (.bool false)]), 6, 64) := by kernel_rfl
theorem info29 : (Try.prog.info? 29).map (fun i => (i.zero, i.size, i.bytes)) = some (some (.agg #[(.int .i64 0), (.slice none 0 0)]), 2, 32) := by kernel_rfl
-- the values' own types
/-! #### struct type 25 -/
structure S25 where
 f0 : Int
 f1 : Int
 f2 : ByteArray
 f3 : ByteArray
 f4 : Int
 f5 : Bool
def z25 : S25 := ⟨(0 : Int), (0 : Int), (⟨#[]⟩ : ByteArray), (⟨#[]⟩ : ByteArray), (0 : Int), false⟩
def k25 : Kd S25 := Kd.iso (Kd.pair (Kd.int .i64) (Kd.pair (Kd.int .i64) (Kd.pair Kd.string (Kd.pair Kd.string (Kd.pair (Kd.int .i64) Kd.bool))))) (fun x : S25 => (x.f0, x.f1, x.f2, x.f3, x.f4, x.f5))
theorem k25_open {w : World} {x : S25} {cs : List Value} (h : k25.K w x cs) : cs = [.int .i64 x.f0, .int .i64 x.f1, .string x.f2, .string x.f3, .int .i64 x.f4, .bool x.f5] := by
 obtain ⟨_, _, rfl, rfl, ⟨_, _, rfl, rfl, ⟨_, _, rfl, rfl, ⟨_, _, rfl, rfl, ⟨_, _, rfl, rfl, rfl⟩⟩⟩⟩⟩ := h
 exact rfl
theorem k25_openM {w : World} {base : Nat} {ok : Nat → Prop} {x : S25} {cs : List Value} (h : k25.M w base ok x cs) : cs = [.int .i64 x.f0, .int .i64 x.f1, .string x.f2, .string x.f3, .int .i64 x.f4, .bool x.f5] := by
 obtain ⟨_, _, rfl, rfl, ⟨_, _, rfl, rfl, ⟨_, _, rfl, rfl, ⟨_, _, rfl, rfl, ⟨_, _, rfl, rfl, rfl⟩⟩⟩⟩⟩ := h
 exact rfl
theorem k25_mk (w : World) (x : S25)  : k25.K w x [.int .i64 x.f0, .int .i64 x.f1, .string x.f2, .string x.f3, .int .i64 x.f4, .bool x.f5] := ⟨[.int .i64 x.f0], [.int .i64 x.f1, .string x.f2, .string x.f3, .int .i64 x.f4, .bool x.f5], rfl, rfl, ⟨[.int .i64 x.f1], [.string x.f2, .string x.f3, .int .i64 x.f4, .bool x.f5], rfl, rfl, ⟨[.string x.f2], [.string x.f3, .int .i64 x.f4, .bool x.f5], rfl, rfl, ⟨[.string x.f3], [.int .i64 x.f4, .bool x.f5], rfl, rfl, ⟨[.int .i64 x.f4], [.bool x.f5], rfl, rfl, rfl⟩⟩⟩⟩⟩
theorem k25_mkM (w : World) (base : Nat) (ok : Nat → Prop) (x : S25)  : k25.M w base ok x [.int .i64 x.f0, .int .i64 x.f1, .string x.f2, .string x.f3, .int .i64 x.f4, .bool x.f5] := ⟨[.int .i64 x.f0], [.int .i64 x.f1, .string x.f2, .string x.f3, .int .i64 x.f4, .bool x.f5], rfl, rfl, ⟨[.int .i64 x.f1], [.string x.f2, .string x.f3, .int .i64 x.f4, .bool x.f5], rfl, rfl, ⟨[.string x.f2], [.string x.f3, .int .i64 x.f4, .bool x.f5], rfl, rfl, ⟨[.string x.f3], [.int .i64 x.f4, .bool x.f5], rfl, rfl, ⟨[.int .i64 x.f4], [.bool x.f5], rfl, rfl, rfl⟩⟩⟩⟩⟩
theorem k25_mkF (W : World) (ok : Nat → Prop) (x : S25) : Kd.FK k25 W ok x [.int .i64 x.f0, .int .i64 x.f1, .string x.f2, .string x.f3, .int .i64 x.f4, .bool x.f5] := fun W2 _ => k25_mk W2 x
def rd_T25 (xs : List S25) (i : Int) : S25 := xs.getD i.toNat z25
theorem at_T25 {w : World} {A : Option Addr} {n : Nat} {xs : List S25} (h : Kd.C k25 w A n xs) (i : Int) (h0 : 0 ≤ i) (h1 : i < n) : ∃ ad , A = some ad ∧ w.cell? (ad.add (i.toNat * 6)) = some (.int .i64 (rd_T25 xs i).f0) ∧ w.cell? ⟨(ad.add (i.toNat * 6)).block, (ad.add (i.toNat * 6)).off + 1, none⟩ = some (.int .i64 (rd_T25 xs i).f1) ∧ w.cell? ⟨(ad.add (i.toNat * 6)).block, (ad.add (i.toNat * 6)).off + 2, none⟩ = some (.string (rd_T25 xs i).f2) ∧ w.cell? ⟨(ad.add (i.toNat * 6)).block, (ad.add (i.toNat * 6)).off + 3, none⟩ = some (.string (rd_T25 xs i).f3) ∧ w.cell? ⟨(ad.add (i.toNat * 6)).block, (ad.add (i.toNat * 6)).off + 4, none⟩ = some (.int .i64 (rd_T25 xs i).f4) ∧ w.cell? ⟨(ad.add (i.toNat * 6)).block, (ad.add (i.toNat * 6)).off + 5, none⟩ = some (.bool (rd_T25 xs i).f5) := by
 obtain ⟨ad, c, e, _, hK, hc0⟩ := Kd.C_get h z25 i h0 h1
 have hc : ∀ j u, c[j]? = some u → w.cell? (ad.add (i.toNat * 6 + j)) = some u := hc0
 obtain rfl := k25_open hK
 exact ⟨ad, e, hc 0 _ rfl, by rw [← add_field _ _ 1 (by omega)]; exact hc 1 _ rfl, by rw [← add_field _ _ 2 (by omega)]; exact hc 2 _ rfl, by rw [← add_field _ _ 3 (by omega)]; exact hc 3 _ rfl, by rw [← add_field _ _ 4 (by omega)]; exact hc 4 _ rfl, by rw [← add_field _ _ 5 (by omega)]; exact hc 5 _ rfl⟩

def rd_L5 (xs : List (List S25)) (i : Int) : (List S25) := xs.getD i.toNat ([] : List S25)
theorem at_L5 {w : World} {A : Option Addr} {n : Nat} {xs : List (List S25)} (h : Kd.C (Kd.slice 25 k25) w A n xs) (i : Int) (h0 : 0 ≤ i) (h1 : i < n) : ∃ ad A0 c0, A = some ad ∧ w.cell? (ad.add i.toNat) = some (.slice A0 (rd_L5 xs i).length c0) ∧ (rd_L5 xs i).length ≤ c0 ∧ k25.C w A0 (rd_L5 xs i).length (rd_L5 xs i) := by
 obtain ⟨ad, c, e, _, hK, hc0⟩ := Kd.C_get h ([] : List S25) i h0 h1
 have hc : ∀ j u, c[j]? = some u → w.cell? (ad.add (i.toNat * 1 + j)) = some u := hc0
 obtain ⟨A0, c0, rfl, l0, g0⟩ := hK
 exact ⟨ad, A0, c0, e, by have hq := hc 0 _ rfl; rwa [Nat.mul_one, Nat.add_zero] at hq, l0, g0⟩

/-! #### struct type 29 -/
structure S29 where
 f0 : Int
 f1 : (List S25)
def z29 : S29 := ⟨(0 : Int), ([] : List S25)⟩
def k29 : Kd S29 := Kd.iso (Kd.pair (Kd.int .i64) (Kd.slice 25 k25)) (fun x : S29 => (x.f0, x.f1))
theorem k29_open {w : World} {x : S29} {cs : List Value} (h : k29.K w x cs) : ∃ A1 c1, cs = [.int .i64 x.f0, .slice A1 x.f1.length c1] ∧ x.f1.length ≤ c1 ∧ k25.C w A1 x.f1.length x.f1 := by
 obtain ⟨_, _, rfl, rfl, ⟨A1, c1, rfl, l1, g1⟩⟩ := h
 exact ⟨A1, c1, rfl, l1, g1⟩
theorem k29_openM {w : World} {base : Nat} {ok : Nat → Prop} {x : S29} {cs : List Value} (h : k29.M w base ok x cs) : ∃ v1, cs = [.int .i64 x.f0, v1] ∧ k25.R 25 w base ok v1 x.f1 := by
 obtain ⟨_, _, rfl, rfl, ⟨v1, rfl, g1⟩⟩ := h
 exact ⟨v1, rfl, g1⟩
theorem k29_mk (w : World) (x : S29) {A1 : Option Addr} {c1 : Nat} (l1 : x.f1.length ≤ c1) (g1 : k25.C w A1 x.f1.length x.f1) : k29.K w x [.int .i64 x.f0, .slice A1 x.f1.length c1] := ⟨[.int .i64 x.f0], [.slice A1 x.f1.length c1], rfl, rfl, ⟨A1, c1, rfl, l1, g1⟩⟩
theorem k29_mkM (w : World) (base : Nat) (ok : Nat → Prop) (x : S29) {v1 : Value} (g1 : k25.R 25 w base ok v1 x.f1) : k29.M w base ok x [.int .i64 x.f0, v1] := ⟨[.int .i64 x.f0], [v1], rfl, rfl, ⟨v1, rfl, g1⟩⟩
theorem k29_openF {W : World} {ok : Nat → Prop} {x : S29} {cs : List Value} (h : Kd.FK k29 W ok x cs) : ∃ A1 c1, cs = [.int .i64 x.f0, .slice A1 x.f1.length c1] ∧ x.f1.length ≤ c1 ∧ Kd.F k25 W ok A1 x.f1.length x.f1 := by
 obtain ⟨A1, c1, rfl, l1, _⟩ := k29_open (Kd.FK_now h)
 exact ⟨A1, c1, rfl, l1, (fun W' hW => by obtain ⟨A1_, c1_, he, l1_, g1_⟩ := k29_open (h W' hW); injection (Option.some.inj (show some (Value.slice A1 x.f1.length c1) = some (Value.slice A1_ x.f1.length c1_) from congrArg (fun l => l[1]?) he)) with ha_ _ _; rw [ha_]; exact g1_)⟩
theorem k29_mkF (W : World) (ok : Nat → Prop) (x : S29) {A1 : Option Addr} {c1 : Nat} (l1 : x.f1.length ≤ c1) (g1 : Kd.F k25 W ok A1 x.f1.length x.f1) : Kd.FK k29 W ok x [.int .i64 x.f0, .slice A1 x.f1.length c1] := fun W2 hW => k29_mk W2 x l1 (g1 W2 hW)
def rd_T29 (xs : List S29) (i : Int) : S29 := xs.getD i.toNat z29
theorem at_T29 {w : World} {A : Option Addr} {n : Nat} {xs : List S29} (h : Kd.C k29 w A n xs) (i : Int) (h0 : 0 ≤ i) (h1 : i < n) : ∃ ad A1 c1, A = some ad ∧ w.cell? (ad.add (i.toNat * 2)) = some (.int .i64 (rd_T29 xs i).f0) ∧ w.cell? ⟨(ad.add (i.toNat * 2)).block, (ad.add (i.toNat * 2)).off + 1, none⟩ = some (.slice A1 (rd_T29 xs i).f1.length c1) ∧ (rd_T29 xs i).f1.length ≤ c1 ∧ k25.C w A1 (rd_T29 xs i).f1.length (rd_T29 xs i).f1 := by
 obtain ⟨ad, c, e, _, hK, hc0⟩ := Kd.C_get h z29 i h0 h1
 have hc : ∀ j u, c[j]? = some u → w.cell? (ad.add (i.toNat * 2 + j)) = some u := hc0
 obtain ⟨A1, c1, rfl, l1, g1⟩ := k29_open hK
 exact ⟨ad, A1, c1, e, hc 0 _ rfl, by rw [← add_field _ _ 1 (by omega)]; exact hc 1 _ rfl, l1, g1⟩

def rd_L7 (xs : List (List S29)) (i : Int) : (List S29) := xs.getD i.toNat ([] : List S29)
theorem at_L7 {w : World} {A : Option Addr} {n : Nat} {xs : List (List S29)} (h : Kd.C (Kd.slice 29 k29) w A n xs) (i : Int) (h0 : 0 ≤ i) (h1 : i < n) : ∃ ad A0 c0, A = some ad ∧ w.cell? (ad.add i.toNat) = some (.slice A0 (rd_L7 xs i).length c0) ∧ (rd_L7 xs i).length ≤ c0 ∧ k29.C w A0 (rd_L7 xs i).length (rd_L7 xs i) := by
 obtain ⟨ad, c, e, _, hK, hc0⟩ := Kd.C_get h ([] : List S29) i h0 h1
 have hc : ∀ j u, c[j]? = some u → w.cell? (ad.add (i.toNat * 1 + j)) = some u := hc0
 obtain ⟨A0, c0, rfl, l0, g0⟩ := hK
 exact ⟨ad, A0, c0, e, by have hq := hc 0 _ rfl; rwa [Nat.mul_one, Nat.add_zero] at hq, l0, g0⟩

/-! #### struct type 35 -/
structure S35 where
 f0 : Int
 f1 : Int
 f2 : Int
 f3 : Bool
 f4 : Int
def z35 : S35 := ⟨(0 : Int), (0 : Int), (0 : Int), false, (0 : Int)⟩
def k35 : Kd S35 := Kd.iso (Kd.pair (Kd.int .i64) (Kd.pair (Kd.int .i64) (Kd.pair (Kd.int .i64) (Kd.pair Kd.bool (Kd.int .i64))))) (fun x : S35 => (x.f0, x.f1, x.f2, x.f3, x.f4))
theorem k35_open {w : World} {x : S35} {cs : List Value} (h : k35.K w x cs) : cs = [.int .i64 x.f0, .int .i64 x.f1, .int .i64 x.f2, .bool x.f3, .int .i64 x.f4] := by
 obtain ⟨_, _, rfl, rfl, ⟨_, _, rfl, rfl, ⟨_, _, rfl, rfl, ⟨_, _, rfl, rfl, rfl⟩⟩⟩⟩ := h
 exact rfl
theorem k35_openM {w : World} {base : Nat} {ok : Nat → Prop} {x : S35} {cs : List Value} (h : k35.M w base ok x cs) : cs = [.int .i64 x.f0, .int .i64 x.f1, .int .i64 x.f2, .bool x.f3, .int .i64 x.f4] := by
 obtain ⟨_, _, rfl, rfl, ⟨_, _, rfl, rfl, ⟨_, _, rfl, rfl, ⟨_, _, rfl, rfl, rfl⟩⟩⟩⟩ := h
 exact rfl
theorem k35_mk (w : World) (x : S35)  : k35.K w x [.int .i64 x.f0, .int .i64 x.f1, .int .i64 x.f2, .bool x.f3, .int .i64 x.f4] := ⟨[.int .i64 x.f0], [.int .i64 x.f1, .int .i64 x.f2, .bool x.f3, .int .i64 x.f4], rfl, rfl, ⟨[.int .i64 x.f1], [.int .i64 x.f2, .bool x.f3, .int .i64 x.f4], rfl, rfl, ⟨[.int .i64 x.f2], [.bool x.f3, .int .i64 x.f4], rfl, rfl, ⟨[.bool x.f3], [.int .i64 x.f4], rfl, rfl, rfl⟩⟩⟩⟩
theorem k35_mkM (w : World) (base : Nat) (ok : Nat → Prop) (x : S35)  : k35.M w base ok x [.int .i64 x.f0, .int .i64 x.f1, .int .i64 x.f2, .bool x.f3, .int .i64 x.f4] := ⟨[.int .i64 x.f0], [.int .i64 x.f1, .int .i64 x.f2, .bool x.f3, .int .i64 x.f4], rfl, rfl, ⟨[.int .i64 x.f1], [.int .i64 x.f2, .bool x.f3, .int .i64 x.f4], rfl, rfl, ⟨[.int .i64 x.f2], [.bool x.f3, .int .i64 x.f4], rfl, rfl, ⟨[.bool x.f3], [.int .i64 x.f4], rfl, rfl, rfl⟩⟩⟩⟩
theorem k35_mkF (W : World) (ok : Nat → Prop) (x : S35) : Kd.FK k35 W ok x [.int .i64 x.f0, .int .i64 x.f1, .int .i64 x.f2, .bool x.f3, .int .i64 x.f4] := fun W2 _ => k35_mk W2 x
def rd_T35 (xs : List S35) (i : Int) : S35 := xs.getD i.toNat z35
theorem at_T35 {w : World} {A : Option Addr} {n : Nat} {xs : List S35} (h : Kd.C k35 w A n xs) (i : Int) (h0 : 0 ≤ i) (h1 : i < n) : ∃ ad , A = some ad ∧ w.cell? (ad.add (i.toNat * 5)) = some (.int .i64 (rd_T35 xs i).f0) ∧ w.cell? ⟨(ad.add (i.toNat * 5)).block, (ad.add (i.toNat * 5)).off + 1, none⟩ = some (.int .i64 (rd_T35 xs i).f1) ∧ w.cell? ⟨(ad.add (i.toNat * 5)).block, (ad.add (i.toNat * 5)).off + 2, none⟩ = some (.int .i64 (rd_T35 xs i).f2) ∧ w.cell? ⟨(ad.add (i.toNat * 5)).block, (ad.add (i.toNat * 5)).off + 3, none⟩ = some (.bool (rd_T35 xs i).f3) ∧ w.cell? ⟨(ad.add (i.toNat * 5)).block, (ad.add (i.toNat * 5)).off + 4, none⟩ = some (.int .i64 (rd_T35 xs i).f4) := by
 obtain ⟨ad, c, e, _, hK, hc0⟩ := Kd.C_get h z35 i h0 h1
 have hc : ∀ j u, c[j]? = some u → w.cell? (ad.add (i.toNat * 5 + j)) = some u := hc0
 obtain rfl := k35_open hK
 exact ⟨ad, e, hc 0 _ rfl, by rw [← add_field _ _ 1 (by omega)]; exact hc 1 _ rfl, by rw [← add_field _ _ 2 (by omega)]; exact hc 2 _ rfl, by rw [← add_field _ _ 3 (by omega)]; exact hc 3 _ rfl, by rw [← add_field _ _ 4 (by omega)]; exact hc 4 _ rfl⟩

/-! #### struct type 41 -/
structure S41 where
 f0 : (List S29)
 f1 : S35
 f2 : Int
def z41 : S41 := ⟨([] : List S29), z35, (0 : Int)⟩
def k41 : Kd S41 := Kd.iso (Kd.pair (Kd.slice 29 k29) (Kd.pair k35 (Kd.int .i64))) (fun x : S41 => (x.f0, x.f1, x.f2))
theorem k41_open {w : World} {x : S41} {cs : List Value} (h : k41.K w x cs) : ∃ A0 c0, cs = [.slice A0 x.f0.length c0, .int .i64 x.f1.f0, .int .i64 x.f1.f1, .int .i64 x.f1.f2, .bool x.f1.f3, .int .i64 x.f1.f4, .int .i64 x.f2] ∧ x.f0.length ≤ c0 ∧ k29.C w A0 x.f0.length x.f0 := by
 obtain ⟨_, _, rfl, ⟨A0, c0, rfl, l0, g0⟩, ⟨_, _, rfl, s1, rfl⟩⟩ := h
 obtain rfl := k35_open s1
 exact ⟨A0, c0, rfl, l0, g0⟩
theorem k41_openM {w : World} {base : Nat} {ok : Nat → Prop} {x : S41} {cs : List Value} (h : k41.M w base ok x cs) : ∃ v0, cs = [v0, .int .i64 x.f1.f0, .int .i64 x.f1.f1, .int .i64 x.f1.f2, .bool x.f1.f3, .int .i64 x.f1.f4, .int .i64 x.f2] ∧ k29.R 29 w base ok v0 x.f0 := by
 obtain ⟨_, _, rfl, ⟨v0, rfl, g0⟩, ⟨_, _, rfl, s1, rfl⟩⟩ := h
 obtain rfl := k35_openM s1
 exact ⟨v0, rfl, g0⟩
theorem k41_mk (w : World) (x : S41) {A0 : Option Addr} {c0 : Nat} (l0 : x.f0.length ≤ c0) (g0 : k29.C w A0 x.f0.length x.f0) : k41.K w x [.slice A0 x.f0.length c0, .int .i64 x.f1.f0, .int .i64 x.f1.f1, .int .i64 x.f1.f2, .bool x.f1.f3, .int .i64 x.f1.f4, .int .i64 x.f2] := ⟨[.slice A0 x.f0.length c0], [.int .i64 x.f1.f0, .int .i64 x.f1.f1, .int .i64 x.f1.f2, .bool x.f1.f3, .int .i64 x.f1.f4, .int .i64 x.f2], rfl, ⟨A0, c0, rfl, l0, g0⟩, ⟨[.int .i64 x.f1.f0, .int .i64 x.f1.f1, .int .i64 x.f1.f2, .bool x.f1.f3, .int .i64 x.f1.f4], [.int .i64 x.f2], rfl, (k35_mk w x.f1 ), rfl⟩⟩
theorem k41_mkM (w : World) (base : Nat) (ok : Nat → Prop) (x : S41) {v0 : Value} (g0 : k29.R 29 w base ok v0 x.f0) : k41.M w base ok x [v0, .int .i64 x.f1.f0, .int .i64 x.f1.f1, .int .i64 x.f1.f2, .bool x.f1.f3, .int .i64 x.f1.f4, .int .i64 x.f2] := ⟨[v0], [.int .i64 x.f1.f0, .int .i64 x.f1.f1, .int .i64 x.f1.f2, .bool x.f1.f3, .int .i64 x.f1.f4, .int .i64 x.f2], rfl, ⟨v0, rfl, g0⟩, ⟨[.int .i64 x.f1.f0, .int .i64 x.f1.f1, .int .i64 x.f1.f2, .bool x.f1.f3, .int .i64 x.f1.f4], [.int .i64 x.f2], rfl, (k35_mkM w base ok x.f1 ), rfl⟩⟩
theorem k41_openF {W : World} {ok : Nat → Prop} {x : S41} {cs : List Value} (h : Kd.FK k41 W ok x cs) : ∃ A0 c0, cs = [.slice A0 x.f0.length c0, .int .i64 x.f1.f0, .int .i64 x.f1.f1, .int .i64 x.f1.f2, .bool x.f1.f3, .int .i64 x.f1.f4, .int .i64 x.f2] ∧ x.f0.length ≤ c0 ∧ Kd.F k29 W ok A0 x.f0.length x.f0 := by
 obtain ⟨A0, c0, rfl, l0, _⟩ := k41_open (Kd.FK_now h)
 exact ⟨A0, c0, rfl, l0, (fun W' hW => by obtain ⟨A0_, c0_, he, l0_, g0_⟩ := k41_open (h W' hW); injection (Option.some.inj (show some (Value.slice A0 x.f0.length c0) = some (Value.slice A0_ x.f0.length c0_) from congrArg (fun l => l[0]?) he)) with ha_ _ _; rw [ha_]; exact g0_)⟩
theorem k41_mkF (W : World) (ok : Nat → Prop) (x : S41) {A0 : Option Addr} {c0 : Nat} (l0 : x.f0.length ≤ c0) (g0 : Kd.F k29 W ok A0 x.f0.length x.f0) : Kd.FK k41 W ok x [.slice A0 x.f0.length c0, .int .i64 x.f1.f0, .int .i64 x.f1.f1, .int .i64 x.f1.f2, .bool x.f1.f3, .int .i64 x.f1.f4, .int .i64 x.f2] := fun W2 hW => k41_mk W2 x l0 (g0 W2 hW)
def rd_T41 (xs : List S41) (i : Int) : S41 := xs.getD i.toNat z41
theorem at_T41 {w : World} {A : Option Addr} {n : Nat} {xs : List S41} (h : Kd.C k41 w A n xs) (i : Int) (h0 : 0 ≤ i) (h1 : i < n) : ∃ ad A0 c0, A = some ad ∧ w.cell? (ad.add (i.toNat * 7)) = some (.slice A0 (rd_T41 xs i).f0.length c0) ∧ w.cell? ⟨(ad.add (i.toNat * 7)).block, (ad.add (i.toNat * 7)).off + 1, none⟩ = some (.int .i64 (rd_T41 xs i).f1.f0) ∧ w.cell? ⟨(ad.add (i.toNat * 7)).block, (ad.add (i.toNat * 7)).off + 2, none⟩ = some (.int .i64 (rd_T41 xs i).f1.f1) ∧ w.cell? ⟨(ad.add (i.toNat * 7)).block, (ad.add (i.toNat * 7)).off + 3, none⟩ = some (.int .i64 (rd_T41 xs i).f1.f2) ∧ w.cell? ⟨(ad.add (i.toNat * 7)).block, (ad.add (i.toNat * 7)).off + 4, none⟩ = some (.bool (rd_T41 xs i).f1.f3) ∧ w.cell? ⟨(ad.add (i.toNat * 7)).block, (ad.add (i.toNat * 7)).off + 5, none⟩ = some (.int .i64 (rd_T41 xs i).f1.f4) ∧ w.cell? ⟨(ad.add (i.toNat * 7)).block, (ad.add (i.toNat * 7)).off + 6, none⟩ = some (.int .i64 (rd_T41 xs i).f2) ∧ (rd_T41 xs i).f0.length ≤ c0 ∧ k29.C w A0 (rd_T41 xs i).f0.length (rd_T41 xs i).f0 := by
 obtain ⟨ad, c, e, _, hK, hc0⟩ := Kd.C_get h z41 i h0 h1
 have hc : ∀ j u, c[j]? = some u → w.cell? (ad.add (i.toNat * 7 + j)) = some u := hc0
 obtain ⟨A0, c0, rfl, l0, g0⟩ := k41_open hK
 exact ⟨ad, A0, c0, e, hc 0 _ rfl, by rw [← add_field _ _ 1 (by omega)]; exact hc 1 _ rfl, by rw [← add_field _ _ 2 (by omega)]; exact hc 2 _ rfl, by rw [← add_field _ _ 3 (by omega)]; exact hc 3 _ rfl, by rw [← add_field _ _ 4 (by omega)]; exact hc 4 _ rfl, by rw [← add_field _ _ 5 (by omega)]; exact hc 5 _ rfl, by rw [← add_field _ _ 6 (by omega)]; exact hc 6 _ rfl, l0, g0⟩

end Go.Proofs.Ytigmekgknhoidaa.P

-- written by a program of the proving session, out of the translation; Lean checks it
namespace Go.Proofs.Ytigmekgknhoidaa.P
open Go.RowKit Go.Proofs.Ytigmekgknhoidaa.Sq Go.Proofs.YtigmekgknhoidaaW.PrintWords Go.Proofs.YtigmekgknhoidaaW.PrintLast Go.Proofs.YtigmekgknhoidaaW.PrintMore
attribute [local go_sem] max2_int min2_int max_two min_two max_three min_three max_four min_four   -- for this text's walks alone
set_option linter.unusedVariables false
set_option linter.unusedSimpArgs false

/-! ### fairwaylaw10_R: function 9 -/
def fairwaylaw10_R.f (a0 : Int) (a1 : Int) (a2 : ByteArray) (a3 : ByteArray) : Option (Int × Int × ByteArray × ByteArray × Int × Bool) := some (a0, a1, a2, a3, 1, false)
set_option maxHeartbeats 8000000 in
set_option maxRecDepth 100000 in
theorem fairwaylaw10_R.calls (a0 : Int) (a1 : Int) (a2 : ByteArray) (a3 : ByteArray) (r1 : Int) (r2 : Int) (r3 : ByteArray) (r4 : ByteArray) (r5 : Int) (r6 : Bool) (w : World) (h : fairwaylaw10_R.f a0 a1 a2 a3 = some (r1, r2, r3, r4, r5, r6)) :
 Calls Try.prog 9 #[.int .i64 a0, .int .i64 a1, .string a2, .string a3] w fun e w' => e = .returned (.agg #[.int .i64 r1, .int .i64 r2, .string r3, .string r4, .int .i64 r5, .bool r6]) ∧ Below w.heap.size w w' := by
 have hu25 := Try.underlying25
 have HB := Aside0.mk (Below.refl w.heap.size w)
 have H : (some (a0, a1, a2, a3, 1, false)) = some (r1, r2, r3, r4, r5, r6) := h
 clear h
 simp only [Option.some.injEq, Prod.mk.injEq] at H
 obtain ⟨rfl, rfl, rfl, rfl, rfl, rfl⟩ := H
 go_enter Try.func9, Try.ntmps9
 go_wp2_with (first | ((with_reducible refine gate_dst (N := 8) rfl ?_); refine box_event ?hg (N := 8) ?hd (cs := #[.int .i64 0, .int .i64 0, .string (⟨#[]⟩ : ByteArray), .string (⟨#[]⟩ : ByteArray), .int .i64 0, .bool false]) (t := 25) ?hr ?_; (case hd => rfl); (case hg => rfl); (case hr => first | (go_simp; done) | (go_simp; rfl)); intro gb101 hg w5 hbox hb; have BK101 := Aside0.mk (hbox); have GW101 := Aside0.mk ((by rw [hg]; exact (below_size bo) : w.heap.size ≤ gb101)); have GE101 := Aside0.mk ((by rw [hg]; exact (below_size bo) : w.heap.size ≤ gb101)); replace HB := Aside0.mk (below_step bo hb); clear hb hbox hg; obtain ⟨hcz6_0, hcz6_1, hcz6_2, hcz6_3, hcz6_4, hcz6_5⟩ := cl6 BK101.out; obtain ⟨hfz6_0, hfz6_1, hfz6_2, hfz6_3, hfz6_4, hfz6_5⟩ := fz6 BK101.out))
 refine bodyPost_ret (results_cell_row rfl _ _ gb101 25 #[.int .i64 a0, .int .i64 a1, .string a2, .string a3, .int .i64 1, .bool false] (0, 0) _ rfl (by (with_reducible repeat (first | refine blk_drewN ?_ _ | refine blk_drew ?_ | refine blk_alloc ?_ _)); refine blk_put (cs := #[.int .i64 a0, .int .i64 a1, .string a2, .string a3, .int .i64 1, .bool false]) ?_ 5 _ rfl; (with_reducible repeat (first | refine blk_drewN ?_ _ | refine blk_drew ?_ | refine blk_alloc ?_ _)); refine blk_put (cs := #[.int .i64 a0, .int .i64 a1, .string a2, .string a3, .int .i64 0, .bool false]) ?_ 4 _ rfl; (with_reducible repeat (first | refine blk_drewN ?_ _ | refine blk_drew ?_ | refine blk_alloc ?_ _)); refine blk_put (cs := #[.int .i64 a0, .int .i64 a1, .string a2, .string (⟨#[]⟩ : ByteArray), .int .i64 0, .bool false]) ?_ 3 _ rfl; (with_reducible repeat (first | refine blk_drewN ?_ _ | refine blk_drew ?_ | refine blk_alloc ?_ _)); refine blk_put (cs := #[.int .i64 a0, .int .i64 a1, .string (⟨#[]⟩ : ByteArray), .string (⟨#[]⟩ : ByteArray), .int .i64 0, .bool false]) ?_ 2 _ rfl; (with_reducible repeat (first | refine blk_drewN ?_ _ | refine blk_drew ?_ | refine blk_alloc ?_ _)); refine blk_put (cs := #[.int .i64 a0, .int .i64 0, .string (⟨#[]⟩ : ByteArray), .string (⟨#[]⟩ : ByteArray), .int .i64 0, .bool false]) ?_ 1 _ rfl; (with_reducible repeat (first | refine blk_drewN ?_ _ | refine blk_drew ?_ | refine blk_alloc ?_ _)); refine blk_put (cs := #[.int .i64 0, .int .i64 0, .string (⟨#[]⟩ : ByteArray), .string (⟨#[]⟩ : ByteArray), .int .i64 0, .bool false]) ?_ 0 _ rfl; (with_reducible repeat (first | refine blk_drewN ?_ _ | refine blk_drew ?_ | refine blk_alloc ?_ _)); exact BK101.out) Try.underlying25 rfl (by kernel_rfl)) rfl ?_
 exact ⟨er, bo⟩

end Go.Proofs.Ytigmekgknhoidaa.P

-- written by a program of the proving session, out of the translation; Lean checks it
namespace Go.Proofs.Ytigmekgknhoidaa.P
open Go.RowKit Go.Proofs.Ytigmekgknhoidaa.Sq Go.Proofs.YtigmekgknhoidaaW.PrintWords Go.Proofs.YtigmekgknhoidaaW.PrintLast Go.Proofs.YtigmekgknhoidaaW.PrintMore
attribute [local go_sem] max2_int min2_int max_two min_two max_three min_three max_four min_four   -- for this text's walks alone
set_option linter.unusedVariables false
set_option linter.unusedSimpArgs false

/-! ### rec_Check: function 71 -/
def rec_Check.j0 : Nat → Bool → Int → Int → ByteArray → ByteArray → Int → Bool → Option (Int)
 | 0, _, _, _, _, _, _, _ => none
 | k + 1, x3, x116000, x116001, x116002, x116003, x116004, x116005 => if x3 = true then (some 1) else (if (x116002.size : Int) > 1024 then (some 1) else (if (x116003.size : Int) > 1024 then (some 1) else (if x116005 = true then (if x116003.toList = ([] : List UInt8) then (some 0) else (some 1)) else (some 0))))
def rec_Check.f (k : Nat) (a0_0 : Int) (a0_1 : Int) (a0_2 : ByteArray) (a0_3 : ByteArray) (a0_4 : Int) (a0_5 : Bool) : Option (Int) := if a0_0 < 0 then (rec_Check.j0 k true a0_0 a0_1 a0_2 a0_3 a0_4 a0_5) else (if a0_0 ≥ 1099511627776 then (rec_Check.j0 k true a0_0 a0_1 a0_2 a0_3 a0_4 a0_5) else (if a0_1 < 0 then (rec_Check.j0 k true a0_0 a0_1 a0_2 a0_3 a0_4 a0_5) else (if a0_1 > 1099511627776 then (rec_Check.j0 k true a0_0 a0_1 a0_2 a0_3 a0_4 a0_5) else (if a0_4 < 0 then (rec_Check.j0 k true a0_0 a0_1 a0_2 a0_3 a0_4 a0_5) else (rec_Check.j0 k (decide (a0_4 > 2)) a0_0 a0_1 a0_2 a0_3 a0_4 a0_5)))))
theorem rec_Check.mono_l : ∀ k, (∀ y0 y1 y2 y3 y4 y5 y6, LeO (rec_Check.j0 k y0 y1 y2 y3 y4 y5 y6) (rec_Check.j0 (k + 1) y0 y1 y2 y3 y4 y5 y6))
 | 0 => fun _ _ _ _ _ _ _ r h => by simp [rec_Check.j0] at h
 | k + 1 => by
  have ih0 := rec_Check.mono_l k
  ·intro y0 y1 y2 y3 y4 y5 y6
   unfold rec_Check.j0
   repeat' first
   | (with_reducible exact ih0 _ _ _ _ _ _ _)
   | (with_reducible exact LeO.refl _)
   | (with_reducible exact LeO.none _)
   | (with_reducible refine LeO.ite ?_ ?_)
   | (with_reducible refine LeO.bind ?_ (fun _ => ?_))
   | exact ih0 _ _ _ _ _ _ _
   | exact LeO.none _
   | refine LeO.ite ?_ ?_
   | refine LeO.bind ?_ (fun _ => ?_)
theorem rec_Check.mono : ∀ a0 a1 a2 a3 a4 a5 k, LeO (rec_Check.f k a0 a1 a2 a3 a4 a5) (rec_Check.f (k + 1) a0 a1 a2 a3 a4 a5) := by
 intro a0 a1 a2 a3 a4 a5 k
 have ih0 := rec_Check.mono_l k
 unfold rec_Check.f
 repeat' first
  | (with_reducible exact ih0 _ _ _ _ _ _ _)
  | (with_reducible exact LeO.refl _)
  | (with_reducible exact LeO.none _)
  | (with_reducible refine LeO.ite ?_ ?_)
  | (with_reducible refine LeO.bind ?_ (fun _ => ?_))
  | exact ih0 _ _ _ _ _ _ _
  | exact LeO.none _
  | refine LeO.ite ?_ ?_
  | refine LeO.bind ?_ (fun _ => ?_)
set_option maxHeartbeats 8000000 in
set_option maxRecDepth 100000 in
theorem rec_Check.calls (k : Nat) (a0_0 : Int) (a0_1 : Int) (a0_2 : ByteArray) (a0_3 : ByteArray) (a0_4 : Int) (a0_5 : Bool) (r : Int) (w : World) (h : rec_Check.f k a0_0 a0_1 a0_2 a0_3 a0_4 a0_5 = some r) :
 Calls Try.prog 71 #[.agg #[.int .i64 a0_0, .int .i64 a0_1, .string a0_2, .string a0_3, .int .i64 a0_4, .bool a0_5]] w fun e w' => e = .returned (.int .i64 r) ∧ Below w.heap.size w w' := by
 have hu25 := Try.underlying25
 have HB := Aside0.mk (Below.refl w.heap.size w)
 have H : (if a0_0 < 0 then (rec_Check.j0 k true a0_0 a0_1 a0_2 a0_3 a0_4 a0_5) else (if a0_0 ≥ 1099511627776 then (rec_Check.j0 k true a0_0 a0_1 a0_2 a0_3 a0_4 a0_5) else (if a0_1 < 0 then (rec_Check.j0 k true a0_0 a0_1 a0_2 a0_3 a0_4 a0_5) else (if a0_1 > 1099511627776 then (rec_Check.j0 k true a0_0 a0_1 a0_2 a0_3 a0_4 a0_5) else (if a0_4 < 0 then (rec_Check.j0 k true a0_0 a0_1 a0_2 a0_3 a0_4 a0_5) else (rec_Check.j0 k (decide (a0_4 > 2)) a0_0 a0_1 a0_2 a0_3 a0_4 a0_5)))))) = some r := h
 clear h
 have HC2 := Aside0.mk H
 clear H
 go_enter Try.func71, Try.ntmps71
 go_upto_region 1 with (first | ((with_reducible refine gate_dst (N := 1) rfl ?_); (try (refine gate_guard (by rfl) ?_; dsimp only)); refine box_event ?hg (N := 1) ?hd (cs := #[.int .i64 a0_0, .int .i64 a0_1, .string a0_2, .string a0_3, .int .i64 a0_4, .bool a0_5]) (t := 25) ?hr ?_; (case hd => rfl); (case hg => rfl); (case hr => first | (go_simp; done) | (go_simp; rfl)); intro gb115 hg w3 hbox hb; have BK115 := Aside0.mk (hbox); have GW115 := Aside0.mk ((by rw [hg]; exact (below_size bo) : w.heap.size ≤ gb115)); have GE115 := Aside0.mk ((by rw [hg]; exact (below_size bo) : w.heap.size ≤ gb115)); replace HB := Aside0.mk (below_step bo hb); clear hb hbox hg))
 (try simp only [Act.put, List.setIfInBounds_toArray, List.set_cons_zero, List.set_cons_succ])
 go_cut [3] (fun v3 wc => ∃ (kq : Nat) (x3_1 : Bool), v3 = .bool x3_1 ∧ Aside0 (rec_Check.j0 kq x3_1 a0_0 a0_1 a0_2 a0_3 a0_4 a0_5 = some r) ∧ Aside0 (kq ≤ k) ∧ Aside0 (wc.heap[gb115]? = some (.cells #[.int .i64 a0_0, .int .i64 a0_1, .string a0_2, .string a0_3, .int .i64 a0_4, .bool a0_5] 25 (0, 0))) ∧ Aside0 (Below w.heap.size w wc))
 case first =>
  have H := HC2.out
  clear HC2
  by_cases c4 : a0_0 < 0
  ·rw [if_pos c4] at H
   have c4b0 : decide (a0_0 < 0) = true := decide_eq_true c4
   clear c4
   (first | rw [c4b0] | (simp only [i64_w, i32_w]; rw [c4b0]) | skip)
   have H' := Aside0.mk H
   clear H
   have hcz5_0 : w3.cell? ⟨gb115, 0, none⟩ = some (.int .i64 a0_0) := (blk_cell BK115.out 0).trans rfl
   have hcz5_1 : w3.cell? ⟨gb115, 1, none⟩ = some (.int .i64 a0_1) := (blk_cell BK115.out 1).trans rfl
   have hcz5_2 : w3.cell? ⟨gb115, 2, none⟩ = some (.string a0_2) := (blk_cell BK115.out 2).trans rfl
   have hcz5_3 : w3.cell? ⟨gb115, 3, none⟩ = some (.string a0_3) := (blk_cell BK115.out 3).trans rfl
   have hcz5_4 : w3.cell? ⟨gb115, 4, none⟩ = some (.int .i64 a0_4) := (blk_cell BK115.out 4).trans rfl
   have hcz5_5 : w3.cell? ⟨gb115, 5, none⟩ = some (.bool a0_5) := (blk_cell BK115.out 5).trans rfl
   have hfz5_0 := blk_frozen BK115.out 0
   have hfz5_1 := blk_frozen BK115.out 1
   have hfz5_2 := blk_frozen BK115.out 2
   have hfz5_3 := blk_frozen BK115.out 3
   have hfz5_4 := blk_frozen BK115.out 4
   have hfz5_5 := blk_frozen BK115.out 5
   go_wp2
   go_meet
   case rel => exact ⟨_, (true), ap, H', ⟨by first | omega | exact Nat.le_refl _⟩, ⟨by (with_reducible repeat (first | refine blk_drewN ?_ _ | refine blk_drew ?_ | refine blk_alloc ?_ _)); exact BK115.out⟩, ⟨bo⟩⟩
  ·rw [if_neg c4] at H
   have c4b0 : decide (a0_0 < 0) = false := decide_eq_false c4
   clear c4
   (first | rw [c4b0] | (simp only [i64_w, i32_w]; rw [c4b0]) | skip)
   by_cases c6 : a0_0 ≥ 1099511627776
   ·rw [if_pos c6] at H
    have c6b0 : decide (1099511627776 ≤ a0_0) = true := decide_eq_true c6
    clear c6
    have H' := Aside0.mk H
    clear H
    have hcz7_0 : w3.cell? ⟨gb115, 0, none⟩ = some (.int .i64 a0_0) := (blk_cell BK115.out 0).trans rfl
    have hcz7_1 : w3.cell? ⟨gb115, 1, none⟩ = some (.int .i64 a0_1) := (blk_cell BK115.out 1).trans rfl
    have hcz7_2 : w3.cell? ⟨gb115, 2, none⟩ = some (.string a0_2) := (blk_cell BK115.out 2).trans rfl
    have hcz7_3 : w3.cell? ⟨gb115, 3, none⟩ = some (.string a0_3) := (blk_cell BK115.out 3).trans rfl
    have hcz7_4 : w3.cell? ⟨gb115, 4, none⟩ = some (.int .i64 a0_4) := (blk_cell BK115.out 4).trans rfl
    have hcz7_5 : w3.cell? ⟨gb115, 5, none⟩ = some (.bool a0_5) := (blk_cell BK115.out 5).trans rfl
    have hfz7_0 := blk_frozen BK115.out 0
    have hfz7_1 := blk_frozen BK115.out 1
    have hfz7_2 := blk_frozen BK115.out 2
    have hfz7_3 := blk_frozen BK115.out 3
    have hfz7_4 := blk_frozen BK115.out 4
    have hfz7_5 := blk_frozen BK115.out 5
    go_wp2
    go_meet
    case rel => exact ⟨_, (true), ap, H', ⟨by first | omega | exact Nat.le_refl _⟩, ⟨by (with_reducible repeat (first | refine blk_drewN ?_ _ | refine blk_drew ?_ | refine blk_alloc ?_ _)); exact BK115.out⟩, ⟨bo⟩⟩
   ·rw [if_neg c6] at H
    have c6b0 : decide (1099511627776 ≤ a0_0) = false := decide_eq_false c6
    clear c6
    by_cases c8 : a0_1 < 0
    ·rw [if_pos c8] at H
     have c8b0 : decide (a0_1 < 0) = true := decide_eq_true c8
     clear c8
     have H' := Aside0.mk H
     clear H
     have hcz9_0 : w3.cell? ⟨gb115, 0, none⟩ = some (.int .i64 a0_0) := (blk_cell BK115.out 0).trans rfl
     have hcz9_1 : w3.cell? ⟨gb115, 1, none⟩ = some (.int .i64 a0_1) := (blk_cell BK115.out 1).trans rfl
     have hcz9_2 : w3.cell? ⟨gb115, 2, none⟩ = some (.string a0_2) := (blk_cell BK115.out 2).trans rfl
     have hcz9_3 : w3.cell? ⟨gb115, 3, none⟩ = some (.string a0_3) := (blk_cell BK115.out 3).trans rfl
     have hcz9_4 : w3.cell? ⟨gb115, 4, none⟩ = some (.int .i64 a0_4) := (blk_cell BK115.out 4).trans rfl
     have hcz9_5 : w3.cell? ⟨gb115, 5, none⟩ = some (.bool a0_5) := (blk_cell BK115.out 5).trans rfl
     have hfz9_0 := blk_frozen BK115.out 0
     have hfz9_1 := blk_frozen BK115.out 1
     have hfz9_2 := blk_frozen BK115.out 2
     have hfz9_3 := blk_frozen BK115.out 3
     have hfz9_4 := blk_frozen BK115.out 4
     have hfz9_5 := blk_frozen BK115.out 5
     go_wp2
     go_meet
     case rel => exact ⟨_, (true), ap, H', ⟨by first | omega | exact Nat.le_refl _⟩, ⟨by (with_reducible repeat (first | refine blk_drewN ?_ _ | refine blk_drew ?_ | refine blk_alloc ?_ _)); exact BK115.out⟩, ⟨bo⟩⟩
    ·rw [if_neg c8] at H
     have c8b0 : decide (a0_1 < 0) = false := decide_eq_false c8
     clear c8
     by_cases c10 : a0_1 > 1099511627776
     ·rw [if_pos c10] at H
      have c10b0 : decide (1099511627776 < a0_1) = true := decide_eq_true c10
      clear c10
      have H' := Aside0.mk H
      clear H
      have hcz11_0 : w3.cell? ⟨gb115, 0, none⟩ = some (.int .i64 a0_0) := (blk_cell BK115.out 0).trans rfl
      have hcz11_1 : w3.cell? ⟨gb115, 1, none⟩ = some (.int .i64 a0_1) := (blk_cell BK115.out 1).trans rfl
      have hcz11_2 : w3.cell? ⟨gb115, 2, none⟩ = some (.string a0_2) := (blk_cell BK115.out 2).trans rfl
      have hcz11_3 : w3.cell? ⟨gb115, 3, none⟩ = some (.string a0_3) := (blk_cell BK115.out 3).trans rfl
      have hcz11_4 : w3.cell? ⟨gb115, 4, none⟩ = some (.int .i64 a0_4) := (blk_cell BK115.out 4).trans rfl
      have hcz11_5 : w3.cell? ⟨gb115, 5, none⟩ = some (.bool a0_5) := (blk_cell BK115.out 5).trans rfl
      have hfz11_0 := blk_frozen BK115.out 0
      have hfz11_1 := blk_frozen BK115.out 1
      have hfz11_2 := blk_frozen BK115.out 2
      have hfz11_3 := blk_frozen BK115.out 3
      have hfz11_4 := blk_frozen BK115.out 4
      have hfz11_5 := blk_frozen BK115.out 5
      go_wp2
      go_meet
      case rel => exact ⟨_, (true), ap, H', ⟨by first | omega | exact Nat.le_refl _⟩, ⟨by (with_reducible repeat (first | refine blk_drewN ?_ _ | refine blk_drew ?_ | refine blk_alloc ?_ _)); exact BK115.out⟩, ⟨bo⟩⟩
     ·rw [if_neg c10] at H
      have c10b0 : decide (1099511627776 < a0_1) = false := decide_eq_false c10
      clear c10
      by_cases c12 : a0_4 < 0
      ·rw [if_pos c12] at H
       have c12b0 : decide (a0_4 < 0) = true := decide_eq_true c12
       clear c12
       have H' := Aside0.mk H
       clear H
       have hcz13_0 : w3.cell? ⟨gb115, 0, none⟩ = some (.int .i64 a0_0) := (blk_cell BK115.out 0).trans rfl
       have hcz13_1 : w3.cell? ⟨gb115, 1, none⟩ = some (.int .i64 a0_1) := (blk_cell BK115.out 1).trans rfl
       have hcz13_2 : w3.cell? ⟨gb115, 2, none⟩ = some (.string a0_2) := (blk_cell BK115.out 2).trans rfl
       have hcz13_3 : w3.cell? ⟨gb115, 3, none⟩ = some (.string a0_3) := (blk_cell BK115.out 3).trans rfl
       have hcz13_4 : w3.cell? ⟨gb115, 4, none⟩ = some (.int .i64 a0_4) := (blk_cell BK115.out 4).trans rfl
       have hcz13_5 : w3.cell? ⟨gb115, 5, none⟩ = some (.bool a0_5) := (blk_cell BK115.out 5).trans rfl
       have hfz13_0 := blk_frozen BK115.out 0
       have hfz13_1 := blk_frozen BK115.out 1
       have hfz13_2 := blk_frozen BK115.out 2
       have hfz13_3 := blk_frozen BK115.out 3
       have hfz13_4 := blk_frozen BK115.out 4
       have hfz13_5 := blk_frozen BK115.out 5
       go_wp2
       go_meet
       case rel => exact ⟨_, (true), ap, H', ⟨by first | omega | exact Nat.le_refl _⟩, ⟨by (with_reducible repeat (first | refine blk_drewN ?_ _ | refine blk_drew ?_ | refine blk_alloc ?_ _)); exact BK115.out⟩, ⟨bo⟩⟩
      ·rw [if_neg c12] at H
       have c12b0 : decide (a0_4 < 0) = false := decide_eq_false c12
       clear c12
       have H' := Aside0.mk H
       clear H
       have hcz14_0 : w3.cell? ⟨gb115, 0, none⟩ = some (.int .i64 a0_0) := (blk_cell BK115.out 0).trans rfl
       have hcz14_1 : w3.cell? ⟨gb115, 1, none⟩ = some (.int .i64 a0_1) := (blk_cell BK115.out 1).trans rfl
       have hcz14_2 : w3.cell? ⟨gb115, 2, none⟩ = some (.string a0_2) := (blk_cell BK115.out 2).trans rfl
       have hcz14_3 : w3.cell? ⟨gb115, 3, none⟩ = some (.string a0_3) := (blk_cell BK115.out 3).trans rfl
       have hcz14_4 : w3.cell? ⟨gb115, 4, none⟩ = some (.int .i64 a0_4) := (blk_cell BK115.out 4).trans rfl
       have hcz14_5 : w3.cell? ⟨gb115, 5, none⟩ = some (.bool a0_5) := (blk_cell BK115.out 5).trans rfl
       have hfz14_0 := blk_frozen BK115.out 0
       have hfz14_1 := blk_frozen BK115.out 1
       have hfz14_2 := blk_frozen BK115.out 2
       have hfz14_3 := blk_frozen BK115.out 3
       have hfz14_4 := blk_frozen BK115.out 4
       have hfz14_5 := blk_frozen BK115.out 5
       go_wp2
       go_meet
       case rel => exact ⟨_, (decide (a0_4 > 2)), ap, H', ⟨by first | omega | exact Nat.le_refl _⟩, ⟨by (with_reducible repeat (first | refine blk_drewN ?_ _ | refine blk_drew ?_ | refine blk_alloc ?_ _)); exact BK115.out⟩, ⟨bo⟩⟩
 case rest =>
  clear HC2
  try clear c1
  try clear p2
  try clear c4
  try clear c4b0
  try clear c6
  try clear c6b0
  try clear c7
  try clear c8
  try clear c8b0
  try clear c10
  try clear c10b0
  try clear c12
  try clear c12b0
  try clear hcz11_0
  try clear hcz11_1
  try clear hcz11_2
  try clear hcz11_3
  try clear hcz11_4
  try clear hcz11_5
  try clear hcz13_0
  try clear hcz13_1
  try clear hcz13_2
  try clear hcz13_3
  try clear hcz13_4
  try clear hcz13_5
  try clear hcz14_0
  try clear hcz14_1
  try clear hcz14_2
  try clear hcz14_3
  try clear hcz14_4
  try clear hcz14_5
  try clear hcz5_0
  try clear hcz5_1
  try clear hcz5_2
  try clear hcz5_3
  try clear hcz5_4
  try clear hcz5_5
  try clear hcz7_0
  try clear hcz7_1
  try clear hcz7_2
  try clear hcz7_3
  try clear hcz7_4
  try clear hcz7_5
  try clear hcz9_0
  try clear hcz9_1
  try clear hcz9_2
  try clear hcz9_3
  try clear hcz9_4
  try clear hcz9_5
  try clear hfz11_0
  try clear hfz11_1
  try clear hfz11_2
  try clear hfz11_3
  try clear hfz11_4
  try clear hfz11_5
  try clear hfz13_0
  try clear hfz13_1
  try clear hfz13_2
  try clear hfz13_3
  try clear hfz13_4
  try clear hfz13_5
  try clear hfz14_0
  try clear hfz14_1
  try clear hfz14_2
  try clear hfz14_3
  try clear hfz14_4
  try clear hfz14_5
  try clear hfz5_0
  try clear hfz5_1
  try clear hfz5_2
  try clear hfz5_3
  try clear hfz5_4
  try clear hfz5_5
  try clear hfz7_0
  try clear hfz7_1
  try clear hfz7_2
  try clear hfz7_3
  try clear hfz7_4
  try clear hfz7_5
  try clear hfz9_0
  try clear hfz9_1
  try clear hfz9_2
  try clear hfz9_3
  try clear hfz9_4
  try clear hfz9_5
  obtain ⟨kq, x3_1, rfl, HA, HJ1, BK115, HB⟩ := hcut
  cases kq with
  | zero => exact absurd HA.out (by simp [rec_Check.j0])
  | succ kj1 =>
   have H := HA.out
   clear HA
   simp only [rec_Check.j0] at H
   by_cases c15 : x3_1 = true
   ·subst c15
    have H1 : (some 1) = some r := by rw [if_pos rfl] at H; exact H
    clear H
    have H := H1
    clear H1
    obtain rfl := Option.some.inj H
    go_wp2
    go_ret
    exact ⟨er, bo⟩
   ·replace c15 := Bool.eq_false_iff.mpr c15
    subst c15
    have H1 : (if (a0_2.size : Int) > 1024 then (some 1) else (if (a0_3.size : Int) > 1024 then (some 1) else (if a0_5 = true then (if a0_3.toList = ([] : List UInt8) then (some 0) else (some 1)) else (some 0)))) = some r := by rw [if_neg (show ¬ (false = true) by decide)] at H; exact H
    clear H
    have H := H1
    clear H1
    by_cases c16 : (a0_2.size : Int) > 1024
    ·rw [if_pos c16] at H
     have c16b0 : decide (1024 < (a0_2.size : Int)) = true := decide_eq_true c16
     have c16b1 : decide (1024 < a0_2.size) = true := decide_eq_true (by omega)
     clear c16
     obtain rfl := Option.some.inj H
     have hcz17_0 : wc.cell? ⟨gb115, 0, none⟩ = some (.int .i64 a0_0) := (blk_cell BK115.out 0).trans rfl
     have hcz17_1 : wc.cell? ⟨gb115, 1, none⟩ = some (.int .i64 a0_1) := (blk_cell BK115.out 1).trans rfl
     have hcz17_2 : wc.cell? ⟨gb115, 2, none⟩ = some (.string a0_2) := (blk_cell BK115.out 2).trans rfl
     have hcz17_3 : wc.cell? ⟨gb115, 3, none⟩ = some (.string a0_3) := (blk_cell BK115.out 3).trans rfl
     have hcz17_4 : wc.cell? ⟨gb115, 4, none⟩ = some (.int .i64 a0_4) := (blk_cell BK115.out 4).trans rfl
     have hcz17_5 : wc.cell? ⟨gb115, 5, none⟩ = some (.bool a0_5) := (blk_cell BK115.out 5).trans rfl
     have hfz17_0 := blk_frozen BK115.out 0
     have hfz17_1 := blk_frozen BK115.out 1
     have hfz17_2 := blk_frozen BK115.out 2
     have hfz17_3 := blk_frozen BK115.out 3
     have hfz17_4 := blk_frozen BK115.out 4
     have hfz17_5 := blk_frozen BK115.out 5
     go_wp2
     go_ret
     exact ⟨er, bo⟩
    ·rw [if_neg c16] at H
     have c16b0 : decide (1024 < (a0_2.size : Int)) = false := decide_eq_false c16
     have c16b1 : decide (1024 < a0_2.size) = false := decide_eq_false (by omega)
     clear c16
     by_cases c18 : (a0_3.size : Int) > 1024
     ·rw [if_pos c18] at H
      have c18b0 : decide (1024 < (a0_3.size : Int)) = true := decide_eq_true c18
      have c18b1 : decide (1024 < a0_3.size) = true := decide_eq_true (by omega)
      clear c18
      obtain rfl := Option.some.inj H
      have hcz19_0 : wc.cell? ⟨gb115, 0, none⟩ = some (.int .i64 a0_0) := (blk_cell BK115.out 0).trans rfl
      have hcz19_1 : wc.cell? ⟨gb115, 1, none⟩ = some (.int .i64 a0_1) := (blk_cell BK115.out 1).trans rfl
      have hcz19_2 : wc.cell? ⟨gb115, 2, none⟩ = some (.string a0_2) := (blk_cell BK115.out 2).trans rfl
      have hcz19_3 : wc.cell? ⟨gb115, 3, none⟩ = some (.string a0_3) := (blk_cell BK115.out 3).trans rfl
      have hcz19_4 : wc.cell? ⟨gb115, 4, none⟩ = some (.int .i64 a0_4) := (blk_cell BK115.out 4).trans rfl
      have hcz19_5 : wc.cell? ⟨gb115, 5, none⟩ = some (.bool a0_5) := (blk_cell BK115.out 5).trans rfl
      have hfz19_0 := blk_frozen BK115.out 0
      have hfz19_1 := blk_frozen BK115.out 1
      have hfz19_2 := blk_frozen BK115.out 2
      have hfz19_3 := blk_frozen BK115.out 3
      have hfz19_4 := blk_frozen BK115.out 4
      have hfz19_5 := blk_frozen BK115.out 5
      go_wp2
      go_ret
      exact ⟨er, bo⟩
     ·rw [if_neg c18] at H
      have c18b0 : decide (1024 < (a0_3.size : Int)) = false := decide_eq_false c18
      have c18b1 : decide (1024 < a0_3.size) = false := decide_eq_false (by omega)
      clear c18
      by_cases c20 : a0_5 = true
      ·subst c20
       have H1 : (if a0_3.toList = ([] : List UInt8) then (some 0) else (some 1)) = some r := by rw [if_pos rfl] at H; exact H
       clear H
       have H := H1
       clear H1
       by_cases c21 : a0_3.toList = ([] : List UInt8)
       ·rw [if_pos c21] at H
        have c21b0 : (a0_3.toList == ([] : List UInt8)) = true := beq_iff_eq.mpr c21
        have c21b1 : (a0_3.toList != ([] : List UInt8)) = false := bne_eq_false_iff_eq.mpr c21
        clear c21
        obtain rfl := Option.some.inj H
        have hcz22_0 : wc.cell? ⟨gb115, 0, none⟩ = some (.int .i64 a0_0) := (blk_cell BK115.out 0).trans rfl
        have hcz22_1 : wc.cell? ⟨gb115, 1, none⟩ = some (.int .i64 a0_1) := (blk_cell BK115.out 1).trans rfl
        have hcz22_2 : wc.cell? ⟨gb115, 2, none⟩ = some (.string a0_2) := (blk_cell BK115.out 2).trans rfl
        have hcz22_3 : wc.cell? ⟨gb115, 3, none⟩ = some (.string a0_3) := (blk_cell BK115.out 3).trans rfl
        have hcz22_4 : wc.cell? ⟨gb115, 4, none⟩ = some (.int .i64 a0_4) := (blk_cell BK115.out 4).trans rfl
        have hcz22_5 : wc.cell? ⟨gb115, 5, none⟩ = some (.bool true) := (blk_cell BK115.out 5).trans rfl
        have hfz22_0 := blk_frozen BK115.out 0
        have hfz22_1 := blk_frozen BK115.out 1
        have hfz22_2 := blk_frozen BK115.out 2
        have hfz22_3 := blk_frozen BK115.out 3
        have hfz22_4 := blk_frozen BK115.out 4
        have hfz22_5 := blk_frozen BK115.out 5
        go_wp2
        go_ret
        exact ⟨er, bo⟩
       ·rw [if_neg c21] at H
        have c21b0 : (a0_3.toList == ([] : List UInt8)) = false := beq_eq_false_iff_ne.mpr c21
        have c21b1 : (a0_3.toList != ([] : List UInt8)) = true := bne_iff_ne.mpr c21
        obtain rfl := Option.some.inj H
        have hcz23_0 : wc.cell? ⟨gb115, 0, none⟩ = some (.int .i64 a0_0) := (blk_cell BK115.out 0).trans rfl
        have hcz23_1 : wc.cell? ⟨gb115, 1, none⟩ = some (.int .i64 a0_1) := (blk_cell BK115.out 1).trans rfl
        have hcz23_2 : wc.cell? ⟨gb115, 2, none⟩ = some (.string a0_2) := (blk_cell BK115.out 2).trans rfl
        have hcz23_3 : wc.cell? ⟨gb115, 3, none⟩ = some (.string a0_3) := (blk_cell BK115.out 3).trans rfl
        have hcz23_4 : wc.cell? ⟨gb115, 4, none⟩ = some (.int .i64 a0_4) := (blk_cell BK115.out 4).trans rfl
        have hcz23_5 : wc.cell? ⟨gb115, 5, none⟩ = some (.bool true) := (blk_cell BK115.out 5).trans rfl
        have hfz23_0 := blk_frozen BK115.out 0
        have hfz23_1 := blk_frozen BK115.out 1
        have hfz23_2 := blk_frozen BK115.out 2
        have hfz23_3 := blk_frozen BK115.out 3
        have hfz23_4 := blk_frozen BK115.out 4
        have hfz23_5 := blk_frozen BK115.out 5
        go_wp2
        go_ret
        exact ⟨er, bo⟩
      ·replace c20 := Bool.eq_false_iff.mpr c20
       subst c20
       have H1 : (some 0) = some r := by rw [if_neg (show ¬ (false = true) by decide)] at H; exact H
       clear H
       have H := H1
       clear H1
       obtain rfl := Option.some.inj H
       have hcz24_0 : wc.cell? ⟨gb115, 0, none⟩ = some (.int .i64 a0_0) := (blk_cell BK115.out 0).trans rfl
       have hcz24_1 : wc.cell? ⟨gb115, 1, none⟩ = some (.int .i64 a0_1) := (blk_cell BK115.out 1).trans rfl
       have hcz24_2 : wc.cell? ⟨gb115, 2, none⟩ = some (.string a0_2) := (blk_cell BK115.out 2).trans rfl
       have hcz24_3 : wc.cell? ⟨gb115, 3, none⟩ = some (.string a0_3) := (blk_cell BK115.out 3).trans rfl
       have hcz24_4 : wc.cell? ⟨gb115, 4, none⟩ = some (.int .i64 a0_4) := (blk_cell BK115.out 4).trans rfl
       have hcz24_5 : wc.cell? ⟨gb115, 5, none⟩ = some (.bool false) := (blk_cell BK115.out 5).trans rfl
       have hfz24_0 := blk_frozen BK115.out 0
       have hfz24_1 := blk_frozen BK115.out 1
       have hfz24_2 := blk_frozen BK115.out 2
       have hfz24_3 := blk_frozen BK115.out 3
       have hfz24_4 := blk_frozen BK115.out 4
       have hfz24_5 := blk_frozen BK115.out 5
       go_wp2
       go_ret
       exact ⟨er, bo⟩

end Go.Proofs.Ytigmekgknhoidaa.P

-- written by a program of the proving session, out of the translation; Lean checks it
namespace Go.Proofs.Ytigmekgknhoidaa.P
open Go.RowKit Go.Proofs.Ytigmekgknhoidaa.Sq Go.Proofs.YtigmekgknhoidaaW.PrintWords Go.Proofs.YtigmekgknhoidaaW.PrintLast Go.Proofs.YtigmekgknhoidaaW.PrintMore
attribute [local go_sem] max2_int min2_int max_two min_two max_three min_three max_four min_four   -- for this text's walks alone
set_option linter.unusedVariables false
set_option linter.unusedSimpArgs false

/-! ### seg_behind: function 66 -/
def seg_behind.f (k : Nat) (a0 : Int) (l1 : List (S25)) (a2_0 : Int) (a2_1 : Int) (a2_2 : ByteArray) (a2_3 : ByteArray) (a2_4 : Int) (a2_5 : Bool) : Option (Bool) := (rec_Check.f k a2_0 a2_1 a2_2 a2_3 a2_4 a2_5).bind fun t117 => (if t117 = 0 then (if a2_0 < a0 then (some false) else (if (l1.length : Int) ≥ 200 then (some false) else (if (l1.length : Int) = 0 then (some true) else (if 0 ≤ (wrap64 ((l1.length : Int) - 1)) then (if (wrap64 ((l1.length : Int) - 1)) < (l1.length : Int) then (if ((rd_T25 l1 (wrap64 ((l1.length : Int) - 1))).f0) < a2_0 then (some (decide (((rd_T25 l1 (wrap64 ((l1.length : Int) - 1))).f1) ≤ a2_1))) else (some false)) else (none)) else (none))))) else (some false))
theorem seg_behind.mono : ∀ a0 a1 a2 a3 a4 a5 a6 a7 k, LeO (seg_behind.f k a0 a1 a2 a3 a4 a5 a6 a7) (seg_behind.f (k + 1) a0 a1 a2 a3 a4 a5 a6 a7) := by
 intro a0 a1 a2 a3 a4 a5 a6 a7 k
 unfold seg_behind.f
 repeat' first
  | (with_reducible exact rec_Check.mono _ _ _ _ _ _ _)
  | (with_reducible exact LeO.refl _)
  | (with_reducible exact LeO.none _)
  | (with_reducible refine LeO.ite ?_ ?_)
  | (with_reducible refine LeO.bind ?_ (fun _ => ?_))
  | exact rec_Check.mono _ _ _ _ _ _ _
  | exact LeO.none _
  | refine LeO.ite ?_ ?_
  | refine LeO.bind ?_ (fun _ => ?_)
set_option maxHeartbeats 8000000 in
set_option maxRecDepth 100000 in
theorem seg_behind.calls (k : Nat) (a0 : Int) (A1 : Option Addr) (c1 : Nat) (l1 : List (S25)) (a2_0 : Int) (a2_1 : Int) (a2_2 : ByteArray) (a2_3 : ByteArray) (a2_4 : Int) (a2_5 : Bool) (r : Bool) (w : World) (hr1 : Kd.C k25 w A1 l1.length l1) (hc1 : l1.length ≤ c1) (h : seg_behind.f k a0 l1 a2_0 a2_1 a2_2 a2_3 a2_4 a2_5 = some r) :
 Calls Try.prog 66 #[.int .i64 a0, .slice A1 l1.length c1, .agg #[.int .i64 a2_0, .int .i64 a2_1, .string a2_2, .string a2_3, .int .i64 a2_4, .bool a2_5]] w fun e w' => e = .returned (.bool r) ∧ Below w.heap.size w w' := by
 have hu25 := Try.underlying25
 have HR1 := Aside0.mk hr1
 have HC1 := Aside0.mk hc1
 clear hr1 hc1
 have HB := Aside0.mk (Below.refl w.heap.size w)
 have H : ((rec_Check.f k a2_0 a2_1 a2_2 a2_3 a2_4 a2_5).bind fun t117 => (if t117 = 0 then (if a2_0 < a0 then (some false) else (if (l1.length : Int) ≥ 200 then (some false) else (if (l1.length : Int) = 0 then (some true) else (if 0 ≤ (wrap64 ((l1.length : Int) - 1)) then (if (wrap64 ((l1.length : Int) - 1)) < (l1.length : Int) then (if ((rd_T25 l1 (wrap64 ((l1.length : Int) - 1))).f0) < a2_0 then (some (decide (((rd_T25 l1 (wrap64 ((l1.length : Int) - 1))).f1) ≤ a2_1))) else (some false)) else (none)) else (none))))) else (some false))) = some r := h
 clear h
 replace H := Option.bind_eq_some_iff.mp H
 obtain ⟨t117, A40, H⟩ := H
 replace H : (if t117 = 0 then (if a2_0 < a0 then (some false) else (if (l1.length : Int) ≥ 200 then (some false) else (if (l1.length : Int) = 0 then (some true) else (if 0 ≤ (wrap64 ((l1.length : Int) - 1)) then (if (wrap64 ((l1.length : Int) - 1)) < (l1.length : Int) then (if ((rd_T25 l1 (wrap64 ((l1.length : Int) - 1))).f0) < a2_0 then (some (decide (((rd_T25 l1 (wrap64 ((l1.length : Int) - 1))).f1) ≤ a2_1))) else (some false)) else (none)) else (none))))) else (some false)) = some r := H
 have A4 := Aside0.mk A40
 clear A40
 by_cases c5 : t117 = 0
 ·rw [if_pos c5] at H
  have c5b0 : (t117 == 0) = true := beq_iff_eq.mpr c5
  have c5b1 : (t117 != 0) = false := bne_eq_false_iff_eq.mpr c5
  clear c5
  by_cases c6 : a2_0 < a0
  ·rw [if_pos c6] at H
   have c6b0 : decide (a2_0 < a0) = true := decide_eq_true c6
   clear c6
   obtain rfl := Option.some.inj H
   go_enter Try.func66, Try.ntmps66
   go_wp2_with (first | ((with_reducible refine gate_dst (N := 5) rfl ?_); (try (refine gate_guard (by rfl) ?_; dsimp only)); refine box_event ?hg (N := 5) ?hd (cs := #[.int .i64 a2_0, .int .i64 a2_1, .string a2_2, .string a2_3, .int .i64 a2_4, .bool a2_5]) (t := 25) ?hr ?_; (case hd => rfl); (case hg => rfl); (case hr => first | (go_simp; done) | (go_simp; rfl)); intro gb116 hg w7 hbox hb; have BK116 := Aside0.mk (hbox); have GW116 := Aside0.mk ((by rw [hg]; exact (below_size bo) : w.heap.size ≤ gb116)); have GE116 := Aside0.mk ((by rw [hg]; exact (below_size bo) : w.heap.size ≤ gb116)); replace HB := Aside0.mk (below_step bo hb); clear hb hbox hg; obtain ⟨hcz8_0, hcz8_1, hcz8_2, hcz8_3, hcz8_4, hcz8_5⟩ := cl6 BK116.out; obtain ⟨hfz8_0, hfz8_1, hfz8_2, hfz8_3, hfz8_4, hfz8_5⟩ := fz6 BK116.out) | (go_at_call 71; (with_reducible refine (rec_Check.calls k a2_0 a2_1 a2_2 a2_3 a2_4 a2_5 t117 _ A4.out).mono ?_); rintro e w9 ⟨rfl, hb⟩; replace BK116 := Aside0.mk (blk_below (g := gb116) (o := .cells #[.int .i64 a2_0, .int .i64 a2_1, .string a2_2, .string a2_3, .int .i64 a2_4, .bool a2_5] 25 (0, 0)) (bk BK116.out) hb); replace HB := Aside0.mk (below_step bo hb); (try clear hb); (try clear hb2); (try clear hk); (try clear hi); obtain ⟨hcz10_0, hcz10_1, hcz10_2, hcz10_3, hcz10_4, hcz10_5⟩ := cl6 BK116.out; obtain ⟨hfz10_0, hfz10_1, hfz10_2, hfz10_3, hfz10_4, hfz10_5⟩ := fz6 BK116.out))
   repeat (go_quiet (first | ((with_reducible refine gate_dst (N := 5) rfl ?_); (try (refine gate_guard (by rfl) ?_; dsimp only)); refine box_event ?hg (N := 5) ?hd (cs := #[.int .i64 a2_0, .int .i64 a2_1, .string a2_2, .string a2_3, .int .i64 a2_4, .bool a2_5]) (t := 25) ?hr ?_; (case hd => rfl); (case hg => rfl); (case hr => first | (go_simp; done) | (go_simp; rfl)); intro gb116 hg w7 hbox hb; have BK116 := Aside0.mk (hbox); have GW116 := Aside0.mk ((by rw [hg]; exact (below_size bo) : w.heap.size ≤ gb116)); have GE116 := Aside0.mk ((by rw [hg]; exact (below_size bo) : w.heap.size ≤ gb116)); replace HB := Aside0.mk (below_step bo hb); clear hb hbox hg; obtain ⟨hcz8_0, hcz8_1, hcz8_2, hcz8_3, hcz8_4, hcz8_5⟩ := cl6 BK116.out; obtain ⟨hfz8_0, hfz8_1, hfz8_2, hfz8_3, hfz8_4, hfz8_5⟩ := fz6 BK116.out) | (go_at_call 71; (with_reducible refine (rec_Check.calls k a2_0 a2_1 a2_2 a2_3 a2_4 a2_5 t117 _ A4.out).mono ?_); rintro e w9 ⟨rfl, hb⟩; replace BK116 := Aside0.mk (blk_below (g := gb116) (o := .cells #[.int .i64 a2_0, .int .i64 a2_1, .string a2_2, .string a2_3, .int .i64 a2_4, .bool a2_5] 25 (0, 0)) (bk BK116.out) hb); replace HB := Aside0.mk (below_step bo hb); (try clear hb); (try clear hb2); (try clear hk); (try clear hi); obtain ⟨hcz10_0, hcz10_1, hcz10_2, hcz10_3, hcz10_4, hcz10_5⟩ := cl6 BK116.out; obtain ⟨hfz10_0, hfz10_1, hfz10_2, hfz10_3, hfz10_4, hfz10_5⟩ := fz6 BK116.out)); try go_wp2_with (first | ((with_reducible refine gate_dst (N := 5) rfl ?_); (try (refine gate_guard (by rfl) ?_; dsimp only)); refine box_event ?hg (N := 5) ?hd (cs := #[.int .i64 a2_0, .int .i64 a2_1, .string a2_2, .string a2_3, .int .i64 a2_4, .bool a2_5]) (t := 25) ?hr ?_; (case hd => rfl); (case hg => rfl); (case hr => first | (go_simp; done) | (go_simp; rfl)); intro gb116 hg w7 hbox hb; have BK116 := Aside0.mk (hbox); have GW116 := Aside0.mk ((by rw [hg]; exact (below_size bo) : w.heap.size ≤ gb116)); have GE116 := Aside0.mk ((by rw [hg]; exact (below_size bo) : w.heap.size ≤ gb116)); replace HB := Aside0.mk (below_step bo hb); clear hb hbox hg; obtain ⟨hcz8_0, hcz8_1, hcz8_2, hcz8_3, hcz8_4, hcz8_5⟩ := cl6 BK116.out; obtain ⟨hfz8_0, hfz8_1, hfz8_2, hfz8_3, hfz8_4, hfz8_5⟩ := fz6 BK116.out) | (go_at_call 71; (with_reducible refine (rec_Check.calls k a2_0 a2_1 a2_2 a2_3 a2_4 a2_5 t117 _ A4.out).mono ?_); rintro e w9 ⟨rfl, hb⟩; replace BK116 := Aside0.mk (blk_below (g := gb116) (o := .cells #[.int .i64 a2_0, .int .i64 a2_1, .string a2_2, .string a2_3, .int .i64 a2_4, .bool a2_5] 25 (0, 0)) (bk BK116.out) hb); replace HB := Aside0.mk (below_step bo hb); (try clear hb); (try clear hb2); (try clear hk); (try clear hi); obtain ⟨hcz10_0, hcz10_1, hcz10_2, hcz10_3, hcz10_4, hcz10_5⟩ := cl6 BK116.out; obtain ⟨hfz10_0, hfz10_1, hfz10_2, hfz10_3, hfz10_4, hfz10_5⟩ := fz6 BK116.out)))
   go_ret
   exact ⟨er, bo⟩
  ·rw [if_neg c6] at H
   have c6b0 : decide (a2_0 < a0) = false := decide_eq_false c6
   clear c6
   by_cases c11 : (l1.length : Int) ≥ 200
   ·rw [if_pos c11] at H
    have c11b0 : decide (200 ≤ (l1.length : Int)) = true := decide_eq_true c11
    have c11b1 : decide (200 ≤ l1.length) = true := decide_eq_true (by omega)
    clear c11
    obtain rfl := Option.some.inj H
    go_enter Try.func66, Try.ntmps66
    go_wp2_with (first | ((with_reducible refine gate_dst (N := 5) rfl ?_); (try (refine gate_guard (by rfl) ?_; dsimp only)); refine box_event ?hg (N := 5) ?hd (cs := #[.int .i64 a2_0, .int .i64 a2_1, .string a2_2, .string a2_3, .int .i64 a2_4, .bool a2_5]) (t := 25) ?hr ?_; (case hd => rfl); (case hg => rfl); (case hr => first | (go_simp; done) | (go_simp; rfl)); intro gb116 hg w12 hbox hb; have BK116 := Aside0.mk (hbox); have GW116 := Aside0.mk ((by rw [hg]; exact (below_size bo) : w.heap.size ≤ gb116)); have GE116 := Aside0.mk ((by rw [hg]; exact (below_size bo) : w.heap.size ≤ gb116)); replace HB := Aside0.mk (below_step bo hb); clear hb hbox hg; obtain ⟨hcz13_0, hcz13_1, hcz13_2, hcz13_3, hcz13_4, hcz13_5⟩ := cl6 BK116.out; obtain ⟨hfz13_0, hfz13_1, hfz13_2, hfz13_3, hfz13_4, hfz13_5⟩ := fz6 BK116.out) | (go_at_call 71; (with_reducible refine (rec_Check.calls k a2_0 a2_1 a2_2 a2_3 a2_4 a2_5 t117 _ A4.out).mono ?_); rintro e w14 ⟨rfl, hb⟩; replace BK116 := Aside0.mk (blk_below (g := gb116) (o := .cells #[.int .i64 a2_0, .int .i64 a2_1, .string a2_2, .string a2_3, .int .i64 a2_4, .bool a2_5] 25 (0, 0)) (bk BK116.out) hb); replace HB := Aside0.mk (below_step bo hb); (try clear hb); (try clear hb2); (try clear hk); (try clear hi); obtain ⟨hcz15_0, hcz15_1, hcz15_2, hcz15_3, hcz15_4, hcz15_5⟩ := cl6 BK116.out; obtain ⟨hfz15_0, hfz15_1, hfz15_2, hfz15_3, hfz15_4, hfz15_5⟩ := fz6 BK116.out))
    repeat (go_quiet (first | ((with_reducible refine gate_dst (N := 5) rfl ?_); (try (refine gate_guard (by rfl) ?_; dsimp only)); refine box_event ?hg (N := 5) ?hd (cs := #[.int .i64 a2_0, .int .i64 a2_1, .string a2_2, .string a2_3, .int .i64 a2_4, .bool a2_5]) (t := 25) ?hr ?_; (case hd => rfl); (case hg => rfl); (case hr => first | (go_simp; done) | (go_simp; rfl)); intro gb116 hg w12 hbox hb; have BK116 := Aside0.mk (hbox); have GW116 := Aside0.mk ((by rw [hg]; exact (below_size bo) : w.heap.size ≤ gb116)); have GE116 := Aside0.mk ((by rw [hg]; exact (below_size bo) : w.heap.size ≤ gb116)); replace HB := Aside0.mk (below_step bo hb); clear hb hbox hg; obtain ⟨hcz13_0, hcz13_1, hcz13_2, hcz13_3, hcz13_4, hcz13_5⟩ := cl6 BK116.out; obtain ⟨hfz13_0, hfz13_1, hfz13_2, hfz13_3, hfz13_4, hfz13_5⟩ := fz6 BK116.out) | (go_at_call 71; (with_reducible refine (rec_Check.calls k a2_0 a2_1 a2_2 a2_3 a2_4 a2_5 t117 _ A4.out).mono ?_); rintro e w14 ⟨rfl, hb⟩; replace BK116 := Aside0.mk (blk_below (g := gb116) (o := .cells #[.int .i64 a2_0, .int .i64 a2_1, .string a2_2, .string a2_3, .int .i64 a2_4, .bool a2_5] 25 (0, 0)) (bk BK116.out) hb); replace HB := Aside0.mk (below_step bo hb); (try clear hb); (try clear hb2); (try clear hk); (try clear hi); obtain ⟨hcz15_0, hcz15_1, hcz15_2, hcz15_3, hcz15_4, hcz15_5⟩ := cl6 BK116.out; obtain ⟨hfz15_0, hfz15_1, hfz15_2, hfz15_3, hfz15_4, hfz15_5⟩ := fz6 BK116.out)); try go_wp2_with (first | ((with_reducible refine gate_dst (N := 5) rfl ?_); (try (refine gate_guard (by rfl) ?_; dsimp only)); refine box_event ?hg (N := 5) ?hd (cs := #[.int .i64 a2_0, .int .i64 a2_1, .string a2_2, .string a2_3, .int .i64 a2_4, .bool a2_5]) (t := 25) ?hr ?_; (case hd => rfl); (case hg => rfl); (case hr => first | (go_simp; done) | (go_simp; rfl)); intro gb116 hg w12 hbox hb; have BK116 := Aside0.mk (hbox); have GW116 := Aside0.mk ((by rw [hg]; exact (below_size bo) : w.heap.size ≤ gb116)); have GE116 := Aside0.mk ((by rw [hg]; exact (below_size bo) : w.heap.size ≤ gb116)); replace HB := Aside0.mk (below_step bo hb); clear hb hbox hg; obtain ⟨hcz13_0, hcz13_1, hcz13_2, hcz13_3, hcz13_4, hcz13_5⟩ := cl6 BK116.out; obtain ⟨hfz13_0, hfz13_1, hfz13_2, hfz13_3, hfz13_4, hfz13_5⟩ := fz6 BK116.out) | (go_at_call 71; (with_reducible refine (rec_Check.calls k a2_0 a2_1 a2_2 a2_3 a2_4 a2_5 t117 _ A4.out).mono ?_); rintro e w14 ⟨rfl, hb⟩; replace BK116 := Aside0.mk (blk_below (g := gb116) (o := .cells #[.int .i64 a2_0, .int .i64 a2_1, .string a2_2, .string a2_3, .int .i64 a2_4, .bool a2_5] 25 (0, 0)) (bk BK116.out) hb); replace HB := Aside0.mk (below_step bo hb); (try clear hb); (try clear hb2); (try clear hk); (try clear hi); obtain ⟨hcz15_0, hcz15_1, hcz15_2, hcz15_3, hcz15_4, hcz15_5⟩ := cl6 BK116.out; obtain ⟨hfz15_0, hfz15_1, hfz15_2, hfz15_3, hfz15_4, hfz15_5⟩ := fz6 BK116.out)))
    go_ret
    exact ⟨er, bo⟩
   ·rw [if_neg c11] at H
    have c11b0 : decide (200 ≤ (l1.length : Int)) = false := decide_eq_false c11
    have c11b1 : decide (200 ≤ l1.length) = false := decide_eq_false (by omega)
    clear c11
    by_cases c16 : (l1.length : Int) = 0
    ·rw [if_pos c16] at H
     have c16b0 : ((l1.length : Int) == 0) = true := beq_iff_eq.mpr c16
     have c16b1 : ((l1.length : Int) != 0) = false := bne_eq_false_iff_eq.mpr c16
     clear c16
     obtain rfl := Option.some.inj H
     go_enter Try.func66, Try.ntmps66
     go_wp2_with (first | ((with_reducible refine gate_dst (N := 5) rfl ?_); (try (refine gate_guard (by rfl) ?_; dsimp only)); refine box_event ?hg (N := 5) ?hd (cs := #[.int .i64 a2_0, .int .i64 a2_1, .string a2_2, .string a2_3, .int .i64 a2_4, .bool a2_5]) (t := 25) ?hr ?_; (case hd => rfl); (case hg => rfl); (case hr => first | (go_simp; done) | (go_simp; rfl)); intro gb116 hg w17 hbox hb; have BK116 := Aside0.mk (hbox); have GW116 := Aside0.mk ((by rw [hg]; exact (below_size bo) : w.heap.size ≤ gb116)); have GE116 := Aside0.mk ((by rw [hg]; exact (below_size bo) : w.heap.size ≤ gb116)); replace HB := Aside0.mk (below_step bo hb); clear hb hbox hg; obtain ⟨hcz18_0, hcz18_1, hcz18_2, hcz18_3, hcz18_4, hcz18_5⟩ := cl6 BK116.out; obtain ⟨hfz18_0, hfz18_1, hfz18_2, hfz18_3, hfz18_4, hfz18_5⟩ := fz6 BK116.out) | (go_at_call 71; (with_reducible refine (rec_Check.calls k a2_0 a2_1 a2_2 a2_3 a2_4 a2_5 t117 _ A4.out).mono ?_); rintro e w19 ⟨rfl, hb⟩; replace BK116 := Aside0.mk (blk_below (g := gb116) (o := .cells #[.int .i64 a2_0, .int .i64 a2_1, .string a2_2, .string a2_3, .int .i64 a2_4, .bool a2_5] 25 (0, 0)) (bk BK116.out) hb); replace HB := Aside0.mk (below_step bo hb); (try clear hb); (try clear hb2); (try clear hk); (try clear hi); obtain ⟨hcz20_0, hcz20_1, hcz20_2, hcz20_3, hcz20_4, hcz20_5⟩ := cl6 BK116.out; obtain ⟨hfz20_0, hfz20_1, hfz20_2, hfz20_3, hfz20_4, hfz20_5⟩ := fz6 BK116.out))
     repeat (go_quiet (first | ((with_reducible refine gate_dst (N := 5) rfl ?_); (try (refine gate_guard (by rfl) ?_; dsimp only)); refine box_event ?hg (N := 5) ?hd (cs := #[.int .i64 a2_0, .int .i64 a2_1, .string a2_2, .string a2_3, .int .i64 a2_4, .bool a2_5]) (t := 25) ?hr ?_; (case hd => rfl); (case hg => rfl); (case hr => first | (go_simp; done) | (go_simp; rfl)); intro gb116 hg w17 hbox hb; have BK116 := Aside0.mk (hbox); have GW116 := Aside0.mk ((by rw [hg]; exact (below_size bo) : w.heap.size ≤ gb116)); have GE116 := Aside0.mk ((by rw [hg]; exact (below_size bo) : w.heap.size ≤ gb116)); replace HB := Aside0.mk (below_step bo hb); clear hb hbox hg; obtain ⟨hcz18_0, hcz18_1, hcz18_2, hcz18_3, hcz18_4, hcz18_5⟩ := cl6 BK116.out; obtain ⟨hfz18_0, hfz18_1, hfz18_2, hfz18_3, hfz18_4, hfz18_5⟩ := fz6 BK116.out) | (go_at_call 71; (with_reducible refine (rec_Check.calls k a2_0 a2_1 a2_2 a2_3 a2_4 a2_5 t117 _ A4.out).mono ?_); rintro e w19 ⟨rfl, hb⟩; replace BK116 := Aside0.mk (blk_below (g := gb116) (o := .cells #[.int .i64 a2_0, .int .i64 a2_1, .string a2_2, .string a2_3, .int .i64 a2_4, .bool a2_5] 25 (0, 0)) (bk BK116.out) hb); replace HB := Aside0.mk (below_step bo hb); (try clear hb); (try clear hb2); (try clear hk); (try clear hi); obtain ⟨hcz20_0, hcz20_1, hcz20_2, hcz20_3, hcz20_4, hcz20_5⟩ := cl6 BK116.out; obtain ⟨hfz20_0, hfz20_1, hfz20_2, hfz20_3, hfz20_4, hfz20_5⟩ := fz6 BK116.out)); try go_wp2_with (first | ((with_reducible refine gate_dst (N := 5) rfl ?_); (try (refine gate_guard (by rfl) ?_; dsimp only)); refine box_event ?hg (N := 5) ?hd (cs := #[.int .i64 a2_0, .int .i64 a2_1, .string a2_2, .string a2_3, .int .i64 a2_4, .bool a2_5]) (t := 25) ?hr ?_; (case hd => rfl); (case hg => rfl); (case hr => first | (go_simp; done) | (go_simp; rfl)); intro gb116 hg w17 hbox hb; have BK116 := Aside0.mk (hbox); have GW116 := Aside0.mk ((by rw [hg]; exact (below_size bo) : w.heap.size ≤ gb116)); have GE116 := Aside0.mk ((by rw [hg]; exact (below_size bo) : w.heap.size ≤ gb116)); replace HB := Aside0.mk (below_step bo hb); clear hb hbox hg; obtain ⟨hcz18_0, hcz18_1, hcz18_2, hcz18_3, hcz18_4, hcz18_5⟩ := cl6 BK116.out; obtain ⟨hfz18_0, hfz18_1, hfz18_2, hfz18_3, hfz18_4, hfz18_5⟩ := fz6 BK116.out) | (go_at_call 71; (with_reducible refine (rec_Check.calls k a2_0 a2_1 a2_2 a2_3 a2_4 a2_5 t117 _ A4.out).mono ?_); rintro e w19 ⟨rfl, hb⟩; replace BK116 := Aside0.mk (blk_below (g := gb116) (o := .cells #[.int .i64 a2_0, .int .i64 a2_1, .string a2_2, .string a2_3, .int .i64 a2_4, .bool a2_5] 25 (0, 0)) (bk BK116.out) hb); replace HB := Aside0.mk (below_step bo hb); (try clear hb); (try clear hb2); (try clear hk); (try clear hi); obtain ⟨hcz20_0, hcz20_1, hcz20_2, hcz20_3, hcz20_4, hcz20_5⟩ := cl6 BK116.out; obtain ⟨hfz20_0, hfz20_1, hfz20_2, hfz20_3, hfz20_4, hfz20_5⟩ := fz6 BK116.out)))
     go_ret
     exact ⟨er, bo⟩
    ·rw [if_neg c16] at H
     have c16b0 : ((l1.length : Int) == 0) = false := beq_eq_false_iff_ne.mpr c16
     have c16b1 : ((l1.length : Int) != 0) = true := bne_iff_ne.mpr c16
     have c16b2 : ¬ (l1 = []) := fun h_ => c16 (by rw [h_]; rfl)
     obtain ⟨ji21, hji21⟩ : ∃ j_ : Int, (wrap64 ((l1.length : Int) - 1)) = j_ := ⟨_, rfl⟩
     replace H : (if 0 ≤ (ji21) then (if (ji21) < (l1.length : Int) then (if ((rd_T25 l1 (ji21)).f0) < a2_0 then (some (decide (((rd_T25 l1 (ji21)).f1) ≤ a2_1))) else (some false)) else (none)) else (none)) = some r := by first | (rw [hji21] at H; exact H) | (simp only [hji21] at H ⊢; exact H)
     (try rw [hji21] at A4)
     have hji21w : (IntKind.i64.wrap ((l1.length : Int) - 1)) = ji21 := (i64_w _).trans hji21
     by_cases c22 : 0 ≤ (ji21)
     ·rw [if_pos c22] at H
      have c22b0 : decide (0 ≤ (ji21)) = true := decide_eq_true c22
      clear c22
      by_cases c23 : (ji21) < (l1.length : Int)
      ·rw [if_pos c23] at H
       have c23b0 : decide ((ji21) < (l1.length : Int)) = true := decide_eq_true c23
       clear c23
       by_cases c24 : ((rd_T25 l1 (ji21)).f0) < a2_0
       ·rw [if_pos c24] at H
        have c24b0 : decide (((rd_T25 l1 (ji21)).f0) < a2_0) = true := decide_eq_true c24
        clear c24
        obtain rfl := Option.some.inj H
        go_enter Try.func66, Try.ntmps66
        go_wp2_with (first | ((with_reducible refine gate_dst (N := 5) rfl ?_); (try (refine gate_guard (by rfl) ?_; dsimp only)); refine box_event ?hg (N := 5) ?hd (cs := #[.int .i64 a2_0, .int .i64 a2_1, .string a2_2, .string a2_3, .int .i64 a2_4, .bool a2_5]) (t := 25) ?hr ?_; (case hd => rfl); (case hg => rfl); (case hr => first | (go_simp; done) | (go_simp; rfl)); intro gb116 hg w25 hbox hb; have BK116 := Aside0.mk (hbox); have GW116 := Aside0.mk ((by rw [hg]; exact (below_size bo) : w.heap.size ≤ gb116)); have GE116 := Aside0.mk ((by rw [hg]; exact (below_size bo) : w.heap.size ≤ gb116)); replace HB := Aside0.mk (below_step bo hb); clear hb hbox hg; obtain ⟨hcz26_0, hcz26_1, hcz26_2, hcz26_3, hcz26_4, hcz26_5⟩ := cl6 BK116.out; obtain ⟨hfz26_0, hfz26_1, hfz26_2, hfz26_3, hfz26_4, hfz26_5⟩ := fz6 BK116.out) | (go_at_call 71; (with_reducible refine (rec_Check.calls k a2_0 a2_1 a2_2 a2_3 a2_4 a2_5 t117 _ A4.out).mono ?_); rintro e w27 ⟨rfl, hb⟩; replace BK116 := Aside0.mk (blk_below (g := gb116) (o := .cells #[.int .i64 a2_0, .int .i64 a2_1, .string a2_2, .string a2_3, .int .i64 a2_4, .bool a2_5] 25 (0, 0)) (bk BK116.out) hb); replace HB := Aside0.mk (below_step bo hb); (try clear hb); (try clear hb2); (try clear hk); (try clear hi); obtain ⟨hcz28_0, hcz28_1, hcz28_2, hcz28_3, hcz28_4, hcz28_5⟩ := cl6 BK116.out; obtain ⟨hfz28_0, hfz28_1, hfz28_2, hfz28_3, hfz28_4, hfz28_5⟩ := fz6 BK116.out; have p118 : 0 ≤ ((ji21) : Int) := od; have q118 : (ji21) < (l1.length : Int) := od; obtain ⟨ad118, e118, hx118_0, hx118_1, hx118_2, hx118_3, hx118_4, hx118_5⟩ := at_T25 HR1.out (ji21) p118 q118; cases e118; replace hx118_0 := cx HB.out hx118_0; replace hx118_1 := cx HB.out hx118_1; replace hx118_2 := cx HB.out hx118_2; replace hx118_3 := cx HB.out hx118_3; replace hx118_4 := cx HB.out hx118_4; replace hx118_5 := cx HB.out hx118_5; replace p118 := eq_true p118; replace q118 := eq_true q118; have p119 : 0 ≤ ((ji21) : Int) := od; have q119 : (ji21) < (l1.length : Int) := od; obtain ⟨ad119, e119, hx119_0, hx119_1, hx119_2, hx119_3, hx119_4, hx119_5⟩ := at_T25 HR1.out (ji21) p119 q119; obtain rfl : ad118 = ad119 := (by injection e119); replace hx119_0 := cx HB.out hx119_0; replace hx119_1 := cx HB.out hx119_1; replace hx119_2 := cx HB.out hx119_2; replace hx119_3 := cx HB.out hx119_3; replace hx119_4 := cx HB.out hx119_4; replace hx119_5 := cx HB.out hx119_5; replace p119 := eq_true p119; replace q119 := eq_true q119))
        repeat (go_quiet (first | ((with_reducible refine gate_dst (N := 5) rfl ?_); (try (refine gate_guard (by rfl) ?_; dsimp only)); refine box_event ?hg (N := 5) ?hd (cs := #[.int .i64 a2_0, .int .i64 a2_1, .string a2_2, .string a2_3, .int .i64 a2_4, .bool a2_5]) (t := 25) ?hr ?_; (case hd => rfl); (case hg => rfl); (case hr => first | (go_simp; done) | (go_simp; rfl)); intro gb116 hg w25 hbox hb; have BK116 := Aside0.mk (hbox); have GW116 := Aside0.mk ((by rw [hg]; exact (below_size bo) : w.heap.size ≤ gb116)); have GE116 := Aside0.mk ((by rw [hg]; exact (below_size bo) : w.heap.size ≤ gb116)); replace HB := Aside0.mk (below_step bo hb); clear hb hbox hg; obtain ⟨hcz26_0, hcz26_1, hcz26_2, hcz26_3, hcz26_4, hcz26_5⟩ := cl6 BK116.out; obtain ⟨hfz26_0, hfz26_1, hfz26_2, hfz26_3, hfz26_4, hfz26_5⟩ := fz6 BK116.out) | (go_at_call 71; (with_reducible refine (rec_Check.calls k a2_0 a2_1 a2_2 a2_3 a2_4 a2_5 t117 _ A4.out).mono ?_); rintro e w27 ⟨rfl, hb⟩; replace BK116 := Aside0.mk (blk_below (g := gb116) (o := .cells #[.int .i64 a2_0, .int .i64 a2_1, .string a2_2, .string a2_3, .int .i64 a2_4, .bool a2_5] 25 (0, 0)) (bk BK116.out) hb); replace HB := Aside0.mk (below_step bo hb); (try clear hb); (try clear hb2); (try clear hk); (try clear hi); obtain ⟨hcz28_0, hcz28_1, hcz28_2, hcz28_3, hcz28_4, hcz28_5⟩ := cl6 BK116.out; obtain ⟨hfz28_0, hfz28_1, hfz28_2, hfz28_3, hfz28_4, hfz28_5⟩ := fz6 BK116.out; have p118 : 0 ≤ ((ji21) : Int) := od; have q118 : (ji21) < (l1.length : Int) := od; obtain ⟨ad118, e118, hx118_0, hx118_1, hx118_2, hx118_3, hx118_4, hx118_5⟩ := at_T25 HR1.out (ji21) p118 q118; cases e118; replace hx118_0 := cx HB.out hx118_0; replace hx118_1 := cx HB.out hx118_1; replace hx118_2 := cx HB.out hx118_2; replace hx118_3 := cx HB.out hx118_3; replace hx118_4 := cx HB.out hx118_4; replace hx118_5 := cx HB.out hx118_5; replace p118 := eq_true p118; replace q118 := eq_true q118; have p119 : 0 ≤ ((ji21) : Int) := od; have q119 : (ji21) < (l1.length : Int) := od; obtain ⟨ad119, e119, hx119_0, hx119_1, hx119_2, hx119_3, hx119_4, hx119_5⟩ := at_T25 HR1.out (ji21) p119 q119; obtain rfl : ad118 = ad119 := (by injection e119); replace hx119_0 := cx HB.out hx119_0; replace hx119_1 := cx HB.out hx119_1; replace hx119_2 := cx HB.out hx119_2; replace hx119_3 := cx HB.out hx119_3; replace hx119_4 := cx HB.out hx119_4; replace hx119_5 := cx HB.out hx119_5; replace p119 := eq_true p119; replace q119 := eq_true q119)); try go_wp2_with (first | ((with_reducible refine gate_dst (N := 5) rfl ?_); (try (refine gate_guard (by rfl) ?_; dsimp only)); refine box_event ?hg (N := 5) ?hd (cs := #[.int .i64 a2_0, .int .i64 a2_1, .string a2_2, .string a2_3, .int .i64 a2_4, .bool a2_5]) (t := 25) ?hr ?_; (case hd => rfl); (case hg => rfl); (case hr => first | (go_simp; done) | (go_simp; rfl)); intro gb116 hg w25 hbox hb; have BK116 := Aside0.mk (hbox); have GW116 := Aside0.mk ((by rw [hg]; exact (below_size bo) : w.heap.size ≤ gb116)); have GE116 := Aside0.mk ((by rw [hg]; exact (below_size bo) : w.heap.size ≤ gb116)); replace HB := Aside0.mk (below_step bo hb); clear hb hbox hg; obtain ⟨hcz26_0, hcz26_1, hcz26_2, hcz26_3, hcz26_4, hcz26_5⟩ := cl6 BK116.out; obtain ⟨hfz26_0, hfz26_1, hfz26_2, hfz26_3, hfz26_4, hfz26_5⟩ := fz6 BK116.out) | (go_at_call 71; (with_reducible refine (rec_Check.calls k a2_0 a2_1 a2_2 a2_3 a2_4 a2_5 t117 _ A4.out).mono ?_); rintro e w27 ⟨rfl, hb⟩; replace BK116 := Aside0.mk (blk_below (g := gb116) (o := .cells #[.int .i64 a2_0, .int .i64 a2_1, .string a2_2, .string a2_3, .int .i64 a2_4, .bool a2_5] 25 (0, 0)) (bk BK116.out) hb); replace HB := Aside0.mk (below_step bo hb); (try clear hb); (try clear hb2); (try clear hk); (try clear hi); obtain ⟨hcz28_0, hcz28_1, hcz28_2, hcz28_3, hcz28_4, hcz28_5⟩ := cl6 BK116.out; obtain ⟨hfz28_0, hfz28_1, hfz28_2, hfz28_3, hfz28_4, hfz28_5⟩ := fz6 BK116.out; have p118 : 0 ≤ ((ji21) : Int) := od; have q118 : (ji21) < (l1.length : Int) := od; obtain ⟨ad118, e118, hx118_0, hx118_1, hx118_2, hx118_3, hx118_4, hx118_5⟩ := at_T25 HR1.out (ji21) p118 q118; cases e118; replace hx118_0 := cx HB.out hx118_0; replace hx118_1 := cx HB.out hx118_1; replace hx118_2 := cx HB.out hx118_2; replace hx118_3 := cx HB.out hx118_3; replace hx118_4 := cx HB.out hx118_4; replace hx118_5 := cx HB.out hx118_5; replace p118 := eq_true p118; replace q118 := eq_true q118; have p119 : 0 ≤ ((ji21) : Int) := od; have q119 : (ji21) < (l1.length : Int) := od; obtain ⟨ad119, e119, hx119_0, hx119_1, hx119_2, hx119_3, hx119_4, hx119_5⟩ := at_T25 HR1.out (ji21) p119 q119; obtain rfl : ad118 = ad119 := (by injection e119); replace hx119_0 := cx HB.out hx119_0; replace hx119_1 := cx HB.out hx119_1; replace hx119_2 := cx HB.out hx119_2; replace hx119_3 := cx HB.out hx119_3; replace hx119_4 := cx HB.out hx119_4; replace hx119_5 := cx HB.out hx119_5; replace p119 := eq_true p119; replace q119 := eq_true q119)))
        go_ret
        exact ⟨by first | rfl | (simp [errW_none, errW_some] <;> rfl) | (simp only [← hji21]; first | rfl | (simp [errW_none, errW_some] <;> rfl)) | (simp [*, errW_none, errW_some] <;> rfl), bo⟩
       ·rw [if_neg c24] at H
        have c24b0 : decide (((rd_T25 l1 (ji21)).f0) < a2_0) = false := decide_eq_false c24
        clear c24
        obtain rfl := Option.some.inj H
        go_enter Try.func66, Try.ntmps66
        go_wp2_with (first | ((with_reducible refine gate_dst (N := 5) rfl ?_); (try (refine gate_guard (by rfl) ?_; dsimp only)); refine box_event ?hg (N := 5) ?hd (cs := #[.int .i64 a2_0, .int .i64 a2_1, .string a2_2, .string a2_3, .int .i64 a2_4, .bool a2_5]) (t := 25) ?hr ?_; (case hd => rfl); (case hg => rfl); (case hr => first | (go_simp; done) | (go_simp; rfl)); intro gb116 hg w29 hbox hb; have BK116 := Aside0.mk (hbox); have GW116 := Aside0.mk ((by rw [hg]; exact (below_size bo) : w.heap.size ≤ gb116)); have GE116 := Aside0.mk ((by rw [hg]; exact (below_size bo) : w.heap.size ≤ gb116)); replace HB := Aside0.mk (below_step bo hb); clear hb hbox hg; obtain ⟨hcz30_0, hcz30_1, hcz30_2, hcz30_3, hcz30_4, hcz30_5⟩ := cl6 BK116.out; obtain ⟨hfz30_0, hfz30_1, hfz30_2, hfz30_3, hfz30_4, hfz30_5⟩ := fz6 BK116.out) | (go_at_call 71; (with_reducible refine (rec_Check.calls k a2_0 a2_1 a2_2 a2_3 a2_4 a2_5 t117 _ A4.out).mono ?_); rintro e w31 ⟨rfl, hb⟩; replace BK116 := Aside0.mk (blk_below (g := gb116) (o := .cells #[.int .i64 a2_0, .int .i64 a2_1, .string a2_2, .string a2_3, .int .i64 a2_4, .bool a2_5] 25 (0, 0)) (bk BK116.out) hb); replace HB := Aside0.mk (below_step bo hb); (try clear hb); (try clear hb2); (try clear hk); (try clear hi); obtain ⟨hcz32_0, hcz32_1, hcz32_2, hcz32_3, hcz32_4, hcz32_5⟩ := cl6 BK116.out; obtain ⟨hfz32_0, hfz32_1, hfz32_2, hfz32_3, hfz32_4, hfz32_5⟩ := fz6 BK116.out; have p118 : 0 ≤ ((ji21) : Int) := od; have q118 : (ji21) < (l1.length : Int) := od; obtain ⟨ad118, e118, hx118_0, hx118_1, hx118_2, hx118_3, hx118_4, hx118_5⟩ := at_T25 HR1.out (ji21) p118 q118; cases e118; replace hx118_0 := cx HB.out hx118_0; replace hx118_1 := cx HB.out hx118_1; replace hx118_2 := cx HB.out hx118_2; replace hx118_3 := cx HB.out hx118_3; replace hx118_4 := cx HB.out hx118_4; replace hx118_5 := cx HB.out hx118_5; replace p118 := eq_true p118; replace q118 := eq_true q118))
        repeat (go_quiet (first | ((with_reducible refine gate_dst (N := 5) rfl ?_); (try (refine gate_guard (by rfl) ?_; dsimp only)); refine box_event ?hg (N := 5) ?hd (cs := #[.int .i64 a2_0, .int .i64 a2_1, .string a2_2, .string a2_3, .int .i64 a2_4, .bool a2_5]) (t := 25) ?hr ?_; (case hd => rfl); (case hg => rfl); (case hr => first | (go_simp; done) | (go_simp; rfl)); intro gb116 hg w29 hbox hb; have BK116 := Aside0.mk (hbox); have GW116 := Aside0.mk ((by rw [hg]; exact (below_size bo) : w.heap.size ≤ gb116)); have GE116 := Aside0.mk ((by rw [hg]; exact (below_size bo) : w.heap.size ≤ gb116)); replace HB := Aside0.mk (below_step bo hb); clear hb hbox hg; obtain ⟨hcz30_0, hcz30_1, hcz30_2, hcz30_3, hcz30_4, hcz30_5⟩ := cl6 BK116.out; obtain ⟨hfz30_0, hfz30_1, hfz30_2, hfz30_3, hfz30_4, hfz30_5⟩ := fz6 BK116.out) | (go_at_call 71; (with_reducible refine (rec_Check.calls k a2_0 a2_1 a2_2 a2_3 a2_4 a2_5 t117 _ A4.out).mono ?_); rintro e w31 ⟨rfl, hb⟩; replace BK116 := Aside0.mk (blk_below (g := gb116) (o := .cells #[.int .i64 a2_0, .int .i64 a2_1, .string a2_2, .string a2_3, .int .i64 a2_4, .bool a2_5] 25 (0, 0)) (bk BK116.out) hb); replace HB := Aside0.mk (below_step bo hb); (try clear hb); (try clear hb2); (try clear hk); (try clear hi); obtain ⟨hcz32_0, hcz32_1, hcz32_2, hcz32_3, hcz32_4, hcz32_5⟩ := cl6 BK116.out; obtain ⟨hfz32_0, hfz32_1, hfz32_2, hfz32_3, hfz32_4, hfz32_5⟩ := fz6 BK116.out; have p118 : 0 ≤ ((ji21) : Int) := od; have q118 : (ji21) < (l1.length : Int) := od; obtain ⟨ad118, e118, hx118_0, hx118_1, hx118_2, hx118_3, hx118_4, hx118_5⟩ := at_T25 HR1.out (ji21) p118 q118; cases e118; replace hx118_0 := cx HB.out hx118_0; replace hx118_1 := cx HB.out hx118_1; replace hx118_2 := cx HB.out hx118_2; replace hx118_3 := cx HB.out hx118_3; replace hx118_4 := cx HB.out hx118_4; replace hx118_5 := cx HB.out hx118_5; replace p118 := eq_true p118; replace q118 := eq_true q118)); try go_wp2_with (first | ((with_reducible refine gate_dst (N := 5) rfl ?_); (try (refine gate_guard (by rfl) ?_; dsimp only)); refine box_event ?hg (N := 5) ?hd (cs := #[.int .i64 a2_0, .int .i64 a2_1, .string a2_2, .string a2_3, .int .i64 a2_4, .bool a2_5]) (t := 25) ?hr ?_; (case hd => rfl); (case hg => rfl); (case hr => first | (go_simp; done) | (go_simp; rfl)); intro gb116 hg w29 hbox hb; have BK116 := Aside0.mk (hbox); have GW116 := Aside0.mk ((by rw [hg]; exact (below_size bo) : w.heap.size ≤ gb116)); have GE116 := Aside0.mk ((by rw [hg]; exact (below_size bo) : w.heap.size ≤ gb116)); replace HB := Aside0.mk (below_step bo hb); clear hb hbox hg; obtain ⟨hcz30_0, hcz30_1, hcz30_2, hcz30_3, hcz30_4, hcz30_5⟩ := cl6 BK116.out; obtain ⟨hfz30_0, hfz30_1, hfz30_2, hfz30_3, hfz30_4, hfz30_5⟩ := fz6 BK116.out) | (go_at_call 71; (with_reducible refine (rec_Check.calls k a2_0 a2_1 a2_2 a2_3 a2_4 a2_5 t117 _ A4.out).mono ?_); rintro e w31 ⟨rfl, hb⟩; replace BK116 := Aside0.mk (blk_below (g := gb116) (o := .cells #[.int .i64 a2_0, .int .i64 a2_1, .string a2_2, .string a2_3, .int .i64 a2_4, .bool a2_5] 25 (0, 0)) (bk BK116.out) hb); replace HB := Aside0.mk (below_step bo hb); (try clear hb); (try clear hb2); (try clear hk); (try clear hi); obtain ⟨hcz32_0, hcz32_1, hcz32_2, hcz32_3, hcz32_4, hcz32_5⟩ := cl6 BK116.out; obtain ⟨hfz32_0, hfz32_1, hfz32_2, hfz32_3, hfz32_4, hfz32_5⟩ := fz6 BK116.out; have p118 : 0 ≤ ((ji21) : Int) := od; have q118 : (ji21) < (l1.length : Int) := od; obtain ⟨ad118, e118, hx118_0, hx118_1, hx118_2, hx118_3, hx118_4, hx118_5⟩ := at_T25 HR1.out (ji21) p118 q118; cases e118; replace hx118_0 := cx HB.out hx118_0; replace hx118_1 := cx HB.out hx118_1; replace hx118_2 := cx HB.out hx118_2; replace hx118_3 := cx HB.out hx118_3; replace hx118_4 := cx HB.out hx118_4; replace hx118_5 := cx HB.out hx118_5; replace p118 := eq_true p118; replace q118 := eq_true q118)))
        go_ret
        exact ⟨by first | rfl | (simp [errW_none, errW_some] <;> rfl) | (simp only [← hji21]; first | rfl | (simp [errW_none, errW_some] <;> rfl)) | (simp [*, errW_none, errW_some] <;> rfl), bo⟩
      ·rw [if_neg c23] at H
       exact absurd H (by simp)
     ·rw [if_neg c22] at H
      exact absurd H (by simp)
 ·rw [if_neg c5] at H
  have c5b0 : (t117 == 0) = false := beq_eq_false_iff_ne.mpr c5
  have c5b1 : (t117 != 0) = true := bne_iff_ne.mpr c5
  obtain rfl := Option.some.inj H
  go_enter Try.func66, Try.ntmps66
  go_wp2_with (first | ((with_reducible refine gate_dst (N := 5) rfl ?_); (try (refine gate_guard (by rfl) ?_; dsimp only)); refine box_event ?hg (N := 5) ?hd (cs := #[.int .i64 a2_0, .int .i64 a2_1, .string a2_2, .string a2_3, .int .i64 a2_4, .bool a2_5]) (t := 25) ?hr ?_; (case hd => rfl); (case hg => rfl); (case hr => first | (go_simp; done) | (go_simp; rfl)); intro gb116 hg w33 hbox hb; have BK116 := Aside0.mk (hbox); have GW116 := Aside0.mk ((by rw [hg]; exact (below_size bo) : w.heap.size ≤ gb116)); have GE116 := Aside0.mk ((by rw [hg]; exact (below_size bo) : w.heap.size ≤ gb116)); replace HB := Aside0.mk (below_step bo hb); clear hb hbox hg; obtain ⟨hcz34_0, hcz34_1, hcz34_2, hcz34_3, hcz34_4, hcz34_5⟩ := cl6 BK116.out; obtain ⟨hfz34_0, hfz34_1, hfz34_2, hfz34_3, hfz34_4, hfz34_5⟩ := fz6 BK116.out) | (go_at_call 71; (with_reducible refine (rec_Check.calls k a2_0 a2_1 a2_2 a2_3 a2_4 a2_5 t117 _ A4.out).mono ?_); rintro e w35 ⟨rfl, hb⟩; replace BK116 := Aside0.mk (blk_below (g := gb116) (o := .cells #[.int .i64 a2_0, .int .i64 a2_1, .string a2_2, .string a2_3, .int .i64 a2_4, .bool a2_5] 25 (0, 0)) (bk BK116.out) hb); replace HB := Aside0.mk (below_step bo hb); (try clear hb); (try clear hb2); (try clear hk); (try clear hi)))
  repeat (go_quiet (first | ((with_reducible refine gate_dst (N := 5) rfl ?_); (try (refine gate_guard (by rfl) ?_; dsimp only)); refine box_event ?hg (N := 5) ?hd (cs := #[.int .i64 a2_0, .int .i64 a2_1, .string a2_2, .string a2_3, .int .i64 a2_4, .bool a2_5]) (t := 25) ?hr ?_; (case hd => rfl); (case hg => rfl); (case hr => first | (go_simp; done) | (go_simp; rfl)); intro gb116 hg w33 hbox hb; have BK116 := Aside0.mk (hbox); have GW116 := Aside0.mk ((by rw [hg]; exact (below_size bo) : w.heap.size ≤ gb116)); have GE116 := Aside0.mk ((by rw [hg]; exact (below_size bo) : w.heap.size ≤ gb116)); replace HB := Aside0.mk (below_step bo hb); clear hb hbox hg; obtain ⟨hcz34_0, hcz34_1, hcz34_2, hcz34_3, hcz34_4, hcz34_5⟩ := cl6 BK116.out; obtain ⟨hfz34_0, hfz34_1, hfz34_2, hfz34_3, hfz34_4, hfz34_5⟩ := fz6 BK116.out) | (go_at_call 71; (with_reducible refine (rec_Check.calls k a2_0 a2_1 a2_2 a2_3 a2_4 a2_5 t117 _ A4.out).mono ?_); rintro e w35 ⟨rfl, hb⟩; replace BK116 := Aside0.mk (blk_below (g := gb116) (o := .cells #[.int .i64 a2_0, .int .i64 a2_1, .string a2_2, .string a2_3, .int .i64 a2_4, .bool a2_5] 25 (0, 0)) (bk BK116.out) hb); replace HB := Aside0.mk (below_step bo hb); (try clear hb); (try clear hb2); (try clear hk); (try clear hi))); try go_wp2_with (first | ((with_reducible refine gate_dst (N := 5) rfl ?_); (try (refine gate_guard (by rfl) ?_; dsimp only)); refine box_event ?hg (N := 5) ?hd (cs := #[.int .i64 a2_0, .int .i64 a2_1, .string a2_2, .string a2_3, .int .i64 a2_4, .bool a2_5]) (t := 25) ?hr ?_; (case hd => rfl); (case hg => rfl); (case hr => first | (go_simp; done) | (go_simp; rfl)); intro gb116 hg w33 hbox hb; have BK116 := Aside0.mk (hbox); have GW116 := Aside0.mk ((by rw [hg]; exact (below_size bo) : w.heap.size ≤ gb116)); have GE116 := Aside0.mk ((by rw [hg]; exact (below_size bo) : w.heap.size ≤ gb116)); replace HB := Aside0.mk (below_step bo hb); clear hb hbox hg; obtain ⟨hcz34_0, hcz34_1, hcz34_2, hcz34_3, hcz34_4, hcz34_5⟩ := cl6 BK116.out; obtain ⟨hfz34_0, hfz34_1, hfz34_2, hfz34_3, hfz34_4, hfz34_5⟩ := fz6 BK116.out) | (go_at_call 71; (with_reducible refine (rec_Check.calls k a2_0 a2_1 a2_2 a2_3 a2_4 a2_5 t117 _ A4.out).mono ?_); rintro e w35 ⟨rfl, hb⟩; replace BK116 := Aside0.mk (blk_below (g := gb116) (o := .cells #[.int .i64 a2_0, .int .i64 a2_1, .string a2_2, .string a2_3, .int .i64 a2_4, .bool a2_5] 25 (0, 0)) (bk BK116.out) hb); replace HB := Aside0.mk (below_step bo hb); (try clear hb); (try clear hb2); (try clear hk); (try clear hi))))
  go_ret
  exact ⟨er, bo⟩

end Go.Proofs.Ytigmekgknhoidaa.P

-- written by a program of the proving session, out of the translation; Lean checks it
namespace Go.Proofs.Ytigmekgknhoidaa.P
open Go.RowKit Go.Proofs.Ytigmekgknhoidaa.Sq Go.Proofs.YtigmekgknhoidaaW.PrintWords Go.Proofs.YtigmekgknhoidaaW.PrintLast Go.Proofs.YtigmekgknhoidaaW.PrintMore
attribute [local go_sem] max2_int min2_int max_two min_two max_three min_three max_four min_four   -- for this text's walks alone
set_option linter.unusedVariables false
set_option linter.unusedSimpArgs false

/-! ### seg_Check: function 51 -/
mutual
def seg_Check.j0 : Nat → Bool → Int → List (S25) → Option (Int)
 | 0, _, _, _ => none
 | k + 1, x12, x121000, x121001 => if x12 = true then (some 1) else (seg_Check.l0 k x121001 (x121001.length : Int) 0 x121000 x121001)
def seg_Check.l0 : Nat → List (S25) → Int → Int → Int → List (S25) → Option (Int)
 | 0, _, _, _, _, _ => none
 | k + 1, x14, x15, x16, x121000, x121001 => if x16 < x15 then (if 0 ≤ x16 then (if x16 < (x14.length : Int) then (if x16 ≤ (x121001.length : Int) then ((seg_behind.f k x121000 (x121001.take (x16 : Int).toNat) ((rd_T25 x14 x16).f0) ((rd_T25 x14 x16).f1) ((rd_T25 x14 x16).f2) ((rd_T25 x14 x16).f3) ((rd_T25 x14 x16).f4) ((rd_T25 x14 x16).f5)).bind fun t127 => (if t127 = true then (seg_Check.l0 k x14 x15 (wrap64 (x16 + 1)) x121000 x121001) else (some 1))) else (none)) else (none)) else (none)) else (some 0)
end
def seg_Check.f (k : Nat) (a0_0 : Int) (l0_1 : List (S25)) : Option (Int) := if a0_0 < 0 then (seg_Check.j0 k true a0_0 l0_1) else (seg_Check.j0 k (decide (a0_0 > 1099511627776)) a0_0 l0_1)
theorem seg_Check.mono_l : ∀ k, (∀ y0 y1 y2, LeO (seg_Check.j0 k y0 y1 y2) (seg_Check.j0 (k + 1) y0 y1 y2)) ∧ (∀ y0 y1 y2 y3 y4, LeO (seg_Check.l0 k y0 y1 y2 y3 y4) (seg_Check.l0 (k + 1) y0 y1 y2 y3 y4))
 | 0 => ⟨fun _ _ _ r h => by simp [seg_Check.j0] at h, fun _ _ _ _ _ r h => by simp [seg_Check.l0] at h⟩
 | k + 1 => by
  obtain ⟨ih0, ih1⟩ := seg_Check.mono_l k
  refine ⟨?_, ?_⟩
  ·intro y0 y1 y2
   unfold seg_Check.j0
   repeat' first
   | (with_reducible exact ih0 _ _ _)
   | (with_reducible exact ih1 _ _ _ _ _)
   | (with_reducible exact seg_behind.mono _ _ _ _ _ _ _ _ _)
   | (with_reducible exact LeO.refl _)
   | (with_reducible exact LeO.none _)
   | (with_reducible refine LeO.ite ?_ ?_)
   | (with_reducible refine LeO.bind ?_ (fun _ => ?_))
   | exact ih0 _ _ _
   | exact ih1 _ _ _ _ _
   | exact seg_behind.mono _ _ _ _ _ _ _ _ _
   | exact LeO.none _
   | refine LeO.ite ?_ ?_
   | refine LeO.bind ?_ (fun _ => ?_)
  ·intro y0 y1 y2 y3 y4
   unfold seg_Check.l0
   repeat' first
   | (with_reducible exact ih0 _ _ _)
   | (with_reducible exact ih1 _ _ _ _ _)
   | (with_reducible exact seg_behind.mono _ _ _ _ _ _ _ _ _)
   | (with_reducible exact LeO.refl _)
   | (with_reducible exact LeO.none _)
   | (with_reducible refine LeO.ite ?_ ?_)
   | (with_reducible refine LeO.bind ?_ (fun _ => ?_))
   | exact ih0 _ _ _
   | exact ih1 _ _ _ _ _
   | exact seg_behind.mono _ _ _ _ _ _ _ _ _
   | exact LeO.none _
   | refine LeO.ite ?_ ?_
   | refine LeO.bind ?_ (fun _ => ?_)
theorem seg_Check.mono : ∀ a0 a1 k, LeO (seg_Check.f k a0 a1) (seg_Check.f (k + 1) a0 a1) := by
 intro a0 a1 k
 obtain ⟨ih0, ih1⟩ := seg_Check.mono_l k
 unfold seg_Check.f
 repeat' first
  | (with_reducible exact ih0 _ _ _)
  | (with_reducible exact ih1 _ _ _ _ _)
  | (with_reducible exact seg_behind.mono _ _ _ _ _ _ _ _ _)
  | (with_reducible exact LeO.refl _)
  | (with_reducible exact LeO.none _)
  | (with_reducible refine LeO.ite ?_ ?_)
  | (with_reducible refine LeO.bind ?_ (fun _ => ?_))
  | exact ih0 _ _ _
  | exact ih1 _ _ _ _ _
  | exact seg_behind.mono _ _ _ _ _ _ _ _ _
  | exact LeO.none _
  | refine LeO.ite ?_ ?_
  | refine LeO.bind ?_ (fun _ => ?_)
def seg_Check.T6 : Bool × List (List Nat × List Nat) := (true, [([], []), ([0], [0]), ([], []), ([2], [2]), ([], []), ([3, 4], [3, 4]), ([], []), ([1, 5, 6], [1, 5, 6]), ([7], [7])])
def seg_Check.B6 : List Nat := [0, 1, 0, 4, 0, 28, 0, 127, 255]
theorem seg_Check.tab6 : rtab .any (opsOf Try.f51 6) = seg_Check.T6 := by kernel_rfl
theorem seg_Check.bits6 : waitsOk seg_Check.T6.2 seg_Check.B6 = true := by kernel_rfl
set_option maxHeartbeats 8000000 in
set_option maxRecDepth 100000 in
theorem seg_Check.calls (k : Nat) (a0_0 : Int) (A0_1 : Option Addr) (c0_1 : Nat) (l0_1 : List (S25)) (r : Int) (w : World) (hr0_1 : Kd.C k25 w A0_1 l0_1.length l0_1) (hc0_1 : l0_1.length ≤ c0_1) (h : seg_Check.f k a0_0 l0_1 = some r) :
 Calls Try.prog 51 #[.agg #[.int .i64 a0_0, .slice A0_1 l0_1.length c0_1]] w fun e w' => e = .returned (.int .i64 r) ∧ Below w.heap.size w w' := by
 have hu29 := Try.underlying29
 have hu25 := Try.underlying25
 have HR0_1 := Aside0.mk hr0_1
 have HC0_1 := Aside0.mk hc0_1
 clear hr0_1 hc0_1
 have HB := Aside0.mk (Below.refl w.heap.size w)
 have H : (if a0_0 < 0 then (seg_Check.j0 k true a0_0 l0_1) else (seg_Check.j0 k (decide (a0_0 > 1099511627776)) a0_0 l0_1)) = some r := h
 clear h
 have HC2 := Aside0.mk H
 clear H
 go_enter Try.func51, Try.ntmps51
 go_upto_region 1 with (first | ((with_reducible refine gate_dst (N := 1) rfl ?_); refine box_event ?hg (N := 1) ?hd (cs := #[.int .i64 a0_0, .slice A0_1 l0_1.length c0_1]) (t := 29) ?hr ?_; (case hd => rfl); (case hg => rfl); (case hr => first | (go_simp; done) | (go_simp; rfl)); intro gb120 hg w3 hbox hb; have BK120 := Aside0.mk (hbox); have GW120 := Aside0.mk ((by rw [hg]; exact (below_size bo) : w.heap.size ≤ gb120)); have GE120 := Aside0.mk ((by rw [hg]; exact (below_size bo) : w.heap.size ≤ gb120)); replace HB := Aside0.mk (below_step bo hb); clear hb hbox hg))
 (try simp only [Act.put, List.setIfInBounds_toArray, List.set_cons_zero, List.set_cons_succ])
 go_cut [12] (fun v12 wc => ∃ (kq : Nat) (x12_1 : Bool), v12 = .bool x12_1 ∧ Aside0 (seg_Check.j0 kq x12_1 a0_0 l0_1 = some r) ∧ Aside0 (kq ≤ k) ∧ Aside0 (wc.heap[gb120]? = some (.cells #[.int .i64 a0_0, (.slice A0_1 l0_1.length c0_1)] 29 (0, 0))) ∧ Aside0 (Below w.heap.size w wc))
 case first =>
  have H := HC2.out
  clear HC2
  by_cases c4 : a0_0 < 0
  ·rw [if_pos c4] at H
   have c4b0 : decide (a0_0 < 0) = true := decide_eq_true c4
   clear c4
   (first | rw [c4b0] | (simp only [i64_w, i32_w]; rw [c4b0]) | skip)
   have H' := Aside0.mk H
   clear H
   have hcz5_0 : w3.cell? ⟨gb120, 0, none⟩ = some (.int .i64 a0_0) := (blk_cell BK120.out 0).trans rfl
   have hcz5_1 : w3.cell? ⟨gb120, 1, none⟩ = some (.slice A0_1 l0_1.length c0_1) := (blk_cell BK120.out 1).trans rfl
   have hfz5_0 := blk_frozen BK120.out 0
   have hfz5_1 := blk_frozen BK120.out 1
   go_wp2
   go_meet
   case rel => exact ⟨_, (true), ap, H', ⟨by first | omega | exact Nat.le_refl _⟩, ⟨by (with_reducible repeat (first | refine blk_drewN ?_ _ | refine blk_drew ?_ | refine blk_alloc ?_ _)); exact BK120.out⟩, ⟨bo⟩⟩
  ·rw [if_neg c4] at H
   have c4b0 : decide (a0_0 < 0) = false := decide_eq_false c4
   clear c4
   (first | rw [c4b0] | (simp only [i64_w, i32_w]; rw [c4b0]) | skip)
   have H' := Aside0.mk H
   clear H
   have hcz6_0 : w3.cell? ⟨gb120, 0, none⟩ = some (.int .i64 a0_0) := (blk_cell BK120.out 0).trans rfl
   have hcz6_1 : w3.cell? ⟨gb120, 1, none⟩ = some (.slice A0_1 l0_1.length c0_1) := (blk_cell BK120.out 1).trans rfl
   have hfz6_0 := blk_frozen BK120.out 0
   have hfz6_1 := blk_frozen BK120.out 1
   go_wp2
   go_meet
   case rel => exact ⟨_, (decide (a0_0 > 1099511627776)), ap, H', ⟨by first | omega | exact Nat.le_refl _⟩, ⟨by (with_reducible repeat (first | refine blk_drewN ?_ _ | refine blk_drew ?_ | refine blk_alloc ?_ _)); exact BK120.out⟩, ⟨bo⟩⟩
 case rest =>
  clear HC2
  try clear p2
  try clear c4
  try clear c4b0
  try clear c5
  try clear hcz5_0
  try clear hcz5_1
  try clear hcz6_0
  try clear hcz6_1
  try clear hfz5_0
  try clear hfz5_1
  try clear hfz6_0
  try clear hfz6_1
  obtain ⟨kq, x12_1, rfl, HA, HJ1, BK120, HB⟩ := hcut
  cases kq with
  | zero => exact absurd HA.out (by simp [seg_Check.j0])
  | succ kj1 =>
   have H := HA.out
   clear HA
   simp only [seg_Check.j0] at H
   by_cases c7 : x12_1 = true
   ·subst c7
    have H1 : (some 1) = some r := by rw [if_pos rfl] at H; exact H
    clear H
    have H := H1
    clear H1
    obtain rfl := Option.some.inj H
    go_wp2
    go_ret
    exact ⟨er, bo⟩
   ·replace c7 := Bool.eq_false_iff.mpr c7
    subst c7
    have H1 : (seg_Check.l0 kj1 l0_1 (l0_1.length : Int) 0 a0_0 l0_1) = some r := by rw [if_neg (show ¬ (false = true) by decide)] at H; exact H
    clear H
    have H := H1
    clear H1
    have H' := Aside0.mk H
    clear H
    have hcz8_0 : wc.cell? ⟨gb120, 0, none⟩ = some (.int .i64 a0_0) := (blk_cell BK120.out 0).trans rfl
    have hcz8_1 : wc.cell? ⟨gb120, 1, none⟩ = some (.slice A0_1 l0_1.length c0_1) := (blk_cell BK120.out 1).trans rfl
    have hfz8_0 := blk_frozen BK120.out 0
    have hfz8_1 := blk_frozen BK120.out 1
    go_wp2
    go_loopg [16] kj1 (fun kq v16 w' => ∃ (x16_2 : Int), v16 = .int .i64 x16_2 ∧ Aside0 (seg_Check.l0 kq l0_1 (l0_1.length : Int) x16_2 a0_0 l0_1 = some r) ∧ Aside0 (kq ≤ kj1) ∧ Aside0 (w'.heap[gb120]? = some (.cells #[.int .i64 a0_0, (.slice A0_1 l0_1.length c0_1)] 29 (0, 0))) ∧ Aside0 (Below w.heap.size w w'))
    case atStart => exact ⟨(0), ap, H', ⟨Nat.le_refl _⟩, ⟨by (with_reducible repeat (first | refine blk_drewN ?_ _ | refine blk_drew ?_ | refine blk_alloc ?_ _)); exact BK120.out⟩, ⟨bo⟩⟩
    case round =>
     clear H'
     try clear p2
     try clear c4
     try clear c4b0
     try clear c5
     try clear c7
     try clear hcz5_0
     try clear hcz5_1
     try clear hcz6_0
     try clear hcz6_1
     try clear hcz8_0
     try clear hcz8_1
     try clear hfz5_0
     try clear hfz5_1
     try clear hfz6_0
     try clear hfz6_1
     try clear hfz8_0
     try clear hfz8_1
     try clear p2
     obtain ⟨x16_2, rfl, HA, HK2, BK120, HB⟩ := hrel
     cases gk with
     | zero => exact absurd HA.out (by simp [seg_Check.l0])
     | succ k2 =>
      have H := HA.out
      clear HA
      simp only [seg_Check.l0] at H
      by_cases c9 : x16_2 < (l0_1.length : Int)
      ·rw [if_pos c9] at H
       have c9b0 : decide (x16_2 < (l0_1.length : Int)) = true := decide_eq_true c9
       clear c9
       by_cases c10 : 0 ≤ x16_2
       ·rw [if_pos c10] at H
        have c10b0 : decide (0 ≤ x16_2) = true := decide_eq_true c10
        clear c10
        by_cases c11 : x16_2 < (l0_1.length : Int)
        ·rw [if_pos c11] at H
         have c11b0 : decide (x16_2 < (l0_1.length : Int)) = true := decide_eq_true c11
         clear c11
         have c12b0 := eq_true (od : 0 ≤ x16_2)
         by_cases c13 : x16_2 ≤ (l0_1.length : Int)
         ·rw [if_pos c13] at H
          have c13b0 := eq_true c13
          have c13b1 : decide (x16_2 ≤ (l0_1.length : Int)) = true := decide_eq_true c13
          clear c13
          obtain ⟨y123, hy123⟩ : ∃ y_ : List (S25), y_ = (l0_1.take (x16_2 : Int).toNat) := ⟨_, rfl⟩
          replace H : ((seg_behind.f k2 a0_0 y123 ((rd_T25 l0_1 x16_2).f0) ((rd_T25 l0_1 x16_2).f1) ((rd_T25 l0_1 x16_2).f2) ((rd_T25 l0_1 x16_2).f3) ((rd_T25 l0_1 x16_2).f4) ((rd_T25 l0_1 x16_2).f5)).bind fun t127 => (if t127 = true then (seg_Check.l0 k2 l0_1 (l0_1.length : Int) (wrap64 (x16_2 + 1)) a0_0 l0_1) else (some 1))) = some r := by first | (rw [hy123]; with_reducible exact H) | (have H2_ := (Option.bind_some _ _).symm.trans H; rw [hy123]; with_reducible exact H2_) | (have H2_ := (Option.bind_some _ _).symm.trans H; with_reducible exact H2_) | with_reducible exact H | (rw [hy123]; exact H) | exact H
          have Ny123 := Aside0.mk hy123
          clear hy123
          replace H := Option.bind_eq_some_iff.mp H
          obtain ⟨t127, A140, H⟩ := H
          replace H : (if t127 = true then (seg_Check.l0 k2 l0_1 (l0_1.length : Int) (wrap64 (x16_2 + 1)) a0_0 l0_1) else (some 1)) = some r := H
          have A14 := Aside0.mk A140
          clear A140
          by_cases c15 : t127 = true
          ·subst c15
           have H1 : (seg_Check.l0 k2 l0_1 (l0_1.length : Int) (wrap64 (x16_2 + 1)) a0_0 l0_1) = some r := by rw [if_pos rfl] at H; exact H
           clear H
           have H := H1
           clear H1
           have H' := Aside0.mk H
           clear H
           have p121 : 0 ≤ (x16_2 : Int) := od
           have q121 : x16_2 < (l0_1.length : Int) := od
           obtain ⟨ad121, e121, hx121_0, hx121_1, hx121_2, hx121_3, hx121_4, hx121_5⟩ := at_T25 HR0_1.out x16_2 p121 q121
           cases e121
           replace hx121_0 := cx HB.out hx121_0
           replace hx121_1 := cx HB.out hx121_1
           replace hx121_2 := cx HB.out hx121_2
           replace hx121_3 := cx HB.out hx121_3
           replace hx121_4 := cx HB.out hx121_4
           replace hx121_5 := cx HB.out hx121_5
           replace p121 := eq_true p121
           replace q121 := eq_true q121
           try go_wp2_with (first | ((with_reducible refine gate_dst (N := 4) rfl ?_); refine box_event ?hg (N := 4) ?hd (cs := #[.int .i64 0, .int .i64 0, .string (⟨#[]⟩ : ByteArray), .string (⟨#[]⟩ : ByteArray), .int .i64 0, .bool false]) (t := 25) ?hr ?_; (case hd => rfl); (case hg => rfl); (case hr => first | (go_simp; done) | (go_simp; rfl)); intro gb122 hg w16 hbox hb; have BK122 := Aside0.mk (hbox); have GW122 := Aside0.mk ((by rw [hg]; exact (below_size bo) : w.heap.size ≤ gb122)); have GE122 := Aside0.mk ((by rw [hg]; exact (below_size bo) : w.heap.size ≤ gb122)); replace HB := Aside0.mk (below_step bo hb); have NB120_122 := Aside0.mk ((by rw [hg]; exact Nat.ne_of_lt (blk_lt (g := gb120) (o := .cells #[.int .i64 a0_0, .slice (some ad121) l0_1.length c0_1] 29 (0, 0)) (bk BK120.out)) : gb120 ≠ gb122)); have NB122_120 := Aside0.mk ((by rw [hg]; exact Nat.ne_of_gt (blk_lt (g := gb120) (o := .cells #[.int .i64 a0_0, .slice (some ad121) l0_1.length c0_1] 29 (0, 0)) (bk BK120.out)) : gb122 ≠ gb120)); replace BK120 := Aside0.mk (blk_below (g := gb120) (o := .cells #[.int .i64 a0_0, .slice (some ad121) l0_1.length c0_1] 29 (0, 0)) (bk BK120.out) hb); clear hb hbox hg; have hnb17 := NB122_120.out; have hnc17 := NB120_122.out; obtain ⟨hcz18_0, hcz18_1, hcz18_2, hcz18_3, hcz18_4, hcz18_5⟩ := cl6 BK122.out; obtain ⟨hfz18_0, hfz18_1, hfz18_2, hfz18_3, hfz18_4, hfz18_5⟩ := fz6 BK122.out))
           (try (rw [drewN_self w16]; generalize hq_ : World.drewN w16 _ = w16; have n0_ := Aside0.mk (blk_at hq_ BK120.out); have n1_ := Aside0.mk (blk_at hq_ BK122.out); have n2_ := Aside0.mk (below_at hq_ HB.out); clear hq_ BK120 BK122 HB; have BK120 := n0_; have BK122 := n1_; have HB := n2_; clear n0_ n1_ n2_))
           have n0_ : Aside0 (((((((w16.setCell ⟨gb122, 0, none⟩ (.int .i64 ((rd_T25 l0_1 x16_2).f0))).setCell ⟨gb122, 1, none⟩ (.int .i64 ((rd_T25 l0_1 x16_2).f1))).setCell ⟨gb122, 2, none⟩ (.string ((rd_T25 l0_1 x16_2).f2))).setCell ⟨gb122, 3, none⟩ (.string ((rd_T25 l0_1 x16_2).f3))).setCell ⟨gb122, 4, none⟩ (.int .i64 ((rd_T25 l0_1 x16_2).f4))).setCell ⟨gb122, 5, none⟩ (.bool ((rd_T25 l0_1 x16_2).f5))).heap[gb120]? = some (.cells #[.int .i64 a0_0, .slice (some ad121) l0_1.length c0_1] 29 (0, 0))) := ⟨by (with_reducible repeat (first | refine blk_drewN ?_ _ | refine blk_drew ?_ | refine blk_alloc ?_ _)); refine blk_far ?_ NB120_122.out _; (with_reducible repeat (first | refine blk_drewN ?_ _ | refine blk_drew ?_ | refine blk_alloc ?_ _)); refine blk_far ?_ NB120_122.out _; (with_reducible repeat (first | refine blk_drewN ?_ _ | refine blk_drew ?_ | refine blk_alloc ?_ _)); refine blk_far ?_ NB120_122.out _; (with_reducible repeat (first | refine blk_drewN ?_ _ | refine blk_drew ?_ | refine blk_alloc ?_ _)); refine blk_far ?_ NB120_122.out _; (with_reducible repeat (first | refine blk_drewN ?_ _ | refine blk_drew ?_ | refine blk_alloc ?_ _)); refine blk_far ?_ NB120_122.out _; (with_reducible repeat (first | refine blk_drewN ?_ _ | refine blk_drew ?_ | refine blk_alloc ?_ _)); refine blk_far ?_ NB120_122.out _; (with_reducible repeat (first | refine blk_drewN ?_ _ | refine blk_drew ?_ | refine blk_alloc ?_ _)); exact BK120.out⟩
           have n1_ : Aside0 (((((((w16.setCell ⟨gb122, 0, none⟩ (.int .i64 ((rd_T25 l0_1 x16_2).f0))).setCell ⟨gb122, 1, none⟩ (.int .i64 ((rd_T25 l0_1 x16_2).f1))).setCell ⟨gb122, 2, none⟩ (.string ((rd_T25 l0_1 x16_2).f2))).setCell ⟨gb122, 3, none⟩ (.string ((rd_T25 l0_1 x16_2).f3))).setCell ⟨gb122, 4, none⟩ (.int .i64 ((rd_T25 l0_1 x16_2).f4))).setCell ⟨gb122, 5, none⟩ (.bool ((rd_T25 l0_1 x16_2).f5))).heap[gb122]? = some (.cells #[.int .i64 ((rd_T25 l0_1 x16_2).f0), .int .i64 ((rd_T25 l0_1 x16_2).f1), .string ((rd_T25 l0_1 x16_2).f2), .string ((rd_T25 l0_1 x16_2).f3), .int .i64 ((rd_T25 l0_1 x16_2).f4), .bool ((rd_T25 l0_1 x16_2).f5)] 25 (0, 0))) := ⟨by (with_reducible repeat (first | refine blk_drewN ?_ _ | refine blk_drew ?_ | refine blk_alloc ?_ _)); refine blk_put (cs := #[.int .i64 ((rd_T25 l0_1 x16_2).f0), .int .i64 ((rd_T25 l0_1 x16_2).f1), .string ((rd_T25 l0_1 x16_2).f2), .string ((rd_T25 l0_1 x16_2).f3), .int .i64 ((rd_T25 l0_1 x16_2).f4), .bool false]) ?_ 5 _ rfl; (with_reducible repeat (first | refine blk_drewN ?_ _ | refine blk_drew ?_ | refine blk_alloc ?_ _)); refine blk_put (cs := #[.int .i64 ((rd_T25 l0_1 x16_2).f0), .int .i64 ((rd_T25 l0_1 x16_2).f1), .string ((rd_T25 l0_1 x16_2).f2), .string ((rd_T25 l0_1 x16_2).f3), .int .i64 0, .bool false]) ?_ 4 _ rfl; (with_reducible repeat (first | refine blk_drewN ?_ _ | refine blk_drew ?_ | refine blk_alloc ?_ _)); refine blk_put (cs := #[.int .i64 ((rd_T25 l0_1 x16_2).f0), .int .i64 ((rd_T25 l0_1 x16_2).f1), .string ((rd_T25 l0_1 x16_2).f2), .string (⟨#[]⟩ : ByteArray), .int .i64 0, .bool false]) ?_ 3 _ rfl; (with_reducible repeat (first | refine blk_drewN ?_ _ | refine blk_drew ?_ | refine blk_alloc ?_ _)); refine blk_put (cs := #[.int .i64 ((rd_T25 l0_1 x16_2).f0), .int .i64 ((rd_T25 l0_1 x16_2).f1), .string (⟨#[]⟩ : ByteArray), .string (⟨#[]⟩ : ByteArray), .int .i64 0, .bool false]) ?_ 2 _ rfl; (with_reducible repeat (first | refine blk_drewN ?_ _ | refine blk_drew ?_ | refine blk_alloc ?_ _)); refine blk_put (cs := #[.int .i64 ((rd_T25 l0_1 x16_2).f0), .int .i64 0, .string (⟨#[]⟩ : ByteArray), .string (⟨#[]⟩ : ByteArray), .int .i64 0, .bool false]) ?_ 1 _ rfl; (with_reducible repeat (first | refine blk_drewN ?_ _ | refine blk_drew ?_ | refine blk_alloc ?_ _)); refine blk_put (cs := #[.int .i64 0, .int .i64 0, .string (⟨#[]⟩ : ByteArray), .string (⟨#[]⟩ : ByteArray), .int .i64 0, .bool false]) ?_ 0 _ rfl; (with_reducible repeat (first | refine blk_drewN ?_ _ | refine blk_drew ?_ | refine blk_alloc ?_ _)); exact BK122.out⟩
           have n2_ : Aside0 (Below w.heap.size w ((((((w16.setCell ⟨gb122, 0, none⟩ (.int .i64 ((rd_T25 l0_1 x16_2).f0))).setCell ⟨gb122, 1, none⟩ (.int .i64 ((rd_T25 l0_1 x16_2).f1))).setCell ⟨gb122, 2, none⟩ (.string ((rd_T25 l0_1 x16_2).f2))).setCell ⟨gb122, 3, none⟩ (.string ((rd_T25 l0_1 x16_2).f3))).setCell ⟨gb122, 4, none⟩ (.int .i64 ((rd_T25 l0_1 x16_2).f4))).setCell ⟨gb122, 5, none⟩ (.bool ((rd_T25 l0_1 x16_2).f5)))) := ⟨bo⟩
           (try clear BK120)
           (try clear BK122)
           (try clear HB)
           generalize ((((((w16.setCell ⟨gb122, 0, none⟩ (.int .i64 ((rd_T25 l0_1 x16_2).f0))).setCell ⟨gb122, 1, none⟩ (.int .i64 ((rd_T25 l0_1 x16_2).f1))).setCell ⟨gb122, 2, none⟩ (.string ((rd_T25 l0_1 x16_2).f2))).setCell ⟨gb122, 3, none⟩ (.string ((rd_T25 l0_1 x16_2).f3))).setCell ⟨gb122, 4, none⟩ (.int .i64 ((rd_T25 l0_1 x16_2).f4))).setCell ⟨gb122, 5, none⟩ (.bool ((rd_T25 l0_1 x16_2).f5))) = w19 at n0_ n1_ n2_ ⊢
           have BK120 := n0_
           have BK122 := n1_
           have HB := n2_
           clear n0_ n1_ n2_
           replace BK120 := Aside0.mk (blk_drew BK120.out)
           replace BK122 := Aside0.mk (blk_drew BK122.out)
           replace HB := Aside0.mk (below_drew1 HB.out)
           have q21 : (x16_2 : Int) ≤ ((l0_1.length : Int) : Int) := od
           obtain ⟨i021, hi021, _, hsz21, _⟩ := info_parts info25
           have hroom21 : l0_1.length ≤ c0_1 := HC0_1.out
           have hC21 : Kd.C k25 _ (some ad121) l0_1.length l0_1 := HR0_1.out
           have hcut21 := cut_to (P := Try.prog) 27 25 .i64 Try.underlying27 hi021 (some ad121) l0_1.length c0_1 x16_2 (od) q21 hroom21
           have hr21 := Kd.C_take (m := (x16_2 : Int).toNat) hC21 (by omega)
           have hy21 : y123.length = (x16_2 : Int).toNat := (by rw [Ny123.out, List.length_take]; omega)
           rw [← Ny123.out] at hr21
           rw [← hy21] at hcut21
           have HR126 := Aside0.mk hr21
           have HC126 := Aside0.mk (show y123.length ≤ c0_1 from by omega)
           clear hr21 hC21 hroom21 hi021 hsz21
           have KY21 := Aside0.mk hy21
           clear hy21
           replace q21 := eq_true q21
           refine start_ (n := 9) (S := fun w' => w'.cell? ⟨gb120, 0, none⟩ = some (.int .i64 a0_0) ∧ w'.cell? ⟨gb120, 1, none⟩ = some (.slice (some ad121) l0_1.length c0_1) ∧ w'.cell? ⟨gb122, 0, none⟩ = some (.int .i64 ((rd_T25 l0_1 x16_2).f0)) ∧ w'.cell? ⟨gb122, 1, none⟩ = some (.int .i64 ((rd_T25 l0_1 x16_2).f1)) ∧ w'.cell? ⟨gb122, 2, none⟩ = some (.string ((rd_T25 l0_1 x16_2).f2)) ∧ w'.cell? ⟨gb122, 3, none⟩ = some (.string ((rd_T25 l0_1 x16_2).f3)) ∧ w'.cell? ⟨gb122, 4, none⟩ = some (.int .i64 ((rd_T25 l0_1 x16_2).f4)) ∧ w'.cell? ⟨gb122, 5, none⟩ = some (.bool ((rd_T25 l0_1 x16_2).f5))) (ds := []) #[O,O,O,O,O,O,O,O,O] (by kernel_rfl) rfl rfl ⟨(blk_cell BK120.out 0).trans rfl, (blk_cell BK120.out 1).trans rfl, (blk_cell BK122.out 0).trans rfl, (blk_cell BK122.out 1).trans rfl, (blk_cell BK122.out 2).trans rfl, (blk_cell BK122.out 3).trans rfl, (blk_cell BK122.out 4).trans rfl, (blk_cell BK122.out 5).trans rfl⟩ (fun hHeld => ?_); refine with_tabW seg_Check.tab6 seg_Check.bits6 (fun HT_ HW_ => ?_)
           generalize w19.drew = w20 at BK120 BK122 HB HR126 hHeld ⊢
           refine pz (i := 0) (N := some 21) #[I,O,O,O,O,O,O,O,O] ?_
           refine pz (i := 2) (N := some 23) #[I,O,I,O,O,O,O,O,O] ?_
           refine pz (i := 4) (N := some 25) #[I,O,I,O,I,O,O,O,O] ?_
           refine tz (i := 1) (N := some 22) #[I,I,I,O,I,O,O,O,O] ?_
           refine tz (i := 3) (N := some 24) #[I,I,I,I,I,O,O,O,O] ?_
           refine pz (i := 5) (N := some 26) #[I,I,I,I,I,I,O,O,O] ?_
           refine tz (i := 6) (N := some 27) #[I,I,I,I,I,I,I,O,O] ?_
           refine one_ (i := 7) (N := some 28) #[I,I,I,I,I,I,I,I,O] rfl rfl (one_of HT_.out (by kernel_rfl)) (by decide) (fun K hK => ?_)
           refine goes_ Try.func66 (by kernel_rfl) rfl #[.int .i64 a0_0, .slice (some ad121) y123.length c0_1, .agg #[.int .i64 ((rd_T25 l0_1 x16_2).f0), .int .i64 ((rd_T25 l0_1 x16_2).f1), .string ((rd_T25 l0_1 x16_2).f2), .string ((rd_T25 l0_1 x16_2).f3), .int .i64 ((rd_T25 l0_1 x16_2).f4), .bool ((rd_T25 l0_1 x16_2).f5)]] (by rfl) rfl rfl aa ?_
           with_reducible refine (seg_behind.calls k2 a0_0 _ _ y123 ((rd_T25 l0_1 x16_2).f0) ((rd_T25 l0_1 x16_2).f1) ((rd_T25 l0_1 x16_2).f2) ((rd_T25 l0_1 x16_2).f3) ((rd_T25 l0_1 x16_2).f4) ((rd_T25 l0_1 x16_2).f5) true _ ?side1 ?side2 A14.out).mono ?_
           (case side1 => repeat (first | exact (Kd.C_below HR126.out HB.out) | (with_reducible refine Kd.C_alloc ?_ _) | (with_reducible refine Kd.C_drewN ?_ _) | (with_reducible refine Kd.C_drew ?_)))
           (case side2 => exact HC126.out)
           rintro e w22 ⟨rfl, hb⟩
           refine ⟨_, rfl, ?_⟩
           replace BK120 := Aside0.mk (blk_below (g := gb120) (o := .cells #[.int .i64 a0_0, .slice (some ad121) l0_1.length c0_1] 29 (0, 0)) (bk BK120.out) hb)
           replace BK122 := Aside0.mk (blk_below (g := gb122) (o := .cells #[.int .i64 ((rd_T25 l0_1 x16_2).f0), .int .i64 ((rd_T25 l0_1 x16_2).f1), .string ((rd_T25 l0_1 x16_2).f2), .string ((rd_T25 l0_1 x16_2).f3), .int .i64 ((rd_T25 l0_1 x16_2).f4), .bool ((rd_T25 l0_1 x16_2).f5)] 25 (0, 0)) (bk BK122.out) hb)
           replace HB := Aside0.mk (below_step bo hb)
           (try clear hb)
           (try clear hb2)
           (try clear hk)
           (try clear hi)
           refine hK.out _ _ ⟨(blk_cell BK120.out 0).trans rfl, (blk_cell BK120.out 1).trans rfl, (blk_cell BK122.out 0).trans rfl, (blk_cell BK122.out 1).trans rfl, (blk_cell BK122.out 2).trans rfl, (blk_cell BK122.out 3).trans rfl, (blk_cell BK122.out 4).trans rfl, (blk_cell BK122.out 5).trans rfl⟩ (fun hHeld => ?_)
           clear hK K
           refine norm_ (a' := ?_) ?_ ?_
           rotate_left
           ·show Act.put _ (some 28) _ = _
            simp only [Act.put, List.setIfInBounds_toArray, List.set_cons_zero, List.set_cons_succ, i64_w, i32_w]
            rfl
           refine pz (i := 8) (N := some 29) #[I,I,I,I,I,I,I,I,I] ?_
           refine done_ (done_of HT_.out (by kernel_rfl)) ?_
           try go_wp2
           go_roundg k2
           case measure => have := HJ1.out; have := HK2.out; omega
           case rel => exact ⟨(wrap64 (x16_2 + 1)), ap, H', ⟨by have := HJ1.out; have := HK2.out; omega⟩, ⟨by (with_reducible repeat (first | refine blk_drewN ?_ _ | refine blk_drew ?_ | refine blk_alloc ?_ _)); exact BK120.out⟩, ⟨bo⟩⟩
          ·replace c15 := Bool.eq_false_iff.mpr c15
           subst c15
           have H1 : (some 1) = some r := by rw [if_neg (show ¬ (false = true) by decide)] at H; exact H
           clear H
           have H := H1
           clear H1
           obtain rfl := Option.some.inj H
           have p121 : 0 ≤ (x16_2 : Int) := od
           have q121 : x16_2 < (l0_1.length : Int) := od
           obtain ⟨ad121, e121, hx121_0, hx121_1, hx121_2, hx121_3, hx121_4, hx121_5⟩ := at_T25 HR0_1.out x16_2 p121 q121
           cases e121
           replace hx121_0 := cx HB.out hx121_0
           replace hx121_1 := cx HB.out hx121_1
           replace hx121_2 := cx HB.out hx121_2
           replace hx121_3 := cx HB.out hx121_3
           replace hx121_4 := cx HB.out hx121_4
           replace hx121_5 := cx HB.out hx121_5
           replace p121 := eq_true p121
           replace q121 := eq_true q121
           try go_wp2_with (first | ((with_reducible refine gate_dst (N := 4) rfl ?_); refine box_event ?hg (N := 4) ?hd (cs := #[.int .i64 0, .int .i64 0, .string (⟨#[]⟩ : ByteArray), .string (⟨#[]⟩ : ByteArray), .int .i64 0, .bool false]) (t := 25) ?hr ?_; (case hd => rfl); (case hg => rfl); (case hr => first | (go_simp; done) | (go_simp; rfl)); intro gb122 hg w23 hbox hb; have BK122 := Aside0.mk (hbox); have GW122 := Aside0.mk ((by rw [hg]; exact (below_size bo) : w.heap.size ≤ gb122)); have GE122 := Aside0.mk ((by rw [hg]; exact (below_size bo) : w.heap.size ≤ gb122)); replace HB := Aside0.mk (below_step bo hb); have NB120_122 := Aside0.mk ((by rw [hg]; exact Nat.ne_of_lt (blk_lt (g := gb120) (o := .cells #[.int .i64 a0_0, .slice (some ad121) l0_1.length c0_1] 29 (0, 0)) (bk BK120.out)) : gb120 ≠ gb122)); have NB122_120 := Aside0.mk ((by rw [hg]; exact Nat.ne_of_gt (blk_lt (g := gb120) (o := .cells #[.int .i64 a0_0, .slice (some ad121) l0_1.length c0_1] 29 (0, 0)) (bk BK120.out)) : gb122 ≠ gb120)); replace BK120 := Aside0.mk (blk_below (g := gb120) (o := .cells #[.int .i64 a0_0, .slice (some ad121) l0_1.length c0_1] 29 (0, 0)) (bk BK120.out) hb); clear hb hbox hg; have hnb24 := NB122_120.out; have hnc24 := NB120_122.out; obtain ⟨hcz25_0, hcz25_1, hcz25_2, hcz25_3, hcz25_4, hcz25_5⟩ := cl6 BK122.out; obtain ⟨hfz25_0, hfz25_1, hfz25_2, hfz25_3, hfz25_4, hfz25_5⟩ := fz6 BK122.out))
           (try (rw [drewN_self w23]; generalize hq_ : World.drewN w23 _ = w23; have n0_ := Aside0.mk (blk_at hq_ BK120.out); have n1_ := Aside0.mk (blk_at hq_ BK122.out); have n2_ := Aside0.mk (below_at hq_ HB.out); clear hq_ BK120 BK122 HB; have BK120 := n0_; have BK122 := n1_; have HB := n2_; clear n0_ n1_ n2_))
           have n0_ : Aside0 (((((((w23.setCell ⟨gb122, 0, none⟩ (.int .i64 ((rd_T25 l0_1 x16_2).f0))).setCell ⟨gb122, 1, none⟩ (.int .i64 ((rd_T25 l0_1 x16_2).f1))).setCell ⟨gb122, 2, none⟩ (.string ((rd_T25 l0_1 x16_2).f2))).setCell ⟨gb122, 3, none⟩ (.string ((rd_T25 l0_1 x16_2).f3))).setCell ⟨gb122, 4, none⟩ (.int .i64 ((rd_T25 l0_1 x16_2).f4))).setCell ⟨gb122, 5, none⟩ (.bool ((rd_T25 l0_1 x16_2).f5))).heap[gb120]? = some (.cells #[.int .i64 a0_0, .slice (some ad121) l0_1.length c0_1] 29 (0, 0))) := ⟨by (with_reducible repeat (first | refine blk_drewN ?_ _ | refine blk_drew ?_ | refine blk_alloc ?_ _)); refine blk_far ?_ NB120_122.out _; (with_reducible repeat (first | refine blk_drewN ?_ _ | refine blk_drew ?_ | refine blk_alloc ?_ _)); refine blk_far ?_ NB120_122.out _; (with_reducible repeat (first | refine blk_drewN ?_ _ | refine blk_drew ?_ | refine blk_alloc ?_ _)); refine blk_far ?_ NB120_122.out _; (with_reducible repeat (first | refine blk_drewN ?_ _ | refine blk_drew ?_ | refine blk_alloc ?_ _)); refine blk_far ?_ NB120_122.out _; (with_reducible repeat (first | refine blk_drewN ?_ _ | refine blk_drew ?_ | refine blk_alloc ?_ _)); refine blk_far ?_ NB120_122.out _; (with_reducible repeat (first | refine blk_drewN ?_ _ | refine blk_drew ?_ | refine blk_alloc ?_ _)); refine blk_far ?_ NB120_122.out _; (with_reducible repeat (first | refine blk_drewN ?_ _ | refine blk_drew ?_ | refine blk_alloc ?_ _)); exact BK120.out⟩
           have n1_ : Aside0 (((((((w23.setCell ⟨gb122, 0, none⟩ (.int .i64 ((rd_T25 l0_1 x16_2).f0))).setCell ⟨gb122, 1, none⟩ (.int .i64 ((rd_T25 l0_1 x16_2).f1))).setCell ⟨gb122, 2, none⟩ (.string ((rd_T25 l0_1 x16_2).f2))).setCell ⟨gb122, 3, none⟩ (.string ((rd_T25 l0_1 x16_2).f3))).setCell ⟨gb122, 4, none⟩ (.int .i64 ((rd_T25 l0_1 x16_2).f4))).setCell ⟨gb122, 5, none⟩ (.bool ((rd_T25 l0_1 x16_2).f5))).heap[gb122]? = some (.cells #[.int .i64 ((rd_T25 l0_1 x16_2).f0), .int .i64 ((rd_T25 l0_1 x16_2).f1), .string ((rd_T25 l0_1 x16_2).f2), .string ((rd_T25 l0_1 x16_2).f3), .int .i64 ((rd_T25 l0_1 x16_2).f4), .bool ((rd_T25 l0_1 x16_2).f5)] 25 (0, 0))) := ⟨by (with_reducible repeat (first | refine blk_drewN ?_ _ | refine blk_drew ?_ | refine blk_alloc ?_ _)); refine blk_put (cs := #[.int .i64 ((rd_T25 l0_1 x16_2).f0), .int .i64 ((rd_T25 l0_1 x16_2).f1), .string ((rd_T25 l0_1 x16_2).f2), .string ((rd_T25 l0_1 x16_2).f3), .int .i64 ((rd_T25 l0_1 x16_2).f4), .bool false]) ?_ 5 _ rfl; (with_reducible repeat (first | refine blk_drewN ?_ _ | refine blk_drew ?_ | refine blk_alloc ?_ _)); refine blk_put (cs := #[.int .i64 ((rd_T25 l0_1 x16_2).f0), .int .i64 ((rd_T25 l0_1 x16_2).f1), .string ((rd_T25 l0_1 x16_2).f2), .string ((rd_T25 l0_1 x16_2).f3), .int .i64 0, .bool false]) ?_ 4 _ rfl; (with_reducible repeat (first | refine blk_drewN ?_ _ | refine blk_drew ?_ | refine blk_alloc ?_ _)); refine blk_put (cs := #[.int .i64 ((rd_T25 l0_1 x16_2).f0), .int .i64 ((rd_T25 l0_1 x16_2).f1), .string ((rd_T25 l0_1 x16_2).f2), .string (⟨#[]⟩ : ByteArray), .int .i64 0, .bool false]) ?_ 3 _ rfl; (with_reducible repeat (first | refine blk_drewN ?_ _ | refine blk_drew ?_ | refine blk_alloc ?_ _)); refine blk_put (cs := #[.int .i64 ((rd_T25 l0_1 x16_2).f0), .int .i64 ((rd_T25 l0_1 x16_2).f1), .string (⟨#[]⟩ : ByteArray), .string (⟨#[]⟩ : ByteArray), .int .i64 0, .bool false]) ?_ 2 _ rfl; (with_reducible repeat (first | refine blk_drewN ?_ _ | refine blk_drew ?_ | refine blk_alloc ?_ _)); refine blk_put (cs := #[.int .i64 ((rd_T25 l0_1 x16_2).f0), .int .i64 0, .string (⟨#[]⟩ : ByteArray), .string (⟨#[]⟩ : ByteArray), .int .i64 0, .bool false]) ?_ 1 _ rfl; (with_reducible repeat (first | refine blk_drewN ?_ _ | refine blk_drew ?_ | refine blk_alloc ?_ _)); refine blk_put (cs := #[.int .i64 0, .int .i64 0, .string (⟨#[]⟩ : ByteArray), .string (⟨#[]⟩ : ByteArray), .int .i64 0, .bool false]) ?_ 0 _ rfl; (with_reducible repeat (first | refine blk_drewN ?_ _ | refine blk_drew ?_ | refine blk_alloc ?_ _)); exact BK122.out⟩
           have n2_ : Aside0 (Below w.heap.size w ((((((w23.setCell ⟨gb122, 0, none⟩ (.int .i64 ((rd_T25 l0_1 x16_2).f0))).setCell ⟨gb122, 1, none⟩ (.int .i64 ((rd_T25 l0_1 x16_2).f1))).setCell ⟨gb122, 2, none⟩ (.string ((rd_T25 l0_1 x16_2).f2))).setCell ⟨gb122, 3, none⟩ (.string ((rd_T25 l0_1 x16_2).f3))).setCell ⟨gb122, 4, none⟩ (.int .i64 ((rd_T25 l0_1 x16_2).f4))).setCell ⟨gb122, 5, none⟩ (.bool ((rd_T25 l0_1 x16_2).f5)))) := ⟨bo⟩
           (try clear BK120)
           (try clear BK122)
           (try clear HB)
           generalize ((((((w23.setCell ⟨gb122, 0, none⟩ (.int .i64 ((rd_T25 l0_1 x16_2).f0))).setCell ⟨gb122, 1, none⟩ (.int .i64 ((rd_T25 l0_1 x16_2).f1))).setCell ⟨gb122, 2, none⟩ (.string ((rd_T25 l0_1 x16_2).f2))).setCell ⟨gb122, 3, none⟩ (.string ((rd_T25 l0_1 x16_2).f3))).setCell ⟨gb122, 4, none⟩ (.int .i64 ((rd_T25 l0_1 x16_2).f4))).setCell ⟨gb122, 5, none⟩ (.bool ((rd_T25 l0_1 x16_2).f5))) = w26 at n0_ n1_ n2_ ⊢
           have BK120 := n0_
           have BK122 := n1_
           have HB := n2_
           clear n0_ n1_ n2_
           replace BK120 := Aside0.mk (blk_drew BK120.out)
           replace BK122 := Aside0.mk (blk_drew BK122.out)
           replace HB := Aside0.mk (below_drew1 HB.out)
           have q28 : (x16_2 : Int) ≤ ((l0_1.length : Int) : Int) := od
           obtain ⟨i028, hi028, _, hsz28, _⟩ := info_parts info25
           have hroom28 : l0_1.length ≤ c0_1 := HC0_1.out
           have hC28 : Kd.C k25 _ (some ad121) l0_1.length l0_1 := HR0_1.out
           have hcut28 := cut_to (P := Try.prog) 27 25 .i64 Try.underlying27 hi028 (some ad121) l0_1.length c0_1 x16_2 (od) q28 hroom28
           have hr28 := Kd.C_take (m := (x16_2 : Int).toNat) hC28 (by omega)
           have hy28 : y123.length = (x16_2 : Int).toNat := (by rw [Ny123.out, List.length_take]; omega)
           rw [← Ny123.out] at hr28
           rw [← hy28] at hcut28
           have HR126 := Aside0.mk hr28
           have HC126 := Aside0.mk (show y123.length ≤ c0_1 from by omega)
           clear hr28 hC28 hroom28 hi028 hsz28
           have KY28 := Aside0.mk hy28
           clear hy28
           replace q28 := eq_true q28
           refine start_ (n := 9) (S := fun w' => w'.cell? ⟨gb120, 0, none⟩ = some (.int .i64 a0_0) ∧ w'.cell? ⟨gb120, 1, none⟩ = some (.slice (some ad121) l0_1.length c0_1) ∧ w'.cell? ⟨gb122, 0, none⟩ = some (.int .i64 ((rd_T25 l0_1 x16_2).f0)) ∧ w'.cell? ⟨gb122, 1, none⟩ = some (.int .i64 ((rd_T25 l0_1 x16_2).f1)) ∧ w'.cell? ⟨gb122, 2, none⟩ = some (.string ((rd_T25 l0_1 x16_2).f2)) ∧ w'.cell? ⟨gb122, 3, none⟩ = some (.string ((rd_T25 l0_1 x16_2).f3)) ∧ w'.cell? ⟨gb122, 4, none⟩ = some (.int .i64 ((rd_T25 l0_1 x16_2).f4)) ∧ w'.cell? ⟨gb122, 5, none⟩ = some (.bool ((rd_T25 l0_1 x16_2).f5))) (ds := []) #[O,O,O,O,O,O,O,O,O] (by kernel_rfl) rfl rfl ⟨(blk_cell BK120.out 0).trans rfl, (blk_cell BK120.out 1).trans rfl, (blk_cell BK122.out 0).trans rfl, (blk_cell BK122.out 1).trans rfl, (blk_cell BK122.out 2).trans rfl, (blk_cell BK122.out 3).trans rfl, (blk_cell BK122.out 4).trans rfl, (blk_cell BK122.out 5).trans rfl⟩ (fun hHeld => ?_); refine with_tabW seg_Check.tab6 seg_Check.bits6 (fun HT_ HW_ => ?_)
           generalize w26.drew = w27 at BK120 BK122 HB HR126 hHeld ⊢
           refine pz (i := 0) (N := some 21) #[I,O,O,O,O,O,O,O,O] ?_
           refine pz (i := 2) (N := some 23) #[I,O,I,O,O,O,O,O,O] ?_
           refine pz (i := 4) (N := some 25) #[I,O,I,O,I,O,O,O,O] ?_
           refine tz (i := 1) (N := some 22) #[I,I,I,O,I,O,O,O,O] ?_
           refine tz (i := 3) (N := some 24) #[I,I,I,I,I,O,O,O,O] ?_
           refine pz (i := 5) (N := some 26) #[I,I,I,I,I,I,O,O,O] ?_
           refine tz (i := 6) (N := some 27) #[I,I,I,I,I,I,I,O,O] ?_
           refine one_ (i := 7) (N := some 28) #[I,I,I,I,I,I,I,I,O] rfl rfl (one_of HT_.out (by kernel_rfl)) (by decide) (fun K hK => ?_)
           refine goes_ Try.func66 (by kernel_rfl) rfl #[.int .i64 a0_0, .slice (some ad121) y123.length c0_1, .agg #[.int .i64 ((rd_T25 l0_1 x16_2).f0), .int .i64 ((rd_T25 l0_1 x16_2).f1), .string ((rd_T25 l0_1 x16_2).f2), .string ((rd_T25 l0_1 x16_2).f3), .int .i64 ((rd_T25 l0_1 x16_2).f4), .bool ((rd_T25 l0_1 x16_2).f5)]] (by rfl) rfl rfl aa ?_
           with_reducible refine (seg_behind.calls k2 a0_0 _ _ y123 ((rd_T25 l0_1 x16_2).f0) ((rd_T25 l0_1 x16_2).f1) ((rd_T25 l0_1 x16_2).f2) ((rd_T25 l0_1 x16_2).f3) ((rd_T25 l0_1 x16_2).f4) ((rd_T25 l0_1 x16_2).f5) false _ ?side1 ?side2 A14.out).mono ?_
           (case side1 => repeat (first | exact (Kd.C_below HR126.out HB.out) | (with_reducible refine Kd.C_alloc ?_ _) | (with_reducible refine Kd.C_drewN ?_ _) | (with_reducible refine Kd.C_drew ?_)))
           (case side2 => exact HC126.out)
           rintro e w29 ⟨rfl, hb⟩
           refine ⟨_, rfl, ?_⟩
           replace BK120 := Aside0.mk (blk_below (g := gb120) (o := .cells #[.int .i64 a0_0, .slice (some ad121) l0_1.length c0_1] 29 (0, 0)) (bk BK120.out) hb)
           replace BK122 := Aside0.mk (blk_below (g := gb122) (o := .cells #[.int .i64 ((rd_T25 l0_1 x16_2).f0), .int .i64 ((rd_T25 l0_1 x16_2).f1), .string ((rd_T25 l0_1 x16_2).f2), .string ((rd_T25 l0_1 x16_2).f3), .int .i64 ((rd_T25 l0_1 x16_2).f4), .bool ((rd_T25 l0_1 x16_2).f5)] 25 (0, 0)) (bk BK122.out) hb)
           replace HB := Aside0.mk (below_step bo hb)
           (try clear hb)
           (try clear hb2)
           (try clear hk)
           (try clear hi)
           refine hK.out _ _ ⟨(blk_cell BK120.out 0).trans rfl, (blk_cell BK120.out 1).trans rfl, (blk_cell BK122.out 0).trans rfl, (blk_cell BK122.out 1).trans rfl, (blk_cell BK122.out 2).trans rfl, (blk_cell BK122.out 3).trans rfl, (blk_cell BK122.out 4).trans rfl, (blk_cell BK122.out 5).trans rfl⟩ (fun hHeld => ?_)
           clear hK K
           refine norm_ (a' := ?_) ?_ ?_
           rotate_left
           ·show Act.put _ (some 28) _ = _
            simp only [Act.put, List.setIfInBounds_toArray, List.set_cons_zero, List.set_cons_succ, i64_w, i32_w]
            rfl
           refine pz (i := 8) (N := some 29) #[I,I,I,I,I,I,I,I,I] ?_
           refine done_ (done_of HT_.out (by kernel_rfl)) ?_
           try go_wp2
           go_ret
           exact ⟨er, bo⟩
         ·rw [if_neg c13] at H
          exact absurd H (by simp)
        ·rw [if_neg c11] at H
         exact absurd H (by simp)
       ·rw [if_neg c10] at H
        exact absurd H (by simp)
      ·rw [if_neg c9] at H
       have c9b0 : decide (x16_2 < (l0_1.length : Int)) = false := decide_eq_false c9
       clear c9
       obtain rfl := Option.some.inj H
       go_wp2
       go_ret
       exact ⟨er, bo⟩

end Go.Proofs.Ytigmekgknhoidaa.P

-- written by a program of the proving session, out of the translation; Lean checks it
namespace Go.Proofs.Ytigmekgknhoidaa.P
open Go.RowKit Go.Proofs.Ytigmekgknhoidaa.Sq Go.Proofs.YtigmekgknhoidaaW.PrintWords Go.Proofs.YtigmekgknhoidaaW.PrintLast Go.Proofs.YtigmekgknhoidaaW.PrintMore
attribute [local go_sem] max2_int min2_int max_two min_two max_three min_three max_four min_four   -- for this text's walks alone
set_option linter.unusedVariables false
set_option linter.unusedSimpArgs false

/-! ### keep_Row: function 20 -/
/-- The last record so far. -/
def keep_Row.last (l : List S25) (la : Option S25) : Option S25 := if l.length = 0 then la else some (rd_T25 l ((l.length - 1 : Nat) : Int))
/-- What may not stand behind what came. -/
def keep_Row.bad (g : S29) (la : Option S25) (pb : Option Int) : Bool :=
 (match pb with | none => false | some b => decide (g.f0 < b)) || (match la with | none => false | some r => (decide (g.f0 ≤ r.f0) || (decide (0 < g.f1.length) && decide ((rd_T25 g.f1 0).f1 < r.f1))))
def keep_Row.go (k : Nat) : List S29 → Int → Option S25 → Option Int → Option Int
 | [], _, _, _ => some 0
 | g :: l, x, la, pb => (seg_Check.f k g.f0 g.f1).bind fun t => (if t = 0 then (if keep_Row.bad g la pb = true then (some 1) else (if wrap64 (x + (g.f1.length : Int)) > 200 then (some 1) else (keep_Row.go k l (wrap64 (x + (g.f1.length : Int))) (keep_Row.last g.f1 la) (some g.f0)))) else (some 1))
def keep_Row.f (k : Nat) (l0 : List S29) : Option Int := if l0.length = 0 then (some 1) else (if l0.length > 201 then (some 1) else (keep_Row.go k l0 0 none none))
theorem keep_Row.mono_go (k : Nat) : ∀ (l : List S29) (x : Int) (la : Option S25) (pb : Option Int), LeO (keep_Row.go k l x la pb) (keep_Row.go (k + 1) l x la pb)
 | [], _, _, _ => LeO.refl _
 | g :: l, x, la, pb => by
  unfold keep_Row.go
  exact LeO.bind (seg_Check.mono _ _ _) (fun t => LeO.ite (LeO.ite (LeO.refl _) (LeO.ite (LeO.refl _) (keep_Row.mono_go k l _ _ _))) (LeO.refl _))
theorem keep_Row.mono : ∀ a0 k, LeO (keep_Row.f k a0) (keep_Row.f (k + 1) a0) := by
 intro a0 k
 unfold keep_Row.f
 exact LeO.ite (LeO.refl _) (LeO.ite (LeO.refl _) (keep_Row.mono_go k _ _ _ _))
theorem keep_Row.below_cells {W w1 : World} (hb : Below W.heap.size W w1) : (∀ b o, b < W.heap.size → w1.cell? ⟨b, o, none⟩ = W.cell? ⟨b, o, none⟩) ∧ (∀ b o, b < W.heap.size → w1.frozen? ⟨b, o, none⟩ = W.frozen? ⟨b, o, none⟩) :=
 ⟨fun b o h => hb.cell (p := ⟨b, o, none⟩) h, fun b o h => hb.frozen (p := ⟨b, o, none⟩) h⟩
set_option maxHeartbeats 4000000 in
set_option maxRecDepth 100000 in
theorem keep_Row.calls (k : Nat) (A0 : Option Addr) (c0 : Nat) (l0 : List S29) (r : Int) (w : World) (hr0 : Kd.C k29 w A0 l0.length l0) (hc0 : l0.length ≤ c0) (h : keep_Row.f k l0 = some r) :
 Calls Try.prog 20 #[.slice A0 l0.length c0] w fun e w' => e = .returned (.int .i64 r) ∧ Below w.heap.size w w' := by
 have hm := hr0.2.1
 have hu25 := Try.underlying25
 have hu29 := Try.underlying29
 have HR0 := Aside0.mk hr0
 have HC0 := Aside0.mk hc0
 have HB := Aside0.mk (Below.refl w.heap.size w)
 clear hr0 hc0
 unfold keep_Row.f at h
 by_cases h0 : l0.length = 0
 ·rw [if_pos h0] at h
  obtain rfl := Option.some.inj h
  have b0 : ((l0.length : Int) == 0) = true := beq_iff_eq.mpr (by omega)
  go_enter Try.func20, Try.ntmps20
  go_wp2
  go_ret
  exact ⟨rfl, HB.out⟩
 ·rw [if_neg h0] at h
  by_cases h1 : l0.length > 201
  ·rw [if_pos h1] at h
   obtain rfl := Option.some.inj h
   have b0 : ((l0.length : Int) == 0) = false := beq_eq_false_iff_ne.mpr (by omega)
   have b1 : decide (201 < (l0.length : Int)) = true := decide_eq_true (by omega)
   go_enter Try.func20, Try.ntmps20
   go_wp2
   go_ret
   exact ⟨rfl, HB.out⟩
  ·rw [if_neg h1] at h
   have HG := Aside0.mk h
   have b0 : ((l0.length : Int) == 0) = false := beq_eq_false_iff_ne.mpr (by omega)
   have b1 : decide (201 < (l0.length : Int)) = false := decide_eq_false (by omega)
   clear h
   go_enter Try.func20, Try.ntmps20
   go_wp2
   clear b0 b1
   go_loopw [3, 4, 18] (fun v3 v4 v18 w' => ∃ (i : Nat) (x : Int) (la : Option (Addr × S25)), i ≤ l0.length ∧ v3 = .int .i64 x ∧ v4 = .pointer (la.map (·.1)) ∧ v18 = .int .i64 i ∧ Aside0 (keep_Row.go k (l0.drop i) x (la.map (·.2)) (if i = 0 then none else some (rd_T29 l0 ((i - 1 : Nat) : Int)).f0) = some r) ∧ Aside0 (Below w.heap.size w w') ∧ Aside0 (∀ ad q, la = some (ad, q) → w.cell? ad = some (.int .i64 q.f0) ∧ w.cell? ⟨ad.block, ad.off + 1, none⟩ = some (.int .i64 q.f1))) (fun _ _ v18 _ => l0.length - (intOf v18).toNat)
   case atStart => exact ⟨0, 0, none, Nat.zero_le _, rfl, rfl, rfl, ⟨by simpa using HG.out⟩, HB, ⟨fun ad q e => by cases e⟩⟩
   case round =>
    clear HB HG
    obtain ⟨i, x, la, hi, rfl, rfl, rfl, HX, HB, HL⟩ := hrel
    by_cases hlt : i < l0.length
    ·have hgo := HX.out
     have eg : rd_T29 l0 (i : Int) = l0[i] := by unfold rd_T29; simp [List.getD_eq_getElem?_getD, List.getElem?_eq_getElem hlt]
     rw [List.drop_eq_getElem_cons hlt, keep_Row.go, ← eg] at hgo
     obtain ⟨t, ht, hgo⟩ := Option.bind_eq_some_iff.1 hgo
     have HT := Aside0.mk ht
     obtain ⟨ad, A1, cc1, ead, hx0, hx1, hle, hC⟩ := at_T29 HR0.out (i : Int) (by omega) (by omega)
     cases ead
     simp only [Int.toNat_natCast] at hx0 hx1
     have X0 := Aside0.mk hx0
     have X1 := Aside0.mk hx1
     replace hx0 := cx HB.out hx0
     replace hx1 := cx HB.out hx1
     have HCC := Aside0.mk hC
     have HLE := Aside0.mk hle
     clear ht hC hle eg HX
     by_cases ht0 : t = 0
     ·subst ht0
      rw [if_pos rfl] at hgo
      have hHG := Aside0.mk hgo
      clear hgo
      rcases la with _ | ⟨al, q⟩
      ·clear HL
       by_cases hi0 : i = 0
       ·have I0 := Aside0.mk hi0
        have g1 : decide (0 < (i : Int)) = false := decide_eq_false (by omega)
        have g2 : decide (0 < i) = false := decide_eq_false (by omega)
        clear hi0
        by_cases c3 : (rd_T29 l0 (i : Int)).f1.length = 0
        ·have g3 : decide (0 < (rd_T29 l0 (i : Int)).f1.length) = false := decide_eq_false (by omega)
         have g3' : decide (0 < ((rd_T29 l0 (i : Int)).f1.length : Int)) = false := decide_eq_false (by omega)
         have C3 := Aside0.mk c3
         clear c3
         have hr := hHG.out
         rw [if_neg (by simp [keep_Row.bad, if_pos I0.out])] at hr
         by_cases c5 : wrap64 (x + ((rd_T29 l0 (i : Int)).f1.length : Int)) > 200
         ·rw [if_pos c5] at hr
          obtain rfl := Option.some.inj hr
          have d5 : decide (200 < wrap64 (x + ((rd_T29 l0 (i : Int)).f1.length : Int))) = true := decide_eq_true c5
          clear hr hHG c5
          go_wp2_with (first | (go_at_call 51; (with_reducible refine (seg_Check.calls k (rd_T29 l0 (i : Int)).f0 _ _ (rd_T29 l0 (i : Int)).f1 0 _ (Kd.C_alloc (Kd.C_below HCC.out HB.out) _) HLE.out HT.out).mono ?_); rintro e w5 ⟨rfl, hb⟩; obtain ⟨hc5, hf5⟩ := keep_Row.below_cells hb; have hz5 : wr.heap.size < w5.heap.size := (by have := hb.size; simp at this; omega); have hbx := hb; replace HB := Aside0.mk (below_step (HB.out.alloc HB.out.size _) hb); clear hb; replace hx0 := cx HB.out X0.out; replace hx1 := cx HB.out X1.out))
          go_quiet (fail)
          go_wp2
          go_quiet (fail)
          go_wp2
          go_quiet (fail)
          go_wp2
          go_ret
          exact ⟨rfl, by repeat (first | exact HB.out | apply pw_below_drewN)⟩
         ·rw [if_neg c5] at hr
          have d5 : decide (200 < wrap64 (x + ((rd_T29 l0 (i : Int)).f1.length : Int))) = false := decide_eq_false c5
          clear c5 hHG
          rw [keep_Row.last, if_pos C3.out] at hr
          have HH := Aside0.mk hr
          clear hr
          go_wp2_with (first | (go_at_call 51; (with_reducible refine (seg_Check.calls k (rd_T29 l0 (i : Int)).f0 _ _ (rd_T29 l0 (i : Int)).f1 0 _ (Kd.C_alloc (Kd.C_below HCC.out HB.out) _) HLE.out HT.out).mono ?_); rintro e w5 ⟨rfl, hb⟩; obtain ⟨hc5, hf5⟩ := keep_Row.below_cells hb; have hz5 : wr.heap.size < w5.heap.size := (by have := hb.size; simp at this; omega); have hbx := hb; replace HB := Aside0.mk (below_step (HB.out.alloc HB.out.size _) hb); clear hb; replace hx0 := cx HB.out X0.out; replace hx1 := cx HB.out X1.out))
          go_quiet (fail)
          go_wp2
          go_quiet (fail)
          go_wp2
          go_quiet (fail)
          go_wp2
          go_roundw
          case rel => exact ⟨i + 1, wrap64 (x + ((rd_T29 l0 (i : Int)).f1.length : Int)), none, by omega, rfl, rfl, by go_num, ⟨HH.out⟩, ⟨by repeat (first | exact HB.out | apply pw_below_drewN)⟩, ⟨fun a_ b_ e_ => by cases e_⟩⟩
          case measure => simp [intOf]; omega
        ·have g3 : decide (0 < (rd_T29 l0 (i : Int)).f1.length) = true := decide_eq_true (by omega)
         have g3' : decide (0 < ((rd_T29 l0 (i : Int)).f1.length : Int)) = true := decide_eq_true (by omega)
         have hlm := HCC.out.2.1
         obtain ⟨ad3, ead3, -, hz1, -, -, -, -⟩ := at_T25 HCC.out 0 (by omega) (by omega)
         cases ead3
         obtain ⟨ad4, ead4, hw0, hw1, -, -, -, -⟩ := at_T25 HCC.out (((rd_T29 l0 (i : Int)).f1.length - 1 : Nat) : Int) (by omega) (by omega)
         obtain rfl := Option.some.inj ead4
         simp only [Int.toNat_natCast] at hw0 hw1
         simp only [Int.toNat_zero, Nat.zero_mul] at hz1
         have ez : ad3.add 0 = ad3 := by simp [Addr.add]
         rw [ez] at hz1
         clear ez
         have Z1 := Aside0.mk hz1
         have W0 := Aside0.mk hw0
         have W1 := Aside0.mk hw1
         have f1 : IntKind.i64.wrap (((rd_T29 l0 (i : Int)).f1.length : Int) - 1) = (((rd_T29 l0 (i : Int)).f1.length - 1 : Nat) : Int) := by rw [IntWalk.i64_in _ (by omega)]; omega
         have f1' : wrap64 (((rd_T29 l0 (i : Int)).f1.length : Int) - 1) = (((rd_T29 l0 (i : Int)).f1.length - 1 : Nat) : Int) := by unfold wrap64; omega
         have f2 : 0 ≤ (((rd_T29 l0 (i : Int)).f1.length - 1 : Nat) : Int) := by omega
         have f3 : (((rd_T29 l0 (i : Int)).f1.length - 1 : Nat) : Int) < ((rd_T29 l0 (i : Int)).f1.length : Int) := by omega
         have f4 : (rd_T29 l0 (i : Int)).f1.length - 1 < (rd_T29 l0 (i : Int)).f1.length := by omega
         have k1 : 0 < (rd_T29 l0 (i : Int)).f1.length := by omega
         have k2 : (0 : Int) < ((rd_T29 l0 (i : Int)).f1.length : Int) := by omega
         clear hz1 hw0 hw1 hlm ead4
         have hr := hHG.out
         rw [if_neg (by simp [keep_Row.bad, if_pos I0.out])] at hr
         by_cases c5 : wrap64 (x + ((rd_T29 l0 (i : Int)).f1.length : Int)) > 200
         ·rw [if_pos c5] at hr
          obtain rfl := Option.some.inj hr
          have d5 : decide (200 < wrap64 (x + ((rd_T29 l0 (i : Int)).f1.length : Int))) = true := decide_eq_true c5
          clear hr hHG c5
          go_wp2_with (first | (go_at_call 51; (with_reducible refine (seg_Check.calls k (rd_T29 l0 (i : Int)).f0 _ _ (rd_T29 l0 (i : Int)).f1 0 _ (Kd.C_alloc (Kd.C_below HCC.out HB.out) _) HLE.out HT.out).mono ?_); rintro e w5 ⟨rfl, hb⟩; obtain ⟨hc5, hf5⟩ := keep_Row.below_cells hb; have hz5 : wr.heap.size < w5.heap.size := (by have := hb.size; simp at this; omega); have hbx := hb; replace HB := Aside0.mk (below_step (HB.out.alloc HB.out.size _) hb); clear hb; replace hx0 := cx HB.out X0.out; replace hx1 := cx HB.out X1.out))
          go_quiet (fail)
          go_wp2
          go_quiet (fail)
          go_wp2
          go_quiet (fail)
          go_wp2
          go_ret
          exact ⟨rfl, by repeat (first | exact HB.out | apply pw_below_drewN)⟩
         ·rw [if_neg c5] at hr
          have d5 : decide (200 < wrap64 (x + ((rd_T29 l0 (i : Int)).f1.length : Int))) = false := decide_eq_false c5
          clear c5 hHG
          rw [keep_Row.last, if_neg c3] at hr
          have HH := Aside0.mk hr
          clear hr
          go_wp2_with (first | (go_at_call 51; (with_reducible refine (seg_Check.calls k (rd_T29 l0 (i : Int)).f0 _ _ (rd_T29 l0 (i : Int)).f1 0 _ (Kd.C_alloc (Kd.C_below HCC.out HB.out) _) HLE.out HT.out).mono ?_); rintro e w5 ⟨rfl, hb⟩; obtain ⟨hc5, hf5⟩ := keep_Row.below_cells hb; have hz5 : wr.heap.size < w5.heap.size := (by have := hb.size; simp at this; omega); have hbx := hb; replace HB := Aside0.mk (below_step (HB.out.alloc HB.out.size _) hb); clear hb; replace hx0 := cx HB.out X0.out; replace hx1 := cx HB.out X1.out))
          go_quiet (fail)
          go_wp2
          go_quiet (fail)
          go_wp2
          go_quiet (fail)
          go_wp2
          go_roundw
          case rel => exact ⟨i + 1, wrap64 (x + ((rd_T29 l0 (i : Int)).f1.length : Int)), some (ad3.add (((rd_T29 l0 (i : Int)).f1.length - 1) * 6), rd_T25 (rd_T29 l0 (i : Int)).f1 (((rd_T29 l0 (i : Int)).f1.length - 1 : Nat) : Int)), by omega, rfl, rfl, by go_num, ⟨HH.out⟩, ⟨by repeat (first | exact HB.out | apply pw_below_drewN)⟩, ⟨fun a_ b_ e_ => by cases e_; exact ⟨W0.out, W1.out⟩⟩⟩
          case measure => simp [intOf]; omega
       ·obtain ⟨ad2, A2, cc2, ead2, hy0, -, -, -⟩ := at_T29 HR0.out ((i - 1 : Nat) : Int) (by omega) (by omega)
        cases ead2
        simp only [Int.toNat_natCast] at hy0
        have Y0 := Aside0.mk hy0
        clear hy0
        have g1 : decide (0 < (i : Int)) = true := decide_eq_true (by omega)
        have g2 : decide (0 < i) = true := decide_eq_true (by omega)
        have ew : IntKind.i64.wrap ((i : Int) - 1) = ((i - 1 : Nat) : Int) := by rw [IntWalk.i64_in _ (by omega)]; omega
        have e1 : 0 ≤ ((i - 1 : Nat) : Int) := by omega
        have e2 : ((i - 1 : Nat) : Int) < (l0.length : Int) := by omega
        have e3 : i - 1 < l0.length := by omega
        by_cases c1 : (rd_T29 l0 (i : Int)).f0 < (rd_T29 l0 ((i - 1 : Nat) : Int)).f0
        ·have d1 : decide ((rd_T29 l0 (i : Int)).f0 < (rd_T29 l0 ((i - 1 : Nat) : Int)).f0) = true := decide_eq_true c1
         have hr := hHG.out
         rw [if_pos (by simp [keep_Row.bad, hi0, c1])] at hr
         obtain rfl := Option.some.inj hr
         clear hr hHG
         clear c1
         go_wp2_with (first | (go_at_call 51; (with_reducible refine (seg_Check.calls k (rd_T29 l0 (i : Int)).f0 _ _ (rd_T29 l0 (i : Int)).f1 0 _ (Kd.C_alloc (Kd.C_below HCC.out HB.out) _) HLE.out HT.out).mono ?_); rintro e w5 ⟨rfl, hb⟩; obtain ⟨hc5, hf5⟩ := keep_Row.below_cells hb; have hz5 : wr.heap.size < w5.heap.size := (by have := hb.size; simp at this; omega); have hbx := hb; replace HB := Aside0.mk (below_step (HB.out.alloc HB.out.size _) hb); clear hb; replace hx0 := cx HB.out X0.out; replace hx1 := cx HB.out X1.out; have y0_ := cx HB.out Y0.out))
         go_quiet (fail)
         go_wp2
         go_ret
         exact ⟨rfl, by repeat (first | exact HB.out | apply pw_below_drewN)⟩
        ·have d1 : decide ((rd_T29 l0 (i : Int)).f0 < (rd_T29 l0 ((i - 1 : Nat) : Int)).f0) = false := decide_eq_false c1
         by_cases c3 : (rd_T29 l0 (i : Int)).f1.length = 0
         ·have g3 : decide (0 < (rd_T29 l0 (i : Int)).f1.length) = false := decide_eq_false (by omega)
          have g3' : decide (0 < ((rd_T29 l0 (i : Int)).f1.length : Int)) = false := decide_eq_false (by omega)
          have C3 := Aside0.mk c3
          clear c3
          have hr := hHG.out
          rw [if_neg (by simp [keep_Row.bad, hi0, c1])] at hr
          by_cases c5 : wrap64 (x + ((rd_T29 l0 (i : Int)).f1.length : Int)) > 200
          ·rw [if_pos c5] at hr
           obtain rfl := Option.some.inj hr
           have d5 : decide (200 < wrap64 (x + ((rd_T29 l0 (i : Int)).f1.length : Int))) = true := decide_eq_true c5
           clear hr hHG c5
           go_wp2_with (first | (go_at_call 51; (with_reducible refine (seg_Check.calls k (rd_T29 l0 (i : Int)).f0 _ _ (rd_T29 l0 (i : Int)).f1 0 _ (Kd.C_alloc (Kd.C_below HCC.out HB.out) _) HLE.out HT.out).mono ?_); rintro e w5 ⟨rfl, hb⟩; obtain ⟨hc5, hf5⟩ := keep_Row.below_cells hb; have hz5 : wr.heap.size < w5.heap.size := (by have := hb.size; simp at this; omega); have hbx := hb; replace HB := Aside0.mk (below_step (HB.out.alloc HB.out.size _) hb); clear hb; replace hx0 := cx HB.out X0.out; replace hx1 := cx HB.out X1.out; have y0_ := cx HB.out Y0.out))
           go_quiet (fail)
           go_wp2
           go_quiet (fail)
           go_wp2
           go_quiet (fail)
           go_wp2
           go_ret
           exact ⟨rfl, by repeat (first | exact HB.out | apply pw_below_drewN)⟩
          ·rw [if_neg c5] at hr
           have d5 : decide (200 < wrap64 (x + ((rd_T29 l0 (i : Int)).f1.length : Int))) = false := decide_eq_false c5
           clear c5 hHG
           rw [keep_Row.last, if_pos C3.out] at hr
           have HH := Aside0.mk hr
           clear hr
           go_wp2_with (first | (go_at_call 51; (with_reducible refine (seg_Check.calls k (rd_T29 l0 (i : Int)).f0 _ _ (rd_T29 l0 (i : Int)).f1 0 _ (Kd.C_alloc (Kd.C_below HCC.out HB.out) _) HLE.out HT.out).mono ?_); rintro e w5 ⟨rfl, hb⟩; obtain ⟨hc5, hf5⟩ := keep_Row.below_cells hb; have hz5 : wr.heap.size < w5.heap.size := (by have := hb.size; simp at this; omega); have hbx := hb; replace HB := Aside0.mk (below_step (HB.out.alloc HB.out.size _) hb); clear hb; replace hx0 := cx HB.out X0.out; replace hx1 := cx HB.out X1.out; have y0_ := cx HB.out Y0.out))
           go_quiet (fail)
           go_wp2
           go_quiet (fail)
           go_wp2
           go_quiet (fail)
           go_wp2
           go_roundw
           case rel => exact ⟨i + 1, wrap64 (x + ((rd_T29 l0 (i : Int)).f1.length : Int)), none, by omega, rfl, rfl, by go_num, ⟨HH.out⟩, ⟨by repeat (first | exact HB.out | apply pw_below_drewN)⟩, ⟨fun a_ b_ e_ => by cases e_⟩⟩
           case measure => simp [intOf]; omega
         ·have g3 : decide (0 < (rd_T29 l0 (i : Int)).f1.length) = true := decide_eq_true (by omega)
          have g3' : decide (0 < ((rd_T29 l0 (i : Int)).f1.length : Int)) = true := decide_eq_true (by omega)
          have hlm := HCC.out.2.1
          obtain ⟨ad3, ead3, -, hz1, -, -, -, -⟩ := at_T25 HCC.out 0 (by omega) (by omega)
          cases ead3
          obtain ⟨ad4, ead4, hw0, hw1, -, -, -, -⟩ := at_T25 HCC.out (((rd_T29 l0 (i : Int)).f1.length - 1 : Nat) : Int) (by omega) (by omega)
          obtain rfl := Option.some.inj ead4
          simp only [Int.toNat_natCast] at hw0 hw1
          simp only [Int.toNat_zero, Nat.zero_mul] at hz1
          have ez : ad3.add 0 = ad3 := by simp [Addr.add]
          rw [ez] at hz1
          clear ez
          have Z1 := Aside0.mk hz1
          have W0 := Aside0.mk hw0
          have W1 := Aside0.mk hw1
          have f1 : IntKind.i64.wrap (((rd_T29 l0 (i : Int)).f1.length : Int) - 1) = (((rd_T29 l0 (i : Int)).f1.length - 1 : Nat) : Int) := by rw [IntWalk.i64_in _ (by omega)]; omega
          have f1' : wrap64 (((rd_T29 l0 (i : Int)).f1.length : Int) - 1) = (((rd_T29 l0 (i : Int)).f1.length - 1 : Nat) : Int) := by unfold wrap64; omega
          have f2 : 0 ≤ (((rd_T29 l0 (i : Int)).f1.length - 1 : Nat) : Int) := by omega
          have f3 : (((rd_T29 l0 (i : Int)).f1.length - 1 : Nat) : Int) < ((rd_T29 l0 (i : Int)).f1.length : Int) := by omega
          have f4 : (rd_T29 l0 (i : Int)).f1.length - 1 < (rd_T29 l0 (i : Int)).f1.length := by omega
          have k1 : 0 < (rd_T29 l0 (i : Int)).f1.length := by omega
          have k2 : (0 : Int) < ((rd_T29 l0 (i : Int)).f1.length : Int) := by omega
          clear hz1 hw0 hw1 hlm ead4
          have hr := hHG.out
          rw [if_neg (by simp [keep_Row.bad, hi0, c1])] at hr
          by_cases c5 : wrap64 (x + ((rd_T29 l0 (i : Int)).f1.length : Int)) > 200
          ·rw [if_pos c5] at hr
           obtain rfl := Option.some.inj hr
           have d5 : decide (200 < wrap64 (x + ((rd_T29 l0 (i : Int)).f1.length : Int))) = true := decide_eq_true c5
           clear hr hHG c5
           go_wp2_with (first | (go_at_call 51; (with_reducible refine (seg_Check.calls k (rd_T29 l0 (i : Int)).f0 _ _ (rd_T29 l0 (i : Int)).f1 0 _ (Kd.C_alloc (Kd.C_below HCC.out HB.out) _) HLE.out HT.out).mono ?_); rintro e w5 ⟨rfl, hb⟩; obtain ⟨hc5, hf5⟩ := keep_Row.below_cells hb; have hz5 : wr.heap.size < w5.heap.size := (by have := hb.size; simp at this; omega); have hbx := hb; replace HB := Aside0.mk (below_step (HB.out.alloc HB.out.size _) hb); clear hb; replace hx0 := cx HB.out X0.out; replace hx1 := cx HB.out X1.out; have y0_ := cx HB.out Y0.out))
           go_quiet (fail)
           go_wp2
           go_quiet (fail)
           go_wp2
           go_quiet (fail)
           go_wp2
           go_ret
           exact ⟨rfl, by repeat (first | exact HB.out | apply pw_below_drewN)⟩
          ·rw [if_neg c5] at hr
           have d5 : decide (200 < wrap64 (x + ((rd_T29 l0 (i : Int)).f1.length : Int))) = false := decide_eq_false c5
           clear c5 hHG
           rw [keep_Row.last, if_neg c3] at hr
           have HH := Aside0.mk hr
           clear hr
           go_wp2_with (first | (go_at_call 51; (with_reducible refine (seg_Check.calls k (rd_T29 l0 (i : Int)).f0 _ _ (rd_T29 l0 (i : Int)).f1 0 _ (Kd.C_alloc (Kd.C_below HCC.out HB.out) _) HLE.out HT.out).mono ?_); rintro e w5 ⟨rfl, hb⟩; obtain ⟨hc5, hf5⟩ := keep_Row.below_cells hb; have hz5 : wr.heap.size < w5.heap.size := (by have := hb.size; simp at this; omega); have hbx := hb; replace HB := Aside0.mk (below_step (HB.out.alloc HB.out.size _) hb); clear hb; replace hx0 := cx HB.out X0.out; replace hx1 := cx HB.out X1.out; have y0_ := cx HB.out Y0.out))
           go_quiet (fail)
           go_wp2
           go_quiet (fail)
           go_wp2
           go_quiet (fail)
           go_wp2
           go_roundw
           case rel => exact ⟨i + 1, wrap64 (x + ((rd_T29 l0 (i : Int)).f1.length : Int)), some (ad3.add (((rd_T29 l0 (i : Int)).f1.length - 1) * 6), rd_T25 (rd_T29 l0 (i : Int)).f1 (((rd_T29 l0 (i : Int)).f1.length - 1 : Nat) : Int)), by omega, rfl, rfl, by go_num, ⟨HH.out⟩, ⟨by repeat (first | exact HB.out | apply pw_below_drewN)⟩, ⟨fun a_ b_ e_ => by cases e_; exact ⟨W0.out, W1.out⟩⟩⟩
           case measure => simp [intOf]; omega
      ·obtain ⟨hq0, hq1⟩ := HL.out al q rfl
       have Q0 := Aside0.mk hq0
       have Q1 := Aside0.mk hq1
       clear hq0 hq1 HL
       by_cases hi0 : i = 0
       ·have I0 := Aside0.mk hi0
        have g1 : decide (0 < (i : Int)) = false := decide_eq_false (by omega)
        have g2 : decide (0 < i) = false := decide_eq_false (by omega)
        clear hi0
        by_cases c2 : (rd_T29 l0 (i : Int)).f0 ≤ q.f0
        ·have d2 : decide ((rd_T29 l0 (i : Int)).f0 ≤ q.f0) = true := decide_eq_true c2
         have hr := hHG.out
         rw [if_pos (by simp [keep_Row.bad, if_pos I0.out, c2])] at hr
         obtain rfl := Option.some.inj hr
         clear hr hHG
         clear c2
         go_wp2_with (first | (go_at_call 51; (with_reducible refine (seg_Check.calls k (rd_T29 l0 (i : Int)).f0 _ _ (rd_T29 l0 (i : Int)).f1 0 _ (Kd.C_alloc (Kd.C_below HCC.out HB.out) _) HLE.out HT.out).mono ?_); rintro e w5 ⟨rfl, hb⟩; obtain ⟨hc5, hf5⟩ := keep_Row.below_cells hb; have hz5 : wr.heap.size < w5.heap.size := (by have := hb.size; simp at this; omega); have hbx := hb; replace HB := Aside0.mk (below_step (HB.out.alloc HB.out.size _) hb); clear hb; replace hx0 := cx HB.out X0.out; replace hx1 := cx HB.out X1.out; have q0_ := cx HB.out Q0.out; have q1_ := cx HB.out Q1.out))
         go_quiet (fail)
         go_wp2
         go_quiet (fail)
         go_wp2
         go_ret
         exact ⟨rfl, by repeat (first | exact HB.out | apply pw_below_drewN)⟩
        ·have d2 : decide ((rd_T29 l0 (i : Int)).f0 ≤ q.f0) = false := decide_eq_false c2
         by_cases c3 : (rd_T29 l0 (i : Int)).f1.length = 0
         ·have g3 : decide (0 < (rd_T29 l0 (i : Int)).f1.length) = false := decide_eq_false (by omega)
          have g3' : decide (0 < ((rd_T29 l0 (i : Int)).f1.length : Int)) = false := decide_eq_false (by omega)
          have C3 := Aside0.mk c3
          clear c3
          have hr := hHG.out
          rw [if_neg (by simp [keep_Row.bad, if_pos I0.out, c2, C3.out])] at hr
          by_cases c5 : wrap64 (x + ((rd_T29 l0 (i : Int)).f1.length : Int)) > 200
          ·rw [if_pos c5] at hr
           obtain rfl := Option.some.inj hr
           have d5 : decide (200 < wrap64 (x + ((rd_T29 l0 (i : Int)).f1.length : Int))) = true := decide_eq_true c5
           clear hr hHG c5
           go_wp2_with (first | (go_at_call 51; (with_reducible refine (seg_Check.calls k (rd_T29 l0 (i : Int)).f0 _ _ (rd_T29 l0 (i : Int)).f1 0 _ (Kd.C_alloc (Kd.C_below HCC.out HB.out) _) HLE.out HT.out).mono ?_); rintro e w5 ⟨rfl, hb⟩; obtain ⟨hc5, hf5⟩ := keep_Row.below_cells hb; have hz5 : wr.heap.size < w5.heap.size := (by have := hb.size; simp at this; omega); have hbx := hb; replace HB := Aside0.mk (below_step (HB.out.alloc HB.out.size _) hb); clear hb; replace hx0 := cx HB.out X0.out; replace hx1 := cx HB.out X1.out; have q0_ := cx HB.out Q0.out; have q1_ := cx HB.out Q1.out))
           go_quiet (fail)
           go_wp2
           go_quiet (fail)
           go_wp2
           go_quiet (fail)
           go_wp2
           go_ret
           exact ⟨rfl, by repeat (first | exact HB.out | apply pw_below_drewN)⟩
          ·rw [if_neg c5] at hr
           have d5 : decide (200 < wrap64 (x + ((rd_T29 l0 (i : Int)).f1.length : Int))) = false := decide_eq_false c5
           clear c5 hHG
           rw [keep_Row.last, if_pos C3.out] at hr
           have HH := Aside0.mk hr
           clear hr
           go_wp2_with (first | (go_at_call 51; (with_reducible refine (seg_Check.calls k (rd_T29 l0 (i : Int)).f0 _ _ (rd_T29 l0 (i : Int)).f1 0 _ (Kd.C_alloc (Kd.C_below HCC.out HB.out) _) HLE.out HT.out).mono ?_); rintro e w5 ⟨rfl, hb⟩; obtain ⟨hc5, hf5⟩ := keep_Row.below_cells hb; have hz5 : wr.heap.size < w5.heap.size := (by have := hb.size; simp at this; omega); have hbx := hb; replace HB := Aside0.mk (below_step (HB.out.alloc HB.out.size _) hb); clear hb; replace hx0 := cx HB.out X0.out; replace hx1 := cx HB.out X1.out; have q0_ := cx HB.out Q0.out; have q1_ := cx HB.out Q1.out))
           go_quiet (fail)
           go_wp2
           go_quiet (fail)
           go_wp2
           go_quiet (fail)
           go_wp2
           go_roundw
           case rel => exact ⟨i + 1, wrap64 (x + ((rd_T29 l0 (i : Int)).f1.length : Int)), some (al, q), by omega, rfl, rfl, by go_num, ⟨HH.out⟩, ⟨by repeat (first | exact HB.out | apply pw_below_drewN)⟩, ⟨fun a_ b_ e_ => by cases e_; exact ⟨Q0.out, Q1.out⟩⟩⟩
           case measure => simp [intOf]; omega
         ·have g3 : decide (0 < (rd_T29 l0 (i : Int)).f1.length) = true := decide_eq_true (by omega)
          have g3' : decide (0 < ((rd_T29 l0 (i : Int)).f1.length : Int)) = true := decide_eq_true (by omega)
          have hlm := HCC.out.2.1
          obtain ⟨ad3, ead3, -, hz1, -, -, -, -⟩ := at_T25 HCC.out 0 (by omega) (by omega)
          cases ead3
          obtain ⟨ad4, ead4, hw0, hw1, -, -, -, -⟩ := at_T25 HCC.out (((rd_T29 l0 (i : Int)).f1.length - 1 : Nat) : Int) (by omega) (by omega)
          obtain rfl := Option.some.inj ead4
          simp only [Int.toNat_natCast] at hw0 hw1
          simp only [Int.toNat_zero, Nat.zero_mul] at hz1
          have ez : ad3.add 0 = ad3 := by simp [Addr.add]
          rw [ez] at hz1
          clear ez
          have Z1 := Aside0.mk hz1
          have W0 := Aside0.mk hw0
          have W1 := Aside0.mk hw1
          have f1 : IntKind.i64.wrap (((rd_T29 l0 (i : Int)).f1.length : Int) - 1) = (((rd_T29 l0 (i : Int)).f1.length - 1 : Nat) : Int) := by rw [IntWalk.i64_in _ (by omega)]; omega
          have f1' : wrap64 (((rd_T29 l0 (i : Int)).f1.length : Int) - 1) = (((rd_T29 l0 (i : Int)).f1.length - 1 : Nat) : Int) := by unfold wrap64; omega
          have f2 : 0 ≤ (((rd_T29 l0 (i : Int)).f1.length - 1 : Nat) : Int) := by omega
          have f3 : (((rd_T29 l0 (i : Int)).f1.length - 1 : Nat) : Int) < ((rd_T29 l0 (i : Int)).f1.length : Int) := by omega
          have f4 : (rd_T29 l0 (i : Int)).f1.length - 1 < (rd_T29 l0 (i : Int)).f1.length := by omega
          have k1 : 0 < (rd_T29 l0 (i : Int)).f1.length := by omega
          have k2 : (0 : Int) < ((rd_T29 l0 (i : Int)).f1.length : Int) := by omega
          clear hz1 hw0 hw1 hlm ead4
          by_cases c4 : (rd_T25 (rd_T29 l0 (i : Int)).f1 0).f1 < q.f1
          ·have d4 : decide ((rd_T25 (rd_T29 l0 (i : Int)).f1 0).f1 < q.f1) = true := decide_eq_true c4
           have hr := hHG.out
           rw [if_pos (by simp [keep_Row.bad, if_pos I0.out, c2, c4, Nat.pos_of_ne_zero c3])] at hr
           obtain rfl := Option.some.inj hr
           clear hr hHG
           clear c4 c3
           go_wp2_with (first | (go_at_call 51; (with_reducible refine (seg_Check.calls k (rd_T29 l0 (i : Int)).f0 _ _ (rd_T29 l0 (i : Int)).f1 0 _ (Kd.C_alloc (Kd.C_below HCC.out HB.out) _) HLE.out HT.out).mono ?_); rintro e w5 ⟨rfl, hb⟩; obtain ⟨hc5, hf5⟩ := keep_Row.below_cells hb; have hz5 : wr.heap.size < w5.heap.size := (by have := hb.size; simp at this; omega); have hbx := hb; replace HB := Aside0.mk (below_step (HB.out.alloc HB.out.size _) hb); clear hb; replace hx0 := cx HB.out X0.out; replace hx1 := cx HB.out X1.out; have q0_ := cx HB.out Q0.out; have q1_ := cx HB.out Q1.out; have z1_ := cx HB.out Z1.out))
           go_quiet (fail)
           go_wp2
           go_quiet (fail)
           go_wp2
           go_quiet (fail)
           go_wp2
           go_ret
           exact ⟨rfl, by repeat (first | exact HB.out | apply pw_below_drewN)⟩
          ·have d4 : decide ((rd_T25 (rd_T29 l0 (i : Int)).f1 0).f1 < q.f1) = false := decide_eq_false c4
           have hr := hHG.out
           rw [if_neg (by simp [keep_Row.bad, if_pos I0.out, c2, c4])] at hr
           by_cases c5 : wrap64 (x + ((rd_T29 l0 (i : Int)).f1.length : Int)) > 200
           ·rw [if_pos c5] at hr
            obtain rfl := Option.some.inj hr
            have d5 : decide (200 < wrap64 (x + ((rd_T29 l0 (i : Int)).f1.length : Int))) = true := decide_eq_true c5
            clear hr hHG c5
            go_wp2_with (first | (go_at_call 51; (with_reducible refine (seg_Check.calls k (rd_T29 l0 (i : Int)).f0 _ _ (rd_T29 l0 (i : Int)).f1 0 _ (Kd.C_alloc (Kd.C_below HCC.out HB.out) _) HLE.out HT.out).mono ?_); rintro e w5 ⟨rfl, hb⟩; obtain ⟨hc5, hf5⟩ := keep_Row.below_cells hb; have hz5 : wr.heap.size < w5.heap.size := (by have := hb.size; simp at this; omega); have hbx := hb; replace HB := Aside0.mk (below_step (HB.out.alloc HB.out.size _) hb); clear hb; replace hx0 := cx HB.out X0.out; replace hx1 := cx HB.out X1.out; have q0_ := cx HB.out Q0.out; have q1_ := cx HB.out Q1.out; have z1_ := cx HB.out Z1.out))
            go_quiet (fail)
            go_wp2
            go_quiet (fail)
            go_wp2
            go_quiet (fail)
            go_wp2
            go_ret
            exact ⟨rfl, by repeat (first | exact HB.out | apply pw_below_drewN)⟩
           ·rw [if_neg c5] at hr
            have d5 : decide (200 < wrap64 (x + ((rd_T29 l0 (i : Int)).f1.length : Int))) = false := decide_eq_false c5
            clear c5 hHG
            rw [keep_Row.last, if_neg c3] at hr
            have HH := Aside0.mk hr
            clear hr
            go_wp2_with (first | (go_at_call 51; (with_reducible refine (seg_Check.calls k (rd_T29 l0 (i : Int)).f0 _ _ (rd_T29 l0 (i : Int)).f1 0 _ (Kd.C_alloc (Kd.C_below HCC.out HB.out) _) HLE.out HT.out).mono ?_); rintro e w5 ⟨rfl, hb⟩; obtain ⟨hc5, hf5⟩ := keep_Row.below_cells hb; have hz5 : wr.heap.size < w5.heap.size := (by have := hb.size; simp at this; omega); have hbx := hb; replace HB := Aside0.mk (below_step (HB.out.alloc HB.out.size _) hb); clear hb; replace hx0 := cx HB.out X0.out; replace hx1 := cx HB.out X1.out; have q0_ := cx HB.out Q0.out; have q1_ := cx HB.out Q1.out; have z1_ := cx HB.out Z1.out))
            go_quiet (fail)
            go_wp2
            go_quiet (fail)
            go_wp2
            go_quiet (fail)
            go_wp2
            go_roundw
            case rel => exact ⟨i + 1, wrap64 (x + ((rd_T29 l0 (i : Int)).f1.length : Int)), some (ad3.add (((rd_T29 l0 (i : Int)).f1.length - 1) * 6), rd_T25 (rd_T29 l0 (i : Int)).f1 (((rd_T29 l0 (i : Int)).f1.length - 1 : Nat) : Int)), by omega, rfl, rfl, by go_num, ⟨HH.out⟩, ⟨by repeat (first | exact HB.out | apply pw_below_drewN)⟩, ⟨fun a_ b_ e_ => by cases e_; exact ⟨W0.out, W1.out⟩⟩⟩
            case measure => simp [intOf]; omega
       ·obtain ⟨ad2, A2, cc2, ead2, hy0, -, -, -⟩ := at_T29 HR0.out ((i - 1 : Nat) : Int) (by omega) (by omega)
        cases ead2
        simp only [Int.toNat_natCast] at hy0
        have Y0 := Aside0.mk hy0
        clear hy0
        have g1 : decide (0 < (i : Int)) = true := decide_eq_true (by omega)
        have g2 : decide (0 < i) = true := decide_eq_true (by omega)
        have ew : IntKind.i64.wrap ((i : Int) - 1) = ((i - 1 : Nat) : Int) := by rw [IntWalk.i64_in _ (by omega)]; omega
        have e1 : 0 ≤ ((i - 1 : Nat) : Int) := by omega
        have e2 : ((i - 1 : Nat) : Int) < (l0.length : Int) := by omega
        have e3 : i - 1 < l0.length := by omega
        by_cases c1 : (rd_T29 l0 (i : Int)).f0 < (rd_T29 l0 ((i - 1 : Nat) : Int)).f0
        ·have d1 : decide ((rd_T29 l0 (i : Int)).f0 < (rd_T29 l0 ((i - 1 : Nat) : Int)).f0) = true := decide_eq_true c1
         have hr := hHG.out
         rw [if_pos (by simp [keep_Row.bad, hi0, c1])] at hr
         obtain rfl := Option.some.inj hr
         clear hr hHG
         clear c1
         go_wp2_with (first | (go_at_call 51; (with_reducible refine (seg_Check.calls k (rd_T29 l0 (i : Int)).f0 _ _ (rd_T29 l0 (i : Int)).f1 0 _ (Kd.C_alloc (Kd.C_below HCC.out HB.out) _) HLE.out HT.out).mono ?_); rintro e w5 ⟨rfl, hb⟩; obtain ⟨hc5, hf5⟩ := keep_Row.below_cells hb; have hz5 : wr.heap.size < w5.heap.size := (by have := hb.size; simp at this; omega); have hbx := hb; replace HB := Aside0.mk (below_step (HB.out.alloc HB.out.size _) hb); clear hb; replace hx0 := cx HB.out X0.out; replace hx1 := cx HB.out X1.out; have q0_ := cx HB.out Q0.out; have q1_ := cx HB.out Q1.out; have y0_ := cx HB.out Y0.out))
         go_quiet (fail)
         go_wp2
         go_ret
         exact ⟨rfl, by repeat (first | exact HB.out | apply pw_below_drewN)⟩
        ·have d1 : decide ((rd_T29 l0 (i : Int)).f0 < (rd_T29 l0 ((i - 1 : Nat) : Int)).f0) = false := decide_eq_false c1
         by_cases c2 : (rd_T29 l0 (i : Int)).f0 ≤ q.f0
         ·have d2 : decide ((rd_T29 l0 (i : Int)).f0 ≤ q.f0) = true := decide_eq_true c2
          have hr := hHG.out
          rw [if_pos (by simp [keep_Row.bad, hi0, c1, c2])] at hr
          obtain rfl := Option.some.inj hr
          clear hr hHG
          clear c2
          go_wp2_with (first | (go_at_call 51; (with_reducible refine (seg_Check.calls k (rd_T29 l0 (i : Int)).f0 _ _ (rd_T29 l0 (i : Int)).f1 0 _ (Kd.C_alloc (Kd.C_below HCC.out HB.out) _) HLE.out HT.out).mono ?_); rintro e w5 ⟨rfl, hb⟩; obtain ⟨hc5, hf5⟩ := keep_Row.below_cells hb; have hz5 : wr.heap.size < w5.heap.size := (by have := hb.size; simp at this; omega); have hbx := hb; replace HB := Aside0.mk (below_step (HB.out.alloc HB.out.size _) hb); clear hb; replace hx0 := cx HB.out X0.out; replace hx1 := cx HB.out X1.out; have q0_ := cx HB.out Q0.out; have q1_ := cx HB.out Q1.out; have y0_ := cx HB.out Y0.out))
          go_quiet (fail)
          go_wp2
          go_quiet (fail)
          go_wp2
          go_ret
          exact ⟨rfl, by repeat (first | exact HB.out | apply pw_below_drewN)⟩
         ·have d2 : decide ((rd_T29 l0 (i : Int)).f0 ≤ q.f0) = false := decide_eq_false c2
          by_cases c3 : (rd_T29 l0 (i : Int)).f1.length = 0
          ·have g3 : decide (0 < (rd_T29 l0 (i : Int)).f1.length) = false := decide_eq_false (by omega)
           have g3' : decide (0 < ((rd_T29 l0 (i : Int)).f1.length : Int)) = false := decide_eq_false (by omega)
           have C3 := Aside0.mk c3
           clear c3
           have hr := hHG.out
           rw [if_neg (by simp [keep_Row.bad, hi0, c1, c2, C3.out])] at hr
           by_cases c5 : wrap64 (x + ((rd_T29 l0 (i : Int)).f1.length : Int)) > 200
           ·rw [if_pos c5] at hr
            obtain rfl := Option.some.inj hr
            have d5 : decide (200 < wrap64 (x + ((rd_T29 l0 (i : Int)).f1.length : Int))) = true := decide_eq_true c5
            clear hr hHG c5
            go_wp2_with (first | (go_at_call 51; (with_reducible refine (seg_Check.calls k (rd_T29 l0 (i : Int)).f0 _ _ (rd_T29 l0 (i : Int)).f1 0 _ (Kd.C_alloc (Kd.C_below HCC.out HB.out) _) HLE.out HT.out).mono ?_); rintro e w5 ⟨rfl, hb⟩; obtain ⟨hc5, hf5⟩ := keep_Row.below_cells hb; have hz5 : wr.heap.size < w5.heap.size := (by have := hb.size; simp at this; omega); have hbx := hb; replace HB := Aside0.mk (below_step (HB.out.alloc HB.out.size _) hb); clear hb; replace hx0 := cx HB.out X0.out; replace hx1 := cx HB.out X1.out; have q0_ := cx HB.out Q0.out; have q1_ := cx HB.out Q1.out; have y0_ := cx HB.out Y0.out))
            go_quiet (fail)
            go_wp2
            go_quiet (fail)
            go_wp2
            go_quiet (fail)
            go_wp2
            go_ret
            exact ⟨rfl, by repeat (first | exact HB.out | apply pw_below_drewN)⟩
           ·rw [if_neg c5] at hr
            have d5 : decide (200 < wrap64 (x + ((rd_T29 l0 (i : Int)).f1.length : Int))) = false := decide_eq_false c5
            clear c5 hHG
            rw [keep_Row.last, if_pos C3.out] at hr
            have HH := Aside0.mk hr
            clear hr
            go_wp2_with (first | (go_at_call 51; (with_reducible refine (seg_Check.calls k (rd_T29 l0 (i : Int)).f0 _ _ (rd_T29 l0 (i : Int)).f1 0 _ (Kd.C_alloc (Kd.C_below HCC.out HB.out) _) HLE.out HT.out).mono ?_); rintro e w5 ⟨rfl, hb⟩; obtain ⟨hc5, hf5⟩ := keep_Row.below_cells hb; have hz5 : wr.heap.size < w5.heap.size := (by have := hb.size; simp at this; omega); have hbx := hb; replace HB := Aside0.mk (below_step (HB.out.alloc HB.out.size _) hb); clear hb; replace hx0 := cx HB.out X0.out; replace hx1 := cx HB.out X1.out; have q0_ := cx HB.out Q0.out; have q1_ := cx HB.out Q1.out; have y0_ := cx HB.out Y0.out))
            go_quiet (fail)
            go_wp2
            go_quiet (fail)
            go_wp2
            go_quiet (fail)
            go_wp2
            go_roundw
            case rel => exact ⟨i + 1, wrap64 (x + ((rd_T29 l0 (i : Int)).f1.length : Int)), some (al, q), by omega, rfl, rfl, by go_num, ⟨HH.out⟩, ⟨by repeat (first | exact HB.out | apply pw_below_drewN)⟩, ⟨fun a_ b_ e_ => by cases e_; exact ⟨Q0.out, Q1.out⟩⟩⟩
            case measure => simp [intOf]; omega
          ·have g3 : decide (0 < (rd_T29 l0 (i : Int)).f1.length) = true := decide_eq_true (by omega)
           have g3' : decide (0 < ((rd_T29 l0 (i : Int)).f1.length : Int)) = true := decide_eq_true (by omega)
           have hlm := HCC.out.2.1
           obtain ⟨ad3, ead3, -, hz1, -, -, -, -⟩ := at_T25 HCC.out 0 (by omega) (by omega)
           cases ead3
           obtain ⟨ad4, ead4, hw0, hw1, -, -, -, -⟩ := at_T25 HCC.out (((rd_T29 l0 (i : Int)).f1.length - 1 : Nat) : Int) (by omega) (by omega)
           obtain rfl := Option.some.inj ead4
           simp only [Int.toNat_natCast] at hw0 hw1
           simp only [Int.toNat_zero, Nat.zero_mul] at hz1
           have ez : ad3.add 0 = ad3 := by simp [Addr.add]
           rw [ez] at hz1
           clear ez
           have Z1 := Aside0.mk hz1
           have W0 := Aside0.mk hw0
           have W1 := Aside0.mk hw1
           have f1 : IntKind.i64.wrap (((rd_T29 l0 (i : Int)).f1.length : Int) - 1) = (((rd_T29 l0 (i : Int)).f1.length - 1 : Nat) : Int) := by rw [IntWalk.i64_in _ (by omega)]; omega
           have f1' : wrap64 (((rd_T29 l0 (i : Int)).f1.length : Int) - 1) = (((rd_T29 l0 (i : Int)).f1.length - 1 : Nat) : Int) := by unfold wrap64; omega
           have f2 : 0 ≤ (((rd_T29 l0 (i : Int)).f1.length - 1 : Nat) : Int) := by omega
           have f3 : (((rd_T29 l0 (i : Int)).f1.length - 1 : Nat) : Int) < ((rd_T29 l0 (i : Int)).f1.length : Int) := by omega
           have f4 : (rd_T29 l0 (i : Int)).f1.length - 1 < (rd_T29 l0 (i : Int)).f1.length := by omega
           have k1 : 0 < (rd_T29 l0 (i : Int)).f1.length := by omega
           have k2 : (0 : Int) < ((rd_T29 l0 (i : Int)).f1.length : Int) := by omega
           clear hz1 hw0 hw1 hlm ead4
           by_cases c4 : (rd_T25 (rd_T29 l0 (i : Int)).f1 0).f1 < q.f1
           ·have d4 : decide ((rd_T25 (rd_T29 l0 (i : Int)).f1 0).f1 < q.f1) = true := decide_eq_true c4
            have hr := hHG.out
            rw [if_pos (by simp [keep_Row.bad, hi0, c1, c2, c4, Nat.pos_of_ne_zero c3])] at hr
            obtain rfl := Option.some.inj hr
            clear hr hHG
            clear c4 c3
            go_wp2_with (first | (go_at_call 51; (with_reducible refine (seg_Check.calls k (rd_T29 l0 (i : Int)).f0 _ _ (rd_T29 l0 (i : Int)).f1 0 _ (Kd.C_alloc (Kd.C_below HCC.out HB.out) _) HLE.out HT.out).mono ?_); rintro e w5 ⟨rfl, hb⟩; obtain ⟨hc5, hf5⟩ := keep_Row.below_cells hb; have hz5 : wr.heap.size < w5.heap.size := (by have := hb.size; simp at this; omega); have hbx := hb; replace HB := Aside0.mk (below_step (HB.out.alloc HB.out.size _) hb); clear hb; replace hx0 := cx HB.out X0.out; replace hx1 := cx HB.out X1.out; have q0_ := cx HB.out Q0.out; have q1_ := cx HB.out Q1.out; have y0_ := cx HB.out Y0.out; have z1_ := cx HB.out Z1.out))
            go_quiet (fail)
            go_wp2
            go_quiet (fail)
            go_wp2
            go_quiet (fail)
            go_wp2
            go_ret
            exact ⟨rfl, by repeat (first | exact HB.out | apply pw_below_drewN)⟩
           ·have d4 : decide ((rd_T25 (rd_T29 l0 (i : Int)).f1 0).f1 < q.f1) = false := decide_eq_false c4
            have hr := hHG.out
            rw [if_neg (by simp [keep_Row.bad, hi0, c1, c2, c4])] at hr
            by_cases c5 : wrap64 (x + ((rd_T29 l0 (i : Int)).f1.length : Int)) > 200
            ·rw [if_pos c5] at hr
             obtain rfl := Option.some.inj hr
             have d5 : decide (200 < wrap64 (x + ((rd_T29 l0 (i : Int)).f1.length : Int))) = true := decide_eq_true c5
             clear hr hHG c5
             go_wp2_with (first | (go_at_call 51; (with_reducible refine (seg_Check.calls k (rd_T29 l0 (i : Int)).f0 _ _ (rd_T29 l0 (i : Int)).f1 0 _ (Kd.C_alloc (Kd.C_below HCC.out HB.out) _) HLE.out HT.out).mono ?_); rintro e w5 ⟨rfl, hb⟩; obtain ⟨hc5, hf5⟩ := keep_Row.below_cells hb; have hz5 : wr.heap.size < w5.heap.size := (by have := hb.size; simp at this; omega); have hbx := hb; replace HB := Aside0.mk (below_step (HB.out.alloc HB.out.size _) hb); clear hb; replace hx0 := cx HB.out X0.out; replace hx1 := cx HB.out X1.out; have q0_ := cx HB.out Q0.out; have q1_ := cx HB.out Q1.out; have y0_ := cx HB.out Y0.out; have z1_ := cx HB.out Z1.out))
             go_quiet (fail)
             go_wp2
             go_quiet (fail)
             go_wp2
             go_quiet (fail)
             go_wp2
             go_ret
             exact ⟨rfl, by repeat (first | exact HB.out | apply pw_below_drewN)⟩
            ·rw [if_neg c5] at hr
             have d5 : decide (200 < wrap64 (x + ((rd_T29 l0 (i : Int)).f1.length : Int))) = false := decide_eq_false c5
             clear c5 hHG
             rw [keep_Row.last, if_neg c3] at hr
             have HH := Aside0.mk hr
             clear hr
             go_wp2_with (first | (go_at_call 51; (with_reducible refine (seg_Check.calls k (rd_T29 l0 (i : Int)).f0 _ _ (rd_T29 l0 (i : Int)).f1 0 _ (Kd.C_alloc (Kd.C_below HCC.out HB.out) _) HLE.out HT.out).mono ?_); rintro e w5 ⟨rfl, hb⟩; obtain ⟨hc5, hf5⟩ := keep_Row.below_cells hb; have hz5 : wr.heap.size < w5.heap.size := (by have := hb.size; simp at this; omega); have hbx := hb; replace HB := Aside0.mk (below_step (HB.out.alloc HB.out.size _) hb); clear hb; replace hx0 := cx HB.out X0.out; replace hx1 := cx HB.out X1.out; have q0_ := cx HB.out Q0.out; have q1_ := cx HB.out Q1.out; have y0_ := cx HB.out Y0.out; have z1_ := cx HB.out Z1.out))
             go_quiet (fail)
             go_wp2
             go_quiet (fail)
             go_wp2
             go_quiet (fail)
             go_wp2
             go_roundw
             case rel => exact ⟨i + 1, wrap64 (x + ((rd_T29 l0 (i : Int)).f1.length : Int)), some (ad3.add (((rd_T29 l0 (i : Int)).f1.length - 1) * 6), rd_T25 (rd_T29 l0 (i : Int)).f1 (((rd_T29 l0 (i : Int)).f1.length - 1 : Nat) : Int)), by omega, rfl, rfl, by go_num, ⟨HH.out⟩, ⟨by repeat (first | exact HB.out | apply pw_below_drewN)⟩, ⟨fun a_ b_ e_ => by cases e_; exact ⟨W0.out, W1.out⟩⟩⟩
             case measure => simp [intOf]; omega
     ·rw [if_neg ht0] at hgo
      obtain rfl := Option.some.inj hgo
      have e0 : (t == 0) = false := beq_eq_false_iff_ne.mpr ht0
      have e1 : (t != 0) = true := bne_iff_ne.mpr ht0
      clear ht0 hgo
      go_wp2_with (first | (go_at_call 51; (with_reducible refine (seg_Check.calls k (rd_T29 l0 (i : Int)).f0 _ _ (rd_T29 l0 (i : Int)).f1 t _ (Kd.C_alloc (Kd.C_below HCC.out HB.out) _) HLE.out HT.out).mono ?_); rintro e w5 ⟨rfl, hb⟩; replace HB := Aside0.mk (below_step (HB.out.alloc HB.out.size _) hb); clear hb))
      go_outline
      go_ret
      exact ⟨rfl, HB.out⟩
    ·have hi2 : i = l0.length := by omega
     have e1 := HX.out
     rw [List.drop_eq_nil_of_le (by omega), keep_Row.go] at e1
     obtain rfl := Option.some.inj e1
     clear e1 HX
     subst hi2
     go_wp2
     go_ret
     exact ⟨rfl, HB.out⟩

end Go.Proofs.Ytigmekgknhoidaa.P

-- written by a program of the proving session, out of the translation; Lean checks it
namespace Go.Proofs.Ytigmekgknhoidaa.P
open Go.RowKit Go.Proofs.Ytigmekgknhoidaa.Sq Go.Proofs.YtigmekgknhoidaaW.PrintWords Go.Proofs.YtigmekgknhoidaaW.PrintLast Go.Proofs.YtigmekgknhoidaaW.PrintMore
attribute [local go_sem] max2_int min2_int max_two min_two max_three min_three max_four min_four   -- for this text's walks alone
set_option linter.unusedVariables false
set_option linter.unusedSimpArgs false

/-! ### keep_Rules: function 21 -/
mutual
def keep_Rules.j0 : Nat → Bool → Int → Int → Int → Bool → Int → Option (Int)
 | 0, _, _, _, _, _, _ => none
 | k + 1, x3, x129000, x129001, x129002, x129003, x129004 => if x3 = true then (keep_Rules.j1 k x3 x129000 x129001 x129002 x129003 x129004) else (if x129001 < (-1) then (keep_Rules.j1 k true x129000 x129001 x129002 x129003 x129004) else (keep_Rules.j1 k (decide (x129001 > 1073741824)) x129000 x129001 x129002 x129003 x129004))
def keep_Rules.j1 : Nat → Bool → Int → Int → Int → Bool → Int → Option (Int)
 | 0, _, _, _, _, _, _ => none
 | k + 1, x3, x129000, x129001, x129002, x129003, x129004 => if x3 = true then (some 1) else (if x129002 < (-1) then (keep_Rules.j2 k true x129000 x129001 x129002 x129003 x129004) else (keep_Rules.j2 k (decide (x129002 > 1073741824)) x129000 x129001 x129002 x129003 x129004))
def keep_Rules.j2 : Nat → Bool → Int → Int → Int → Bool → Int → Option (Int)
 | 0, _, _, _, _, _, _ => none
 | k + 1, x20, x129000, x129001, x129002, x129003, x129004 => if x20 = true then (some 1) else (if x129004 < 0 then (some 1) else (if x129004 > 1073741824 then (some 1) else (some 0)))
end
def keep_Rules.f (k : Nat) (a0_0 : Int) (a0_1 : Int) (a0_2 : Int) (a0_3 : Bool) (a0_4 : Int) : Option (Int) := if a0_0 < 1 then (keep_Rules.j0 k true a0_0 a0_1 a0_2 a0_3 a0_4) else (keep_Rules.j0 k (decide (a0_0 > 32768)) a0_0 a0_1 a0_2 a0_3 a0_4)
theorem keep_Rules.mono_l : ∀ k, (∀ y0 y1 y2 y3 y4 y5, LeO (keep_Rules.j0 k y0 y1 y2 y3 y4 y5) (keep_Rules.j0 (k + 1) y0 y1 y2 y3 y4 y5)) ∧ (∀ y0 y1 y2 y3 y4 y5, LeO (keep_Rules.j1 k y0 y1 y2 y3 y4 y5) (keep_Rules.j1 (k + 1) y0 y1 y2 y3 y4 y5)) ∧ (∀ y0 y1 y2 y3 y4 y5, LeO (keep_Rules.j2 k y0 y1 y2 y3 y4 y5) (keep_Rules.j2 (k + 1) y0 y1 y2 y3 y4 y5))
 | 0 => ⟨fun _ _ _ _ _ _ r h => by simp [keep_Rules.j0] at h, fun _ _ _ _ _ _ r h => by simp [keep_Rules.j1] at h, fun _ _ _ _ _ _ r h => by simp [keep_Rules.j2] at h⟩
 | k + 1 => by
  obtain ⟨ih0, ih1, ih2⟩ := keep_Rules.mono_l k
  refine ⟨?_, ?_, ?_⟩
  ·intro y0 y1 y2 y3 y4 y5
   unfold keep_Rules.j0
   repeat' first
   | (with_reducible exact ih0 _ _ _ _ _ _)
   | (with_reducible exact ih1 _ _ _ _ _ _)
   | (with_reducible exact ih2 _ _ _ _ _ _)
   | (with_reducible exact LeO.refl _)
   | (with_reducible exact LeO.none _)
   | (with_reducible refine LeO.ite ?_ ?_)
   | (with_reducible refine LeO.bind ?_ (fun _ => ?_))
   | exact ih0 _ _ _ _ _ _
   | exact ih1 _ _ _ _ _ _
   | exact ih2 _ _ _ _ _ _
   | exact LeO.none _
   | refine LeO.ite ?_ ?_
   | refine LeO.bind ?_ (fun _ => ?_)
  ·intro y0 y1 y2 y3 y4 y5
   unfold keep_Rules.j1
   repeat' first
   | (with_reducible exact ih0 _ _ _ _ _ _)
   | (with_reducible exact ih1 _ _ _ _ _ _)
   | (with_reducible exact ih2 _ _ _ _ _ _)
   | (with_reducible exact LeO.refl _)
   | (with_reducible exact LeO.none _)
   | (with_reducible refine LeO.ite ?_ ?_)
   | (with_reducible refine LeO.bind ?_ (fun _ => ?_))
   | exact ih0 _ _ _ _ _ _
   | exact ih1 _ _ _ _ _ _
   | exact ih2 _ _ _ _ _ _
   | exact LeO.none _
   | refine LeO.ite ?_ ?_
   | refine LeO.bind ?_ (fun _ => ?_)
  ·intro y0 y1 y2 y3 y4 y5
   unfold keep_Rules.j2
   repeat' first
   | (with_reducible exact ih0 _ _ _ _ _ _)
   | (with_reducible exact ih1 _ _ _ _ _ _)
   | (with_reducible exact ih2 _ _ _ _ _ _)
   | (with_reducible exact LeO.refl _)
   | (with_reducible exact LeO.none _)
   | (with_reducible refine LeO.ite ?_ ?_)
   | (with_reducible refine LeO.bind ?_ (fun _ => ?_))
   | exact ih0 _ _ _ _ _ _
   | exact ih1 _ _ _ _ _ _
   | exact ih2 _ _ _ _ _ _
   | exact LeO.none _
   | refine LeO.ite ?_ ?_
   | refine LeO.bind ?_ (fun _ => ?_)
theorem keep_Rules.mono : ∀ a0 a1 a2 a3 a4 k, LeO (keep_Rules.f k a0 a1 a2 a3 a4) (keep_Rules.f (k + 1) a0 a1 a2 a3 a4) := by
 intro a0 a1 a2 a3 a4 k
 obtain ⟨ih0, ih1, ih2⟩ := keep_Rules.mono_l k
 unfold keep_Rules.f
 repeat' first
  | (with_reducible exact ih0 _ _ _ _ _ _)
  | (with_reducible exact ih1 _ _ _ _ _ _)
  | (with_reducible exact ih2 _ _ _ _ _ _)
  | (with_reducible exact LeO.refl _)
  | (with_reducible exact LeO.none _)
  | (with_reducible refine LeO.ite ?_ ?_)
  | (with_reducible refine LeO.bind ?_ (fun _ => ?_))
  | exact ih0 _ _ _ _ _ _
  | exact ih1 _ _ _ _ _ _
  | exact ih2 _ _ _ _ _ _
  | exact LeO.none _
  | refine LeO.ite ?_ ?_
  | refine LeO.bind ?_ (fun _ => ?_)
set_option maxHeartbeats 8000000 in
set_option maxRecDepth 100000 in
theorem keep_Rules.calls (k : Nat) (a0_0 : Int) (a0_1 : Int) (a0_2 : Int) (a0_3 : Bool) (a0_4 : Int) (r : Int) (w : World) (h : keep_Rules.f k a0_0 a0_1 a0_2 a0_3 a0_4 = some r) :
 Calls Try.prog 21 #[.agg #[.int .i64 a0_0, .int .i64 a0_1, .int .i64 a0_2, .bool a0_3, .int .i64 a0_4]] w fun e w' => e = .returned (.int .i64 r) ∧ Below w.heap.size w w' := by
 have hu35 := Try.underlying35
 have HB := Aside0.mk (Below.refl w.heap.size w)
 have H : (if a0_0 < 1 then (keep_Rules.j0 k true a0_0 a0_1 a0_2 a0_3 a0_4) else (keep_Rules.j0 k (decide (a0_0 > 32768)) a0_0 a0_1 a0_2 a0_3 a0_4)) = some r := h
 clear h
 have HC2 := Aside0.mk H
 clear H
 go_enter Try.func21, Try.ntmps21
 go_upto_region 1 with (first | ((with_reducible refine gate_dst (N := 1) rfl ?_); refine box_event ?hg (N := 1) ?hd (cs := #[.int .i64 a0_0, .int .i64 a0_1, .int .i64 a0_2, .bool a0_3, .int .i64 a0_4]) (t := 35) ?hr ?_; (case hd => rfl); (case hg => rfl); (case hr => first | (go_simp; done) | (go_simp; rfl)); intro gb128 hg w3 hbox hb; have BK128 := Aside0.mk (hbox); have GW128 := Aside0.mk ((by rw [hg]; exact (below_size bo) : w.heap.size ≤ gb128)); have GE128 := Aside0.mk ((by rw [hg]; exact (below_size bo) : w.heap.size ≤ gb128)); replace HB := Aside0.mk (below_step bo hb); clear hb hbox hg))
 (try simp only [Act.put, List.setIfInBounds_toArray, List.set_cons_zero, List.set_cons_succ])
 go_cut [3] (fun v3 wc => ∃ (kq : Nat) (x3_1 : Bool), v3 = .bool x3_1 ∧ Aside0 (keep_Rules.j0 kq x3_1 a0_0 a0_1 a0_2 a0_3 a0_4 = some r) ∧ Aside0 (kq ≤ k) ∧ Aside0 (wc.heap[gb128]? = some (.cells #[.int .i64 a0_0, .int .i64 a0_1, .int .i64 a0_2, .bool a0_3, .int .i64 a0_4] 35 (0, 0))) ∧ Aside0 (Below w.heap.size w wc))
 case first =>
  have H := HC2.out
  clear HC2
  by_cases c4 : a0_0 < 1
  ·rw [if_pos c4] at H
   have c4b0 : decide (a0_0 < 1) = true := decide_eq_true c4
   clear c4
   (first | rw [c4b0] | (simp only [i64_w, i32_w]; rw [c4b0]) | skip)
   have H' := Aside0.mk H
   clear H
   have hcz5_0 : w3.cell? ⟨gb128, 0, none⟩ = some (.int .i64 a0_0) := (blk_cell BK128.out 0).trans rfl
   have hcz5_1 : w3.cell? ⟨gb128, 1, none⟩ = some (.int .i64 a0_1) := (blk_cell BK128.out 1).trans rfl
   have hcz5_2 : w3.cell? ⟨gb128, 2, none⟩ = some (.int .i64 a0_2) := (blk_cell BK128.out 2).trans rfl
   have hcz5_3 : w3.cell? ⟨gb128, 3, none⟩ = some (.bool a0_3) := (blk_cell BK128.out 3).trans rfl
   have hcz5_4 : w3.cell? ⟨gb128, 4, none⟩ = some (.int .i64 a0_4) := (blk_cell BK128.out 4).trans rfl
   have hfz5_0 := blk_frozen BK128.out 0
   have hfz5_1 := blk_frozen BK128.out 1
   have hfz5_2 := blk_frozen BK128.out 2
   have hfz5_3 := blk_frozen BK128.out 3
   have hfz5_4 := blk_frozen BK128.out 4
   go_wp2
   go_meet
   case rel => exact ⟨_, (true), ap, H', ⟨by first | omega | exact Nat.le_refl _⟩, ⟨by (with_reducible repeat (first | refine blk_drewN ?_ _ | refine blk_drew ?_ | refine blk_alloc ?_ _)); exact BK128.out⟩, ⟨bo⟩⟩
  ·rw [if_neg c4] at H
   have c4b0 : decide (a0_0 < 1) = false := decide_eq_false c4
   clear c4
   (first | rw [c4b0] | (simp only [i64_w, i32_w]; rw [c4b0]) | skip)
   have H' := Aside0.mk H
   clear H
   have hcz6_0 : w3.cell? ⟨gb128, 0, none⟩ = some (.int .i64 a0_0) := (blk_cell BK128.out 0).trans rfl
   have hcz6_1 : w3.cell? ⟨gb128, 1, none⟩ = some (.int .i64 a0_1) := (blk_cell BK128.out 1).trans rfl
   have hcz6_2 : w3.cell? ⟨gb128, 2, none⟩ = some (.int .i64 a0_2) := (blk_cell BK128.out 2).trans rfl
   have hcz6_3 : w3.cell? ⟨gb128, 3, none⟩ = some (.bool a0_3) := (blk_cell BK128.out 3).trans rfl
   have hcz6_4 : w3.cell? ⟨gb128, 4, none⟩ = some (.int .i64 a0_4) := (blk_cell BK128.out 4).trans rfl
   have hfz6_0 := blk_frozen BK128.out 0
   have hfz6_1 := blk_frozen BK128.out 1
   have hfz6_2 := blk_frozen BK128.out 2
   have hfz6_3 := blk_frozen BK128.out 3
   have hfz6_4 := blk_frozen BK128.out 4
   go_wp2
   go_meet
   case rel => exact ⟨_, (decide (a0_0 > 32768)), ap, H', ⟨by first | omega | exact Nat.le_refl _⟩, ⟨by (with_reducible repeat (first | refine blk_drewN ?_ _ | refine blk_drew ?_ | refine blk_alloc ?_ _)); exact BK128.out⟩, ⟨bo⟩⟩
 case rest =>
  clear HC2
  try clear c2
  try clear p2
  try clear c4
  try clear c4b0
  try clear hcz5_0
  try clear hcz5_1
  try clear hcz5_2
  try clear hcz5_3
  try clear hcz5_4
  try clear hcz6_0
  try clear hcz6_1
  try clear hcz6_2
  try clear hcz6_3
  try clear hcz6_4
  try clear hfz5_0
  try clear hfz5_1
  try clear hfz5_2
  try clear hfz5_3
  try clear hfz5_4
  try clear hfz6_0
  try clear hfz6_1
  try clear hfz6_2
  try clear hfz6_3
  try clear hfz6_4
  obtain ⟨kq, x3_1, rfl, HA, HJ1, BK128, HB⟩ := hcut
  cases kq with
  | zero => exact absurd HA.out (by simp [keep_Rules.j0])
  | succ kj1 =>
   have H := HA.out
   clear HA
   simp only [keep_Rules.j0] at H
   have HC7 := Aside0.mk H
   clear H
   go_upto_if 3 with (fail)
   go_cut [3] (fun v3 wc => ∃ (kq : Nat) (x3_6 : Bool), v3 = .bool x3_6 ∧ Aside0 (keep_Rules.j1 kq x3_6 a0_0 a0_1 a0_2 a0_3 a0_4 = some r) ∧ Aside0 (kq ≤ kj1) ∧ Aside0 (wc.heap[gb128]? = some (.cells #[.int .i64 a0_0, .int .i64 a0_1, .int .i64 a0_2, .bool a0_3, .int .i64 a0_4] 35 (0, 0))) ∧ Aside0 (Below w.heap.size w wc))
   case first =>
    have H := HC7.out
    clear HC7
    by_cases c8 : x3_1 = true
    ·subst c8
     have H1 : (keep_Rules.j1 kj1 true a0_0 a0_1 a0_2 a0_3 a0_4) = some r := by rw [if_pos rfl] at H; exact H
     clear H
     have H := H1
     clear H1
     have H' := Aside0.mk H
     clear H
     go_wp2
     go_meet
     case rel => exact ⟨_, (true), ap, H', ⟨by have := HJ1.out; first | omega | exact Nat.le_refl _⟩, ⟨by (with_reducible repeat (first | refine blk_drewN ?_ _ | refine blk_drew ?_ | refine blk_alloc ?_ _)); exact BK128.out⟩, ⟨bo⟩⟩
    ·replace c8 := Bool.eq_false_iff.mpr c8
     subst c8
     have H1 : (if a0_1 < (-1) then (keep_Rules.j1 kj1 true a0_0 a0_1 a0_2 a0_3 a0_4) else (keep_Rules.j1 kj1 (decide (a0_1 > 1073741824)) a0_0 a0_1 a0_2 a0_3 a0_4)) = some r := by rw [if_neg (show ¬ (false = true) by decide)] at H; exact H
     clear H
     have H := H1
     clear H1
     by_cases c9 : a0_1 < (-1)
     ·rw [if_pos c9] at H
      have c9b0 : decide (a0_1 < (-1)) = true := decide_eq_true c9
      clear c9
      (first | rw [c9b0] | (simp only [i64_w, i32_w]; rw [c9b0]) | skip)
      have H' := Aside0.mk H
      clear H
      have hcz10_0 : wc.cell? ⟨gb128, 0, none⟩ = some (.int .i64 a0_0) := (blk_cell BK128.out 0).trans rfl
      have hcz10_1 : wc.cell? ⟨gb128, 1, none⟩ = some (.int .i64 a0_1) := (blk_cell BK128.out 1).trans rfl
      have hcz10_2 : wc.cell? ⟨gb128, 2, none⟩ = some (.int .i64 a0_2) := (blk_cell BK128.out 2).trans rfl
      have hcz10_3 : wc.cell? ⟨gb128, 3, none⟩ = some (.bool a0_3) := (blk_cell BK128.out 3).trans rfl
      have hcz10_4 : wc.cell? ⟨gb128, 4, none⟩ = some (.int .i64 a0_4) := (blk_cell BK128.out 4).trans rfl
      have hfz10_0 := blk_frozen BK128.out 0
      have hfz10_1 := blk_frozen BK128.out 1
      have hfz10_2 := blk_frozen BK128.out 2
      have hfz10_3 := blk_frozen BK128.out 3
      have hfz10_4 := blk_frozen BK128.out 4
      go_wp2
      go_meet
      case rel => exact ⟨_, (true), ap, H', ⟨by have := HJ1.out; first | omega | exact Nat.le_refl _⟩, ⟨by (with_reducible repeat (first | refine blk_drewN ?_ _ | refine blk_drew ?_ | refine blk_alloc ?_ _)); exact BK128.out⟩, ⟨bo⟩⟩
     ·rw [if_neg c9] at H
      have c9b0 : decide (a0_1 < (-1)) = false := decide_eq_false c9
      clear c9
      (first | rw [c9b0] | (simp only [i64_w, i32_w]; rw [c9b0]) | skip)
      have H' := Aside0.mk H
      clear H
      have hcz11_0 : wc.cell? ⟨gb128, 0, none⟩ = some (.int .i64 a0_0) := (blk_cell BK128.out 0).trans rfl
      have hcz11_1 : wc.cell? ⟨gb128, 1, none⟩ = some (.int .i64 a0_1) := (blk_cell BK128.out 1).trans rfl
      have hcz11_2 : wc.cell? ⟨gb128, 2, none⟩ = some (.int .i64 a0_2) := (blk_cell BK128.out 2).trans rfl
      have hcz11_3 : wc.cell? ⟨gb128, 3, none⟩ = some (.bool a0_3) := (blk_cell BK128.out 3).trans rfl
      have hcz11_4 : wc.cell? ⟨gb128, 4, none⟩ = some (.int .i64 a0_4) := (blk_cell BK128.out 4).trans rfl
      have hfz11_0 := blk_frozen BK128.out 0
      have hfz11_1 := blk_frozen BK128.out 1
      have hfz11_2 := blk_frozen BK128.out 2
      have hfz11_3 := blk_frozen BK128.out 3
      have hfz11_4 := blk_frozen BK128.out 4
      go_wp2
      go_meet
      case rel => exact ⟨_, (decide (a0_1 > 1073741824)), ap, H', ⟨by have := HJ1.out; first | omega | exact Nat.le_refl _⟩, ⟨by (with_reducible repeat (first | refine blk_drewN ?_ _ | refine blk_drew ?_ | refine blk_alloc ?_ _)); exact BK128.out⟩, ⟨bo⟩⟩
   case rest =>
    clear HC7
    try clear c2
    try clear p2
    try clear c4
    try clear c4b0
    try clear c8
    try clear c9
    try clear c9b0
    try clear hcz10_0
    try clear hcz10_1
    try clear hcz10_2
    try clear hcz10_3
    try clear hcz10_4
    try clear hcz11_0
    try clear hcz11_1
    try clear hcz11_2
    try clear hcz11_3
    try clear hcz11_4
    try clear hcz5_0
    try clear hcz5_1
    try clear hcz5_2
    try clear hcz5_3
    try clear hcz5_4
    try clear hcz6_0
    try clear hcz6_1
    try clear hcz6_2
    try clear hcz6_3
    try clear hcz6_4
    try clear hfz10_0
    try clear hfz10_1
    try clear hfz10_2
    try clear hfz10_3
    try clear hfz10_4
    try clear hfz11_0
    try clear hfz11_1
    try clear hfz11_2
    try clear hfz11_3
    try clear hfz11_4
    try clear hfz5_0
    try clear hfz5_1
    try clear hfz5_2
    try clear hfz5_3
    try clear hfz5_4
    try clear hfz6_0
    try clear hfz6_1
    try clear hfz6_2
    try clear hfz6_3
    try clear hfz6_4
    try clear p2
    obtain ⟨kq, x3_6, rfl, HA, HJ6, BK128, HB⟩ := hcut
    cases kq with
    | zero => exact absurd HA.out (by simp [keep_Rules.j1])
    | succ kj6 =>
     have H := HA.out
     clear HA
     simp only [keep_Rules.j1] at H
     by_cases c12 : x3_6 = true
     ·subst c12
      have H1 : (some 1) = some r := by rw [if_pos rfl] at H; exact H
      clear H
      have H := H1
      clear H1
      obtain rfl := Option.some.inj H
      go_wp2
      go_ret
      exact ⟨er, bo⟩
     ·replace c12 := Bool.eq_false_iff.mpr c12
      subst c12
      have H1 : (if a0_2 < (-1) then (keep_Rules.j2 kj6 true a0_0 a0_1 a0_2 a0_3 a0_4) else (keep_Rules.j2 kj6 (decide (a0_2 > 1073741824)) a0_0 a0_1 a0_2 a0_3 a0_4)) = some r := by rw [if_neg (show ¬ (false = true) by decide)] at H; exact H
      clear H
      have H := H1
      clear H1
      have HC13 := Aside0.mk H
      clear H
      go_upto_region 4 with (fail)
      go_cut [20] (fun v20 wc => ∃ (kq : Nat) (x20_12 : Bool), v20 = .bool x20_12 ∧ Aside0 (keep_Rules.j2 kq x20_12 a0_0 a0_1 a0_2 a0_3 a0_4 = some r) ∧ Aside0 (kq ≤ kj6) ∧ Aside0 (wc.heap[gb128]? = some (.cells #[.int .i64 a0_0, .int .i64 a0_1, .int .i64 a0_2, .bool a0_3, .int .i64 a0_4] 35 (0, 0))) ∧ Aside0 (Below w.heap.size w wc))
      case first =>
       have H := HC13.out
       clear HC13
       by_cases c14 : a0_2 < (-1)
       ·rw [if_pos c14] at H
        have c14b0 : decide (a0_2 < (-1)) = true := decide_eq_true c14
        clear c14
        (first | rw [c14b0] | (simp only [i64_w, i32_w]; rw [c14b0]) | skip)
        have H' := Aside0.mk H
        clear H
        have hcz15_0 : wc.cell? ⟨gb128, 0, none⟩ = some (.int .i64 a0_0) := (blk_cell BK128.out 0).trans rfl
        have hcz15_1 : wc.cell? ⟨gb128, 1, none⟩ = some (.int .i64 a0_1) := (blk_cell BK128.out 1).trans rfl
        have hcz15_2 : wc.cell? ⟨gb128, 2, none⟩ = some (.int .i64 a0_2) := (blk_cell BK128.out 2).trans rfl
        have hcz15_3 : wc.cell? ⟨gb128, 3, none⟩ = some (.bool a0_3) := (blk_cell BK128.out 3).trans rfl
        have hcz15_4 : wc.cell? ⟨gb128, 4, none⟩ = some (.int .i64 a0_4) := (blk_cell BK128.out 4).trans rfl
        have hfz15_0 := blk_frozen BK128.out 0
        have hfz15_1 := blk_frozen BK128.out 1
        have hfz15_2 := blk_frozen BK128.out 2
        have hfz15_3 := blk_frozen BK128.out 3
        have hfz15_4 := blk_frozen BK128.out 4
        go_wp2
        go_meet
        case rel => exact ⟨_, (true), ap, H', ⟨by have := HJ1.out; have := HJ6.out; first | omega | exact Nat.le_refl _⟩, ⟨by (with_reducible repeat (first | refine blk_drewN ?_ _ | refine blk_drew ?_ | refine blk_alloc ?_ _)); exact BK128.out⟩, ⟨bo⟩⟩
       ·rw [if_neg c14] at H
        have c14b0 : decide (a0_2 < (-1)) = false := decide_eq_false c14
        clear c14
        (first | rw [c14b0] | (simp only [i64_w, i32_w]; rw [c14b0]) | skip)
        have H' := Aside0.mk H
        clear H
        have hcz16_0 : wc.cell? ⟨gb128, 0, none⟩ = some (.int .i64 a0_0) := (blk_cell BK128.out 0).trans rfl
        have hcz16_1 : wc.cell? ⟨gb128, 1, none⟩ = some (.int .i64 a0_1) := (blk_cell BK128.out 1).trans rfl
        have hcz16_2 : wc.cell? ⟨gb128, 2, none⟩ = some (.int .i64 a0_2) := (blk_cell BK128.out 2).trans rfl
        have hcz16_3 : wc.cell? ⟨gb128, 3, none⟩ = some (.bool a0_3) := (blk_cell BK128.out 3).trans rfl
        have hcz16_4 : wc.cell? ⟨gb128, 4, none⟩ = some (.int .i64 a0_4) := (blk_cell BK128.out 4).trans rfl
        have hfz16_0 := blk_frozen BK128.out 0
        have hfz16_1 := blk_frozen BK128.out 1
        have hfz16_2 := blk_frozen BK128.out 2
        have hfz16_3 := blk_frozen BK128.out 3
        have hfz16_4 := blk_frozen BK128.out 4
        go_wp2
        go_meet
        case rel => exact ⟨_, (decide (a0_2 > 1073741824)), ap, H', ⟨by have := HJ1.out; have := HJ6.out; first | omega | exact Nat.le_refl _⟩, ⟨by (with_reducible repeat (first | refine blk_drewN ?_ _ | refine blk_drew ?_ | refine blk_alloc ?_ _)); exact BK128.out⟩, ⟨bo⟩⟩
      case rest =>
       clear HC13
       try clear c1
       try clear c2
       try clear p2
       try clear c4
       try clear c4b0
       try clear c8
       try clear c9
       try clear c9b0
       try clear c12
       try clear c14
       try clear c14b0
       try clear hcz10_0
       try clear hcz10_1
       try clear hcz10_2
       try clear hcz10_3
       try clear hcz10_4
       try clear hcz11_0
       try clear hcz11_1
       try clear hcz11_2
       try clear hcz11_3
       try clear hcz11_4
       try clear hcz15_0
       try clear hcz15_1
       try clear hcz15_2
       try clear hcz15_3
       try clear hcz15_4
       try clear hcz16_0
       try clear hcz16_1
       try clear hcz16_2
       try clear hcz16_3
       try clear hcz16_4
       try clear hcz5_0
       try clear hcz5_1
       try clear hcz5_2
       try clear hcz5_3
       try clear hcz5_4
       try clear hcz6_0
       try clear hcz6_1
       try clear hcz6_2
       try clear hcz6_3
       try clear hcz6_4
       try clear hfz10_0
       try clear hfz10_1
       try clear hfz10_2
       try clear hfz10_3
       try clear hfz10_4
       try clear hfz11_0
       try clear hfz11_1
       try clear hfz11_2
       try clear hfz11_3
       try clear hfz11_4
       try clear hfz15_0
       try clear hfz15_1
       try clear hfz15_2
       try clear hfz15_3
       try clear hfz15_4
       try clear hfz16_0
       try clear hfz16_1
       try clear hfz16_2
       try clear hfz16_3
       try clear hfz16_4
       try clear hfz5_0
       try clear hfz5_1
       try clear hfz5_2
       try clear hfz5_3
       try clear hfz5_4
       try clear hfz6_0
       try clear hfz6_1
       try clear hfz6_2
       try clear hfz6_3
       try clear hfz6_4
       try clear p2
       obtain ⟨kq, x20_12, rfl, HA, HJ12, BK128, HB⟩ := hcut
       cases kq with
       | zero => exact absurd HA.out (by simp [keep_Rules.j2])
       | succ kj12 =>
        have H := HA.out
        clear HA
        simp only [keep_Rules.j2] at H
        by_cases c17 : x20_12 = true
        ·subst c17
         have H1 : (some 1) = some r := by rw [if_pos rfl] at H; exact H
         clear H
         have H := H1
         clear H1
         obtain rfl := Option.some.inj H
         go_wp2
         go_ret
         exact ⟨er, bo⟩
        ·replace c17 := Bool.eq_false_iff.mpr c17
         subst c17
         have H1 : (if a0_4 < 0 then (some 1) else (if a0_4 > 1073741824 then (some 1) else (some 0))) = some r := by rw [if_neg (show ¬ (false = true) by decide)] at H; exact H
         clear H
         have H := H1
         clear H1
         by_cases c18 : a0_4 < 0
         ·rw [if_pos c18] at H
          have c18b0 : decide (a0_4 < 0) = true := decide_eq_true c18
          clear c18
          obtain rfl := Option.some.inj H
          have hcz19_0 : wc.cell? ⟨gb128, 0, none⟩ = some (.int .i64 a0_0) := (blk_cell BK128.out 0).trans rfl
          have hcz19_1 : wc.cell? ⟨gb128, 1, none⟩ = some (.int .i64 a0_1) := (blk_cell BK128.out 1).trans rfl
          have hcz19_2 : wc.cell? ⟨gb128, 2, none⟩ = some (.int .i64 a0_2) := (blk_cell BK128.out 2).trans rfl
          have hcz19_3 : wc.cell? ⟨gb128, 3, none⟩ = some (.bool a0_3) := (blk_cell BK128.out 3).trans rfl
          have hcz19_4 : wc.cell? ⟨gb128, 4, none⟩ = some (.int .i64 a0_4) := (blk_cell BK128.out 4).trans rfl
          have hfz19_0 := blk_frozen BK128.out 0
          have hfz19_1 := blk_frozen BK128.out 1
          have hfz19_2 := blk_frozen BK128.out 2
          have hfz19_3 := blk_frozen BK128.out 3
          have hfz19_4 := blk_frozen BK128.out 4
          go_wp2
          go_ret
          exact ⟨er, bo⟩
         ·rw [if_neg c18] at H
          have c18b0 : decide (a0_4 < 0) = false := decide_eq_false c18
          clear c18
          by_cases c20 : a0_4 > 1073741824
          ·rw [if_pos c20] at H
           have c20b0 : decide (1073741824 < a0_4) = true := decide_eq_true c20
           clear c20
           obtain rfl := Option.some.inj H
           have hcz21_0 : wc.cell? ⟨gb128, 0, none⟩ = some (.int .i64 a0_0) := (blk_cell BK128.out 0).trans rfl
           have hcz21_1 : wc.cell? ⟨gb128, 1, none⟩ = some (.int .i64 a0_1) := (blk_cell BK128.out 1).trans rfl
           have hcz21_2 : wc.cell? ⟨gb128, 2, none⟩ = some (.int .i64 a0_2) := (blk_cell BK128.out 2).trans rfl
           have hcz21_3 : wc.cell? ⟨gb128, 3, none⟩ = some (.bool a0_3) := (blk_cell BK128.out 3).trans rfl
           have hcz21_4 : wc.cell? ⟨gb128, 4, none⟩ = some (.int .i64 a0_4) := (blk_cell BK128.out 4).trans rfl
           have hfz21_0 := blk_frozen BK128.out 0
           have hfz21_1 := blk_frozen BK128.out 1
           have hfz21_2 := blk_frozen BK128.out 2
           have hfz21_3 := blk_frozen BK128.out 3
           have hfz21_4 := blk_frozen BK128.out 4
           go_wp2
           go_ret
           exact ⟨er, bo⟩
          ·rw [if_neg c20] at H
           have c20b0 : decide (1073741824 < a0_4) = false := decide_eq_false c20
           clear c20
           obtain rfl := Option.some.inj H
           have hcz22_0 : wc.cell? ⟨gb128, 0, none⟩ = some (.int .i64 a0_0) := (blk_cell BK128.out 0).trans rfl
           have hcz22_1 : wc.cell? ⟨gb128, 1, none⟩ = some (.int .i64 a0_1) := (blk_cell BK128.out 1).trans rfl
           have hcz22_2 : wc.cell? ⟨gb128, 2, none⟩ = some (.int .i64 a0_2) := (blk_cell BK128.out 2).trans rfl
           have hcz22_3 : wc.cell? ⟨gb128, 3, none⟩ = some (.bool a0_3) := (blk_cell BK128.out 3).trans rfl
           have hcz22_4 : wc.cell? ⟨gb128, 4, none⟩ = some (.int .i64 a0_4) := (blk_cell BK128.out 4).trans rfl
           have hfz22_0 := blk_frozen BK128.out 0
           have hfz22_1 := blk_frozen BK128.out 1
           have hfz22_2 := blk_frozen BK128.out 2
           have hfz22_3 := blk_frozen BK128.out 3
           have hfz22_4 := blk_frozen BK128.out 4
           go_wp2
           go_ret
           exact ⟨er, bo⟩

end Go.Proofs.Ytigmekgknhoidaa.P

-- written by a program of the proving session, out of the translation; Lean checks it
namespace Go.Proofs.Ytigmekgknhoidaa.P
open Go.RowKit Go.Proofs.Ytigmekgknhoidaa.Sq Go.Proofs.YtigmekgknhoidaaW.PrintWords Go.Proofs.YtigmekgknhoidaaW.PrintLast Go.Proofs.YtigmekgknhoidaaW.PrintMore
attribute [local go_sem] max2_int min2_int max_two min_two max_three min_three max_four min_four   -- for this text's walks alone
set_option linter.unusedVariables false
set_option linter.unusedSimpArgs false

/-! ### keep_Time: function 42 -/
def keep_Time.f (a0 : Int) : Option (Bool) := if a0 ≥ 0 then (some (decide (a0 ≤ 1099511627776))) else (some false)
set_option maxHeartbeats 8000000 in
set_option maxRecDepth 100000 in
theorem keep_Time.calls (a0 : Int) (r : Bool) (w : World) (h : keep_Time.f a0 = some r) :
 Calls Try.prog 42 #[.int .i64 a0] w fun e w' => e = .returned (.bool r) ∧ Drawn0 w w' := by
 have H : (if a0 ≥ 0 then (some (decide (a0 ≤ 1099511627776))) else (some false)) = some r := h
 clear h
 by_cases c2 : a0 ≥ 0
 ·rw [if_pos c2] at H
  have c2b0 : decide (0 ≤ a0) = true := decide_eq_true c2
  clear c2
  obtain rfl := Option.some.inj H
  go_enter Try.func42, Try.ntmps42
  go_wp2
  go_ret
  exact ⟨ap, dr⟩
 ·rw [if_neg c2] at H
  have c2b0 : decide (0 ≤ a0) = false := decide_eq_false c2
  clear c2
  obtain rfl := Option.some.inj H
  go_enter Try.func42, Try.ntmps42
  go_wp2
  go_ret
  exact ⟨ap, dr⟩

end Go.Proofs.Ytigmekgknhoidaa.P

-- written by a program of the proving session, out of the translation; Lean checks it
namespace Go.Proofs.Ytigmekgknhoidaa.P
open Go.RowKit Go.Proofs.Ytigmekgknhoidaa.Sq Go.Proofs.YtigmekgknhoidaaW.PrintWords Go.Proofs.YtigmekgknhoidaaW.PrintLast Go.Proofs.YtigmekgknhoidaaW.PrintMore
attribute [local go_sem] max2_int min2_int max_two min_two max_three min_three max_four min_four   -- for this text's walks alone
set_option linter.unusedVariables false
set_option linter.unusedSimpArgs false

/-! ### rec_Size: function 60 -/
def rec_Size.f (k : Nat) (a0_0 : Int) (a0_1 : Int) (a0_2 : ByteArray) (a0_3 : ByteArray) (a0_4 : Int) (a0_5 : Bool) : Option (Int × Int) := (rec_Check.f k a0_0 a0_1 a0_2 a0_3 a0_4 a0_5).bind fun t130 => (if t130 = 0 then (some (wrap64 ((wrap64 (25 + (a0_2.size : Int))) + (a0_3.size : Int)), 0)) else (some (0, t130)))
theorem rec_Size.mono : ∀ a0 a1 a2 a3 a4 a5 k, LeO (rec_Size.f k a0 a1 a2 a3 a4 a5) (rec_Size.f (k + 1) a0 a1 a2 a3 a4 a5) := by
 intro a0 a1 a2 a3 a4 a5 k
 unfold rec_Size.f
 repeat' first
  | (with_reducible exact rec_Check.mono _ _ _ _ _ _ _)
  | (with_reducible exact LeO.refl _)
  | (with_reducible exact LeO.none _)
  | (with_reducible refine LeO.ite ?_ ?_)
  | (with_reducible refine LeO.bind ?_ (fun _ => ?_))
  | exact rec_Check.mono _ _ _ _ _ _ _
  | exact LeO.none _
  | refine LeO.ite ?_ ?_
  | refine LeO.bind ?_ (fun _ => ?_)
set_option maxHeartbeats 8000000 in
set_option maxRecDepth 100000 in
theorem rec_Size.calls (k : Nat) (a0_0 : Int) (a0_1 : Int) (a0_2 : ByteArray) (a0_3 : ByteArray) (a0_4 : Int) (a0_5 : Bool) (r1 : Int) (r2 : Int) (w : World) (h : rec_Size.f k a0_0 a0_1 a0_2 a0_3 a0_4 a0_5 = some (r1, r2)) :
 Calls Try.prog 60 #[.agg #[.int .i64 a0_0, .int .i64 a0_1, .string a0_2, .string a0_3, .int .i64 a0_4, .bool a0_5]] w fun e w' => e = .returned (.tuple #[.int .i64 r1, .int .i64 r2]) ∧ Below w.heap.size w w' := by
 have hu25 := Try.underlying25
 have HB := Aside0.mk (Below.refl w.heap.size w)
 have H : ((rec_Check.f k a0_0 a0_1 a0_2 a0_3 a0_4 a0_5).bind fun t130 => (if t130 = 0 then (some (wrap64 ((wrap64 (25 + (a0_2.size : Int))) + (a0_3.size : Int)), 0)) else (some (0, t130)))) = some (r1, r2) := h
 clear h
 replace H := Option.bind_eq_some_iff.mp H
 obtain ⟨t130, A20, H⟩ := H
 replace H : (if t130 = 0 then (some (wrap64 ((wrap64 (25 + (a0_2.size : Int))) + (a0_3.size : Int)), 0)) else (some (0, t130))) = some (r1, r2) := H
 have A2 := Aside0.mk A20
 clear A20
 by_cases c3 : t130 = 0
 ·rw [if_pos c3] at H
  have c3b0 : (t130 == 0) = true := beq_iff_eq.mpr c3
  have c3b1 : (t130 != 0) = false := bne_eq_false_iff_eq.mpr c3
  clear c3
  simp only [Option.some.injEq, Prod.mk.injEq] at H
  obtain ⟨rfl, rfl⟩ := H
  go_enter Try.func60, Try.ntmps60
  go_wp2_with (first | ((with_reducible refine gate_dst (N := 1) rfl ?_); refine box_event ?hg (N := 1) ?hd (cs := #[.int .i64 a0_0, .int .i64 a0_1, .string a0_2, .string a0_3, .int .i64 a0_4, .bool a0_5]) (t := 25) ?hr ?_; (case hd => rfl); (case hg => rfl); (case hr => first | (go_simp; done) | (go_simp; rfl)); intro gb129 hg w4 hbox hb; have BK129 := Aside0.mk (hbox); have GW129 := Aside0.mk ((by rw [hg]; exact (below_size bo) : w.heap.size ≤ gb129)); have GE129 := Aside0.mk ((by rw [hg]; exact (below_size bo) : w.heap.size ≤ gb129)); replace HB := Aside0.mk (below_step bo hb); clear hb hbox hg; obtain ⟨hcz5_0, hcz5_1, hcz5_2, hcz5_3, hcz5_4, hcz5_5⟩ := cl6 BK129.out; obtain ⟨hfz5_0, hfz5_1, hfz5_2, hfz5_3, hfz5_4, hfz5_5⟩ := fz6 BK129.out) | ((with_reducible refine gate_callee (f := 71) rfl ?_); refine goesL_ (some 6) rfl rfl Try.func71 (by kernel_rfl) rfl #[.agg #[.int .i64 a0_0, .int .i64 a0_1, .string a0_2, .string a0_3, .int .i64 a0_4, .bool a0_5]] rfl aa ?_; (with_reducible refine (rec_Check.calls k a0_0 a0_1 a0_2 a0_3 a0_4 a0_5 t130 _ A2.out).mono ?_); rintro e w6 ⟨rfl, hb⟩; refine ⟨_, rfl, ?_⟩; replace BK129 := Aside0.mk (blk_below (g := gb129) (o := .cells #[.int .i64 a0_0, .int .i64 a0_1, .string a0_2, .string a0_3, .int .i64 a0_4, .bool a0_5] 25 (0, 0)) (bk BK129.out) hb); replace HB := Aside0.mk (below_step bo hb); (try clear hb); (try clear hb2); (try clear hk); (try clear hi); obtain ⟨hcz7_0, hcz7_1, hcz7_2, hcz7_3, hcz7_4, hcz7_5⟩ := cl6 BK129.out; obtain ⟨hfz7_0, hfz7_1, hfz7_2, hfz7_3, hfz7_4, hfz7_5⟩ := fz6 BK129.out))
  go_ret2
  exact ⟨er, bo⟩
 ·rw [if_neg c3] at H
  have c3b0 : (t130 == 0) = false := beq_eq_false_iff_ne.mpr c3
  have c3b1 : (t130 != 0) = true := bne_iff_ne.mpr c3
  simp only [Option.some.injEq, Prod.mk.injEq] at H
  obtain ⟨rfl, rfl⟩ := H
  go_enter Try.func60, Try.ntmps60
  go_wp2_with (first | ((with_reducible refine gate_dst (N := 1) rfl ?_); refine box_event ?hg (N := 1) ?hd (cs := #[.int .i64 a0_0, .int .i64 a0_1, .string a0_2, .string a0_3, .int .i64 a0_4, .bool a0_5]) (t := 25) ?hr ?_; (case hd => rfl); (case hg => rfl); (case hr => first | (go_simp; done) | (go_simp; rfl)); intro gb129 hg w8 hbox hb; have BK129 := Aside0.mk (hbox); have GW129 := Aside0.mk ((by rw [hg]; exact (below_size bo) : w.heap.size ≤ gb129)); have GE129 := Aside0.mk ((by rw [hg]; exact (below_size bo) : w.heap.size ≤ gb129)); replace HB := Aside0.mk (below_step bo hb); clear hb hbox hg; obtain ⟨hcz9_0, hcz9_1, hcz9_2, hcz9_3, hcz9_4, hcz9_5⟩ := cl6 BK129.out; obtain ⟨hfz9_0, hfz9_1, hfz9_2, hfz9_3, hfz9_4, hfz9_5⟩ := fz6 BK129.out) | ((with_reducible refine gate_callee (f := 71) rfl ?_); refine goesL_ (some 6) rfl rfl Try.func71 (by kernel_rfl) rfl #[.agg #[.int .i64 a0_0, .int .i64 a0_1, .string a0_2, .string a0_3, .int .i64 a0_4, .bool a0_5]] rfl aa ?_; (with_reducible refine (rec_Check.calls k a0_0 a0_1 a0_2 a0_3 a0_4 a0_5 t130 _ A2.out).mono ?_); rintro e w10 ⟨rfl, hb⟩; refine ⟨_, rfl, ?_⟩; replace BK129 := Aside0.mk (blk_below (g := gb129) (o := .cells #[.int .i64 a0_0, .int .i64 a0_1, .string a0_2, .string a0_3, .int .i64 a0_4, .bool a0_5] 25 (0, 0)) (bk BK129.out) hb); replace HB := Aside0.mk (below_step bo hb); (try clear hb); (try clear hb2); (try clear hk); (try clear hi)))
  go_ret2
  exact ⟨er, bo⟩

end Go.Proofs.Ytigmekgknhoidaa.P

-- written by a program of the proving session, out of the translation; Lean checks it
namespace Go.Proofs.Ytigmekgknhoidaa.P
open Go.RowKit Go.Proofs.Ytigmekgknhoidaa.Sq Go.Proofs.YtigmekgknhoidaaW.PrintWords Go.Proofs.YtigmekgknhoidaaW.PrintLast Go.Proofs.YtigmekgknhoidaaW.PrintMore
attribute [local go_sem] max2_int min2_int max_two min_two max_three min_three max_four min_four   -- for this text's walks alone
set_option linter.unusedVariables false
set_option linter.unusedSimpArgs false

/-! ### seg_Size: function 43 -/
def seg_Size.l0 : Nat → Int → List (S25) → Int → Int → Option (Int × Int)
 | 0, _, _, _, _ => none
 | k + 1, x5, x16, x17, x18 => if x18 < x17 then (if 0 ≤ x18 then (if x18 < (x16.length : Int) then ((rec_Size.f k ((rd_T25 x16 x18).f0) ((rd_T25 x16 x18).f1) ((rd_T25 x16 x18).f2) ((rd_T25 x16 x18).f3) ((rd_T25 x16 x18).f4) ((rd_T25 x16 x18).f5)).bind fun bt135 => (seg_Size.l0 k (wrap64 (x5 + bt135.1)) x16 x17 (wrap64 (x18 + 1)))) else (none)) else (none)) else (some (x5, 0))
def seg_Size.f (k : Nat) (a0_0 : Int) (l0_1 : List (S25)) : Option (Int × Int) := (seg_Check.f k a0_0 l0_1).bind fun t132 => (if t132 = 0 then (seg_Size.l0 k 0 l0_1 (l0_1.length : Int) 0) else (some (0, t132)))
theorem seg_Size.mono_l : ∀ k, (∀ y0 y1 y2 y3, LeO (seg_Size.l0 k y0 y1 y2 y3) (seg_Size.l0 (k + 1) y0 y1 y2 y3))
 | 0 => fun _ _ _ _ r h => by simp [seg_Size.l0] at h
 | k + 1 => by
  have ih0 := seg_Size.mono_l k
  ·intro y0 y1 y2 y3
   unfold seg_Size.l0
   repeat' first
   | (with_reducible exact ih0 _ _ _ _)
   | (with_reducible exact rec_Size.mono _ _ _ _ _ _ _)
   | (with_reducible exact seg_Check.mono _ _ _)
   | (with_reducible exact LeO.refl _)
   | (with_reducible exact LeO.none _)
   | (with_reducible refine LeO.ite ?_ ?_)
   | (with_reducible refine LeO.bind ?_ (fun _ => ?_))
   | exact ih0 _ _ _ _
   | exact rec_Size.mono _ _ _ _ _ _ _
   | exact seg_Check.mono _ _ _
   | exact LeO.none _
   | refine LeO.ite ?_ ?_
   | refine LeO.bind ?_ (fun _ => ?_)
theorem seg_Size.mono : ∀ a0 a1 k, LeO (seg_Size.f k a0 a1) (seg_Size.f (k + 1) a0 a1) := by
 intro a0 a1 k
 have ih0 := seg_Size.mono_l k
 unfold seg_Size.f
 repeat' first
  | (with_reducible exact ih0 _ _ _ _)
  | (with_reducible exact rec_Size.mono _ _ _ _ _ _ _)
  | (with_reducible exact seg_Check.mono _ _ _)
  | (with_reducible exact LeO.refl _)
  | (with_reducible exact LeO.none _)
  | (with_reducible refine LeO.ite ?_ ?_)
  | (with_reducible refine LeO.bind ?_ (fun _ => ?_))
  | exact ih0 _ _ _ _
  | exact rec_Size.mono _ _ _ _ _ _ _
  | exact seg_Check.mono _ _ _
  | exact LeO.none _
  | refine LeO.ite ?_ ?_
  | refine LeO.bind ?_ (fun _ => ?_)
set_option maxHeartbeats 8000000 in
set_option maxRecDepth 100000 in
theorem seg_Size.calls (k : Nat) (a0_0 : Int) (A0_1 : Option Addr) (c0_1 : Nat) (l0_1 : List (S25)) (r1 : Int) (r2 : Int) (w : World) (hr0_1 : Kd.C k25 w A0_1 l0_1.length l0_1) (hc0_1 : l0_1.length ≤ c0_1) (h : seg_Size.f k a0_0 l0_1 = some (r1, r2)) :
 Calls Try.prog 43 #[.agg #[.int .i64 a0_0, .slice A0_1 l0_1.length c0_1]] w fun e w' => e = .returned (.tuple #[.int .i64 r1, .int .i64 r2]) ∧ Below w.heap.size w w' := by
 have hu29 := Try.underlying29
 have hu25 := Try.underlying25
 have HR0_1 := Aside0.mk hr0_1
 have HC0_1 := Aside0.mk hc0_1
 clear hr0_1 hc0_1
 have HB := Aside0.mk (Below.refl w.heap.size w)
 have H : ((seg_Check.f k a0_0 l0_1).bind fun t132 => (if t132 = 0 then (seg_Size.l0 k 0 l0_1 (l0_1.length : Int) 0) else (some (0, t132)))) = some (r1, r2) := h
 clear h
 replace H := Option.bind_eq_some_iff.mp H
 obtain ⟨t132, A20, H⟩ := H
 replace H : (if t132 = 0 then (seg_Size.l0 k 0 l0_1 (l0_1.length : Int) 0) else (some (0, t132))) = some (r1, r2) := H
 have A2 := Aside0.mk A20
 clear A20
 by_cases c3 : t132 = 0
 ·rw [if_pos c3] at H
  have c3b0 : (t132 == 0) = true := beq_iff_eq.mpr c3
  have c3b1 : (t132 != 0) = false := bne_eq_false_iff_eq.mpr c3
  clear c3
  have H' := Aside0.mk H
  clear H
  go_enter Try.func43, Try.ntmps43
  go_wp2_with (first | ((with_reducible refine gate_dst (N := 1) rfl ?_); refine box_event ?hg (N := 1) ?hd (cs := #[.int .i64 a0_0, .slice A0_1 l0_1.length c0_1]) (t := 29) ?hr ?_; (case hd => rfl); (case hg => rfl); (case hr => first | (go_simp; done) | (go_simp; rfl)); intro gb131 hg w4 hbox hb; have BK131 := Aside0.mk (hbox); have GW131 := Aside0.mk ((by rw [hg]; exact (below_size bo) : w.heap.size ≤ gb131)); have GE131 := Aside0.mk ((by rw [hg]; exact (below_size bo) : w.heap.size ≤ gb131)); replace HB := Aside0.mk (below_step bo hb); clear hb hbox hg; obtain ⟨hcz5_0, hcz5_1⟩ := cl2 BK131.out; obtain ⟨hfz5_0, hfz5_1⟩ := fz2 BK131.out) | ((with_reducible refine gate_callee (f := 51) rfl ?_); refine goesL_ (some 11) rfl rfl Try.func51 (by kernel_rfl) rfl #[.agg #[.int .i64 a0_0, .slice A0_1 l0_1.length c0_1]] rfl aa ?_; (with_reducible refine (seg_Check.calls k a0_0 _ _ l0_1 t132 _ ?side1 ?side2 A2.out).mono ?_); (case side1 => repeat (first | exact (Kd.C_below HR0_1.out HB.out) | (with_reducible refine Kd.C_alloc ?_ _) | (with_reducible refine Kd.C_drewN ?_ _) | (with_reducible refine Kd.C_drew ?_))); (case side2 => exact HC0_1.out); rintro e w6 ⟨rfl, hb⟩; refine ⟨_, rfl, ?_⟩; replace BK131 := Aside0.mk (blk_below (g := gb131) (o := .cells #[.int .i64 a0_0, .slice A0_1 l0_1.length c0_1] 29 (0, 0)) (bk BK131.out) hb); replace HB := Aside0.mk (below_step bo hb); (try clear hb); (try clear hb2); (try clear hk); (try clear hi); obtain ⟨hcz7_0, hcz7_1⟩ := cl2 BK131.out; obtain ⟨hfz7_0, hfz7_1⟩ := fz2 BK131.out))
  go_loopg [5, 18] k (fun kq v5 v18 w' => ∃ (x5_1 : Int) (x18_1 : Int), v5 = .int .i64 x5_1 ∧ v18 = .int .i64 x18_1 ∧ Aside0 (seg_Size.l0 kq x5_1 l0_1 (l0_1.length : Int) x18_1 = some (r1, r2)) ∧ Aside0 (kq ≤ k) ∧ Aside0 (w'.heap[gb131]? = some (.cells #[.int .i64 a0_0, (.slice A0_1 l0_1.length c0_1)] 29 (0, 0))) ∧ Aside0 (Below w.heap.size w w'))
  case atStart => exact ⟨(0), (0), ap, ap, H', ⟨Nat.le_refl _⟩, ⟨by (with_reducible repeat (first | refine blk_drewN ?_ _ | refine blk_drew ?_ | refine blk_alloc ?_ _)); exact BK131.out⟩, ⟨bo⟩⟩
  case round =>
   clear H'
   try clear p2
   try clear c3
   try clear c3b0
   try clear c3b1
   try clear c4
   try clear c5
   try clear hcz5_0
   try clear hcz5_1
   try clear hcz7_0
   try clear hcz7_1
   try clear hfz5_0
   try clear hfz5_1
   try clear hfz7_0
   try clear hfz7_1
   obtain ⟨x5_1, x18_1, rfl, rfl, HA, HK1, BK131, HB⟩ := hrel
   cases gk with
   | zero => exact absurd HA.out (by simp [seg_Size.l0])
   | succ k1 =>
    have H := HA.out
    clear HA
    simp only [seg_Size.l0] at H
    by_cases c8 : x18_1 < (l0_1.length : Int)
    ·rw [if_pos c8] at H
     have c8b0 : decide (x18_1 < (l0_1.length : Int)) = true := decide_eq_true c8
     clear c8
     by_cases c9 : 0 ≤ x18_1
     ·rw [if_pos c9] at H
      have c9b0 : decide (0 ≤ x18_1) = true := decide_eq_true c9
      clear c9
      by_cases c10 : x18_1 < (l0_1.length : Int)
      ·rw [if_pos c10] at H
       have c10b0 : decide (x18_1 < (l0_1.length : Int)) = true := decide_eq_true c10
       clear c10
       replace H := Option.bind_eq_some_iff.mp H
       obtain ⟨⟨t135, t136⟩, A110, H⟩ := H
       replace H : (seg_Size.l0 k1 (wrap64 (x5_1 + t135)) l0_1 (l0_1.length : Int) (wrap64 (x18_1 + 1))) = some (r1, r2) := H
       have A11 := Aside0.mk A110
       clear A110
       have H' := Aside0.mk H
       clear H
       have p133 : 0 ≤ (x18_1 : Int) := od
       have q133 : x18_1 < (l0_1.length : Int) := od
       obtain ⟨ad133, e133, hx133_0, hx133_1, hx133_2, hx133_3, hx133_4, hx133_5⟩ := at_T25 HR0_1.out x18_1 p133 q133
       cases e133
       replace hx133_0 := cx HB.out hx133_0
       replace hx133_1 := cx HB.out hx133_1
       replace hx133_2 := cx HB.out hx133_2
       replace hx133_3 := cx HB.out hx133_3
       replace hx133_4 := cx HB.out hx133_4
       replace hx133_5 := cx HB.out hx133_5
       replace p133 := eq_true p133
       replace q133 := eq_true q133
       go_wp2_with (first | ((with_reducible refine gate_dst (N := 7) rfl ?_); refine box_event ?hg (N := 7) ?hd (cs := #[.int .i64 0, .int .i64 0, .string (⟨#[]⟩ : ByteArray), .string (⟨#[]⟩ : ByteArray), .int .i64 0, .bool false]) (t := 25) ?hr ?_; (case hd => rfl); (case hg => rfl); (case hr => first | (go_simp; done) | (go_simp; rfl)); intro gb134 hg w12 hbox hb; have BK134 := Aside0.mk (hbox); have GW134 := Aside0.mk ((by rw [hg]; exact (below_size bo) : w.heap.size ≤ gb134)); have GE134 := Aside0.mk ((by rw [hg]; exact (below_size bo) : w.heap.size ≤ gb134)); replace HB := Aside0.mk (below_step bo hb); have NB131_134 := Aside0.mk ((by rw [hg]; exact Nat.ne_of_lt (blk_lt (g := gb131) (o := .cells #[.int .i64 a0_0, .slice (some ad133) l0_1.length c0_1] 29 (0, 0)) (bk BK131.out)) : gb131 ≠ gb134)); have NB134_131 := Aside0.mk ((by rw [hg]; exact Nat.ne_of_gt (blk_lt (g := gb131) (o := .cells #[.int .i64 a0_0, .slice (some ad133) l0_1.length c0_1] 29 (0, 0)) (bk BK131.out)) : gb134 ≠ gb131)); replace BK131 := Aside0.mk (blk_below (g := gb131) (o := .cells #[.int .i64 a0_0, .slice (some ad133) l0_1.length c0_1] 29 (0, 0)) (bk BK131.out) hb); clear hb hbox hg; have hnb13 := NB134_131.out; have hnc13 := NB131_134.out; obtain ⟨hcz14_0, hcz14_1, hcz14_2, hcz14_3, hcz14_4, hcz14_5⟩ := cl6 BK134.out; obtain ⟨hfz14_0, hfz14_1, hfz14_2, hfz14_3, hfz14_4, hfz14_5⟩ := fz6 BK134.out) | ((with_reducible refine gate_callee (f := 60) rfl ?_); refine goesL_ (some 24) rfl rfl Try.func60 (by kernel_rfl) rfl #[.agg #[.int .i64 ((rd_T25 l0_1 x18_1).f0), .int .i64 ((rd_T25 l0_1 x18_1).f1), .string ((rd_T25 l0_1 x18_1).f2), .string ((rd_T25 l0_1 x18_1).f3), .int .i64 ((rd_T25 l0_1 x18_1).f4), .bool ((rd_T25 l0_1 x18_1).f5)]] rfl aa ?_; (with_reducible refine (rec_Size.calls k1 ((rd_T25 l0_1 x18_1).f0) ((rd_T25 l0_1 x18_1).f1) ((rd_T25 l0_1 x18_1).f2) ((rd_T25 l0_1 x18_1).f3) ((rd_T25 l0_1 x18_1).f4) ((rd_T25 l0_1 x18_1).f5) t135 t136 _ A11.out).mono ?_); rintro e w15 ⟨rfl, hb⟩; refine ⟨_, rfl, ?_⟩; replace BK131 := Aside0.mk (blk_below (g := gb131) (o := .cells #[.int .i64 a0_0, .slice (some ad133) l0_1.length c0_1] 29 (0, 0)) (bf BK131.out) hb); replace BK134 := Aside0.mk (blk_below (g := gb134) (o := .cells #[.int .i64 ((rd_T25 l0_1 x18_1).f0), .int .i64 ((rd_T25 l0_1 x18_1).f1), .string ((rd_T25 l0_1 x18_1).f2), .string ((rd_T25 l0_1 x18_1).f3), .int .i64 ((rd_T25 l0_1 x18_1).f4), .bool ((rd_T25 l0_1 x18_1).f5)] 25 (0, 0)) (by (with_reducible repeat (first | refine blk_drewN ?_ _ | refine blk_drew ?_ | refine blk_alloc ?_ _)); refine blk_put (cs := #[.int .i64 ((rd_T25 l0_1 x18_1).f0), .int .i64 ((rd_T25 l0_1 x18_1).f1), .string ((rd_T25 l0_1 x18_1).f2), .string ((rd_T25 l0_1 x18_1).f3), .int .i64 ((rd_T25 l0_1 x18_1).f4), .bool false]) ?_ 5 _ rfl; (with_reducible repeat (first | refine blk_drewN ?_ _ | refine blk_drew ?_ | refine blk_alloc ?_ _)); refine blk_put (cs := #[.int .i64 ((rd_T25 l0_1 x18_1).f0), .int .i64 ((rd_T25 l0_1 x18_1).f1), .string ((rd_T25 l0_1 x18_1).f2), .string ((rd_T25 l0_1 x18_1).f3), .int .i64 0, .bool false]) ?_ 4 _ rfl; (with_reducible repeat (first | refine blk_drewN ?_ _ | refine blk_drew ?_ | refine blk_alloc ?_ _)); refine blk_put (cs := #[.int .i64 ((rd_T25 l0_1 x18_1).f0), .int .i64 ((rd_T25 l0_1 x18_1).f1), .string ((rd_T25 l0_1 x18_1).f2), .string (⟨#[]⟩ : ByteArray), .int .i64 0, .bool false]) ?_ 3 _ rfl; (with_reducible repeat (first | refine blk_drewN ?_ _ | refine blk_drew ?_ | refine blk_alloc ?_ _)); refine blk_put (cs := #[.int .i64 ((rd_T25 l0_1 x18_1).f0), .int .i64 ((rd_T25 l0_1 x18_1).f1), .string (⟨#[]⟩ : ByteArray), .string (⟨#[]⟩ : ByteArray), .int .i64 0, .bool false]) ?_ 2 _ rfl; (with_reducible repeat (first | refine blk_drewN ?_ _ | refine blk_drew ?_ | refine blk_alloc ?_ _)); refine blk_put (cs := #[.int .i64 ((rd_T25 l0_1 x18_1).f0), .int .i64 0, .string (⟨#[]⟩ : ByteArray), .string (⟨#[]⟩ : ByteArray), .int .i64 0, .bool false]) ?_ 1 _ rfl; (with_reducible repeat (first | refine blk_drewN ?_ _ | refine blk_drew ?_ | refine blk_alloc ?_ _)); refine blk_put (cs := #[.int .i64 0, .int .i64 0, .string (⟨#[]⟩ : ByteArray), .string (⟨#[]⟩ : ByteArray), .int .i64 0, .bool false]) ?_ 0 _ rfl; (with_reducible repeat (first | refine blk_drewN ?_ _ | refine blk_drew ?_ | refine blk_alloc ?_ _)); exact BK134.out) hb); replace HB := Aside0.mk (below_step bo hb); (try clear hb); (try clear hb2); (try clear hk); (try clear hi)))
       go_roundg k1
       case measure => have := HK1.out; omega
       case rel => exact ⟨(wrap64 (x5_1 + t135)), (wrap64 (x18_1 + 1)), ap, ap, H', ⟨by have := HK1.out; omega⟩, ⟨by (with_reducible repeat (first | refine blk_drewN ?_ _ | refine blk_drew ?_ | refine blk_alloc ?_ _)); exact BK131.out⟩, ⟨bo⟩⟩
      ·rw [if_neg c10] at H
       exact absurd H (by simp)
     ·rw [if_neg c9] at H
      exact absurd H (by simp)
    ·rw [if_neg c8] at H
     have c8b0 : decide (x18_1 < (l0_1.length : Int)) = false := decide_eq_false c8
     clear c8
     simp only [Option.some.injEq, Prod.mk.injEq] at H
     obtain ⟨rfl, rfl⟩ := H
     go_wp2
     go_ret2
     exact ⟨er, bo⟩
 ·rw [if_neg c3] at H
  have c3b0 : (t132 == 0) = false := beq_eq_false_iff_ne.mpr c3
  have c3b1 : (t132 != 0) = true := bne_iff_ne.mpr c3
  simp only [Option.some.injEq, Prod.mk.injEq] at H
  obtain ⟨rfl, rfl⟩ := H
  go_enter Try.func43, Try.ntmps43
  go_wp2_with (first | ((with_reducible refine gate_dst (N := 1) rfl ?_); refine box_event ?hg (N := 1) ?hd (cs := #[.int .i64 a0_0, .slice A0_1 l0_1.length c0_1]) (t := 29) ?hr ?_; (case hd => rfl); (case hg => rfl); (case hr => first | (go_simp; done) | (go_simp; rfl)); intro gb131 hg w16 hbox hb; have BK131 := Aside0.mk (hbox); have GW131 := Aside0.mk ((by rw [hg]; exact (below_size bo) : w.heap.size ≤ gb131)); have GE131 := Aside0.mk ((by rw [hg]; exact (below_size bo) : w.heap.size ≤ gb131)); replace HB := Aside0.mk (below_step bo hb); clear hb hbox hg; obtain ⟨hcz17_0, hcz17_1⟩ := cl2 BK131.out; obtain ⟨hfz17_0, hfz17_1⟩ := fz2 BK131.out) | ((with_reducible refine gate_callee (f := 51) rfl ?_); refine goesL_ (some 11) rfl rfl Try.func51 (by kernel_rfl) rfl #[.agg #[.int .i64 a0_0, .slice A0_1 l0_1.length c0_1]] rfl aa ?_; (with_reducible refine (seg_Check.calls k a0_0 _ _ l0_1 t132 _ ?side1 ?side2 A2.out).mono ?_); (case side1 => repeat (first | exact (Kd.C_below HR0_1.out HB.out) | (with_reducible refine Kd.C_alloc ?_ _) | (with_reducible refine Kd.C_drewN ?_ _) | (with_reducible refine Kd.C_drew ?_))); (case side2 => exact HC0_1.out); rintro e w18 ⟨rfl, hb⟩; refine ⟨_, rfl, ?_⟩; replace BK131 := Aside0.mk (blk_below (g := gb131) (o := .cells #[.int .i64 a0_0, .slice A0_1 l0_1.length c0_1] 29 (0, 0)) (bk BK131.out) hb); replace HB := Aside0.mk (below_step bo hb); (try clear hb); (try clear hb2); (try clear hk); (try clear hi)))
  go_ret2
  exact ⟨er, bo⟩

end Go.Proofs.Ytigmekgknhoidaa.P

