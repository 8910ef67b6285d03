/- The law InboxExact: printed functions, their contracts, the plain laws and the row, part 4. -/
import Derived.Test.YtigmekgknhoidaaProg
import Derived.Below
import Derived.Deep.Draws
import Derived.Deep.AppendLies
import Derived.Maps.AppendAt
import Derived.OwnWalk
import Derived.Laws.BytesArg
import Derived.Laws.MakeOwn
import Derived.Laws.OwnMore
import Derived.Deep.OwnRows
import Derived.Tactics
import Derived.Lib.ConvBytes
import Derived.Laws.Slices
import Derived.WalkKit
import Derived.KernelRfl
import Derived.RowKit3
import Derived.Deep.LoopGhost
import Derived.Deep.QuietTactic
import Derived.BigQuiet
import Derived.WideLaws
import Derived.Deep.DeepCutAuto
import Derived.Deep.CutBlock
import Derived.Deep.RegionHeld3
import Derived.Laws.Rows
import Derived.Lib.AppendStr
import Derived.ArgAppend
import Derived.Laws.IdiomCopy
import Derived.OrdersHeld
import Derived.Laws.BitsLemmas
import Derived.RowKit
import Derived.WalkSpells
import Derived.Test.YtigmekgknhoidaaKInboxExact2
import Derived.Test.YtigmekgknhoidaaKInboxExact0
import Derived.Test.YtigmekgknhoidaaKInboxExact1
import Derived.Test.YtigmekgknhoidaaKInboxExact3
import Derived.Ground.Names2Prog
import Derived.Shelf.Slices.Clone
import Derived.Shelf.Slices.Cells
import Derived.Shelf.Slices.Empties
import Derived.Shelf.Spec.SlicesInsert
import Derived.Shelf.Spec.SlicesInsertGrow
import Derived.Lib.LazyBuf
-- written by a program of the proving session, out of the translation; Lean checks it
namespace Go.Proofs.Ytigmekgknhoidaa.P
open Go.RowKit Go.Proofs.Ytigmekgknhoidaa.Sq Go.Proofs.YtigmekgknhoidaaW.PrintWords Go.Proofs.YtigmekgknhoidaaW.PrintLast Go.Proofs.YtigmekgknhoidaaW.PrintMore
attribute [local go_sem] max2_int min2_int max_two min_two max_three min_three max_four min_four   -- for this text's walks alone
set_option linter.unusedVariables false
set_option linter.unusedSimpArgs false



def errW : Option Int → Value
 | none => .nilIface
 | some c => .iface 0 (.int .i64 c)
theorem errW_none : errW none = .nilIface := rfl
theorem errW_some (c : Int) : errW (some c) = .iface 0 (.int .i64 c) := rfl

theorem info3 : (Try.prog.info? 3).map (fun i => (i.zero, i.size, i.bytes)) = some (some (.int .i64 0), 1, 8) := by kernel_rfl
theorem info5 : (Try.prog.info? 5).map (fun i => (i.zero, i.size, i.bytes)) = some (some (.int .u8 0), 1, 1) := by kernel_rfl
theorem info25 : (Try.prog.info? 25).map (fun i => (i.zero, i.size, i.bytes)) = some (some (.agg #[(.int .i64 0), (.int .i64 0), (.string ⟨#[]⟩), (.string ⟨#[]⟩), (.int .i64 0), (.bool false)]), 6, 64) := by kernel_rfl
theorem info29 : (Try.prog.info? 29).map (fun i => (i.zero, i.size, i.bytes)) = some (some (.agg #[(.int .i64 0), (.slice none 0 0)]), 2, 32) := by kernel_rfl
-- the values' own types
/-! #### struct type 25 -/
structure S25 where
 f0 : Int
 f1 : Int
 f2 : ByteArray
 f3 : ByteArray
 f4 : Int
 f5 : Bool
def z25 : S25 := ⟨(0 : Int), (0 : Int), (⟨#[]⟩ : ByteArray), (⟨#[]⟩ : ByteArray), (0 : Int), false⟩
def k25 : Kd S25 := Kd.iso (Kd.pair (Kd.int .i64) (Kd.pair (Kd.int .i64) (Kd.pair Kd.string (Kd.pair Kd.string (Kd.pair (Kd.int .i64) Kd.bool))))) (fun x : S25 => (x.f0, x.f1, x.f2, x.f3, x.f4, x.f5))
theorem k25_open {w : World} {x : S25} {cs : List Value} (h : k25.K w x cs) : cs = [.int .i64 x.f0, .int .i64 x.f1, .string x.f2, .string x.f3, .int .i64 x.f4, .bool x.f5] := by
 obtain ⟨_, _, rfl, rfl, ⟨_, _, rfl, rfl, ⟨_, _, rfl, rfl, ⟨_, _, rfl, rfl, ⟨_, _, rfl, rfl, rfl⟩⟩⟩⟩⟩ := h
 exact rfl
theorem k25_openM {w : World} {base : Nat} {ok : Nat → Prop} {x : S25} {cs : List Value} (h : k25.M w base ok x cs) : cs = [.int .i64 x.f0, .int .i64 x.f1, .string x.f2, .string x.f3, .int .i64 x.f4, .bool x.f5] := by
 obtain ⟨_, _, rfl, rfl, ⟨_, _, rfl, rfl, ⟨_, _, rfl, rfl, ⟨_, _, rfl, rfl, ⟨_, _, rfl, rfl, rfl⟩⟩⟩⟩⟩ := h
 exact rfl
theorem k25_mk (w : World) (x : S25)  : k25.K w x [.int .i64 x.f0, .int .i64 x.f1, .string x.f2, .string x.f3, .int .i64 x.f4, .bool x.f5] := ⟨[.int .i64 x.f0], [.int .i64 x.f1, .string x.f2, .string x.f3, .int .i64 x.f4, .bool x.f5], rfl, rfl, ⟨[.int .i64 x.f1], [.string x.f2, .string x.f3, .int .i64 x.f4, .bool x.f5], rfl, rfl, ⟨[.string x.f2], [.string x.f3, .int .i64 x.f4, .bool x.f5], rfl, rfl, ⟨[.string x.f3], [.int .i64 x.f4, .bool x.f5], rfl, rfl, ⟨[.int .i64 x.f4], [.bool x.f5], rfl, rfl, rfl⟩⟩⟩⟩⟩
theorem k25_mkM (w : World) (base : Nat) (ok : Nat → Prop) (x : S25)  : k25.M w base ok x [.int .i64 x.f0, .int .i64 x.f1, .string x.f2, .string x.f3, .int .i64 x.f4, .bool x.f5] := ⟨[.int .i64 x.f0], [.int .i64 x.f1, .string x.f2, .string x.f3, .int .i64 x.f4, .bool x.f5], rfl, rfl, ⟨[.int .i64 x.f1], [.string x.f2, .string x.f3, .int .i64 x.f4, .bool x.f5], rfl, rfl, ⟨[.string x.f2], [.string x.f3, .int .i64 x.f4, .bool x.f5], rfl, rfl, ⟨[.string x.f3], [.int .i64 x.f4, .bool x.f5], rfl, rfl, ⟨[.int .i64 x.f4], [.bool x.f5], rfl, rfl, rfl⟩⟩⟩⟩⟩
theorem k25_mkF (W : World) (ok : Nat → Prop) (x : S25) : Kd.FK k25 W ok x [.int .i64 x.f0, .int .i64 x.f1, .string x.f2, .string x.f3, .int .i64 x.f4, .bool x.f5] := fun W2 _ => k25_mk W2 x
def rd_T25 (xs : List S25) (i : Int) : S25 := xs.getD i.toNat z25
theorem at_T25 {w : World} {A : Option Addr} {n : Nat} {xs : List S25} (h : Kd.C k25 w A n xs) (i : Int) (h0 : 0 ≤ i) (h1 : i < n) : ∃ ad , A = some ad ∧ w.cell? (ad.add (i.toNat * 6)) = some (.int .i64 (rd_T25 xs i).f0) ∧ w.cell? ⟨(ad.add (i.toNat * 6)).block, (ad.add (i.toNat * 6)).off + 1, none⟩ = some (.int .i64 (rd_T25 xs i).f1) ∧ w.cell? ⟨(ad.add (i.toNat * 6)).block, (ad.add (i.toNat * 6)).off + 2, none⟩ = some (.string (rd_T25 xs i).f2) ∧ w.cell? ⟨(ad.add (i.toNat * 6)).block, (ad.add (i.toNat * 6)).off + 3, none⟩ = some (.string (rd_T25 xs i).f3) ∧ w.cell? ⟨(ad.add (i.toNat * 6)).block, (ad.add (i.toNat * 6)).off + 4, none⟩ = some (.int .i64 (rd_T25 xs i).f4) ∧ w.cell? ⟨(ad.add (i.toNat * 6)).block, (ad.add (i.toNat * 6)).off + 5, none⟩ = some (.bool (rd_T25 xs i).f5) := by
 obtain ⟨ad, c, e, _, hK, hc0⟩ := Kd.C_get h z25 i h0 h1
 have hc : ∀ j u, c[j]? = some u → w.cell? (ad.add (i.toNat * 6 + j)) = some u := hc0
 obtain rfl := k25_open hK
 exact ⟨ad, e, hc 0 _ rfl, by rw [← add_field _ _ 1 (by omega)]; exact hc 1 _ rfl, by rw [← add_field _ _ 2 (by omega)]; exact hc 2 _ rfl, by rw [← add_field _ _ 3 (by omega)]; exact hc 3 _ rfl, by rw [← add_field _ _ 4 (by omega)]; exact hc 4 _ rfl, by rw [← add_field _ _ 5 (by omega)]; exact hc 5 _ rfl⟩

def rd_L5 (xs : List (List S25)) (i : Int) : (List S25) := xs.getD i.toNat ([] : List S25)
theorem at_L5 {w : World} {A : Option Addr} {n : Nat} {xs : List (List S25)} (h : Kd.C (Kd.slice 25 k25) w A n xs) (i : Int) (h0 : 0 ≤ i) (h1 : i < n) : ∃ ad A0 c0, A = some ad ∧ w.cell? (ad.add i.toNat) = some (.slice A0 (rd_L5 xs i).length c0) ∧ (rd_L5 xs i).length ≤ c0 ∧ k25.C w A0 (rd_L5 xs i).length (rd_L5 xs i) := by
 obtain ⟨ad, c, e, _, hK, hc0⟩ := Kd.C_get h ([] : List S25) i h0 h1
 have hc : ∀ j u, c[j]? = some u → w.cell? (ad.add (i.toNat * 1 + j)) = some u := hc0
 obtain ⟨A0, c0, rfl, l0, g0⟩ := hK
 exact ⟨ad, A0, c0, e, by have hq := hc 0 _ rfl; rwa [Nat.mul_one, Nat.add_zero] at hq, l0, g0⟩

/-! #### struct type 29 -/
structure S29 where
 f0 : Int
 f1 : (List S25)
def z29 : S29 := ⟨(0 : Int), ([] : List S25)⟩
def k29 : Kd S29 := Kd.iso (Kd.pair (Kd.int .i64) (Kd.slice 25 k25)) (fun x : S29 => (x.f0, x.f1))
theorem k29_open {w : World} {x : S29} {cs : List Value} (h : k29.K w x cs) : ∃ A1 c1, cs = [.int .i64 x.f0, .slice A1 x.f1.length c1] ∧ x.f1.length ≤ c1 ∧ k25.C w A1 x.f1.length x.f1 := by
 obtain ⟨_, _, rfl, rfl, ⟨A1, c1, rfl, l1, g1⟩⟩ := h
 exact ⟨A1, c1, rfl, l1, g1⟩
theorem k29_openM {w : World} {base : Nat} {ok : Nat → Prop} {x : S29} {cs : List Value} (h : k29.M w base ok x cs) : ∃ v1, cs = [.int .i64 x.f0, v1] ∧ k25.R 25 w base ok v1 x.f1 := by
 obtain ⟨_, _, rfl, rfl, ⟨v1, rfl, g1⟩⟩ := h
 exact ⟨v1, rfl, g1⟩
theorem k29_mk (w : World) (x : S29) {A1 : Option Addr} {c1 : Nat} (l1 : x.f1.length ≤ c1) (g1 : k25.C w A1 x.f1.length x.f1) : k29.K w x [.int .i64 x.f0, .slice A1 x.f1.length c1] := ⟨[.int .i64 x.f0], [.slice A1 x.f1.length c1], rfl, rfl, ⟨A1, c1, rfl, l1, g1⟩⟩
theorem k29_mkM (w : World) (base : Nat) (ok : Nat → Prop) (x : S29) {v1 : Value} (g1 : k25.R 25 w base ok v1 x.f1) : k29.M w base ok x [.int .i64 x.f0, v1] := ⟨[.int .i64 x.f0], [v1], rfl, rfl, ⟨v1, rfl, g1⟩⟩
theorem k29_openF {W : World} {ok : Nat → Prop} {x : S29} {cs : List Value} (h : Kd.FK k29 W ok x cs) : ∃ A1 c1, cs = [.int .i64 x.f0, .slice A1 x.f1.length c1] ∧ x.f1.length ≤ c1 ∧ Kd.F k25 W ok A1 x.f1.length x.f1 := by
 obtain ⟨A1, c1, rfl, l1, _⟩ := k29_open (Kd.FK_now h)
 exact ⟨A1, c1, rfl, l1, (fun W' hW => by obtain ⟨A1_, c1_, he, l1_, g1_⟩ := k29_open (h W' hW); injection (Option.some.inj (show some (Value.slice A1 x.f1.length c1) = some (Value.slice A1_ x.f1.length c1_) from congrArg (fun l => l[1]?) he)) with ha_ _ _; rw [ha_]; exact g1_)⟩
theorem k29_mkF (W : World) (ok : Nat → Prop) (x : S29) {A1 : Option Addr} {c1 : Nat} (l1 : x.f1.length ≤ c1) (g1 : Kd.F k25 W ok A1 x.f1.length x.f1) : Kd.FK k29 W ok x [.int .i64 x.f0, .slice A1 x.f1.length c1] := fun W2 hW => k29_mk W2 x l1 (g1 W2 hW)
def rd_T29 (xs : List S29) (i : Int) : S29 := xs.getD i.toNat z29
theorem at_T29 {w : World} {A : Option Addr} {n : Nat} {xs : List S29} (h : Kd.C k29 w A n xs) (i : Int) (h0 : 0 ≤ i) (h1 : i < n) : ∃ ad A1 c1, A = some ad ∧ w.cell? (ad.add (i.toNat * 2)) = some (.int .i64 (rd_T29 xs i).f0) ∧ w.cell? ⟨(ad.add (i.toNat * 2)).block, (ad.add (i.toNat * 2)).off + 1, none⟩ = some (.slice A1 (rd_T29 xs i).f1.length c1) ∧ (rd_T29 xs i).f1.length ≤ c1 ∧ k25.C w A1 (rd_T29 xs i).f1.length (rd_T29 xs i).f1 := by
 obtain ⟨ad, c, e, _, hK, hc0⟩ := Kd.C_get h z29 i h0 h1
 have hc : ∀ j u, c[j]? = some u → w.cell? (ad.add (i.toNat * 2 + j)) = some u := hc0
 obtain ⟨A1, c1, rfl, l1, g1⟩ := k29_open hK
 exact ⟨ad, A1, c1, e, hc 0 _ rfl, by rw [← add_field _ _ 1 (by omega)]; exact hc 1 _ rfl, l1, g1⟩

def rd_L7 (xs : List (List S29)) (i : Int) : (List S29) := xs.getD i.toNat ([] : List S29)
theorem at_L7 {w : World} {A : Option Addr} {n : Nat} {xs : List (List S29)} (h : Kd.C (Kd.slice 29 k29) w A n xs) (i : Int) (h0 : 0 ≤ i) (h1 : i < n) : ∃ ad A0 c0, A = some ad ∧ w.cell? (ad.add i.toNat) = some (.slice A0 (rd_L7 xs i).length c0) ∧ (rd_L7 xs i).length ≤ c0 ∧ k29.C w A0 (rd_L7 xs i).length (rd_L7 xs i) := by
 obtain ⟨ad, c, e, _, hK, hc0⟩ := Kd.C_get h ([] : List S29) i h0 h1
 have hc : ∀ j u, c[j]? = some u → w.cell? (ad.add (i.toNat * 1 + j)) = some u := hc0
 obtain ⟨A0, c0, rfl, l0, g0⟩ := hK
 exact ⟨ad, A0, c0, e, by have hq := hc 0 _ rfl; rwa [Nat.mul_one, Nat.add_zero] at hq, l0, g0⟩

/-! #### struct type 35 -/
structure S35 where
 f0 : Int
 f1 : Int
 f2 : Int
 f3 : Bool
 f4 : Int
def z35 : S35 := ⟨(0 : Int), (0 : Int), (0 : Int), false, (0 : Int)⟩
def k35 : Kd S35 := Kd.iso (Kd.pair (Kd.int .i64) (Kd.pair (Kd.int .i64) (Kd.pair (Kd.int .i64) (Kd.pair Kd.bool (Kd.int .i64))))) (fun x : S35 => (x.f0, x.f1, x.f2, x.f3, x.f4))
theorem k35_open {w : World} {x : S35} {cs : List Value} (h : k35.K w x cs) : cs = [.int .i64 x.f0, .int .i64 x.f1, .int .i64 x.f2, .bool x.f3, .int .i64 x.f4] := by
 obtain ⟨_, _, rfl, rfl, ⟨_, _, rfl, rfl, ⟨_, _, rfl, rfl, ⟨_, _, rfl, rfl, rfl⟩⟩⟩⟩ := h
 exact rfl
theorem k35_openM {w : World} {base : Nat} {ok : Nat → Prop} {x : S35} {cs : List Value} (h : k35.M w base ok x cs) : cs = [.int .i64 x.f0, .int .i64 x.f1, .int .i64 x.f2, .bool x.f3, .int .i64 x.f4] := by
 obtain ⟨_, _, rfl, rfl, ⟨_, _, rfl, rfl, ⟨_, _, rfl, rfl, ⟨_, _, rfl, rfl, rfl⟩⟩⟩⟩ := h
 exact rfl
theorem k35_mk (w : World) (x : S35)  : k35.K w x [.int .i64 x.f0, .int .i64 x.f1, .int .i64 x.f2, .bool x.f3, .int .i64 x.f4] := ⟨[.int .i64 x.f0], [.int .i64 x.f1, .int .i64 x.f2, .bool x.f3, .int .i64 x.f4], rfl, rfl, ⟨[.int .i64 x.f1], [.int .i64 x.f2, .bool x.f3, .int .i64 x.f4], rfl, rfl, ⟨[.int .i64 x.f2], [.bool x.f3, .int .i64 x.f4], rfl, rfl, ⟨[.bool x.f3], [.int .i64 x.f4], rfl, rfl, rfl⟩⟩⟩⟩
theorem k35_mkM (w : World) (base : Nat) (ok : Nat → Prop) (x : S35)  : k35.M w base ok x [.int .i64 x.f0, .int .i64 x.f1, .int .i64 x.f2, .bool x.f3, .int .i64 x.f4] := ⟨[.int .i64 x.f0], [.int .i64 x.f1, .int .i64 x.f2, .bool x.f3, .int .i64 x.f4], rfl, rfl, ⟨[.int .i64 x.f1], [.int .i64 x.f2, .bool x.f3, .int .i64 x.f4], rfl, rfl, ⟨[.int .i64 x.f2], [.bool x.f3, .int .i64 x.f4], rfl, rfl, ⟨[.bool x.f3], [.int .i64 x.f4], rfl, rfl, rfl⟩⟩⟩⟩
theorem k35_mkF (W : World) (ok : Nat → Prop) (x : S35) : Kd.FK k35 W ok x [.int .i64 x.f0, .int .i64 x.f1, .int .i64 x.f2, .bool x.f3, .int .i64 x.f4] := fun W2 _ => k35_mk W2 x
def rd_T35 (xs : List S35) (i : Int) : S35 := xs.getD i.toNat z35
theorem at_T35 {w : World} {A : Option Addr} {n : Nat} {xs : List S35} (h : Kd.C k35 w A n xs) (i : Int) (h0 : 0 ≤ i) (h1 : i < n) : ∃ ad , A = some ad ∧ w.cell? (ad.add (i.toNat * 5)) = some (.int .i64 (rd_T35 xs i).f0) ∧ w.cell? ⟨(ad.add (i.toNat * 5)).block, (ad.add (i.toNat * 5)).off + 1, none⟩ = some (.int .i64 (rd_T35 xs i).f1) ∧ w.cell? ⟨(ad.add (i.toNat * 5)).block, (ad.add (i.toNat * 5)).off + 2, none⟩ = some (.int .i64 (rd_T35 xs i).f2) ∧ w.cell? ⟨(ad.add (i.toNat * 5)).block, (ad.add (i.toNat * 5)).off + 3, none⟩ = some (.bool (rd_T35 xs i).f3) ∧ w.cell? ⟨(ad.add (i.toNat * 5)).block, (ad.add (i.toNat * 5)).off + 4, none⟩ = some (.int .i64 (rd_T35 xs i).f4) := by
 obtain ⟨ad, c, e, _, hK, hc0⟩ := Kd.C_get h z35 i h0 h1
 have hc : ∀ j u, c[j]? = some u → w.cell? (ad.add (i.toNat * 5 + j)) = some u := hc0
 obtain rfl := k35_open hK
 exact ⟨ad, e, hc 0 _ rfl, by rw [← add_field _ _ 1 (by omega)]; exact hc 1 _ rfl, by rw [← add_field _ _ 2 (by omega)]; exact hc 2 _ rfl, by rw [← add_field _ _ 3 (by omega)]; exact hc 3 _ rfl, by rw [← add_field _ _ 4 (by omega)]; exact hc 4 _ rfl⟩

/-! #### struct type 41 -/
structure S41 where
 f0 : (List S29)
 f1 : S35
 f2 : Int
def z41 : S41 := ⟨([] : List S29), z35, (0 : Int)⟩
def k41 : Kd S41 := Kd.iso (Kd.pair (Kd.slice 29 k29) (Kd.pair k35 (Kd.int .i64))) (fun x : S41 => (x.f0, x.f1, x.f2))
theorem k41_open {w : World} {x : S41} {cs : List Value} (h : k41.K w x cs) : ∃ A0 c0, cs = [.slice A0 x.f0.length c0, .int .i64 x.f1.f0, .int .i64 x.f1.f1, .int .i64 x.f1.f2, .bool x.f1.f3, .int .i64 x.f1.f4, .int .i64 x.f2] ∧ x.f0.length ≤ c0 ∧ k29.C w A0 x.f0.length x.f0 := by
 obtain ⟨_, _, rfl, ⟨A0, c0, rfl, l0, g0⟩, ⟨_, _, rfl, s1, rfl⟩⟩ := h
 obtain rfl := k35_open s1
 exact ⟨A0, c0, rfl, l0, g0⟩
theorem k41_openM {w : World} {base : Nat} {ok : Nat → Prop} {x : S41} {cs : List Value} (h : k41.M w base ok x cs) : ∃ v0, cs = [v0, .int .i64 x.f1.f0, .int .i64 x.f1.f1, .int .i64 x.f1.f2, .bool x.f1.f3, .int .i64 x.f1.f4, .int .i64 x.f2] ∧ k29.R 29 w base ok v0 x.f0 := by
 obtain ⟨_, _, rfl, ⟨v0, rfl, g0⟩, ⟨_, _, rfl, s1, rfl⟩⟩ := h
 obtain rfl := k35_openM s1
 exact ⟨v0, rfl, g0⟩
theorem k41_mk (w : World) (x : S41) {A0 : Option Addr} {c0 : Nat} (l0 : x.f0.length ≤ c0) (g0 : k29.C w A0 x.f0.length x.f0) : k41.K w x [.slice A0 x.f0.length c0, .int .i64 x.f1.f0, .int .i64 x.f1.f1, .int .i64 x.f1.f2, .bool x.f1.f3, .int .i64 x.f1.f4, .int .i64 x.f2] := ⟨[.slice A0 x.f0.length c0], [.int .i64 x.f1.f0, .int .i64 x.f1.f1, .int .i64 x.f1.f2, .bool x.f1.f3, .int .i64 x.f1.f4, .int .i64 x.f2], rfl, ⟨A0, c0, rfl, l0, g0⟩, ⟨[.int .i64 x.f1.f0, .int .i64 x.f1.f1, .int .i64 x.f1.f2, .bool x.f1.f3, .int .i64 x.f1.f4], [.int .i64 x.f2], rfl, (k35_mk w x.f1 ), rfl⟩⟩
theorem k41_mkM (w : World) (base : Nat) (ok : Nat → Prop) (x : S41) {v0 : Value} (g0 : k29.R 29 w base ok v0 x.f0) : k41.M w base ok x [v0, .int .i64 x.f1.f0, .int .i64 x.f1.f1, .int .i64 x.f1.f2, .bool x.f1.f3, .int .i64 x.f1.f4, .int .i64 x.f2] := ⟨[v0], [.int .i64 x.f1.f0, .int .i64 x.f1.f1, .int .i64 x.f1.f2, .bool x.f1.f3, .int .i64 x.f1.f4, .int .i64 x.f2], rfl, ⟨v0, rfl, g0⟩, ⟨[.int .i64 x.f1.f0, .int .i64 x.f1.f1, .int .i64 x.f1.f2, .bool x.f1.f3, .int .i64 x.f1.f4], [.int .i64 x.f2], rfl, (k35_mkM w base ok x.f1 ), rfl⟩⟩
theorem k41_openF {W : World} {ok : Nat → Prop} {x : S41} {cs : List Value} (h : Kd.FK k41 W ok x cs) : ∃ A0 c0, cs = [.slice A0 x.f0.length c0, .int .i64 x.f1.f0, .int .i64 x.f1.f1, .int .i64 x.f1.f2, .bool x.f1.f3, .int .i64 x.f1.f4, .int .i64 x.f2] ∧ x.f0.length ≤ c0 ∧ Kd.F k29 W ok A0 x.f0.length x.f0 := by
 obtain ⟨A0, c0, rfl, l0, _⟩ := k41_open (Kd.FK_now h)
 exact ⟨A0, c0, rfl, l0, (fun W' hW => by obtain ⟨A0_, c0_, he, l0_, g0_⟩ := k41_open (h W' hW); injection (Option.some.inj (show some (Value.slice A0 x.f0.length c0) = some (Value.slice A0_ x.f0.length c0_) from congrArg (fun l => l[0]?) he)) with ha_ _ _; rw [ha_]; exact g0_)⟩
theorem k41_mkF (W : World) (ok : Nat → Prop) (x : S41) {A0 : Option Addr} {c0 : Nat} (l0 : x.f0.length ≤ c0) (g0 : Kd.F k29 W ok A0 x.f0.length x.f0) : Kd.FK k41 W ok x [.slice A0 x.f0.length c0, .int .i64 x.f1.f0, .int .i64 x.f1.f1, .int .i64 x.f1.f2, .bool x.f1.f3, .int .i64 x.f1.f4, .int .i64 x.f2] := fun W2 hW => k41_mk W2 x l0 (g0 W2 hW)
def rd_T41 (xs : List S41) (i : Int) : S41 := xs.getD i.toNat z41
theorem at_T41 {w : World} {A : Option Addr} {n : Nat} {xs : List S41} (h : Kd.C k41 w A n xs) (i : Int) (h0 : 0 ≤ i) (h1 : i < n) : ∃ ad A0 c0, A = some ad ∧ w.cell? (ad.add (i.toNat * 7)) = some (.slice A0 (rd_T41 xs i).f0.length c0) ∧ w.cell? ⟨(ad.add (i.toNat * 7)).block, (ad.add (i.toNat * 7)).off + 1, none⟩ = some (.int .i64 (rd_T41 xs i).f1.f0) ∧ w.cell? ⟨(ad.add (i.toNat * 7)).block, (ad.add (i.toNat * 7)).off + 2, none⟩ = some (.int .i64 (rd_T41 xs i).f1.f1) ∧ w.cell? ⟨(ad.add (i.toNat * 7)).block, (ad.add (i.toNat * 7)).off + 3, none⟩ = some (.int .i64 (rd_T41 xs i).f1.f2) ∧ w.cell? ⟨(ad.add (i.toNat * 7)).block, (ad.add (i.toNat * 7)).off + 4, none⟩ = some (.bool (rd_T41 xs i).f1.f3) ∧ w.cell? ⟨(ad.add (i.toNat * 7)).block, (ad.add (i.toNat * 7)).off + 5, none⟩ = some (.int .i64 (rd_T41 xs i).f1.f4) ∧ w.cell? ⟨(ad.add (i.toNat * 7)).block, (ad.add (i.toNat * 7)).off + 6, none⟩ = some (.int .i64 (rd_T41 xs i).f2) ∧ (rd_T41 xs i).f0.length ≤ c0 ∧ k29.C w A0 (rd_T41 xs i).f0.length (rd_T41 xs i).f0 := by
 obtain ⟨ad, c, e, _, hK, hc0⟩ := Kd.C_get h z41 i h0 h1
 have hc : ∀ j u, c[j]? = some u → w.cell? (ad.add (i.toNat * 7 + j)) = some u := hc0
 obtain ⟨A0, c0, rfl, l0, g0⟩ := k41_open hK
 exact ⟨ad, A0, c0, e, hc 0 _ rfl, by rw [← add_field _ _ 1 (by omega)]; exact hc 1 _ rfl, by rw [← add_field _ _ 2 (by omega)]; exact hc 2 _ rfl, by rw [← add_field _ _ 3 (by omega)]; exact hc 3 _ rfl, by rw [← add_field _ _ 4 (by omega)]; exact hc 4 _ rfl, by rw [← add_field _ _ 5 (by omega)]; exact hc 5 _ rfl, by rw [← add_field _ _ 6 (by omega)]; exact hc 6 _ rfl, l0, g0⟩

def rd_L10 (xs : List (List Int)) (i : Int) : (List Int) := xs.getD i.toNat ([] : List Int)
theorem at_L10 {w : World} {A : Option Addr} {n : Nat} {xs : List (List Int)} (h : Kd.C (Kd.slice 3 (Kd.int .i64)) w A n xs) (i : Int) (h0 : 0 ≤ i) (h1 : i < n) : ∃ ad A0 c0, A = some ad ∧ w.cell? (ad.add i.toNat) = some (.slice A0 (rd_L10 xs i).length c0) ∧ (rd_L10 xs i).length ≤ c0 ∧ (Kd.int .i64).C w A0 (rd_L10 xs i).length (rd_L10 xs i) := by
 obtain ⟨ad, c, e, _, hK, hc0⟩ := Kd.C_get h ([] : List Int) i h0 h1
 have hc : ∀ j u, c[j]? = some u → w.cell? (ad.add (i.toNat * 1 + j)) = some u := hc0
 obtain ⟨A0, c0, rfl, l0, g0⟩ := hK
 exact ⟨ad, A0, c0, e, by have hq := hc 0 _ rfl; rwa [Nat.mul_one, Nat.add_zero] at hq, l0, g0⟩

end Go.Proofs.Ytigmekgknhoidaa.P

-- written by a program of the proving session, out of the translation; Lean checks it
namespace Go.Proofs.Ytigmekgknhoidaa.P
open Go.RowKit Go.Proofs.Ytigmekgknhoidaa.Sq Go.Proofs.YtigmekgknhoidaaW.PrintWords Go.Proofs.YtigmekgknhoidaaW.PrintLast Go.Proofs.YtigmekgknhoidaaW.PrintMore
attribute [local go_sem] max2_int min2_int max_two min_two max_three min_three max_four min_four   -- for this text's walks alone
set_option linter.unusedVariables false
set_option linter.unusedSimpArgs false

/-! ### fairwaylaw19_heavy: function 27 -/
def fairwaylaw19_heavy.f (l0_0 : List Int) (l0_1 : List Int) : Option (Bool) := some (decide ((wrap64 ((l0_0.length : Int) + (l0_1.length : Int))) > 1000))
set_option maxHeartbeats 8000000 in
set_option maxRecDepth 100000 in
theorem fairwaylaw19_heavy.calls (A0_0 : Option Addr) (c0_0 : Nat) (l0_0 : List Int) (A0_1 : Option Addr) (c0_1 : Nat) (l0_1 : List Int) (r : Bool) (w : World) (hr0_0 : Kd.C (Kd.int .i64) w A0_0 l0_0.length l0_0) (hc0_0 : l0_0.length ≤ c0_0) (hr0_1 : Kd.C (Kd.int .i64) w A0_1 l0_1.length l0_1) (hc0_1 : l0_1.length ≤ c0_1) (h : fairwaylaw19_heavy.f l0_0 l0_1 = some r) :
 Calls Try.prog 27 #[.agg #[.slice A0_0 l0_0.length c0_0, .slice A0_1 l0_1.length c0_1]] w fun e w' => e = .returned (.bool r) ∧ Below w.heap.size w w' := by
 have hu56 := Try.underlying56
 have HR0_0 := Aside0.mk hr0_0
 have HC0_0 := Aside0.mk hc0_0
 clear hr0_0 hc0_0
 have HR0_1 := Aside0.mk hr0_1
 have HC0_1 := Aside0.mk hc0_1
 clear hr0_1 hc0_1
 have HB := Aside0.mk (Below.refl w.heap.size w)
 have H : (some (decide ((wrap64 ((l0_0.length : Int) + (l0_1.length : Int))) > 1000))) = some r := h
 clear h
 obtain rfl := Option.some.inj H
 go_enter Try.func27, Try.ntmps27
 go_wp2_with (first | ((with_reducible refine gate_dst (N := 1) rfl ?_); refine box_event ?hg (N := 1) ?hd (cs := #[.slice A0_0 l0_0.length c0_0, .slice A0_1 l0_1.length c0_1]) (t := 56) ?hr ?_; (case hd => rfl); (case hg => rfl); (case hr => first | (go_simp; done) | (go_simp; rfl)); intro gb405 hg w2 hbox hb; have BK405 := Aside0.mk (hbox); have GW405 := Aside0.mk ((by rw [hg]; exact (below_size bo) : w.heap.size ≤ gb405)); have GE405 := Aside0.mk ((by rw [hg]; exact (below_size bo) : w.heap.size ≤ gb405)); replace HB := Aside0.mk (below_step bo hb); clear hb hbox hg; obtain ⟨hcz3_0, hcz3_1⟩ := cl2 BK405.out; obtain ⟨hfz3_0, hfz3_1⟩ := fz2 BK405.out))
 go_ret
 exact ⟨er, bo⟩

end Go.Proofs.Ytigmekgknhoidaa.P

-- written by a program of the proving session, out of the translation; Lean checks it
namespace Go.Proofs.Ytigmekgknhoidaa.P
open Go.RowKit Go.Proofs.Ytigmekgknhoidaa.Sq Go.Proofs.YtigmekgknhoidaaW.PrintWords Go.Proofs.YtigmekgknhoidaaW.PrintLast Go.Proofs.YtigmekgknhoidaaW.PrintMore
attribute [local go_sem] max2_int min2_int max_two min_two max_three min_three max_four min_four   -- for this text's walks alone
set_option linter.unusedVariables false
set_option linter.unusedSimpArgs false

/-! ### fairwayref0_CopyNumbers: function 28 -/
def fairwayref0_CopyNumbers.l0 : Nat → List Int → List Int → Int → Option (List Int)
 | 0, _, _, _ => none
 | k + 1, x0, x3, x4 => if x4 < (x0.length : Int) then (if 0 ≤ x4 then (if x3.length < 17592186044416 then (fairwayref0_CopyNumbers.l0 k x0 (x3 ++ [rd x0 x4]) (wrap64 (x4 + 1))) else (none)) else (none)) else (some x3)
def fairwayref0_CopyNumbers.f (k : Nat) (l0 : List Int) : Option (List Int) := fairwayref0_CopyNumbers.l0 k l0 ([] : List Int) 0
theorem fairwayref0_CopyNumbers.mono_l : ∀ k, (∀ y0 y1 y2, LeO (fairwayref0_CopyNumbers.l0 k y0 y1 y2) (fairwayref0_CopyNumbers.l0 (k + 1) y0 y1 y2))
 | 0 => fun _ _ _ r h => by simp [fairwayref0_CopyNumbers.l0] at h
 | k + 1 => by
  have ih0 := fairwayref0_CopyNumbers.mono_l k
  ·intro y0 y1 y2
   unfold fairwayref0_CopyNumbers.l0
   repeat' first
   | (with_reducible exact ih0 _ _ _)
   | (with_reducible exact LeO.refl _)
   | (with_reducible exact LeO.none _)
   | (with_reducible refine LeO.ite ?_ ?_)
   | (with_reducible refine LeO.bind ?_ (fun _ => ?_))
   | exact ih0 _ _ _
   | exact LeO.none _
   | refine LeO.ite ?_ ?_
   | refine LeO.bind ?_ (fun _ => ?_)
theorem fairwayref0_CopyNumbers.mono : ∀ a0 k, LeO (fairwayref0_CopyNumbers.f k a0) (fairwayref0_CopyNumbers.f (k + 1) a0) := by
 intro a0 k
 have ih0 := fairwayref0_CopyNumbers.mono_l k
 unfold fairwayref0_CopyNumbers.f
 repeat' first
  | (with_reducible exact ih0 _ _ _)
  | (with_reducible exact LeO.refl _)
  | (with_reducible exact LeO.none _)
  | (with_reducible refine LeO.ite ?_ ?_)
  | (with_reducible refine LeO.bind ?_ (fun _ => ?_))
  | exact ih0 _ _ _
  | exact LeO.none _
  | refine LeO.ite ?_ ?_
  | refine LeO.bind ?_ (fun _ => ?_)
set_option maxHeartbeats 8000000 in
set_option maxRecDepth 100000 in
theorem fairwayref0_CopyNumbers.calls (k : Nat) (A0 : Option Addr) (c0 : Nat) (l0 : List Int) (r : List Int) (w : World) (hr0 : Kd.C (Kd.int .i64) w A0 l0.length l0) (hc0 : l0.length ≤ c0) (h : fairwayref0_CopyNumbers.f k l0 = some r) :
 Calls Try.prog 28 #[.slice A0 l0.length c0] w fun e w' => ∃ v0_ : Value, e = .returned (v0_) ∧ Kd.R (Kd.int .i64) 3 w' w.heap.size (fun _ => True) v0_ r ∧ Below w.heap.size w w' := by
 have HR0 := Aside0.mk hr0
 have HC0 := Aside0.mk hc0
 clear hr0 hc0
 have HB := Aside0.mk (Below.refl w.heap.size w)
 have H : (fairwayref0_CopyNumbers.l0 k l0 ([] : List Int) 0) = some r := h
 clear h
 have H' := Aside0.mk H
 clear H
 go_enter Try.func28, Try.ntmps28
 go_wp2
 go_loopg [3, 4] k (fun kq v3 v4 w' => ∃ (x3_1 : List Int) (x4_1 : Int), v4 = .int .i64 x4_1 ∧ Aside0 (fairwayref0_CopyNumbers.l0 kq l0 x3_1 x4_1 = some r) ∧ Aside0 (kq ≤ k) ∧ Aside0 (Kd.R (Kd.int .i64) 3 w' w.heap.size (fun _ => True) v3 x3_1) ∧ Aside0 (Below w.heap.size w w'))
 case atStart => exact ⟨(([] : List Int)), (0), ap, H', ⟨Nat.le_refl _⟩, ⟨by first | exact Kd.R_nil _ _ _ _ _ | exact Kd.N_nil _ _ _ _ _ | exact Kd.V_nil _ _ _ _ _ | exact Kd.Q_nil _ _ _ _ _ | exact Kd.S_nil _ _ _ _ _⟩, ⟨bo⟩⟩
 case round =>
  clear H'
  obtain ⟨x3_1, x4_1, rfl, HA, HK1, HO_3, HB⟩ := hrel
  cases gk with
  | zero => exact absurd HA.out (by simp [fairwayref0_CopyNumbers.l0])
  | succ k1 =>
   have H := HA.out
   clear HA
   simp only [fairwayref0_CopyNumbers.l0] at H
   by_cases c2 : x4_1 < (l0.length : Int)
   ·rw [if_pos c2] at H
    have c2b0 : decide (x4_1 < (l0.length : Int)) = true := decide_eq_true c2
    clear c2
    by_cases c3 : 0 ≤ x4_1
    ·rw [if_pos c3] at H
     have c3b0 : decide (0 ≤ x4_1) = true := decide_eq_true c3
     clear c3
     by_cases c4 : x3_1.length < 17592186044416
     ·rw [if_pos c4] at H
      have LMc4 := Aside0.mk c4
      clear c4
      obtain ⟨y407, hy407⟩ : ∃ y_ : List Int, y_ = (x3_1 ++ [rd l0 x4_1]) := ⟨_, rfl⟩
      replace H : (fairwayref0_CopyNumbers.l0 k1 l0 y407 (wrap64 (x4_1 + 1))) = some r := by first | (rw [hy407]; with_reducible exact H) | (have H2_ := (Option.bind_some _ _).symm.trans H; rw [hy407]; with_reducible exact H2_) | (have H2_ := (Option.bind_some _ _).symm.trans H; with_reducible exact H2_) | with_reducible exact H | (rw [hy407]; exact H) | exact H
      have Ny407 := Aside0.mk hy407
      clear hy407
      have H' := Aside0.mk H
      clear H
      have p406 : 0 ≤ (x4_1 : Int) := od
      have q406 : x4_1 < (l0.length : Int) := od
      obtain ⟨ad406, e406, hx406_0⟩ := Kd.at_int HR0.out x4_1 p406 q406
      cases e406
      replace hx406_0 := cx HB.out hx406_0
      replace p406 := eq_true p406
      replace q406 := eq_true q406
      go_wp2_with (first | ((with_reducible refine gate_builtin (b := .append) (xs := #[.tmp 11, .tmp 16]) rfl ?_); at_builtin; refine Kd.R_append (Kd.int .i64) (w0 := w) w.heap.size rfl (.tmp 11) (.tmp 16) 54 3 (.int .i64 0) 8 rfl Try.underlying54 info3 rfl (by decide) (by omega) u3 x3_1 (rd l0 x4_1) [.int .i64 (rd l0 x4_1)] (fun _ => True) (fun _ => False) rfl rfl ?aP (fun _ hk => hk.elim) ?aF ?aO ?aB ?aS ?aL ?_; (case aP => exact rfl); (case aB => exact bo); (case aF => exact (fun _ _ => trivial)); (case aO => exact (rk HO_3.out)); (case aS => exact (below_size bo)); (case aL => have := LMc4.out; omega); intro v408 w5 ho hb hg hat; rw [← Ny407.out] at ho; have n0_ := Aside0.mk (hb); have n1_ := Aside0.mk (ho); clear HB; clear HO_3; have HB := n0_; have HO409 := n1_; clear n0_ n1_; clear ho hb hg hat))
      go_roundg k1
      case measure => have := HK1.out; omega
      case rel => exact ⟨(y407), (wrap64 (x4_1 + 1)), ap, H', ⟨by have := HK1.out; omega⟩, ⟨by (with_reducible repeat (first | apply Kd.R_alloc | apply Kd.R_drewN | apply Kd.R_drew)); exact HO409.out⟩, ⟨bo⟩⟩
     ·rw [if_neg c4] at H
      exact absurd H (by simp)
    ·rw [if_neg c3] at H
     exact absurd H (by simp)
   ·rw [if_neg c2] at H
    have c2b0 : decide (x4_1 < (l0.length : Int)) = false := decide_eq_false c2
    clear c2
    obtain rfl := Option.some.inj H
    go_wp2
    go_ret
    exact ⟨_, er, by (with_reducible repeat (first | apply Kd.R_alloc | apply Kd.R_drewN | apply Kd.R_drew)); exact HO_3.out, bo⟩

end Go.Proofs.Ytigmekgknhoidaa.P

-- written by a program of the proving session, out of the translation; Lean checks it
namespace Go.Proofs.Ytigmekgknhoidaa.P
open Go.RowKit Go.Proofs.Ytigmekgknhoidaa.Sq Go.Proofs.YtigmekgknhoidaaW.PrintWords Go.Proofs.YtigmekgknhoidaaW.PrintLast Go.Proofs.YtigmekgknhoidaaW.PrintMore
attribute [local go_sem] max2_int min2_int max_two min_two max_three min_three max_four min_four   -- for this text's walks alone
set_option linter.unusedVariables false
set_option linter.unusedSimpArgs false

/-! ### fairwayref17_ID: function 30 -/
def fairwayref17_ID.f (a0 : Int) : Option (Bool) := if a0 ≥ 1 then (some (decide (a0 ≤ 65535))) else (some false)
set_option maxHeartbeats 8000000 in
set_option maxRecDepth 100000 in
theorem fairwayref17_ID.calls (a0 : Int) (r : Bool) (w : World) (h : fairwayref17_ID.f a0 = some r) :
 Calls Try.prog 30 #[.int .i64 a0] w fun e w' => e = .returned (.bool r) ∧ Drawn0 w w' := by
 have H : (if a0 ≥ 1 then (some (decide (a0 ≤ 65535))) else (some false)) = some r := h
 clear h
 by_cases c2 : a0 ≥ 1
 ·rw [if_pos c2] at H
  have c2b0 : decide (1 ≤ a0) = true := decide_eq_true c2
  clear c2
  obtain rfl := Option.some.inj H
  go_enter Try.func30, Try.ntmps30
  go_wp2
  go_ret
  exact ⟨ap, dr⟩
 ·rw [if_neg c2] at H
  have c2b0 : decide (1 ≤ a0) = false := decide_eq_false c2
  clear c2
  obtain rfl := Option.some.inj H
  go_enter Try.func30, Try.ntmps30
  go_wp2
  go_ret
  exact ⟨ap, dr⟩

end Go.Proofs.Ytigmekgknhoidaa.P

-- written by a program of the proving session, out of the translation; Lean checks it
namespace Go.Proofs.Ytigmekgknhoidaa.P
open Go.RowKit Go.Proofs.Ytigmekgknhoidaa.Sq Go.Proofs.YtigmekgknhoidaaW.PrintWords Go.Proofs.YtigmekgknhoidaaW.PrintLast Go.Proofs.YtigmekgknhoidaaW.PrintMore
attribute [local go_sem] max2_int min2_int max_two min_two max_three min_three max_four min_four   -- for this text's walks alone
set_option linter.unusedVariables false
set_option linter.unusedSimpArgs false

/-! ### fairwayref17_Inbox: function 29 -/
def fairwayref17_Inbox.l0 : Nat → List Int → Int → Option (Bool)
 | 0, _, _ => none
 | k + 1, x0, x3 => if x3 < (x0.length : Int) then (if 0 ≤ x3 then ((fairwayref17_ID.f (rd x0 x3)).bind fun t411 => (if t411 = true then (if x3 > 0 then (if 0 ≤ (wrap64 (x3 - 1)) then (if (wrap64 (x3 - 1)) < (x0.length : Int) then (if (rd x0 (wrap64 (x3 - 1))) ≥ (rd x0 x3) then (some false) else (fairwayref17_Inbox.l0 k x0 (wrap64 (x3 + 1)))) else (none)) else (none)) else (fairwayref17_Inbox.l0 k x0 (wrap64 (x3 + 1)))) else (some false))) else (none)) else (some (decide ((x0.length : Int) ≤ 16)))
def fairwayref17_Inbox.f (k : Nat) (l0 : List Int) : Option (Bool) := fairwayref17_Inbox.l0 k l0 0
theorem fairwayref17_Inbox.mono_l : ∀ k, (∀ y0 y1, LeO (fairwayref17_Inbox.l0 k y0 y1) (fairwayref17_Inbox.l0 (k + 1) y0 y1))
 | 0 => fun _ _ r h => by simp [fairwayref17_Inbox.l0] at h
 | k + 1 => by
  have ih0 := fairwayref17_Inbox.mono_l k
  ·intro y0 y1
   unfold fairwayref17_Inbox.l0
   repeat' first
   | (with_reducible exact ih0 _ _)
   | (with_reducible exact LeO.refl _)
   | (with_reducible exact LeO.none _)
   | (with_reducible refine LeO.ite ?_ ?_)
   | (with_reducible refine LeO.bind ?_ (fun _ => ?_))
   | exact ih0 _ _
   | exact LeO.none _
   | refine LeO.ite ?_ ?_
   | refine LeO.bind ?_ (fun _ => ?_)
theorem fairwayref17_Inbox.mono : ∀ a0 k, LeO (fairwayref17_Inbox.f k a0) (fairwayref17_Inbox.f (k + 1) a0) := by
 intro a0 k
 have ih0 := fairwayref17_Inbox.mono_l k
 unfold fairwayref17_Inbox.f
 repeat' first
  | (with_reducible exact ih0 _ _)
  | (with_reducible exact LeO.refl _)
  | (with_reducible exact LeO.none _)
  | (with_reducible refine LeO.ite ?_ ?_)
  | (with_reducible refine LeO.bind ?_ (fun _ => ?_))
  | exact ih0 _ _
  | exact LeO.none _
  | refine LeO.ite ?_ ?_
  | refine LeO.bind ?_ (fun _ => ?_)
set_option maxHeartbeats 8000000 in
set_option maxRecDepth 100000 in
theorem fairwayref17_Inbox.calls (k : Nat) (A0 : Option Addr) (c0 : Nat) (l0 : List Int) (r : Bool) (w : World) (hr0 : Kd.C (Kd.int .i64) w A0 l0.length l0) (hc0 : l0.length ≤ c0) (h : fairwayref17_Inbox.f k l0 = some r) :
 Calls Try.prog 29 #[.slice A0 l0.length c0] w fun e w' => e = .returned (.bool r) ∧ Drawn0 w w' := by
 have HR0 := Aside0.mk hr0
 have HC0 := Aside0.mk hc0
 clear hr0 hc0
 have H : (fairwayref17_Inbox.l0 k l0 0) = some r := h
 clear h
 have H' := Aside0.mk H
 clear H
 go_enter Try.func29, Try.ntmps29
 go_wp2
 repeat (go_quiet (fail); try go_wp2)
 go_loopg [3] k (fun kq v3 w' => ∃ (x3_1 : Int), v3 = .int .i64 x3_1 ∧ Aside0 (fairwayref17_Inbox.l0 kq l0 x3_1 = some r) ∧ Aside0 (kq ≤ k) ∧ Drawn0 w w')
 case atStart => exact ⟨(0), ap, H', ⟨Nat.le_refl _⟩, dr⟩
 case round =>
  clear H'
  obtain ⟨x3_1, rfl, HA, HK1, ⟨m1, rfl⟩⟩ := hrel
  cases gk with
  | zero => exact absurd HA.out (by simp [fairwayref17_Inbox.l0])
  | succ k1 =>
   have H := HA.out
   clear HA
   simp only [fairwayref17_Inbox.l0] at H
   by_cases c2 : x3_1 < (l0.length : Int)
   ·rw [if_pos c2] at H
    have c2b0 : decide (x3_1 < (l0.length : Int)) = true := decide_eq_true c2
    clear c2
    by_cases c3 : 0 ≤ x3_1
    ·rw [if_pos c3] at H
     have c3b0 : decide (0 ≤ x3_1) = true := decide_eq_true c3
     clear c3
     replace H := Option.bind_eq_some_iff.mp H
     obtain ⟨t411, A40, H⟩ := H
     replace H : (if t411 = true then (if x3_1 > 0 then (if 0 ≤ (wrap64 (x3_1 - 1)) then (if (wrap64 (x3_1 - 1)) < (l0.length : Int) then (if (rd l0 (wrap64 (x3_1 - 1))) ≥ (rd l0 x3_1) then (some false) else (fairwayref17_Inbox.l0 k1 l0 (wrap64 (x3_1 + 1)))) else (none)) else (none)) else (fairwayref17_Inbox.l0 k1 l0 (wrap64 (x3_1 + 1)))) else (some false)) = some r := H
     have A4 := Aside0.mk A40
     clear A40
     by_cases c5 : t411 = true
     ·subst c5
      have H1 : (if x3_1 > 0 then (if 0 ≤ (wrap64 (x3_1 - 1)) then (if (wrap64 (x3_1 - 1)) < (l0.length : Int) then (if (rd l0 (wrap64 (x3_1 - 1))) ≥ (rd l0 x3_1) then (some false) else (fairwayref17_Inbox.l0 k1 l0 (wrap64 (x3_1 + 1)))) else (none)) else (none)) else (fairwayref17_Inbox.l0 k1 l0 (wrap64 (x3_1 + 1)))) = some r := by rw [if_pos rfl] at H; exact H
      clear H
      have H := H1
      clear H1
      by_cases c6 : x3_1 > 0
      ·rw [if_pos c6] at H
       have c6b0 : decide (0 < x3_1) = true := decide_eq_true c6
       clear c6
       obtain ⟨ji7, hji7⟩ : ∃ j_ : Int, (wrap64 (x3_1 - 1)) = j_ := ⟨_, rfl⟩
       replace H : (if 0 ≤ (ji7) then (if (ji7) < (l0.length : Int) then (if (rd l0 (ji7)) ≥ (rd l0 x3_1) then (some false) else (fairwayref17_Inbox.l0 k1 l0 (wrap64 (x3_1 + 1)))) else (none)) else (none)) = some r := by first | (rw [hji7] at H; exact H) | (simp only [hji7] at H ⊢; exact H)
       (try rw [hji7] at A4)
       have hji7w : (IntKind.i64.wrap (x3_1 - 1)) = ji7 := (i64_w _).trans hji7
       by_cases c8 : 0 ≤ (ji7)
       ·rw [if_pos c8] at H
        have c8b0 : decide (0 ≤ (ji7)) = true := decide_eq_true c8
        clear c8
        by_cases c9 : (ji7) < (l0.length : Int)
        ·rw [if_pos c9] at H
         have c9b0 : decide ((ji7) < (l0.length : Int)) = true := decide_eq_true c9
         clear c9
         by_cases c10 : (rd l0 (ji7)) ≥ (rd l0 x3_1)
         ·rw [if_pos c10] at H
          have c10b0 : decide ((rd l0 x3_1) ≤ (rd l0 (ji7))) = true := decide_eq_true c10
          clear c10
          obtain rfl := Option.some.inj H
          have p410 : 0 ≤ (x3_1 : Int) := od
          have q410 : x3_1 < (l0.length : Int) := od
          obtain ⟨ad410, e410, hx410_0⟩ := Kd.at_int HR0.out x3_1 p410 q410
          cases e410
          replace p410 := eq_true p410
          replace q410 := eq_true q410
          go_wp2_with (first | (go_at_call 30; (with_reducible refine (fairwayref17_ID.calls (rd l0 x3_1) true _ A4.out).mono ?_); rintro e w' ⟨rfl, ⟨nd, rfl⟩⟩; (try first | exact ⟨rfl, _, World.drewN_drewN _ _ _⟩ | exact ⟨rfl, _, Eq.trans (World.drewN_drewN _ _ _) (congrArg (World.drewN _) (Nat.add_assoc _ _ _))⟩); have p412 : 0 ≤ ((ji7) : Int) := od; have q412 : (ji7) < (l0.length : Int) := od; obtain ⟨ad412, e412, hx412_0⟩ := Kd.at_int HR0.out (ji7) p412 q412; obtain rfl : ad410 = ad412 := (by injection e412); replace p412 := eq_true p412; replace q412 := eq_true q412; have p413 : 0 ≤ (x3_1 : Int) := od; have q413 : x3_1 < (l0.length : Int) := od; obtain ⟨ad413, e413, hx413_0⟩ := Kd.at_int HR0.out x3_1 p413 q413; obtain rfl : ad410 = ad413 := (by injection e413); replace p413 := eq_true p413; replace q413 := eq_true q413))
          repeat (go_quiet (first | (go_at_call 30; (with_reducible refine (fairwayref17_ID.calls (rd l0 x3_1) true _ A4.out).mono ?_); rintro e w' ⟨rfl, ⟨nd, rfl⟩⟩; (try first | exact ⟨rfl, _, World.drewN_drewN _ _ _⟩ | exact ⟨rfl, _, Eq.trans (World.drewN_drewN _ _ _) (congrArg (World.drewN _) (Nat.add_assoc _ _ _))⟩); have p412 : 0 ≤ ((ji7) : Int) := od; have q412 : (ji7) < (l0.length : Int) := od; obtain ⟨ad412, e412, hx412_0⟩ := Kd.at_int HR0.out (ji7) p412 q412; obtain rfl : ad410 = ad412 := (by injection e412); replace p412 := eq_true p412; replace q412 := eq_true q412; have p413 : 0 ≤ (x3_1 : Int) := od; have q413 : x3_1 < (l0.length : Int) := od; obtain ⟨ad413, e413, hx413_0⟩ := Kd.at_int HR0.out x3_1 p413 q413; obtain rfl : ad410 = ad413 := (by injection e413); replace p413 := eq_true p413; replace q413 := eq_true q413)); try go_wp2_with (first | (go_at_call 30; (with_reducible refine (fairwayref17_ID.calls (rd l0 x3_1) true _ A4.out).mono ?_); rintro e w' ⟨rfl, ⟨nd, rfl⟩⟩; (try first | exact ⟨rfl, _, World.drewN_drewN _ _ _⟩ | exact ⟨rfl, _, Eq.trans (World.drewN_drewN _ _ _) (congrArg (World.drewN _) (Nat.add_assoc _ _ _))⟩); have p412 : 0 ≤ ((ji7) : Int) := od; have q412 : (ji7) < (l0.length : Int) := od; obtain ⟨ad412, e412, hx412_0⟩ := Kd.at_int HR0.out (ji7) p412 q412; obtain rfl : ad410 = ad412 := (by injection e412); replace p412 := eq_true p412; replace q412 := eq_true q412; have p413 : 0 ≤ (x3_1 : Int) := od; have q413 : x3_1 < (l0.length : Int) := od; obtain ⟨ad413, e413, hx413_0⟩ := Kd.at_int HR0.out x3_1 p413 q413; obtain rfl : ad410 = ad413 := (by injection e413); replace p413 := eq_true p413; replace q413 := eq_true q413)))
          go_ret
          exact ⟨by first | rfl | (simp; done) | (simp only [← hji7] <;> (first | rfl | simp)) | (simp [*]; done), dr⟩
         ·rw [if_neg c10] at H
          have c10b0 : decide ((rd l0 x3_1) ≤ (rd l0 (ji7))) = false := decide_eq_false c10
          clear c10
          have H' := Aside0.mk H
          clear H
          have p410 : 0 ≤ (x3_1 : Int) := od
          have q410 : x3_1 < (l0.length : Int) := od
          obtain ⟨ad410, e410, hx410_0⟩ := Kd.at_int HR0.out x3_1 p410 q410
          cases e410
          replace p410 := eq_true p410
          replace q410 := eq_true q410
          go_wp2_with (first | (go_at_call 30; (with_reducible refine (fairwayref17_ID.calls (rd l0 x3_1) true _ A4.out).mono ?_); rintro e w' ⟨rfl, ⟨nd, rfl⟩⟩; (try first | exact ⟨rfl, _, World.drewN_drewN _ _ _⟩ | exact ⟨rfl, _, Eq.trans (World.drewN_drewN _ _ _) (congrArg (World.drewN _) (Nat.add_assoc _ _ _))⟩); have p412 : 0 ≤ ((ji7) : Int) := od; have q412 : (ji7) < (l0.length : Int) := od; obtain ⟨ad412, e412, hx412_0⟩ := Kd.at_int HR0.out (ji7) p412 q412; obtain rfl : ad410 = ad412 := (by injection e412); replace p412 := eq_true p412; replace q412 := eq_true q412; have p413 : 0 ≤ (x3_1 : Int) := od; have q413 : x3_1 < (l0.length : Int) := od; obtain ⟨ad413, e413, hx413_0⟩ := Kd.at_int HR0.out x3_1 p413 q413; obtain rfl : ad410 = ad413 := (by injection e413); replace p413 := eq_true p413; replace q413 := eq_true q413))
          repeat (go_quiet (first | (go_at_call 30; (with_reducible refine (fairwayref17_ID.calls (rd l0 x3_1) true _ A4.out).mono ?_); rintro e w' ⟨rfl, ⟨nd, rfl⟩⟩; (try first | exact ⟨rfl, _, World.drewN_drewN _ _ _⟩ | exact ⟨rfl, _, Eq.trans (World.drewN_drewN _ _ _) (congrArg (World.drewN _) (Nat.add_assoc _ _ _))⟩); have p412 : 0 ≤ ((ji7) : Int) := od; have q412 : (ji7) < (l0.length : Int) := od; obtain ⟨ad412, e412, hx412_0⟩ := Kd.at_int HR0.out (ji7) p412 q412; obtain rfl : ad410 = ad412 := (by injection e412); replace p412 := eq_true p412; replace q412 := eq_true q412; have p413 : 0 ≤ (x3_1 : Int) := od; have q413 : x3_1 < (l0.length : Int) := od; obtain ⟨ad413, e413, hx413_0⟩ := Kd.at_int HR0.out x3_1 p413 q413; obtain rfl : ad410 = ad413 := (by injection e413); replace p413 := eq_true p413; replace q413 := eq_true q413)); try go_wp2_with (first | (go_at_call 30; (with_reducible refine (fairwayref17_ID.calls (rd l0 x3_1) true _ A4.out).mono ?_); rintro e w' ⟨rfl, ⟨nd, rfl⟩⟩; (try first | exact ⟨rfl, _, World.drewN_drewN _ _ _⟩ | exact ⟨rfl, _, Eq.trans (World.drewN_drewN _ _ _) (congrArg (World.drewN _) (Nat.add_assoc _ _ _))⟩); have p412 : 0 ≤ ((ji7) : Int) := od; have q412 : (ji7) < (l0.length : Int) := od; obtain ⟨ad412, e412, hx412_0⟩ := Kd.at_int HR0.out (ji7) p412 q412; obtain rfl : ad410 = ad412 := (by injection e412); replace p412 := eq_true p412; replace q412 := eq_true q412; have p413 : 0 ≤ (x3_1 : Int) := od; have q413 : x3_1 < (l0.length : Int) := od; obtain ⟨ad413, e413, hx413_0⟩ := Kd.at_int HR0.out x3_1 p413 q413; obtain rfl : ad410 = ad413 := (by injection e413); replace p413 := eq_true p413; replace q413 := eq_true q413)))
          go_roundg k1
          case measure => have := HK1.out; omega
          case rel => exact ⟨(wrap64 (x3_1 + 1)), ap, H', ⟨by have := HK1.out; omega⟩, dr⟩
        ·rw [if_neg c9] at H
         exact absurd H (by simp)
       ·rw [if_neg c8] at H
        exact absurd H (by simp)
      ·rw [if_neg c6] at H
       have c6b0 : decide (0 < x3_1) = false := decide_eq_false c6
       clear c6
       have H' := Aside0.mk H
       clear H
       have p410 : 0 ≤ (x3_1 : Int) := od
       have q410 : x3_1 < (l0.length : Int) := od
       obtain ⟨ad410, e410, hx410_0⟩ := Kd.at_int HR0.out x3_1 p410 q410
       cases e410
       replace p410 := eq_true p410
       replace q410 := eq_true q410
       go_wp2_with (first | (go_at_call 30; (with_reducible refine (fairwayref17_ID.calls (rd l0 x3_1) true _ A4.out).mono ?_); rintro e w' ⟨rfl, ⟨nd, rfl⟩⟩; (try first | exact ⟨rfl, _, World.drewN_drewN _ _ _⟩ | exact ⟨rfl, _, Eq.trans (World.drewN_drewN _ _ _) (congrArg (World.drewN _) (Nat.add_assoc _ _ _))⟩)))
       repeat (go_quiet (first | (go_at_call 30; (with_reducible refine (fairwayref17_ID.calls (rd l0 x3_1) true _ A4.out).mono ?_); rintro e w' ⟨rfl, ⟨nd, rfl⟩⟩; (try first | exact ⟨rfl, _, World.drewN_drewN _ _ _⟩ | exact ⟨rfl, _, Eq.trans (World.drewN_drewN _ _ _) (congrArg (World.drewN _) (Nat.add_assoc _ _ _))⟩))); try go_wp2_with (first | (go_at_call 30; (with_reducible refine (fairwayref17_ID.calls (rd l0 x3_1) true _ A4.out).mono ?_); rintro e w' ⟨rfl, ⟨nd, rfl⟩⟩; (try first | exact ⟨rfl, _, World.drewN_drewN _ _ _⟩ | exact ⟨rfl, _, Eq.trans (World.drewN_drewN _ _ _) (congrArg (World.drewN _) (Nat.add_assoc _ _ _))⟩))))
       go_roundg k1
       case measure => have := HK1.out; omega
       case rel => exact ⟨(wrap64 (x3_1 + 1)), ap, H', ⟨by have := HK1.out; omega⟩, dr⟩
     ·replace c5 := Bool.eq_false_iff.mpr c5
      subst c5
      have H1 : (some false) = some r := by rw [if_neg (show ¬ (false = true) by decide)] at H; exact H
      clear H
      have H := H1
      clear H1
      obtain rfl := Option.some.inj H
      have p410 : 0 ≤ (x3_1 : Int) := od
      have q410 : x3_1 < (l0.length : Int) := od
      obtain ⟨ad410, e410, hx410_0⟩ := Kd.at_int HR0.out x3_1 p410 q410
      cases e410
      replace p410 := eq_true p410
      replace q410 := eq_true q410
      go_wp2_with (first | (go_at_call 30; (with_reducible refine (fairwayref17_ID.calls (rd l0 x3_1) false _ A4.out).mono ?_); rintro e w' ⟨rfl, ⟨nd, rfl⟩⟩; (try first | exact ⟨rfl, _, World.drewN_drewN _ _ _⟩ | exact ⟨rfl, _, Eq.trans (World.drewN_drewN _ _ _) (congrArg (World.drewN _) (Nat.add_assoc _ _ _))⟩)))
      repeat (go_quiet (first | (go_at_call 30; (with_reducible refine (fairwayref17_ID.calls (rd l0 x3_1) false _ A4.out).mono ?_); rintro e w' ⟨rfl, ⟨nd, rfl⟩⟩; (try first | exact ⟨rfl, _, World.drewN_drewN _ _ _⟩ | exact ⟨rfl, _, Eq.trans (World.drewN_drewN _ _ _) (congrArg (World.drewN _) (Nat.add_assoc _ _ _))⟩))); try go_wp2_with (first | (go_at_call 30; (with_reducible refine (fairwayref17_ID.calls (rd l0 x3_1) false _ A4.out).mono ?_); rintro e w' ⟨rfl, ⟨nd, rfl⟩⟩; (try first | exact ⟨rfl, _, World.drewN_drewN _ _ _⟩ | exact ⟨rfl, _, Eq.trans (World.drewN_drewN _ _ _) (congrArg (World.drewN _) (Nat.add_assoc _ _ _))⟩))))
      go_ret
      exact ⟨ap, dr⟩
    ·rw [if_neg c3] at H
     exact absurd H (by simp)
   ·rw [if_neg c2] at H
    have c2b0 : decide (x3_1 < (l0.length : Int)) = false := decide_eq_false c2
    clear c2
    obtain rfl := Option.some.inj H
    go_wp2
    repeat (go_quiet (fail); try go_wp2)
    go_ret
    exact ⟨ap, dr⟩

end Go.Proofs.Ytigmekgknhoidaa.P

-- written by a program of the proving session, out of the translation; Lean checks it
namespace Go.Proofs.Ytigmekgknhoidaa.P
open Go.RowKit Go.Proofs.Ytigmekgknhoidaa.Sq Go.Proofs.YtigmekgknhoidaaW.PrintWords Go.Proofs.YtigmekgknhoidaaW.PrintLast Go.Proofs.YtigmekgknhoidaaW.PrintMore
attribute [local go_sem] max2_int min2_int max_two min_two max_three min_three max_four min_four   -- for this text's walks alone
set_option linter.unusedVariables false
set_option linter.unusedSimpArgs false

/-! ### fairwayref0_In: function 54 -/
def fairwayref0_In.l0 : Nat → List Int → Int → Int → Option (Int)
 | 0, _, _, _ => none
 | k + 1, x0, x1, x5 => if x5 < (x0.length : Int) then (if 0 ≤ x5 then (if (rd x0 x5) = x1 then (some x5) else (fairwayref0_In.l0 k x0 x1 (wrap64 (x5 + 1)))) else (none)) else (some (-1))
def fairwayref0_In.f (k : Nat) (l0 : List Int) (a1 : Int) : Option (Int) := fairwayref0_In.l0 k l0 a1 0
theorem fairwayref0_In.mono_l : ∀ k, (∀ y0 y1 y2, LeO (fairwayref0_In.l0 k y0 y1 y2) (fairwayref0_In.l0 (k + 1) y0 y1 y2))
 | 0 => fun _ _ _ r h => by simp [fairwayref0_In.l0] at h
 | k + 1 => by
  have ih0 := fairwayref0_In.mono_l k
  ·intro y0 y1 y2
   unfold fairwayref0_In.l0
   repeat' first
   | (with_reducible exact ih0 _ _ _)
   | (with_reducible exact LeO.refl _)
   | (with_reducible exact LeO.none _)
   | (with_reducible refine LeO.ite ?_ ?_)
   | (with_reducible refine LeO.bind ?_ (fun _ => ?_))
   | exact ih0 _ _ _
   | exact LeO.none _
   | refine LeO.ite ?_ ?_
   | refine LeO.bind ?_ (fun _ => ?_)
theorem fairwayref0_In.mono : ∀ a0 a1 k, LeO (fairwayref0_In.f k a0 a1) (fairwayref0_In.f (k + 1) a0 a1) := by
 intro a0 a1 k
 have ih0 := fairwayref0_In.mono_l k
 unfold fairwayref0_In.f
 repeat' first
  | (with_reducible exact ih0 _ _ _)
  | (with_reducible exact LeO.refl _)
  | (with_reducible exact LeO.none _)
  | (with_reducible refine LeO.ite ?_ ?_)
  | (with_reducible refine LeO.bind ?_ (fun _ => ?_))
  | exact ih0 _ _ _
  | exact LeO.none _
  | refine LeO.ite ?_ ?_
  | refine LeO.bind ?_ (fun _ => ?_)
set_option maxHeartbeats 8000000 in
set_option maxRecDepth 100000 in
theorem fairwayref0_In.calls (k : Nat) (A0 : Option Addr) (c0 : Nat) (l0 : List Int) (a1 : Int) (r : Int) (w : World) (hr0 : Kd.C (Kd.int .i64) w A0 l0.length l0) (hc0 : l0.length ≤ c0) (h : fairwayref0_In.f k l0 a1 = some r) :
 Calls Try.prog 54 #[.slice A0 l0.length c0, .int .i64 a1] w fun e w' => e = .returned (.int .i64 r) ∧ Drawn0 w w' := by
 have HR0 := Aside0.mk hr0
 have HC0 := Aside0.mk hc0
 clear hr0 hc0
 have H : (fairwayref0_In.l0 k l0 a1 0) = some r := h
 clear h
 have H' := Aside0.mk H
 clear H
 go_enter Try.func54, Try.ntmps54
 go_wp2
 go_loopg [5] k (fun kq v5 w' => ∃ (x5_1 : Int), v5 = .int .i64 x5_1 ∧ Aside0 (fairwayref0_In.l0 kq l0 a1 x5_1 = some r) ∧ Aside0 (kq ≤ k) ∧ Drawn0 w w')
 case atStart => exact ⟨(0), ap, H', ⟨Nat.le_refl _⟩, dr⟩
 case round =>
  clear H'
  try clear p2
  obtain ⟨x5_1, rfl, HA, HK1, ⟨m1, rfl⟩⟩ := hrel
  cases gk with
  | zero => exact absurd HA.out (by simp [fairwayref0_In.l0])
  | succ k1 =>
   have H := HA.out
   clear HA
   simp only [fairwayref0_In.l0] at H
   by_cases c3 : x5_1 < (l0.length : Int)
   ·rw [if_pos c3] at H
    have c3b0 : decide (x5_1 < (l0.length : Int)) = true := decide_eq_true c3
    clear c3
    by_cases c4 : 0 ≤ x5_1
    ·rw [if_pos c4] at H
     have c4b0 : decide (0 ≤ x5_1) = true := decide_eq_true c4
     clear c4
     by_cases c5 : (rd l0 x5_1) = a1
     ·rw [if_pos c5] at H
      have c5b0 : ((rd l0 x5_1) == a1) = true := beq_iff_eq.mpr c5
      have c5b1 : ((rd l0 x5_1) != a1) = false := bne_eq_false_iff_eq.mpr c5
      clear c5
      obtain rfl := Option.some.inj H
      have p414 : 0 ≤ (x5_1 : Int) := od
      have q414 : x5_1 < (l0.length : Int) := od
      obtain ⟨ad414, e414, hx414_0⟩ := Kd.at_int HR0.out x5_1 p414 q414
      cases e414
      replace p414 := eq_true p414
      replace q414 := eq_true q414
      go_wp2
      go_ret
      exact ⟨ap, dr⟩
     ·rw [if_neg c5] at H
      have c5b0 : ((rd l0 x5_1) == a1) = false := beq_eq_false_iff_ne.mpr c5
      have c5b1 : ((rd l0 x5_1) != a1) = true := bne_iff_ne.mpr c5
      have H' := Aside0.mk H
      clear H
      have p414 : 0 ≤ (x5_1 : Int) := od
      have q414 : x5_1 < (l0.length : Int) := od
      obtain ⟨ad414, e414, hx414_0⟩ := Kd.at_int HR0.out x5_1 p414 q414
      cases e414
      replace p414 := eq_true p414
      replace q414 := eq_true q414
      go_wp2
      go_roundg k1
      case measure => have := HK1.out; omega
      case rel => exact ⟨(wrap64 (x5_1 + 1)), ap, H', ⟨by have := HK1.out; omega⟩, dr⟩
    ·rw [if_neg c4] at H
     exact absurd H (by simp)
   ·rw [if_neg c3] at H
    have c3b0 : decide (x5_1 < (l0.length : Int)) = false := decide_eq_false c3
    clear c3
    obtain rfl := Option.some.inj H
    go_wp2
    go_ret
    exact ⟨ap, dr⟩

end Go.Proofs.Ytigmekgknhoidaa.P

-- written by a program of the proving session, out of the translation; Lean checks it
namespace Go.Proofs.Ytigmekgknhoidaa.P
open Go.RowKit Go.Proofs.Ytigmekgknhoidaa.Sq Go.Proofs.YtigmekgknhoidaaW.PrintWords Go.Proofs.YtigmekgknhoidaaW.PrintLast Go.Proofs.YtigmekgknhoidaaW.PrintMore
attribute [local go_sem] max2_int min2_int max_two min_two max_three min_three max_four min_four   -- for this text's walks alone
set_option linter.unusedVariables false
set_option linter.unusedSimpArgs false

/-! ### fairwayref17_End: function 31 -/
def fairwayref17_End.f (k : Nat) (l0 : List Int) (a1 : Int) : Option (List Int × Bool) := (fairwayref0_In.f k l0 a1).bind fun t415 => (if t415 < 0 then (some (([] : List Int), false)) else (if 0 ≤ t415 then (if t415 ≤ (l0.length : Int) then ((fairwayref0_CopyNumbers.f k (l0.take (t415 : Int).toNat)).bind fun t417 => (if 0 ≤ (wrap64 (t415 + 1)) then (if (wrap64 (t415 + 1)) ≤ (l0.length : Int) then (if t417.length + (l0.drop ((wrap64 (t415 + 1)) : Int).toNat).length < 17592186044416 then (some ((t417 ++ (l0.drop ((wrap64 (t415 + 1)) : Int).toNat)), true)) else (none)) else (none)) else (none))) else (none)) else (none)))
theorem fairwayref17_End.mono : ∀ a0 a1 k, LeO (fairwayref17_End.f k a0 a1) (fairwayref17_End.f (k + 1) a0 a1) := by
 intro a0 a1 k
 unfold fairwayref17_End.f
 repeat' first
  | (with_reducible exact fairwayref0_CopyNumbers.mono _ _)
  | (with_reducible exact fairwayref0_In.mono _ _ _)
  | (with_reducible exact LeO.refl _)
  | (with_reducible exact LeO.none _)
  | (with_reducible refine LeO.ite ?_ ?_)
  | (with_reducible refine LeO.bind ?_ (fun _ => ?_))
  | exact fairwayref0_CopyNumbers.mono _ _
  | exact fairwayref0_In.mono _ _ _
  | exact LeO.none _
  | refine LeO.ite ?_ ?_
  | refine LeO.bind ?_ (fun _ => ?_)
def fairwayref17_End.T4 : Bool × List (List Nat × List Nat) := (true, [([], []), ([], []), ([0, 1], [0, 1]), ([2], [2]), ([], []), ([], []), ([5], [5]), ([4, 6], [4, 6]), ([3, 7, 3], [3, 7]), ([8, 8, 0, 1, 2, 3, 4, 5, 6, 7, 8], [8]), ([9, 0, 1, 2, 3, 4, 5, 6, 7, 8, 9], [])])
def fairwayref17_End.B4 : List Nat := [0, 0, 3, 7, 0, 0, 32, 112, 255, 511, 1023]
theorem fairwayref17_End.tab4 : rtab .any (opsOf Try.f31 4) = fairwayref17_End.T4 := by kernel_rfl
theorem fairwayref17_End.bits4 : waitsOk fairwayref17_End.T4.2 fairwayref17_End.B4 = true := by kernel_rfl
set_option maxHeartbeats 8000000 in
set_option maxRecDepth 100000 in
theorem fairwayref17_End.calls (k : Nat) (A0 : Option Addr) (c0 : Nat) (l0 : List Int) (a1 : Int) (r1 : List Int) (r2 : Bool) (w : World) (hr0 : Kd.C (Kd.int .i64) w A0 l0.length l0) (hc0 : l0.length ≤ c0) (h : fairwayref17_End.f k l0 a1 = some (r1, r2)) :
 Calls Try.prog 31 #[.slice A0 l0.length c0, .int .i64 a1] w fun e w' => ∃ v0_ : Value, e = .returned (.tuple #[v0_, .bool r2]) ∧ Kd.R (Kd.int .i64) 3 w' w.heap.size (fun _ => True) v0_ r1 ∧ Below w.heap.size w w' := by
 have HR0 := Aside0.mk hr0
 have HC0 := Aside0.mk hc0
 clear hr0 hc0
 have HB := Aside0.mk (Below.refl w.heap.size w)
 have H : ((fairwayref0_In.f k l0 a1).bind fun t415 => (if t415 < 0 then (some (([] : List Int), false)) else (if 0 ≤ t415 then (if t415 ≤ (l0.length : Int) then ((fairwayref0_CopyNumbers.f k (l0.take (t415 : Int).toNat)).bind fun t417 => (if 0 ≤ (wrap64 (t415 + 1)) then (if (wrap64 (t415 + 1)) ≤ (l0.length : Int) then (if t417.length + (l0.drop ((wrap64 (t415 + 1)) : Int).toNat).length < 17592186044416 then (some ((t417 ++ (l0.drop ((wrap64 (t415 + 1)) : Int).toNat)), true)) else (none)) else (none)) else (none))) else (none)) else (none)))) = some (r1, r2) := h
 clear h
 replace H := Option.bind_eq_some_iff.mp H
 obtain ⟨t415, A30, H⟩ := H
 replace H : (if t415 < 0 then (some (([] : List Int), false)) else (if 0 ≤ t415 then (if t415 ≤ (l0.length : Int) then ((fairwayref0_CopyNumbers.f k (l0.take (t415 : Int).toNat)).bind fun t417 => (if 0 ≤ (wrap64 (t415 + 1)) then (if (wrap64 (t415 + 1)) ≤ (l0.length : Int) then (if t417.length + (l0.drop ((wrap64 (t415 + 1)) : Int).toNat).length < 17592186044416 then (some ((t417 ++ (l0.drop ((wrap64 (t415 + 1)) : Int).toNat)), true)) else (none)) else (none)) else (none))) else (none)) else (none))) = some (r1, r2) := H
 have A3 := Aside0.mk A30
 clear A30
 by_cases c4 : t415 < 0
 ·rw [if_pos c4] at H
  have c4b0 : decide (t415 < 0) = true := decide_eq_true c4
  clear c4
  simp only [Option.some.injEq, Prod.mk.injEq] at H
  obtain ⟨rfl, rfl⟩ := H
  go_enter Try.func31, Try.ntmps31
  go_wp2_with (first | ((with_reducible refine gate_callee (f := 54) rfl ?_); refine goesL_ (some 9) rfl rfl Try.func54 (by kernel_rfl) rfl #[.slice A0 l0.length c0, .int .i64 a1] rfl aa ?_; (with_reducible refine (fairwayref0_In.calls k _ _ l0 a1 t415 _ ?side1 ?side2 A3.out).mono ?_); (case side1 => repeat (first | exact HR0.out | (with_reducible refine Kd.C_alloc ?_ _) | (with_reducible refine Kd.C_drewN ?_ _) | (with_reducible refine Kd.C_drew ?_))); (case side2 => exact HC0.out); rintro e w' ⟨rfl, ⟨nd, rfl⟩⟩; refine ⟨_, rfl, ?_⟩))
  go_ret2
  exact ⟨_, er, by first | exact Kd.R_nil _ _ _ _ _ | exact Kd.N_nil _ _ _ _ _ | exact Kd.V_nil _ _ _ _ _ | exact Kd.Q_nil _ _ _ _ _ | exact Kd.S_nil _ _ _ _ _, bo⟩
 ·rw [if_neg c4] at H
  have c4b0 : decide (t415 < 0) = false := decide_eq_false c4
  clear c4
  by_cases c5 : 0 ≤ t415
  ·rw [if_pos c5] at H
   have c5b0 := eq_true c5
   have c5b1 : decide (0 ≤ t415) = true := decide_eq_true c5
   clear c5
   by_cases c6 : t415 ≤ (l0.length : Int)
   ·rw [if_pos c6] at H
    have c6b0 := eq_true c6
    have c6b1 : decide (t415 ≤ (l0.length : Int)) = true := decide_eq_true c6
    clear c6
    replace H := Option.bind_eq_some_iff.mp H
    obtain ⟨t417, A70, H⟩ := H
    replace H : (if 0 ≤ (wrap64 (t415 + 1)) then (if (wrap64 (t415 + 1)) ≤ (l0.length : Int) then (if t417.length + (l0.drop ((wrap64 (t415 + 1)) : Int).toNat).length < 17592186044416 then (some ((t417 ++ (l0.drop ((wrap64 (t415 + 1)) : Int).toNat)), true)) else (none)) else (none)) else (none)) = some (r1, r2) := H
    have A7 := Aside0.mk A70
    clear A70
    obtain ⟨ji8, hji8⟩ : ∃ j_ : Int, (wrap64 (t415 + 1)) = j_ := ⟨_, rfl⟩
    replace H : (if 0 ≤ (ji8) then (if (ji8) ≤ (l0.length : Int) then (if t417.length + (l0.drop ((ji8) : Int).toNat).length < 17592186044416 then (some ((t417 ++ (l0.drop ((ji8) : Int).toNat)), true)) else (none)) else (none)) else (none)) = some (r1, r2) := by first | (rw [hji8] at H; exact H) | (simp only [hji8] at H ⊢; exact H)
    (try rw [hji8] at A3)
    (try rw [hji8] at A7)
    have hji8w : (IntKind.i64.wrap (t415 + 1)) = ji8 := (i64_w _).trans hji8
    by_cases c9 : 0 ≤ (ji8)
    ·rw [if_pos c9] at H
     have c9b0 := eq_true c9
     have c9b1 : decide (0 ≤ (ji8)) = true := decide_eq_true c9
     clear c9
     by_cases c10 : (ji8) ≤ (l0.length : Int)
     ·rw [if_pos c10] at H
      have c10b0 := eq_true c10
      have c10b1 : decide ((ji8) ≤ (l0.length : Int)) = true := decide_eq_true c10
      clear c10
      by_cases c11 : t417.length + (l0.drop ((ji8) : Int).toNat).length < 17592186044416
      ·rw [if_pos c11] at H
       have LMc11 := Aside0.mk c11
       clear c11
       obtain ⟨y421, hy421⟩ : ∃ y_ : List Int, y_ = (t417 ++ (l0.drop ((ji8) : Int).toNat)) := ⟨_, rfl⟩
       replace H : (some (y421, true)) = some (r1, r2) := by first | (rw [hy421]; with_reducible exact H) | (have H2_ := (Option.bind_some _ _).symm.trans H; rw [hy421]; with_reducible exact H2_) | (have H2_ := (Option.bind_some _ _).symm.trans H; with_reducible exact H2_) | with_reducible exact H | (rw [hy421]; exact H) | exact H
       have Ny421 := Aside0.mk hy421
       clear hy421
       simp only [Option.some.injEq, Prod.mk.injEq] at H
       obtain ⟨rfl, rfl⟩ := H
       go_enter Try.func31, Try.ntmps31
       try go_wp2_with (first | ((with_reducible refine gate_callee (f := 54) rfl ?_); refine goesL_ (some 9) rfl rfl Try.func54 (by kernel_rfl) rfl #[.slice A0 l0.length c0, .int .i64 a1] rfl aa ?_; (with_reducible refine (fairwayref0_In.calls k _ _ l0 a1 t415 _ ?side1 ?side2 A3.out).mono ?_); (case side1 => repeat (first | exact HR0.out | (with_reducible refine Kd.C_alloc ?_ _) | (with_reducible refine Kd.C_drewN ?_ _) | (with_reducible refine Kd.C_drew ?_))); (case side2 => exact HC0.out); rintro e w' ⟨rfl, ⟨nd, rfl⟩⟩; refine ⟨_, rfl, ?_⟩))
       replace HB := Aside0.mk (below_drew1 HB.out)
       obtain ⟨i013, hi013, _, hsz13, _⟩ := info_parts info3
       obtain ⟨hcut13, hA13, hC13⟩ := print_take_of (P := Try.prog) (Value.int .i64) 0 54 3 .i64 Try.underlying54 hi013 hsz13 A0 c0 l0 t415 (od) (od) HC0.out
       have HR416 := Aside0.mk (Kd.C_of_reads (h1 := fun _ => rfl) (hA13 _ (Kd.reads_of_C HR0.out)))
       have HC416 := Aside0.mk hC13
       clear hA13 hC13 hi013 hsz13
       obtain ⟨i014, hi014, _, hsz14, _⟩ := info_parts info3
       obtain ⟨A14, hcut14, hA14, hC14⟩ := print_drop_of (P := Try.prog) (Value.int .i64) 0 54 3 .i64 Try.underlying54 hi014 hsz14 A0 c0 l0 (ji8) (od) (od) HC0.out
       have HR420 := Aside0.mk (Kd.C_of_reads (h1 := fun _ => rfl) (hA14 _ (Kd.reads_of_C HR0.out)))
       have HC420 := Aside0.mk hC14
       clear hA14 hC14 hi014 hsz14
       refine start_ (n := 11) (S := fun w' => True) (ds := []) #[O,O,O,O,O,O,O,O,O,O,O] (by kernel_rfl) rfl rfl trivial (fun hHeld => ?_); refine with_tabW fairwayref17_End.tab4 fairwayref17_End.bits4 (fun HT_ HW_ => ?_)
       generalize hq_ : World.drew (World.drewN w _) = w12 at hHeld ⊢; replace HB : Aside0 (Below w.heap.size w w12) := ⟨by rw [← hq_]; exact below_drew1 (pw_below_drewN (Below.refl _ _) _)⟩; clear hq_
       refine pz (i := 0) (N := some 12) #[I,O,O,O,O,O,O,O,O,O,O] ?_
       refine pz (i := 1) (N := some 13) #[I,I,O,O,O,O,O,O,O,O,O] ?_
       refine pz (i := 2) (N := some 14) #[I,I,I,O,O,O,O,O,O,O,O] ?_
       refine pz (i := 4) (N := some 16) #[I,I,I,O,I,O,O,O,O,O,O] ?_
       refine pz (i := 5) (N := some 17) #[I,I,I,O,I,I,O,O,O,O,O] ?_
       refine pz (i := 6) (N := some 18) #[I,I,I,O,I,I,I,O,O,O,O] ?_
       refine pz (i := 7) (N := some 19) #[I,I,I,O,I,I,I,I,O,O,O] ?_
       refine one_ (i := 3) (N := some 15) #[I,I,I,I,I,I,I,I,O,O,O] rfl rfl (one_of HT_.out (by kernel_rfl)) (by decide) (fun K hK => ?_)
       refine goes_ Try.func28 (by kernel_rfl) rfl #[.slice A0 (l0.take (t415 : Int).toNat).length c0] (by rfl) rfl rfl (by (try simp only [List.map_toArray, List.map_cons, List.map_nil]); first | done | (rw [show (l0.take (t415 : Int).toNat).length = t415.toNat from (by rw [List.length_take]; have h_ : (t415 : Int) ≤ (l0.length : Int) := od; omega)] <;> rfl) | rfl | (simp only [List.length_drop, List.length_take]; rfl) | (simp only [ByteArray.size_append]; rfl) | (simp; done)) ?_
       with_reducible refine (fairwayref0_CopyNumbers.calls k _ _ (l0.take (t415 : Int).toNat) t417 _ ?side1 ?side2 A7.out).mono ?_
       (case side1 => repeat (first | exact (Kd.C_below HR416.out HB.out) | (with_reducible refine Kd.C_alloc ?_ _) | (with_reducible refine Kd.C_drewN ?_ _) | (with_reducible refine Kd.C_drew ?_)))
       (case side2 => exact HC416.out)
       rintro e w15 ⟨v418, rfl, ho0, hb⟩
       refine ⟨_, rfl, ?_⟩
       have HO419 := Aside0.mk (Kd.R_lower ho0 (below_size bo))
       replace HB := Aside0.mk (below_step bo hb)
       (try clear hb)
       (try clear hb2)
       (try clear hk)
       (try clear hi)
       (try clear ho0)
       refine hK.out _ _ trivial (fun hHeld => ?_)
       clear hK K
       refine norm_ (a' := ?_) ?_ ?_
       rotate_left
       ·show Act.put _ (some 15) _ = _
        simp only [Act.put, List.setIfInBounds_toArray, List.set_cons_zero, List.set_cons_succ, i64_w, i32_w]
        rfl
       refine one_ (i := 8) (N := some 20) #[I,I,I,I,I,I,I,I,I,O,O] rfl rfl (one_of HT_.out (by kernel_rfl)) (by decide) (fun K hK => ?_)
       refine Kd.R_append_rows_step (Kd.int .i64) (w0 := w) w.heap.size (by rfl) (.tmp 15) (.tmp 19) 54 3 (.int .i64 0) 8 rfl Try.underlying54 info3 rfl (by decide) (by omega) v418 t417 (l0.drop ((ji8) : Int).toNat) _ _ _ (fun _ => True) (fun _ => False) rfl rfl ?aO ?aR (fun _ _ h => h) (fun _ h => h.elim) ?aF ?aB ?aS ?aL ?_
       (case aR => first | (rw [← show (l0.drop ((ji8) : Int).toNat).length = (l0.length - (ji8).toNat) from List.length_drop]; repeat (first | exact (Kd.C_below HR420.out HB.out) | (with_reducible refine Kd.C_alloc ?_ _) | (with_reducible refine Kd.C_drewN ?_ _) | (with_reducible refine Kd.C_drew ?_))) | (repeat (first | exact (Kd.C_below HR420.out HB.out) | (with_reducible refine Kd.C_alloc ?_ _) | (with_reducible refine Kd.C_drewN ?_ _) | (with_reducible refine Kd.C_drew ?_))))
       (case aB => exact bo)
       (case aF => exact (fun _ _ => trivial))
       (case aO => exact (rk HO419.out))
       (case aS => exact (below_size bo))
       (case aL => have := LMc11.out; have hlx_ := (show (l0.drop ((ji8) : Int).toNat).length = (l0.length - (ji8).toNat) from List.length_drop); omega)
       intro v422 w16 ho hb hg hat
       rw [← Ny421.out] at ho
       have n0_ := Aside0.mk (hb)
       have n1_ := Aside0.mk (ho)
       clear HB
       clear HO419
       have HB := n0_
       have HO423 := n1_
       clear n0_ n1_
       clear ho hb hg hat
       refine hK.out _ _ trivial (fun hHeld => ?_)
       clear hK K
       refine norm_ (a' := ?_) ?_ ?_
       rotate_left
       ·show Act.put _ (some 20) _ = _
        simp only [Act.put, List.setIfInBounds_toArray, List.set_cons_zero, List.set_cons_succ, i64_w, i32_w]
        rfl
       refine pz (i := 9) (N := some 4) #[I,I,I,I,I,I,I,I,I,I,O] ?_
       refine pz (i := 10) (N := some 5) #[I,I,I,I,I,I,I,I,I,I,I] ?_
       refine done_ (done_of HT_.out (by kernel_rfl)) ?_
       try go_wp2
       go_ret2
       exact ⟨_, by first | rfl | (simp [errW_none, errW_some] <;> rfl) | (simp only [← hji8]; first | rfl | (simp [errW_none, errW_some] <;> rfl)) | (simp [*, errW_none, errW_some] <;> rfl), by (with_reducible repeat (first | apply Kd.R_alloc | apply Kd.R_drewN | apply Kd.R_drew)); exact HO423.out, bo⟩
      ·rw [if_neg c11] at H
       exact absurd H (by simp)
     ·rw [if_neg c10] at H
      exact absurd H (by simp)
    ·rw [if_neg c9] at H
     exact absurd H (by simp)
   ·rw [if_neg c6] at H
    exact absurd H (by simp)
  ·rw [if_neg c5] at H
   exact absurd H (by simp)

end Go.Proofs.Ytigmekgknhoidaa.P

-- written by a program of the proving session, out of the translation; Lean checks it
namespace Go.Proofs.Ytigmekgknhoidaa.P
open Go.RowKit Go.Proofs.Ytigmekgknhoidaa.Sq Go.Proofs.YtigmekgknhoidaaW.PrintWords Go.Proofs.YtigmekgknhoidaaW.PrintLast Go.Proofs.YtigmekgknhoidaaW.PrintMore
attribute [local go_sem] max2_int min2_int max_two min_two max_three min_three max_four min_four   -- for this text's walks alone
set_option linter.unusedVariables false
set_option linter.unusedSimpArgs false

/-! ### inbox_may: function 55 -/
def inbox_may.f (a0 : Int) : Option (Bool) := if a0 > 0 then (some (decide (a0 < 65536))) else (some false)
set_option maxHeartbeats 8000000 in
set_option maxRecDepth 100000 in
theorem inbox_may.calls (a0 : Int) (r : Bool) (w : World) (h : inbox_may.f a0 = some r) :
 Calls Try.prog 55 #[.int .i64 a0] w fun e w' => e = .returned (.bool r) ∧ Drawn0 w w' := by
 have H : (if a0 > 0 then (some (decide (a0 < 65536))) else (some false)) = some r := h
 clear h
 by_cases c2 : a0 > 0
 ·rw [if_pos c2] at H
  have c2b0 : decide (0 < a0) = true := decide_eq_true c2
  clear c2
  obtain rfl := Option.some.inj H
  go_enter Try.func55, Try.ntmps55
  go_wp2
  go_ret
  exact ⟨ap, dr⟩
 ·rw [if_neg c2] at H
  have c2b0 : decide (0 < a0) = false := decide_eq_false c2
  clear c2
  obtain rfl := Option.some.inj H
  go_enter Try.func55, Try.ntmps55
  go_wp2
  go_ret
  exact ⟨ap, dr⟩

end Go.Proofs.Ytigmekgknhoidaa.P

-- written by a program of the proving session, out of the translation; Lean checks it
namespace Go.Proofs.Ytigmekgknhoidaa.P
open Go.RowKit Go.Proofs.Ytigmekgknhoidaa.Sq Go.Proofs.YtigmekgknhoidaaW.PrintWords Go.Proofs.YtigmekgknhoidaaW.PrintLast Go.Proofs.YtigmekgknhoidaaW.PrintMore
attribute [local go_sem] max2_int min2_int max_two min_two max_three min_three max_four min_four   -- for this text's walks alone
set_option linter.unusedVariables false
set_option linter.unusedSimpArgs false

/-! ### inbox_Check: function 36 -/
def inbox_Check.l0 : Nat → List Int → List Int → Int → Int → Option (Int)
 | 0, _, _, _, _ => none
 | k + 1, x0, x8, x9, x10 => if x10 < x9 then (if 0 ≤ x10 then (if x10 < (x8.length : Int) then ((inbox_may.f (rd x8 x10)).bind fun t425 => (if t425 = true then (if x10 > 0 then (if 0 ≤ (wrap64 (x10 - 1)) then (if (wrap64 (x10 - 1)) < (x0.length : Int) then (if (rd x0 (wrap64 (x10 - 1))) ≥ (rd x8 x10) then (some 1) else (inbox_Check.l0 k x0 x8 x9 (wrap64 (x10 + 1)))) else (none)) else (none)) else (inbox_Check.l0 k x0 x8 x9 (wrap64 (x10 + 1)))) else (some 1))) else (none)) else (none)) else (some 0)
def inbox_Check.f (k : Nat) (l0 : List Int) : Option (Int) := if (l0.length : Int) > 16 then (some 1) else (inbox_Check.l0 k l0 l0 (l0.length : Int) 0)
theorem inbox_Check.mono_l : ∀ k, (∀ y0 y1 y2 y3, LeO (inbox_Check.l0 k y0 y1 y2 y3) (inbox_Check.l0 (k + 1) y0 y1 y2 y3))
 | 0 => fun _ _ _ _ r h => by simp [inbox_Check.l0] at h
 | k + 1 => by
  have ih0 := inbox_Check.mono_l k
  ·intro y0 y1 y2 y3
   unfold inbox_Check.l0
   repeat' first
   | (with_reducible exact ih0 _ _ _ _)
   | (with_reducible exact LeO.refl _)
   | (with_reducible exact LeO.none _)
   | (with_reducible refine LeO.ite ?_ ?_)
   | (with_reducible refine LeO.bind ?_ (fun _ => ?_))
   | exact ih0 _ _ _ _
   | exact LeO.none _
   | refine LeO.ite ?_ ?_
   | refine LeO.bind ?_ (fun _ => ?_)
theorem inbox_Check.mono : ∀ a0 k, LeO (inbox_Check.f k a0) (inbox_Check.f (k + 1) a0) := by
 intro a0 k
 have ih0 := inbox_Check.mono_l k
 unfold inbox_Check.f
 repeat' first
  | (with_reducible exact ih0 _ _ _ _)
  | (with_reducible exact LeO.refl _)
  | (with_reducible exact LeO.none _)
  | (with_reducible refine LeO.ite ?_ ?_)
  | (with_reducible refine LeO.bind ?_ (fun _ => ?_))
  | exact ih0 _ _ _ _
  | exact LeO.none _
  | refine LeO.ite ?_ ?_
  | refine LeO.bind ?_ (fun _ => ?_)
set_option maxHeartbeats 8000000 in
set_option maxRecDepth 100000 in
theorem inbox_Check.calls (k : Nat) (A0 : Option Addr) (c0 : Nat) (l0 : List Int) (r : Int) (w : World) (hr0 : Kd.C (Kd.int .i64) w A0 l0.length l0) (hc0 : l0.length ≤ c0) (h : inbox_Check.f k l0 = some r) :
 Calls Try.prog 36 #[.slice A0 l0.length c0] w fun e w' => e = .returned (.int .i64 r) ∧ Drawn0 w w' := by
 have HR0 := Aside0.mk hr0
 have HC0 := Aside0.mk hc0
 clear hr0 hc0
 have H : (if (l0.length : Int) > 16 then (some 1) else (inbox_Check.l0 k l0 l0 (l0.length : Int) 0)) = some r := h
 clear h
 by_cases c2 : (l0.length : Int) > 16
 ·rw [if_pos c2] at H
  have c2b0 : decide (16 < (l0.length : Int)) = true := decide_eq_true c2
  have c2b1 : decide (16 < l0.length) = true := decide_eq_true (by omega)
  clear c2
  obtain rfl := Option.some.inj H
  go_enter Try.func36, Try.ntmps36
  go_wp2
  go_ret
  exact ⟨ap, dr⟩
 ·rw [if_neg c2] at H
  have c2b0 : decide (16 < (l0.length : Int)) = false := decide_eq_false c2
  have c2b1 : decide (16 < l0.length) = false := decide_eq_false (by omega)
  clear c2
  have H' := Aside0.mk H
  clear H
  go_enter Try.func36, Try.ntmps36
  go_wp2
  go_loopg [10] k (fun kq v10 w' => ∃ (x10_1 : Int), v10 = .int .i64 x10_1 ∧ Aside0 (inbox_Check.l0 kq l0 l0 (l0.length : Int) x10_1 = some r) ∧ Aside0 (kq ≤ k) ∧ Drawn0 w w')
  case atStart => exact ⟨(0), ap, H', ⟨Nat.le_refl _⟩, dr⟩
  case round =>
   clear H'
   try clear c2
   try clear c2b0
   try clear c2b1
   try clear p2
   obtain ⟨x10_1, rfl, HA, HK1, ⟨m1, rfl⟩⟩ := hrel
   cases gk with
   | zero => exact absurd HA.out (by simp [inbox_Check.l0])
   | succ k1 =>
    have H := HA.out
    clear HA
    simp only [inbox_Check.l0] at H
    by_cases c3 : x10_1 < (l0.length : Int)
    ·rw [if_pos c3] at H
     have c3b0 : decide (x10_1 < (l0.length : Int)) = true := decide_eq_true c3
     clear c3
     by_cases c4 : 0 ≤ x10_1
     ·rw [if_pos c4] at H
      have c4b0 : decide (0 ≤ x10_1) = true := decide_eq_true c4
      clear c4
      by_cases c5 : x10_1 < (l0.length : Int)
      ·rw [if_pos c5] at H
       have c5b0 : decide (x10_1 < (l0.length : Int)) = true := decide_eq_true c5
       clear c5
       replace H := Option.bind_eq_some_iff.mp H
       obtain ⟨t425, A60, H⟩ := H
       replace H : (if t425 = true then (if x10_1 > 0 then (if 0 ≤ (wrap64 (x10_1 - 1)) then (if (wrap64 (x10_1 - 1)) < (l0.length : Int) then (if (rd l0 (wrap64 (x10_1 - 1))) ≥ (rd l0 x10_1) then (some 1) else (inbox_Check.l0 k1 l0 l0 (l0.length : Int) (wrap64 (x10_1 + 1)))) else (none)) else (none)) else (inbox_Check.l0 k1 l0 l0 (l0.length : Int) (wrap64 (x10_1 + 1)))) else (some 1)) = some r := H
       have A6 := Aside0.mk A60
       clear A60
       by_cases c7 : t425 = true
       ·subst c7
        have H1 : (if x10_1 > 0 then (if 0 ≤ (wrap64 (x10_1 - 1)) then (if (wrap64 (x10_1 - 1)) < (l0.length : Int) then (if (rd l0 (wrap64 (x10_1 - 1))) ≥ (rd l0 x10_1) then (some 1) else (inbox_Check.l0 k1 l0 l0 (l0.length : Int) (wrap64 (x10_1 + 1)))) else (none)) else (none)) else (inbox_Check.l0 k1 l0 l0 (l0.length : Int) (wrap64 (x10_1 + 1)))) = some r := by rw [if_pos rfl] at H; exact H
        clear H
        have H := H1
        clear H1
        by_cases c8 : x10_1 > 0
        ·rw [if_pos c8] at H
         have c8b0 : decide (0 < x10_1) = true := decide_eq_true c8
         clear c8
         obtain ⟨ji9, hji9⟩ : ∃ j_ : Int, (wrap64 (x10_1 - 1)) = j_ := ⟨_, rfl⟩
         replace H : (if 0 ≤ (ji9) then (if (ji9) < (l0.length : Int) then (if (rd l0 (ji9)) ≥ (rd l0 x10_1) then (some 1) else (inbox_Check.l0 k1 l0 l0 (l0.length : Int) (wrap64 (x10_1 + 1)))) else (none)) else (none)) = some r := by first | (rw [hji9] at H; exact H) | (simp only [hji9] at H ⊢; exact H)
         (try rw [hji9] at A6)
         have hji9w : (IntKind.i64.wrap (x10_1 - 1)) = ji9 := (i64_w _).trans hji9
         by_cases c10 : 0 ≤ (ji9)
         ·rw [if_pos c10] at H
          have c10b0 : decide (0 ≤ (ji9)) = true := decide_eq_true c10
          clear c10
          by_cases c11 : (ji9) < (l0.length : Int)
          ·rw [if_pos c11] at H
           have c11b0 : decide ((ji9) < (l0.length : Int)) = true := decide_eq_true c11
           clear c11
           by_cases c12 : (rd l0 (ji9)) ≥ (rd l0 x10_1)
           ·rw [if_pos c12] at H
            have c12b0 : decide ((rd l0 x10_1) ≤ (rd l0 (ji9))) = true := decide_eq_true c12
            clear c12
            obtain rfl := Option.some.inj H
            have p424 : 0 ≤ (x10_1 : Int) := od
            have q424 : x10_1 < (l0.length : Int) := od
            obtain ⟨ad424, e424, hx424_0⟩ := Kd.at_int HR0.out x10_1 p424 q424
            cases e424
            replace p424 := eq_true p424
            replace q424 := eq_true q424
            go_wp2_with (first | ((with_reducible refine gate_callee (f := 55) rfl ?_); refine goesL_ (some 16) rfl rfl Try.func55 (by kernel_rfl) rfl #[.int .i64 (rd l0 x10_1)] rfl aa ?_; (with_reducible refine (inbox_may.calls (rd l0 x10_1) true _ A6.out).mono ?_); rintro e w' ⟨rfl, ⟨nd, rfl⟩⟩; refine ⟨_, rfl, ?_⟩; have p426 : 0 ≤ ((ji9) : Int) := od; have q426 : (ji9) < (l0.length : Int) := od; obtain ⟨ad426, e426, hx426_0⟩ := Kd.at_int HR0.out (ji9) p426 q426; obtain rfl : ad424 = ad426 := (by injection e426); replace p426 := eq_true p426; replace q426 := eq_true q426))
            go_ret
            exact ⟨by first | rfl | (simp; done) | (simp only [← hji9] <;> (first | rfl | simp)) | (simp [*]; done), dr⟩
           ·rw [if_neg c12] at H
            have c12b0 : decide ((rd l0 x10_1) ≤ (rd l0 (ji9))) = false := decide_eq_false c12
            clear c12
            have H' := Aside0.mk H
            clear H
            have p424 : 0 ≤ (x10_1 : Int) := od
            have q424 : x10_1 < (l0.length : Int) := od
            obtain ⟨ad424, e424, hx424_0⟩ := Kd.at_int HR0.out x10_1 p424 q424
            cases e424
            replace p424 := eq_true p424
            replace q424 := eq_true q424
            go_wp2_with (first | ((with_reducible refine gate_callee (f := 55) rfl ?_); refine goesL_ (some 16) rfl rfl Try.func55 (by kernel_rfl) rfl #[.int .i64 (rd l0 x10_1)] rfl aa ?_; (with_reducible refine (inbox_may.calls (rd l0 x10_1) true _ A6.out).mono ?_); rintro e w' ⟨rfl, ⟨nd, rfl⟩⟩; refine ⟨_, rfl, ?_⟩; have p426 : 0 ≤ ((ji9) : Int) := od; have q426 : (ji9) < (l0.length : Int) := od; obtain ⟨ad426, e426, hx426_0⟩ := Kd.at_int HR0.out (ji9) p426 q426; obtain rfl : ad424 = ad426 := (by injection e426); replace p426 := eq_true p426; replace q426 := eq_true q426))
            go_roundg k1
            case measure => have := HK1.out; omega
            case rel => exact ⟨(wrap64 (x10_1 + 1)), ap, H', ⟨by have := HK1.out; omega⟩, dr⟩
          ·rw [if_neg c11] at H
           exact absurd H (by simp)
         ·rw [if_neg c10] at H
          exact absurd H (by simp)
        ·rw [if_neg c8] at H
         have c8b0 : decide (0 < x10_1) = false := decide_eq_false c8
         clear c8
         have H' := Aside0.mk H
         clear H
         have p424 : 0 ≤ (x10_1 : Int) := od
         have q424 : x10_1 < (l0.length : Int) := od
         obtain ⟨ad424, e424, hx424_0⟩ := Kd.at_int HR0.out x10_1 p424 q424
         cases e424
         replace p424 := eq_true p424
         replace q424 := eq_true q424
         go_wp2_with (first | ((with_reducible refine gate_callee (f := 55) rfl ?_); refine goesL_ (some 16) rfl rfl Try.func55 (by kernel_rfl) rfl #[.int .i64 (rd l0 x10_1)] rfl aa ?_; (with_reducible refine (inbox_may.calls (rd l0 x10_1) true _ A6.out).mono ?_); rintro e w' ⟨rfl, ⟨nd, rfl⟩⟩; refine ⟨_, rfl, ?_⟩))
         go_roundg k1
         case measure => have := HK1.out; omega
         case rel => exact ⟨(wrap64 (x10_1 + 1)), ap, H', ⟨by have := HK1.out; omega⟩, dr⟩
       ·replace c7 := Bool.eq_false_iff.mpr c7
        subst c7
        have H1 : (some 1) = some r := by rw [if_neg (show ¬ (false = true) by decide)] at H; exact H
        clear H
        have H := H1
        clear H1
        obtain rfl := Option.some.inj H
        have p424 : 0 ≤ (x10_1 : Int) := od
        have q424 : x10_1 < (l0.length : Int) := od
        obtain ⟨ad424, e424, hx424_0⟩ := Kd.at_int HR0.out x10_1 p424 q424
        cases e424
        replace p424 := eq_true p424
        replace q424 := eq_true q424
        go_wp2_with (first | ((with_reducible refine gate_callee (f := 55) rfl ?_); refine goesL_ (some 16) rfl rfl Try.func55 (by kernel_rfl) rfl #[.int .i64 (rd l0 x10_1)] rfl aa ?_; (with_reducible refine (inbox_may.calls (rd l0 x10_1) false _ A6.out).mono ?_); rintro e w' ⟨rfl, ⟨nd, rfl⟩⟩; refine ⟨_, rfl, ?_⟩))
        go_ret
        exact ⟨ap, dr⟩
      ·rw [if_neg c5] at H
       exact absurd H (by simp)
     ·rw [if_neg c4] at H
      exact absurd H (by simp)
    ·rw [if_neg c3] at H
     have c3b0 : decide (x10_1 < (l0.length : Int)) = false := decide_eq_false c3
     clear c3
     obtain rfl := Option.some.inj H
     go_wp2
     go_ret
     exact ⟨ap, dr⟩

end Go.Proofs.Ytigmekgknhoidaa.P

-- written by a program of the proving session, out of the translation; Lean checks it
namespace Go.Proofs.Ytigmekgknhoidaa.P
open Go.RowKit Go.Proofs.Ytigmekgknhoidaa.Sq Go.Proofs.YtigmekgknhoidaaW.PrintWords Go.Proofs.YtigmekgknhoidaaW.PrintLast Go.Proofs.YtigmekgknhoidaaW.PrintMore
attribute [local go_sem] max2_int min2_int max_two min_two max_three min_three max_four min_four   -- for this text's walks alone
set_option linter.unusedVariables false
set_option linter.unusedSimpArgs false

/-! ### cmp_isNaN_int: function 72 -/
def cmp_isNaN_int.f (a0 : Int) : Option (Bool) := some (a0 != a0)
set_option maxHeartbeats 8000000 in
set_option maxRecDepth 100000 in
theorem cmp_isNaN_int.calls (a0 : Int) (r : Bool) (w : World) (h : cmp_isNaN_int.f a0 = some r) :
 Calls Try.prog 72 #[.int .i64 a0] w fun e w' => e = .returned (.bool r) ∧ Drawn0 w w' := by
 have H : (some (a0 != a0)) = some r := h
 clear h
 obtain rfl := Option.some.inj H
 go_enter Try.func72, Try.ntmps72
 go_wp2
 go_ret
 exact ⟨ap, dr⟩

end Go.Proofs.Ytigmekgknhoidaa.P

-- written by a program of the proving session, out of the translation; Lean checks it
namespace Go.Proofs.Ytigmekgknhoidaa.P
open Go.RowKit Go.Proofs.Ytigmekgknhoidaa.Sq Go.Proofs.YtigmekgknhoidaaW.PrintWords Go.Proofs.YtigmekgknhoidaaW.PrintLast Go.Proofs.YtigmekgknhoidaaW.PrintMore
attribute [local go_sem] max2_int min2_int max_two min_two max_three min_three max_four min_four   -- for this text's walks alone
set_option linter.unusedVariables false
set_option linter.unusedSimpArgs false

/-! ### cmp_Less_int: function 67 -/
def cmp_Less_int.f (a0 : Int) (a1 : Int) : Option (Bool) := (cmp_isNaN_int.f a0).bind fun t427 => (if t427 = true then ((cmp_isNaN_int.f a1).bind fun t428 => (if t428 = true then (some (decide (a0 < a1))) else (some true))) else (some (decide (a0 < a1))))
set_option maxHeartbeats 8000000 in
set_option maxRecDepth 100000 in
theorem cmp_Less_int.calls (a0 : Int) (a1 : Int) (r : Bool) (w : World) (h : cmp_Less_int.f a0 a1 = some r) :
 Calls Try.prog 67 #[.int .i64 a0, .int .i64 a1] w fun e w' => e = .returned (.bool r) ∧ Drawn0 w w' := by
 have H : ((cmp_isNaN_int.f a0).bind fun t427 => (if t427 = true then ((cmp_isNaN_int.f a1).bind fun t428 => (if t428 = true then (some (decide (a0 < a1))) else (some true))) else (some (decide (a0 < a1))))) = some r := h
 clear h
 replace H := Option.bind_eq_some_iff.mp H
 obtain ⟨t427, A30, H⟩ := H
 replace H : (if t427 = true then ((cmp_isNaN_int.f a1).bind fun t428 => (if t428 = true then (some (decide (a0 < a1))) else (some true))) else (some (decide (a0 < a1)))) = some r := H
 have A3 := Aside0.mk A30
 clear A30
 by_cases c4 : t427 = true
 ·subst c4
  have H1 : ((cmp_isNaN_int.f a1).bind fun t428 => (if t428 = true then (some (decide (a0 < a1))) else (some true))) = some r := by rw [if_pos rfl] at H; exact H
  clear H
  have H := H1
  clear H1
  replace H := Option.bind_eq_some_iff.mp H
  obtain ⟨t428, A50, H⟩ := H
  replace H : (if t428 = true then (some (decide (a0 < a1))) else (some true)) = some r := H
  have A5 := Aside0.mk A50
  clear A50
  by_cases c6 : t428 = true
  ·subst c6
   have H1 : (some (decide (a0 < a1))) = some r := by rw [if_pos rfl] at H; exact H
   clear H
   have H := H1
   clear H1
   obtain rfl := Option.some.inj H
   go_enter Try.func67, Try.ntmps67
   go_wp2_with (first | ((with_reducible refine gate_callee (f := 72) rfl ?_); refine goesL_ (some 6) rfl rfl Try.func72 (by kernel_rfl) rfl #[.int .i64 a0] rfl aa ?_; (with_reducible refine (cmp_isNaN_int.calls a0 true _ A3.out).mono ?_); rintro e w' ⟨rfl, ⟨nd, rfl⟩⟩; refine ⟨_, rfl, ?_⟩) | (go_at_call 72; (with_reducible refine (cmp_isNaN_int.calls a1 true _ A5.out).mono ?_); rintro e w' ⟨rfl, ⟨nd, rfl⟩⟩))
   go_ret
   exact ⟨ap, dr⟩
  ·replace c6 := Bool.eq_false_iff.mpr c6
   subst c6
   have H1 : (some true) = some r := by rw [if_neg (show ¬ (false = true) by decide)] at H; exact H
   clear H
   have H := H1
   clear H1
   obtain rfl := Option.some.inj H
   go_enter Try.func67, Try.ntmps67
   go_wp2_with (first | ((with_reducible refine gate_callee (f := 72) rfl ?_); refine goesL_ (some 6) rfl rfl Try.func72 (by kernel_rfl) rfl #[.int .i64 a0] rfl aa ?_; (with_reducible refine (cmp_isNaN_int.calls a0 true _ A3.out).mono ?_); rintro e w' ⟨rfl, ⟨nd, rfl⟩⟩; refine ⟨_, rfl, ?_⟩) | (go_at_call 72; (with_reducible refine (cmp_isNaN_int.calls a1 false _ A5.out).mono ?_); rintro e w' ⟨rfl, ⟨nd, rfl⟩⟩))
   go_ret
   exact ⟨ap, dr⟩
 ·replace c4 := Bool.eq_false_iff.mpr c4
  subst c4
  have H1 : (some (decide (a0 < a1))) = some r := by rw [if_neg (show ¬ (false = true) by decide)] at H; exact H
  clear H
  have H := H1
  clear H1
  obtain rfl := Option.some.inj H
  go_enter Try.func67, Try.ntmps67
  go_wp2_with (first | ((with_reducible refine gate_callee (f := 72) rfl ?_); refine goesL_ (some 6) rfl rfl Try.func72 (by kernel_rfl) rfl #[.int .i64 a0] rfl aa ?_; (with_reducible refine (cmp_isNaN_int.calls a0 false _ A3.out).mono ?_); rintro e w' ⟨rfl, ⟨nd, rfl⟩⟩; refine ⟨_, rfl, ?_⟩))
  go_ret
  exact ⟨ap, dr⟩

end Go.Proofs.Ytigmekgknhoidaa.P

-- written by a program of the proving session, out of the translation; Lean checks it
namespace Go.Proofs.Ytigmekgknhoidaa.P
open Go.RowKit Go.Proofs.Ytigmekgknhoidaa.Sq Go.Proofs.YtigmekgknhoidaaW.PrintWords Go.Proofs.YtigmekgknhoidaaW.PrintLast Go.Proofs.YtigmekgknhoidaaW.PrintMore
attribute [local go_sem] max2_int min2_int max_two min_two max_three min_three max_four min_four   -- for this text's walks alone
set_option linter.unusedVariables false
set_option linter.unusedSimpArgs false

/-! ### slices_isNaN_int: function 68 -/
def slices_isNaN_int.f (a0 : Int) : Option (Bool) := some (a0 != a0)
set_option maxHeartbeats 8000000 in
set_option maxRecDepth 100000 in
theorem slices_isNaN_int.calls (a0 : Int) (r : Bool) (w : World) (h : slices_isNaN_int.f a0 = some r) :
 Calls Try.prog 68 #[.int .i64 a0] w fun e w' => e = .returned (.bool r) ∧ Drawn0 w w' := by
 have H : (some (a0 != a0)) = some r := h
 clear h
 obtain rfl := Option.some.inj H
 go_enter Try.func68, Try.ntmps68
 go_wp2
 go_ret
 exact ⟨ap, dr⟩

end Go.Proofs.Ytigmekgknhoidaa.P

-- written by a program of the proving session, out of the translation; Lean checks it
namespace Go.Proofs.Ytigmekgknhoidaa.P
open Go.RowKit Go.Proofs.Ytigmekgknhoidaa.Sq Go.Proofs.YtigmekgknhoidaaW.PrintWords Go.Proofs.YtigmekgknhoidaaW.PrintLast Go.Proofs.YtigmekgknhoidaaW.PrintMore
attribute [local go_sem] max2_int min2_int max_two min_two max_three min_three max_four min_four   -- for this text's walks alone
set_option linter.unusedVariables false
set_option linter.unusedSimpArgs false

/-! ### slices_BinarySearch_int_int: function 56 -/
def slices_BinarySearch_int_int.l0 : Nat → List Int → Int → Int → Int → Int → Option (Int × Bool)
 | 0, _, _, _, _, _ => none
 | k + 1, x0, x1, x6, x7, x8 => if x7 < x8 then (if 0 ≤ (wrap64 ((IntKind.u64.wrap (wrap64 (x7 + x8))) / 2)) then (if (wrap64 ((IntKind.u64.wrap (wrap64 (x7 + x8))) / 2)) < (x0.length : Int) then ((cmp_Less_int.f (rd x0 (wrap64 ((IntKind.u64.wrap (wrap64 (x7 + x8))) / 2))) x1).bind fun t430 => (if t430 = true then (slices_BinarySearch_int_int.l0 k x0 x1 x6 (wrap64 ((wrap64 ((IntKind.u64.wrap (wrap64 (x7 + x8))) / 2)) + 1)) x8) else (slices_BinarySearch_int_int.l0 k x0 x1 x6 x7 (wrap64 ((IntKind.u64.wrap (wrap64 (x7 + x8))) / 2))))) else (none)) else (none)) else (if x7 < x6 then (if 0 ≤ x7 then (if x7 < (x0.length : Int) then (if (rd x0 x7) = x1 then (some (x7, true)) else ((slices_isNaN_int.f (rd x0 x7)).bind fun t433 => (if t433 = true then ((slices_isNaN_int.f x1).bind fun t434 => (some (x7, t434))) else (some (x7, false))))) else (none)) else (none)) else (some (x7, false)))
def slices_BinarySearch_int_int.f (k : Nat) (l0 : List Int) (a1 : Int) : Option (Int × Bool) := slices_BinarySearch_int_int.l0 k l0 a1 (l0.length : Int) 0 (l0.length : Int)
theorem slices_BinarySearch_int_int.mono_l : ∀ k, (∀ y0 y1 y2 y3 y4, LeO (slices_BinarySearch_int_int.l0 k y0 y1 y2 y3 y4) (slices_BinarySearch_int_int.l0 (k + 1) y0 y1 y2 y3 y4))
 | 0 => fun _ _ _ _ _ r h => by simp [slices_BinarySearch_int_int.l0] at h
 | k + 1 => by
  have ih0 := slices_BinarySearch_int_int.mono_l k
  ·intro y0 y1 y2 y3 y4
   unfold slices_BinarySearch_int_int.l0
   repeat' first
   | (with_reducible exact ih0 _ _ _ _ _)
   | (with_reducible exact LeO.refl _)
   | (with_reducible exact LeO.none _)
   | (with_reducible refine LeO.ite ?_ ?_)
   | (with_reducible refine LeO.bind ?_ (fun _ => ?_))
   | exact ih0 _ _ _ _ _
   | exact LeO.none _
   | refine LeO.ite ?_ ?_
   | refine LeO.bind ?_ (fun _ => ?_)
theorem slices_BinarySearch_int_int.mono : ∀ a0 a1 k, LeO (slices_BinarySearch_int_int.f k a0 a1) (slices_BinarySearch_int_int.f (k + 1) a0 a1) := by
 intro a0 a1 k
 have ih0 := slices_BinarySearch_int_int.mono_l k
 unfold slices_BinarySearch_int_int.f
 repeat' first
  | (with_reducible exact ih0 _ _ _ _ _)
  | (with_reducible exact LeO.refl _)
  | (with_reducible exact LeO.none _)
  | (with_reducible refine LeO.ite ?_ ?_)
  | (with_reducible refine LeO.bind ?_ (fun _ => ?_))
  | exact ih0 _ _ _ _ _
  | exact LeO.none _
  | refine LeO.ite ?_ ?_
  | refine LeO.bind ?_ (fun _ => ?_)
set_option maxHeartbeats 8000000 in
set_option maxRecDepth 100000 in
theorem slices_BinarySearch_int_int.calls (k : Nat) (A0 : Option Addr) (c0 : Nat) (l0 : List Int) (a1 : Int) (r1 : Int) (r2 : Bool) (w : World) (hr0 : Kd.C (Kd.int .i64) w A0 l0.length l0) (hc0 : l0.length ≤ c0) (h : slices_BinarySearch_int_int.f k l0 a1 = some (r1, r2)) :
 Calls Try.prog 56 #[.slice A0 l0.length c0, .int .i64 a1] w fun e w' => e = .returned (.tuple #[.int .i64 r1, .bool r2]) ∧ Drawn0 w w' := by
 have HR0 := Aside0.mk hr0
 have HC0 := Aside0.mk hc0
 clear hr0 hc0
 have H : (slices_BinarySearch_int_int.l0 k l0 a1 (l0.length : Int) 0 (l0.length : Int)) = some (r1, r2) := h
 clear h
 have H' := Aside0.mk H
 clear H
 go_enter Try.func56, Try.ntmps56
 go_wp2
 go_loopg [7, 8] k (fun kq v7 v8 w' => ∃ (x7_1 : Int) (x8_1 : Int), v7 = .int .i64 x7_1 ∧ v8 = .int .i64 x8_1 ∧ Aside0 (slices_BinarySearch_int_int.l0 kq l0 a1 (l0.length : Int) x7_1 x8_1 = some (r1, r2)) ∧ Aside0 (kq ≤ k) ∧ Drawn0 w w')
 case atStart => exact ⟨(0), ((l0.length : Int)), ap, ap, H', ⟨Nat.le_refl _⟩, dr⟩
 case round =>
  clear H'
  try clear p2
  obtain ⟨x7_1, x8_1, rfl, rfl, HA, HK1, ⟨m1, rfl⟩⟩ := hrel
  cases gk with
  | zero => exact absurd HA.out (by simp [slices_BinarySearch_int_int.l0])
  | succ k1 =>
   have H := HA.out
   clear HA
   simp only [slices_BinarySearch_int_int.l0] at H
   by_cases c3 : x7_1 < x8_1
   ·rw [if_pos c3] at H
    have c3b0 : decide (x7_1 < x8_1) = true := decide_eq_true c3
    clear c3
    obtain ⟨ji4, hji4⟩ : ∃ j_ : Int, (wrap64 ((IntKind.u64.wrap (wrap64 (x7_1 + x8_1))) / 2)) = j_ := ⟨_, rfl⟩
    replace H : (if 0 ≤ (ji4) then (if (ji4) < (l0.length : Int) then ((cmp_Less_int.f (rd l0 (ji4)) a1).bind fun t430 => (if t430 = true then (slices_BinarySearch_int_int.l0 k1 l0 a1 (l0.length : Int) (wrap64 ((ji4) + 1)) x8_1) else (slices_BinarySearch_int_int.l0 k1 l0 a1 (l0.length : Int) x7_1 ji4))) else (none)) else (none)) = some (r1, r2) := by first | (rw [hji4] at H; exact H) | (simp only [hji4] at H ⊢; exact H)
    have hji4w : (IntKind.i64.wrap ((IntKind.u64.wrap (wrap64 (x7_1 + x8_1))) / 2)) = ji4 := (i64_w _).trans hji4
    by_cases c5 : 0 ≤ (ji4)
    ·rw [if_pos c5] at H
     have c5b0 : decide (0 ≤ (ji4)) = true := decide_eq_true c5
     clear c5
     by_cases c6 : (ji4) < (l0.length : Int)
     ·rw [if_pos c6] at H
      have c6b0 : decide ((ji4) < (l0.length : Int)) = true := decide_eq_true c6
      clear c6
      replace H := Option.bind_eq_some_iff.mp H
      obtain ⟨t430, A70, H⟩ := H
      replace H : (if t430 = true then (slices_BinarySearch_int_int.l0 k1 l0 a1 (l0.length : Int) (wrap64 ((ji4) + 1)) x8_1) else (slices_BinarySearch_int_int.l0 k1 l0 a1 (l0.length : Int) x7_1 ji4)) = some (r1, r2) := H
      have A7 := Aside0.mk A70
      clear A70
      by_cases c8 : t430 = true
      ·subst c8
       have H1 : (slices_BinarySearch_int_int.l0 k1 l0 a1 (l0.length : Int) (wrap64 ((ji4) + 1)) x8_1) = some (r1, r2) := by rw [if_pos rfl] at H; exact H
       clear H
       have H := H1
       clear H1
       have H' := Aside0.mk H
       clear H
       have p429 : 0 ≤ ((ji4) : Int) := od
       have q429 : (ji4) < (l0.length : Int) := od
       obtain ⟨ad429, e429, hx429_0⟩ := Kd.at_int HR0.out (ji4) p429 q429
       cases e429
       replace p429 := eq_true p429
       replace q429 := eq_true q429
       go_wp2_with (first | ((with_reducible refine gate_callee (f := 67) rfl ?_); refine goesL_ (some 27) rfl rfl Try.func67 (by kernel_rfl) rfl #[.int .i64 (rd l0 (ji4)), .int .i64 a1] rfl (by (try simp only [List.map_toArray, List.map_cons, List.map_nil]); first | done | (simp only [hji4]; rfl) | rfl | (simp only [List.length_drop, List.length_take]; rfl) | (simp only [ByteArray.size_append]; rfl) | (simp; done)) ?_; (with_reducible refine (cmp_Less_int.calls (rd l0 (ji4)) a1 true _ A7.out).mono ?_); rintro e w' ⟨rfl, ⟨nd, rfl⟩⟩; refine ⟨_, rfl, ?_⟩))
       go_roundg k1
       case measure => have := HK1.out; omega
       case rel => exact ⟨(wrap64 ((ji4) + 1)), (x8_1), (by first | rfl | (simp; done) | (simp only [← hji4] <;> (first | rfl | simp)) | (simp [*]; done)), ap, H', ⟨by have := HK1.out; omega⟩, dr⟩
      ·replace c8 := Bool.eq_false_iff.mpr c8
       subst c8
       have H1 : (slices_BinarySearch_int_int.l0 k1 l0 a1 (l0.length : Int) x7_1 ji4) = some (r1, r2) := by rw [if_neg (show ¬ (false = true) by decide)] at H; exact H
       clear H
       have H := H1
       clear H1
       have H' := Aside0.mk H
       clear H
       have p429 : 0 ≤ ((ji4) : Int) := od
       have q429 : (ji4) < (l0.length : Int) := od
       obtain ⟨ad429, e429, hx429_0⟩ := Kd.at_int HR0.out (ji4) p429 q429
       cases e429
       replace p429 := eq_true p429
       replace q429 := eq_true q429
       go_wp2_with (first | ((with_reducible refine gate_callee (f := 67) rfl ?_); refine goesL_ (some 27) rfl rfl Try.func67 (by kernel_rfl) rfl #[.int .i64 (rd l0 (ji4)), .int .i64 a1] rfl (by (try simp only [List.map_toArray, List.map_cons, List.map_nil]); first | done | (simp only [hji4]; rfl) | rfl | (simp only [List.length_drop, List.length_take]; rfl) | (simp only [ByteArray.size_append]; rfl) | (simp; done)) ?_; (with_reducible refine (cmp_Less_int.calls (rd l0 (ji4)) a1 false _ A7.out).mono ?_); rintro e w' ⟨rfl, ⟨nd, rfl⟩⟩; refine ⟨_, rfl, ?_⟩))
       go_roundg k1
       case measure => have := HK1.out; omega
       case rel => exact ⟨(x7_1), (ji4), ap, (by first | rfl | (simp; done) | (simp only [← hji4] <;> (first | rfl | simp)) | (simp [*]; done)), H', ⟨by have := HK1.out; omega⟩, dr⟩
     ·rw [if_neg c6] at H
      exact absurd H (by simp)
    ·rw [if_neg c5] at H
     exact absurd H (by simp)
   ·rw [if_neg c3] at H
    have c3b0 : decide (x7_1 < x8_1) = false := decide_eq_false c3
    clear c3
    by_cases c9 : x7_1 < (l0.length : Int)
    ·rw [if_pos c9] at H
     have c9b0 : decide (x7_1 < (l0.length : Int)) = true := decide_eq_true c9
     clear c9
     by_cases c10 : 0 ≤ x7_1
     ·rw [if_pos c10] at H
      have c10b0 : decide (0 ≤ x7_1) = true := decide_eq_true c10
      clear c10
      by_cases c11 : x7_1 < (l0.length : Int)
      ·rw [if_pos c11] at H
       have c11b0 : decide (x7_1 < (l0.length : Int)) = true := decide_eq_true c11
       clear c11
       by_cases c12 : (rd l0 x7_1) = a1
       ·rw [if_pos c12] at H
        have c12b0 : ((rd l0 x7_1) == a1) = true := beq_iff_eq.mpr c12
        have c12b1 : ((rd l0 x7_1) != a1) = false := bne_eq_false_iff_eq.mpr c12
        clear c12
        simp only [Option.some.injEq, Prod.mk.injEq] at H
        obtain ⟨rfl, rfl⟩ := H
        have p431 : 0 ≤ (x7_1 : Int) := od
        have q431 : x7_1 < (l0.length : Int) := od
        obtain ⟨ad431, e431, hx431_0⟩ := Kd.at_int HR0.out x7_1 p431 q431
        cases e431
        replace p431 := eq_true p431
        replace q431 := eq_true q431
        go_wp2
        go_ret2
        exact ⟨ap, dr⟩
       ·rw [if_neg c12] at H
        have c12b0 : ((rd l0 x7_1) == a1) = false := beq_eq_false_iff_ne.mpr c12
        have c12b1 : ((rd l0 x7_1) != a1) = true := bne_iff_ne.mpr c12
        replace H := Option.bind_eq_some_iff.mp H
        obtain ⟨t433, A130, H⟩ := H
        replace H : (if t433 = true then ((slices_isNaN_int.f a1).bind fun t434 => (some (x7_1, t434))) else (some (x7_1, false))) = some (r1, r2) := H
        have A13 := Aside0.mk A130
        clear A130
        by_cases c14 : t433 = true
        ·subst c14
         have H1 : ((slices_isNaN_int.f a1).bind fun t434 => (some (x7_1, t434))) = some (r1, r2) := by rw [if_pos rfl] at H; exact H
         clear H
         have H := H1
         clear H1
         replace H := Option.bind_eq_some_iff.mp H
         obtain ⟨t434, A150, H⟩ := H
         replace H : (some (x7_1, t434)) = some (r1, r2) := H
         have A15 := Aside0.mk A150
         clear A150
         simp only [Option.some.injEq, Prod.mk.injEq] at H
         obtain ⟨rfl, rfl⟩ := H
         have p431 : 0 ≤ (x7_1 : Int) := od
         have q431 : x7_1 < (l0.length : Int) := od
         obtain ⟨ad431, e431, hx431_0⟩ := Kd.at_int HR0.out x7_1 p431 q431
         cases e431
         replace p431 := eq_true p431
         replace q431 := eq_true q431
         have p432 : 0 ≤ (x7_1 : Int) := od
         have q432 : x7_1 < (l0.length : Int) := od
         obtain ⟨ad432, e432, hx432_0⟩ := Kd.at_int HR0.out x7_1 p432 q432
         obtain rfl : ad431 = ad432 := (by injection e432)
         replace p432 := eq_true p432
         replace q432 := eq_true q432
         go_wp2_with (first | (go_at_call 68; (with_reducible refine (slices_isNaN_int.calls (rd l0 x7_1) true _ A13.out).mono ?_); rintro e w' ⟨rfl, ⟨nd, rfl⟩⟩) | (go_at_call 68; (with_reducible refine (slices_isNaN_int.calls a1 t434 _ A15.out).mono ?_); rintro e w' ⟨rfl, ⟨nd, rfl⟩⟩))
         go_ret2
         exact ⟨ap, dr⟩
        ·replace c14 := Bool.eq_false_iff.mpr c14
         subst c14
         have H1 : (some (x7_1, false)) = some (r1, r2) := by rw [if_neg (show ¬ (false = true) by decide)] at H; exact H
         clear H
         have H := H1
         clear H1
         simp only [Option.some.injEq, Prod.mk.injEq] at H
         obtain ⟨rfl, rfl⟩ := H
         have p431 : 0 ≤ (x7_1 : Int) := od
         have q431 : x7_1 < (l0.length : Int) := od
         obtain ⟨ad431, e431, hx431_0⟩ := Kd.at_int HR0.out x7_1 p431 q431
         cases e431
         replace p431 := eq_true p431
         replace q431 := eq_true q431
         have p432 : 0 ≤ (x7_1 : Int) := od
         have q432 : x7_1 < (l0.length : Int) := od
         obtain ⟨ad432, e432, hx432_0⟩ := Kd.at_int HR0.out x7_1 p432 q432
         obtain rfl : ad431 = ad432 := (by injection e432)
         replace p432 := eq_true p432
         replace q432 := eq_true q432
         go_wp2_with (first | (go_at_call 68; (with_reducible refine (slices_isNaN_int.calls (rd l0 x7_1) false _ A13.out).mono ?_); rintro e w' ⟨rfl, ⟨nd, rfl⟩⟩))
         go_ret2
         exact ⟨ap, dr⟩
      ·rw [if_neg c11] at H
       exact absurd H (by simp)
     ·rw [if_neg c10] at H
      exact absurd H (by simp)
    ·rw [if_neg c9] at H
     have c9b0 : decide (x7_1 < (l0.length : Int)) = false := decide_eq_false c9
     clear c9
     simp only [Option.some.injEq, Prod.mk.injEq] at H
     obtain ⟨rfl, rfl⟩ := H
     go_wp2
     go_ret2
     exact ⟨ap, dr⟩

end Go.Proofs.Ytigmekgknhoidaa.P

/- The shelf's contracts of slices.Clone, slices.Delete and slices.Insert at []int, laid at this seat's translation. -/
namespace Go.Proofs
open Go.Shelf
def Try.laysNm215_ren : Go.Shelf.Ren := ⟨fun | 15 => 58 | n => n, fun | 22 => 54 | 3 => 3 | 4 => 4 | n => n, fun | n => n⟩
theorem Try.laysNm215 : Go.Proofs.Lays2.n15 Try.prog Try.laysNm215_ren := {
  mixed := by kernel_rfl
  f15 := Try.func58.trans (congrArg some (by kernel_rfl))
  t3 := Try.underlying3
  a3 := Try.isAgg3
  z3 := Try.sizeOf3
  v3 := Try.zeroValue3
  t4 := Try.underlying4
  a4 := Try.isAgg4
  z4 := Try.sizeOf4
  v4 := Try.zeroValue4
  t22 := Try.underlying54
  a22 := Try.isAgg54
  z22 := Try.sizeOf54
  v22 := Try.zeroValue54
  i3 := by kernel_rfl }
open Go.RowKit Go.Lib in
theorem Try.slices_Clone_int (b off n c : Nat) (zs : List Int) (w : World) (hz : n ≤ zs.length) (hbig : n * 8 ≤ 140737488355328) (hc : ∀ j, j < zs.length → w.cell? ⟨b, off + j, none⟩ = some (.int .i64 (zs.getD j 0))) :
    Calls Try.prog 58 #[.slice (some ⟨b, off, none⟩) n c] w fun e w' => ∃ v', e = .returned v' ∧ w'.ownsRow w.heap.size 3 1 v' n ((zs.take n).map (Value.int .i64)) ∧ v' ≠ .slice none 0 0 ∧ Below w.heap.size w w' := Any.slices_Clone_int Try.laysNm215 b off n c zs w hz hbig hc
open Go.RowKit Go.Lib in
theorem Try.slices_Clone_int_nil (n c : Nat) (w : World) :
    Calls Try.prog 58 #[.slice none n c] w fun e w' => e = .returned (.slice none 0 0) ∧ w' = w := Any.slices_Clone_int_nil Try.laysNm215 n c w
open Go.RowKit Go.Lib in
theorem Try.slices_Clone_int_zero (a : Addr) (c : Nat) (w : World) :
    Calls Try.prog 58 #[.slice (some a) 0 c] w fun e w' => ∃ v', e = .returned v' ∧ w'.ownsRow w.heap.size 3 1 v' 0 [] ∧ v' ≠ .slice none 0 0 ∧ Below w.heap.size w w' := Any.slices_Clone_int_zero Try.laysNm215 a c w
def Try.laysNm223_ren : Go.Shelf.Ren := ⟨fun | 23 => 57 | n => n, fun | 22 => 54 | 3 => 3 | 4 => 4 | 0 => 0 | n => n, fun | n => n⟩
theorem Try.laysNm223 : Go.Proofs.Lays2.n23 Try.prog Try.laysNm223_ren := {
  mixed := by kernel_rfl
  f23 := Try.func57.trans (congrArg some (by kernel_rfl))
  t0 := Try.underlying0
  a0 := Try.isAgg0
  z0 := Try.sizeOf0
  v0 := Try.zeroValue0
  t3 := Try.underlying3
  a3 := Try.isAgg3
  z3 := Try.sizeOf3
  v3 := Try.zeroValue3
  t4 := Try.underlying4
  a4 := Try.isAgg4
  z4 := Try.sizeOf4
  v4 := Try.zeroValue4
  t22 := Try.underlying54
  a22 := Try.isAgg54
  z22 := Try.sizeOf54
  v22 := Try.zeroValue54
  i3 := by kernel_rfl }
open Go.RowKit Go.Lib Go.Sort in
theorem Try.slices_Delete_int_cells (b off n c i j : Nat) (zs : List Int) (w : World) (hz : n ≤ zs.length) (hcap : n ≤ c) (hm : c ≤ 9223372036854775807) (hij : i ≤ j) (hj : j ≤ n) (hc : ∀ j, j < zs.length → w.cell? ⟨b, off + j, none⟩ = some (.int .i64 (zs.getD j 0))) (hf : ∀ j, j < n → w.frozen? ⟨b, off + j, none⟩ = false) :
    Calls Try.prog 57 #[.slice (some ⟨b, off, none⟩) n c, .int .i64 i, .int .i64 j] w fun e w' => e = .returned (.slice (some ⟨b, off, none⟩) (n - (j - i)) c) ∧ ∃ q, w' = (w.drewN q).setCells b off (((zs.take n).take i ++ (zs.take n).drop j ++ List.replicate (j - i) 0).map (Value.int .i64)) := Any.slices_Delete_int_cells Try.laysNm223 b off n c i j zs w hz hcap hm hij hj hc hf
open Go.RowKit Go.Lib in
theorem Try.slices_Delete_int_empty (a : Option Addr) (c : Nat) (w : World) :
    Calls Try.prog 57 #[.slice a 0 c, .int .i64 0, .int .i64 0] w fun e w' => e = .returned (.slice a 0 c) ∧ w' = w := Any.slices_Delete_int_empty Try.laysNm223 a c w
def Try.laysNm221_ren : Go.Shelf.Ren := ⟨fun | 21 => 59 | 27 => 69 | 28 => 70 | 35 => 73 | 39 => 74 | n => n, fun | 22 => 54 | 3 => 3 | 4 => 4 | 0 => 0 | n => n, fun | n => n⟩
theorem Try.laysNm221 : Go.Proofs.Lays2.n21 Try.prog Try.laysNm221_ren := {
  mixed := by kernel_rfl
  f21 := Try.func59.trans (congrArg some (by kernel_rfl))
  f27 := Try.func69.trans (congrArg some (by kernel_rfl))
  f28 := Try.func70.trans (congrArg some (by kernel_rfl))
  f35 := Try.func73.trans (congrArg some (by kernel_rfl))
  f39 := Try.func74.trans (congrArg some (by kernel_rfl))
  t0 := Try.underlying0
  a0 := Try.isAgg0
  z0 := Try.sizeOf0
  v0 := Try.zeroValue0
  t3 := Try.underlying3
  a3 := Try.isAgg3
  z3 := Try.sizeOf3
  v3 := Try.zeroValue3
  t4 := Try.underlying4
  a4 := Try.isAgg4
  z4 := Try.sizeOf4
  v4 := Try.zeroValue4
  t22 := Try.underlying54
  a22 := Try.isAgg54
  z22 := Try.sizeOf54
  v22 := Try.zeroValue54
  i3 := by kernel_rfl }
end Go.Proofs

/- Rows of whole numbers of the call's own: an element taken out, or put in, in place or anew. -/
namespace Go.Proofs.Ytigmekgknhoidaa.Sq
open Go Go.RowKit Go.Proofs.YtigmekgknhoidaaW.PrintWords Go.Proofs.YtigmekgknhoidaaW.PrintLast Go.Proofs.YtigmekgknhoidaaW.PrintMore
set_option linter.unusedVariables false
set_option linter.unusedSimpArgs false
theorem heap_setCell {w : World} {b o t : Nat} {fz : Nat × Nat} {cur : Array Value} (v : Value) (h : w.heap[b]? = some (.cells cur t fz)) : (w.setCell ⟨b, o, none⟩ v).heap[b]? = some (.cells (cur.setIfInBounds o v) t fz) := by
  simp [World.setCell, Array.getElem?_modify, h]
theorem heap_setCells (b t : Nat) (fz : Nat × Nat) : ∀ (vs : List Value) (o : Nat) (w : World) (cur : Array Value), w.heap[b]? = some (.cells cur t fz) →
    ∃ cur', (w.setCells b o vs).heap[b]? = some (.cells cur' t fz) ∧ cur'.size = cur.size ∧ ∀ j, cur'[j]? = if o ≤ j ∧ j < o + vs.length ∧ j < cur.size then vs[j - o]? else cur[j]?
  | [], o, w, cur, h => by
    refine ⟨cur, h, rfl, fun j => ?_⟩
    rw [if_neg (by simp only [List.length_nil]; omega)]
  | v :: r, o, w, cur, h => by
    obtain ⟨cur', h1, h2, h3⟩ := heap_setCells b t fz r (o + 1) (w.setCell ⟨b, o, none⟩ v) _ (heap_setCell v h)
    refine ⟨cur', h1, by rw [h2]; simp, fun j => ?_⟩
    rw [h3 j]
    simp only [Array.size_setIfInBounds, List.length_cons]
    by_cases hj : o = j
    · subst hj
      rw [if_neg (by omega)]
      by_cases hs : o < cur.size
      · rw [if_pos (by omega), Array.getElem?_setIfInBounds_self_of_lt hs, Nat.sub_self]
        rfl
      · rw [if_neg (by omega), Array.getElem?_eq_none (by simp; omega), Array.getElem?_eq_none (by omega)]
    · by_cases hc : o + 1 ≤ j ∧ j < o + 1 + r.length ∧ j < cur.size
      · rw [if_pos hc, if_pos (by omega), show j - o = (j - (o + 1)) + 1 by omega]
        rfl
      · rw [if_neg hc, if_neg (by omega), Array.getElem?_setIfInBounds_ne hj]
section
variable {w w1 : World} {base : Nat} {ok : Nat → Prop} {v : Value} {xs : List Int}
theorem own_block (h : (Kd.int .i64).R 3 w base ok v xs) : (v = .slice none 0 0 ∧ xs = []) ∨ ∃ g cap cur, v = .slice (some ⟨g, 0, none⟩) xs.length cap ∧ base ≤ g ∧ ok g ∧ w.heap[g]? = some (.cells cur 3 (0, 0)) ∧ xs.length ≤ cap ∧ cap ≤ maxLen ∧ cur.size = cap ∧ ∀ j : Nat, ∀ x : Int, xs[j]? = some x → cur[j]? = some (.int .i64 x) := by
  have ho := Kd.own_of_R h
  rcases ho.2 with ⟨h1, h2⟩ | ⟨g, cap, cur, h1, h2, h3, h4, h5, h6, h7⟩
  · exact .inl ⟨h1, List.eq_nil_of_length_eq_zero h2⟩
  · refine .inr ⟨g, cap, cur, h1, h2, h.1 g (by rw [h1]; rfl), h3, h4, h5, by rw [h6, Nat.mul_one], fun j x hj => ?_⟩
    have hl : j < xs.length := (List.getElem?_eq_some_iff.1 hj).1
    have h8 : (encs (Value.int .i64) xs)[j]? = some (.int .i64 x) := by simp [encs, hj]
    rw [← h7, List.getElem?_take, if_pos (by omega)] at h8
    simpa using h8
theorem make_own {g cap : Nat} {cur : Array Value} (h2 : base ≤ g) (hok : ok g) (h3 : w.heap[g]? = some (.cells cur 3 (0, 0))) (h4 : xs.length ≤ cap) (h5 : cap ≤ maxLen) (h6 : cur.size = cap) (h7 : ∀ j : Nat, ∀ x : Int, xs[j]? = some x → cur[j]? = some (.int .i64 x)) : (Kd.int .i64).R 3 w base ok (.slice (some ⟨g, 0, none⟩) xs.length cap) xs := by
  refine Kd.R_of_own ⟨by simp [encs], .inr ⟨g, cap, cur, rfl, h2, h3, h4, h5, by rw [h6, Nat.mul_one], ?_⟩⟩ (fun k hk => by simp [Value.ownBlock] at hk; subst hk; exact hok)
  apply List.ext_getElem?
  intro j
  rw [List.getElem?_take, Nat.mul_one]
  by_cases hj : j < xs.length
  · rw [if_pos hj]
    have := h7 j _ (List.getElem?_eq_getElem hj)
    simp [encs, List.getElem?_eq_getElem hj]
    simpa using this
  · rw [if_neg hj]
    simp [encs, List.getElem?_eq_none (Nat.le_of_not_lt hj)]
theorem cell_of {g j : Nat} {cur : Array Value} {t : Nat} {fz : Nat × Nat} {u : Value} (h : w.heap[g]? = some (.cells cur t fz)) (hj : cur[j]? = some u) : w.cell? ⟨g, j, none⟩ = some u := by
  simp [World.cell?, h, hj]
theorem frozen_of {g j : Nat} {cur : Array Value} {t : Nat} (h : w.heap[g]? = some (.cells cur t (0, 0))) : w.frozen? ⟨g, j, none⟩ = false := by
  simp [World.frozen?, h]
theorem maxLen_le : maxLen ≤ 9223372036854775807 := by simp [maxLen]
/-- slices.Delete of one element. -/
theorem delete_own (h : (Kd.int .i64).R 3 w base ok v xs) (i j : Int) (h0 : 0 ≤ i) (hi : i < xs.length) (hj : j = i + 1) :
    Calls Try.prog 57 #[v, .int .i64 i, .int .i64 j] w fun e w' => ∃ v', e = .returned v' ∧ (Kd.int .i64).R 3 w' base ok v' (xs.take i.toNat ++ xs.drop (i.toNat + 1)) ∧ ∀ w0 : World, Below base w0 w → Below base w0 w' := by
  obtain ⟨n, rfl⟩ := Int.eq_ofNat_of_zero_le h0
  subst hj
  rcases own_block h with ⟨_, rfl⟩ | ⟨g, cap, cur, rfl, hb, hk, hh, hc, hm, hs, hx⟩
  · simp at hi; omega
  have hn : n < xs.length := by omega
  have hcell : ∀ j, j < xs.length → w.cell? ⟨g, 0 + j, none⟩ = some (.int .i64 (xs.getD j 0)) := fun j hj => by
    rw [Nat.zero_add]
    refine cell_of hh (hx j _ ?_)
    rw [List.getD_eq_getElem?_getD, List.getElem?_eq_getElem hj]; rfl
  have hc2 := Try.slices_Delete_int_cells g 0 xs.length cap n (n + 1) xs w (Nat.le_refl _) hc (Nat.le_trans hm maxLen_le) (Nat.le_succ _) hn hcell (fun j _ => frozen_of hh)
  rw [show ((n : Int) + 1) = ((n + 1 : Nat) : Int) by omega]
  refine hc2.mono ?_
  rintro e w' ⟨rfl, q, rfl⟩
  have hq : (w.drewN q).heap[g]? = some (.cells cur 3 (0, 0)) := hh
  obtain ⟨cur', k1, k2, k3⟩ := heap_setCells g 3 (0, 0) (((xs.take xs.length).take n ++ (xs.take xs.length).drop (n + 1) ++ List.replicate (n + 1 - n) 0).map (Value.int .i64)) 0 (w.drewN q) cur hq
  have hl : (xs.take n ++ xs.drop (n + 1)).length = xs.length - (n + 1 - n) := by
    rw [List.length_append, List.length_take, List.length_drop]; omega
  refine ⟨_, rfl, ?_, fun w0 hB => below_setCells hb _ _ _ (pw_below_drewN hB q)⟩
  have hmk := make_own (w := (w.drewN q).setCells g 0 (((xs.take xs.length).take n ++ (xs.take xs.length).drop (n + 1) ++ List.replicate (n + 1 - n) 0).map (Value.int .i64))) (xs := xs.take n ++ xs.drop (n + 1)) hb hk k1 (by rw [hl]; omega) hm (by rw [k2]; exact hs) (fun j x hj => ?_)
  · rw [hl] at hmk
    rw [Int.toNat_natCast]
    exact hmk
  · have hjl : j < (xs.take n ++ xs.drop (n + 1)).length := (List.getElem?_eq_some_iff.1 hj).1
    rw [k3 j, if_pos ⟨Nat.zero_le _, by simp only [List.length_map, List.length_append, List.length_take, List.length_drop, List.length_replicate]; omega, by omega⟩, Nat.sub_zero, List.getElem?_map, List.take_length, List.getElem?_append_left hjl, hj]
    rfl
/-- What stands behind an element that was put in. -/
theorem put_at (xs : List Int) (n : Nat) (x : Int) (hn : n ≤ xs.length) (j : Nat) (y : Int) (h : (xs.take n ++ x :: xs.drop n)[j]? = some y) : (j < n ∧ xs[j]? = some y) ∨ (j = n ∧ y = x) ∨ (n < j ∧ j ≤ xs.length ∧ xs[j - 1]? = some y) := by
  have ht : (xs.take n).length = n := by rw [List.length_take]; omega
  by_cases h1 : j < n
  · rw [List.getElem?_append_left (by omega), List.getElem?_take, if_pos h1] at h
    exact .inl ⟨h1, h⟩
  · rw [List.getElem?_append_right (by omega), ht] at h
    by_cases h2 : j = n
    · subst h2
      rw [Nat.sub_self] at h
      exact .inr (.inl ⟨rfl, by simpa using h.symm⟩)
    · rw [show j - n = (j - n - 1) + 1 by omega, List.getElem?_cons_succ, List.getElem?_drop, show n + (j - n - 1) = j - 1 by omega] at h
      have := (List.getElem?_eq_some_iff.1 h).1
      exact .inr (.inr ⟨by omega, by omega, h⟩)
theorem put_len (xs : List Int) (n : Nat) (x : Int) (hn : n ≤ xs.length) : (xs.take n ++ x :: xs.drop n).length = xs.length + 1 := by
  rw [List.length_append, List.length_take, List.length_cons, List.length_drop]; omega
/-- slices.Insert of one element. -/
theorem insert_own (h : (Kd.int .i64).R 3 w base (fun _ => True) v xs) (i x : Int) (h0 : 0 ≤ i) (hi : i ≤ xs.length) (hl16 : xs.length ≤ 1000) (vb vc : Nat) (cu : Array Value) (hvb : w.heap[vb]? = some (.cells cu 3 (0, 0))) (hcu : cu[0]? = some (.int .i64 x)) (hne : ∀ k, v.ownBlock = some k → vb ≠ k) (hbase : base ≤ w.heap.size) :
    Calls Try.prog 59 #[v, .int .i64 i, .slice (some ⟨vb, 0, none⟩) 1 vc] w fun e w' => ∃ v', e = .returned v' ∧ (Kd.int .i64).R 3 w' base (fun _ => True) v' (xs.take i.toNat ++ x :: xs.drop i.toNat) ∧ ∀ w0 : World, Below base w0 w → Below base w0 w' := by
  obtain ⟨n, rfl⟩ := Int.eq_ofNat_of_zero_le h0
  rw [Int.toNat_natCast]
  have hvs : ∀ j v, ([Value.int .i64 x])[j]? = some v → w.cell? ⟨vb, 0 + j, none⟩ = some v := fun j v hj => by
    rw [Nat.zero_add]
    refine cell_of hvb ?_
    have hj0 : j = 0 := by have := (List.getElem?_eq_some_iff.1 hj).1; simp at this; omega
    subst hj0
    rw [hcu]
    simpa using hj
  have h1v : ∀ v ∈ [Value.int .i64 x], v.oneCell' = true := fun v hv => by rw [List.mem_singleton.1 hv]; rfl
  have hlen := put_len xs n x (by omega)
  have h1c : ∀ v ∈ xs.map (Value.int .i64), v.oneCell' = true := fun v hv => by
    obtain ⟨y, _, rfl⟩ := List.mem_map.1 hv; rfl
  have hgc := grownCap_ge w (xs.length + 1) 0 3
  rcases own_block h with ⟨rfl, rfl⟩ | ⟨g, cap, cur, rfl, hb, hk, hh, hc, hm, hs, hx⟩
  · obtain rfl : n = 0 := by simp at hi; omega
    have hC := Any2.slices_Insert_int_end_grow Try.laysNm221 none 0 0 vb 0 1 vc [] [Value.int .i64 x] w (by omega) (by omega) (by omega) (by omega) rfl rfl (fun _ => rfl) (fun a ha => by cases ha) hvs h1v
    refine Calls.mono hC ?_
    rintro e w' ⟨rfl, rfl⟩
    have hgc := grownCap_ge w (0 + 1) 0 3
    have hgm := grownCap_le_maxLen w (0 + 1) 0 3 (by simp [maxLen])
    refine ⟨_, rfl, make_own (w := w.drew.alloc _) (xs := [x]) hbase trivial (Array.getElem?_push_size) hgc hgm ?_ (fun j y hj => ?_), fun w0 hB => (below_drew hB).alloc hbase _⟩
    · simp only [Array.size_append, size_zeroCells, List.size_toArray, List.length_append, List.length_singleton, List.length_nil]
      show 0 + 1 + (grownCap w (0 + 1) 0 3 - (0 + 1)) * 1 = grownCap w (0 + 1) 0 3
      omega
    · have hj0 : j = 0 := by
        have := (List.getElem?_eq_some_iff.1 hj).1; simp at this; omega
      subst hj0
      rw [Array.getElem?_append_left (by simp)]
      simp at hj ⊢
      exact hj
  · have hcs : ∀ j v, (xs.map (Value.int .i64))[j]? = some v → w.cell? ⟨g, 0 + j, none⟩ = some v := fun j v hj => by
      rw [List.getElem?_map] at hj
      obtain ⟨y, hy, rfl⟩ := Option.map_eq_some_iff.1 hj
      rw [Nat.zero_add]
      exact cell_of hh (hx j y hy)
    have hcl : (xs.map (Value.int .i64)).length = xs.length := List.length_map _
    have hvg : vb ≠ g := hne g rfl
    have hcap : cap ≤ 9223372036854775807 := Nat.le_trans hm maxLen_le
    have hsome : ∀ j, j < cap → (w.cell? ⟨g, j, none⟩).isSome = true := fun j hj => by
      have : cur[j]? = some cur[j] := Array.getElem?_eq_getElem (by omega)
      rw [cell_of hh this]; rfl
    have shv : w.shape? vb = some (3, cu.size) := by simp [World.shape?, hvb]
    have shg : w.shape? g = some (3, cap) := by simp [World.shape?, hh, hs]
    by_cases hroom : xs.length + 1 ≤ cap
    · by_cases hin : n < xs.length
      · have hC := Any2.slices_Insert_int_shift Try.laysNm221 g 0 xs.length cap n vb 0 1 vc (xs.map (Value.int .i64)) [Value.int .i64 x] w hin (by omega) hroom hcap hvg hcl rfl hcs (fun j hj => by rw [Nat.zero_add]; exact hsome j (by omega)) (fun j _ => frozen_of hh) hvs h1c h1v 3 3 cu.size cap shv shg (by omega) (frozen_of hvb) (frozen_of hvb)
        refine Calls.mono hC ?_
        rintro e w' ⟨rfl, rfl⟩
        obtain ⟨c1, k1, k2, k3⟩ := heap_setCells g 3 (0, 0) ((xs.map (Value.int .i64)).drop n) (0 + (n + 1)) w.drew cur hh
        obtain ⟨c2, m1, m2, m3⟩ := heap_setCells g 3 (0, 0) [Value.int .i64 x] (0 + n) _ c1 k1
        have hmk := make_own (xs := xs.take n ++ x :: xs.drop n) (ok := fun _ => True) hb trivial m1 (by rw [hlen]; exact hroom) hm (by rw [m2, k2]; exact hs) (fun j y hj => ?_)
        · rw [hlen] at hmk
          exact ⟨_, rfl, hmk, fun w0 hB => below_setCells hb _ _ _ (below_setCells hb _ _ _ (below_drew hB))⟩
        · rw [m3 j]
          rcases put_at xs n x (by omega) j y hj with ⟨p1, p2⟩ | ⟨p1, p2⟩ | ⟨p1, p2, p3⟩
          · rw [if_neg (by simp only [List.length_singleton]; omega), k3 j, if_neg (by omega)]
            exact hx j y p2
          · subst p1 p2
            rw [if_pos (by simp only [List.length_singleton]; omega), Nat.zero_add, Nat.sub_self]
            rfl
          · rw [if_neg (by simp only [List.length_singleton]; omega), k3 j, if_pos (by simp only [List.length_drop, List.length_map]; omega), List.getElem?_drop, List.getElem?_map, show n + (j - (0 + (n + 1))) = j - 1 by omega, p3]
            rfl
      · obtain rfl : n = xs.length := by omega
        have hC := Any2.slices_Insert_int_end_room Try.laysNm221 g 0 xs.length cap vb 0 1 vc [Value.int .i64 x] w (by omega) hroom hcap rfl (fun j hj => by rw [Nat.zero_add]; exact hsome _ (by omega)) (fun j _ => frozen_of hh) hvs h1v
        refine Calls.mono hC ?_
        rintro e w' ⟨rfl, rfl⟩
        obtain ⟨c2, m1, m2, m3⟩ := heap_setCells g 3 (0, 0) [Value.int .i64 x] (0 + xs.length) w cur hh
        have hmk := make_own (xs := xs.take xs.length ++ x :: xs.drop xs.length) (ok := fun _ => True) hb trivial m1 (by rw [hlen]; exact hroom) hm (by rw [m2]; exact hs) (fun j y hj => ?_)
        · rw [hlen] at hmk
          exact ⟨_, rfl, hmk, fun w0 hB => below_setCells hb _ _ _ hB⟩
        · rw [m3 j]
          rcases put_at xs xs.length x (Nat.le_refl _) j y hj with ⟨p1, p2⟩ | ⟨p1, p2⟩ | ⟨p1, p2, p3⟩
          · rw [if_neg (by omega)]
            exact hx j y p2
          · subst p1 p2
            rw [if_pos (by simp only [List.length_singleton]; omega), Nat.zero_add, Nat.sub_self]
            rfl
          · omega
    · have hroom' : cap < xs.length + 1 := by omega
      have hgc2 := grownCap_ge w (xs.length + 1) cap 3
      have hgm := grownCap_le_maxLen w (xs.length + 1) cap 3 (by simp only [maxLen]; omega)
      by_cases hin : n < xs.length
      · have hC := Any2.slices_Insert_int_grow Try.laysNm221 g 0 xs.length cap n vb 0 1 vc (xs.map (Value.int .i64)) [Value.int .i64 x] w hin (by omega) hc hroom' (by omega) hcl rfl hcs hvs h1c h1v
        refine Calls.mono hC ?_
        rintro e w' ⟨rfl, rfl⟩
        generalize hA : ((((xs.map (Value.int .i64)).take n).toArray ++ Builtin.zeroCells (Value.int .i64 0).cells (xs.length + 1 - n)) ++ Builtin.zeroCells (Value.int .i64 0).cells (grownCap w (xs.length + 1) cap 3 - (xs.length + 1)) : Array Value) = A
        have hAs : A.size = grownCap w (xs.length + 1) cap 3 := by
          rw [← hA]
          simp only [Array.size_append, size_zeroCells, List.size_toArray, List.length_take, List.length_map]
          show min n xs.length + (xs.length + 1 - n) * 1 + (grownCap w (xs.length + 1) cap 3 - (xs.length + 1)) * 1 = _
          omega
        have hAx : ∀ j y, j < n → xs[j]? = some y → A[j]? = some (.int .i64 y) := fun j y hj hy => by
          rw [← hA, Array.getElem?_append_left (by simp only [Array.size_append, List.size_toArray, List.length_take, List.length_map]; omega), Array.getElem?_append_left (by simp only [List.size_toArray, List.length_take, List.length_map]; omega)]
          simp [List.getElem?_take, hj, hy]
        have hA0 : (w.alloc (.cells A 3)).drew.heap[w.heap.size]? = some (.cells A 3 (0, 0)) := Array.getElem?_push_size
        obtain ⟨c1, k1, k2, k3⟩ := heap_setCells w.heap.size 3 (0, 0) [Value.int .i64 x] n _ A hA0
        obtain ⟨c2, m1, m2, m3⟩ := heap_setCells w.heap.size 3 (0, 0) ((xs.map (Value.int .i64)).drop n) (n + 1) (((w.alloc (.cells A 3)).drew.setCells w.heap.size n [Value.int .i64 x]).drew) c1 k1
        have hmk := make_own (xs := xs.take n ++ x :: xs.drop n) (ok := fun _ => True) hbase trivial m1 (by rw [hlen]; exact hgc2) hgm (by rw [m2, k2, hAs]) (fun j y hj => ?_)
        · rw [hlen] at hmk
          refine ⟨_, rfl, ?_, fun w0 hB => below_setCells hbase _ _ _ (below_drew (below_setCells hbase _ _ _ (below_drew (hB.alloc hbase _))))⟩
          subst hA
          exact hmk
        · rw [m3 j]
          rcases put_at xs n x (by omega) j y hj with ⟨p1, p2⟩ | ⟨p1, p2⟩ | ⟨p1, p2, p3⟩
          · rw [if_neg (by omega), k3 j, if_neg (by omega)]
            exact hAx j y p1 p2
          · subst p1 p2
            rw [if_neg (by omega), k3 j, if_pos (by simp only [List.length_singleton]; omega), Nat.sub_self]
            rfl
          · rw [if_pos (by simp only [List.length_drop, List.length_map]; omega), List.getElem?_drop, List.getElem?_map, show n + (j - (n + 1)) = j - 1 by omega, p3]
            rfl
      · obtain rfl : n = xs.length := by omega
        have hC := Any2.slices_Insert_int_end_grow Try.laysNm221 (some ⟨g, 0, none⟩) xs.length cap vb 0 1 vc (xs.map (Value.int .i64)) [Value.int .i64 x] w (by omega) hc hroom' (by omega) hcl rfl (fun e => by cases e) (fun a ha j v hj => by cases ha; rw [add_plain]; have := hcs j v hj; rwa [Nat.zero_add] at this) hvs h1v
        refine Calls.mono hC ?_
        rintro e w' ⟨rfl, rfl⟩
        have hmk := make_own (w := w.drew.alloc (.cells ((xs.map (Value.int .i64) ++ [Value.int .i64 x]).toArray ++ Builtin.zeroCells (Value.int .i64 0).cells (grownCap w (xs.length + 1) cap 3 - (xs.length + 1))) 3)) (xs := xs.take xs.length ++ x :: xs.drop xs.length) (ok := fun _ => True) hbase trivial (Array.getElem?_push_size) (by rw [hlen]; exact hgc2) hgm ?_ (fun j y hj => ?_)
        · rw [hlen] at hmk
          exact ⟨_, rfl, hmk, fun w0 hB => (below_drew hB).alloc hbase _⟩
        · simp only [Array.size_append, size_zeroCells, List.size_toArray, List.length_append, List.length_singleton, List.length_map]
          show xs.length + 1 + (grownCap w (xs.length + 1) cap 3 - (xs.length + 1)) * 1 = grownCap w (xs.length + 1) cap 3
          omega
        · have hjl : j < xs.length + 1 := by rw [← hlen]; exact (List.getElem?_eq_some_iff.1 hj).1
          rw [Array.getElem?_append_left (by simp; omega)]
          rw [List.take_length, List.drop_length] at hj
          have : (xs.map (Value.int .i64) ++ [Value.int .i64 x])[j]? = ((xs ++ [x]).map (Value.int .i64))[j]? := by simp
          simp only [List.getElem?_toArray]
          rw [this, List.getElem?_map, hj]
          rfl
end
end Go.Proofs.Ytigmekgknhoidaa.Sq

-- written by a program of the proving session, out of the translation; Lean checks it
namespace Go.Proofs.Ytigmekgknhoidaa.P
open Go.RowKit Go.Proofs.Ytigmekgknhoidaa.Sq Go.Proofs.YtigmekgknhoidaaW.PrintWords Go.Proofs.YtigmekgknhoidaaW.PrintLast Go.Proofs.YtigmekgknhoidaaW.PrintMore
attribute [local go_sem] max2_int min2_int max_two min_two max_three min_three max_four min_four   -- for this text's walks alone
set_option linter.unusedVariables false
set_option linter.unusedSimpArgs false

/-! ### slices_Delete_int_int: function 57 -/
/-- slices.Delete of one element. -/
def slices_Delete_int_int.f (l0 : List Int) (a1 : Int) (a2 : Int) : Option (List Int) := if 0 ≤ a1 ∧ a1 < (l0.length : Int) ∧ a2 = a1 + 1 then some (l0.take a1.toNat ++ l0.drop (a1.toNat + 1)) else none
theorem slices_Delete_int_int.own {A : Option Addr} {n c base : Nat} {ok : Nat → Prop} {w : World} {l0 r : List Int} {a1 a2 : Int} (h : Kd.R (Kd.int .i64) 3 w base ok (.slice A n c) l0) (hf : slices_Delete_int_int.f l0 a1 a2 = some r) :
 Calls Try.prog 57 #[.slice A n c, .int .i64 a1, .int .i64 a2] w fun e w' => ∃ v0_ : Value, e = .returned v0_ ∧ Kd.R (Kd.int .i64) 3 w' base (fun _ => True) v0_ r ∧ ∀ w0 : World, Below base w0 w → Below base w0 w' := by
 unfold slices_Delete_int_int.f at hf
 by_cases hc : 0 ≤ a1 ∧ a1 < (l0.length : Int) ∧ a2 = a1 + 1
 ·rw [if_pos hc] at hf
  obtain rfl := Option.some.inj hf
  obtain ⟨h1, h2, h3⟩ := hc
  exact delete_own (Kd.R_mono h (fun _ _ => trivial)) a1 a2 h1 h2 h3
 ·rw [if_neg hc] at hf
  cases hf

end Go.Proofs.Ytigmekgknhoidaa.P

-- written by a program of the proving session, out of the translation; Lean checks it
namespace Go.Proofs.Ytigmekgknhoidaa.P
open Go.RowKit Go.Proofs.Ytigmekgknhoidaa.Sq Go.Proofs.YtigmekgknhoidaaW.PrintWords Go.Proofs.YtigmekgknhoidaaW.PrintLast Go.Proofs.YtigmekgknhoidaaW.PrintMore
attribute [local go_sem] max2_int min2_int max_two min_two max_three min_three max_four min_four   -- for this text's walks alone
set_option linter.unusedVariables false
set_option linter.unusedSimpArgs false

/-! ### slices_Clone_int_int: function 58 -/
/-- slices.Clone at whole numbers: the same in new memory. -/
def slices_Clone_int_int.f (l0 : List (Int)) : Option (List (Int)) := if l0.length < 2199023255552 then some l0 else none
theorem info_slices_Clone_int_int : (Try.prog.info? 3).map (fun i => (i.zero, i.size, i.bytes)) = some (some (.int .i64 0), 1, 8) := by kernel_rfl
set_option maxHeartbeats 1000000 in
set_option maxRecDepth 100000 in
theorem slices_Clone_int_int.calls (A0 : Option Addr) (c0 : Nat) (l0 : List (Int)) (r : List (Int)) (w : World) (hr0 : Kd.C (Kd.int .i64) w A0 l0.length l0) (hc0 : l0.length ≤ c0) (h : slices_Clone_int_int.f l0 = some r) :
 Calls Try.prog 58 #[.slice A0 l0.length c0] w fun e w' => ∃ v0_ : Value, e = .returned (v0_) ∧ Kd.R (Kd.int .i64) 3 w' w.heap.size (fun _ => True) v0_ r ∧ Below w.heap.size w w' := by
 unfold slices_Clone_int_int.f at h
 by_cases hl : l0.length < 2199023255552
 ·rw [if_pos hl] at h
  obtain rfl := Option.some.inj h
  have HL := Aside0.mk hl
  clear hl h
  have hq := fun (W : World) => Lib.run_eql_slice_nil (P := Try.prog) W 54 3 A0 l0.length c0 0 0 Try.underlying54
  cases A0 with
  | none =>
   have h0 : l0 = [] := by
    rcases l0 with _ | ⟨x, l⟩
    ·rfl
    ·obtain ⟨ad, e, _⟩ := hr0.2.2 (by simp)
     cases e
   subst h0
   clear hr0 hc0
   simp only [List.length_nil] at hq ⊢
   go_enter Try.func58, Try.ntmps58
   go_wp2
   go_ret
   exact ⟨_, rfl, Kd.R_nil _ _ _ _ _, Below.refl _ _⟩
  | some a =>
   have HR := Aside0.mk hr0
   have HC := Aside0.mk hc0
   have HB := Aside0.mk (Below.refl w.heap.size w)
   clear hr0 hc0
   go_enter Try.func58, Try.ntmps58
   have HO : Aside0 (Kd.R (Kd.int .i64) 3 (w.alloc (.cells #[] 3)) w.heap.size (fun _ => True) (.slice (some ⟨w.heap.size, 0, none⟩) 0 0) ([] : List Int)) := by
    refine ⟨fun k hk => trivial, [], ?_, Reps.none _ _⟩
    have h2 := World.ownsRow_lit (base := w.heap.size) (e := 3) (size := (Kd.int .i64).sz) w #[] 0 (Nat.le_refl _) (by simp [maxLen]) rfl
    simpa using h2
   go_wp2_with (first | ((with_reducible refine gate_builtin (b := .append) (xs := #[.tmp 5, .tmp 6]) rfl ?_); at_builtin; refine Kd.R_append_rows (Kd.int .i64) (w0 := w) w.heap.size rfl (.tmp 5) (.tmp 6) 54 3 (.int .i64 0) 8 rfl Try.underlying54 info_slices_Clone_int_int rfl (by decide) (by omega) (.slice (some ⟨w.heap.size, 0, none⟩) 0 0) [] l0 _ _ _ (fun _ => True) (fun _ => False) rfl rfl ?aO ?aR (fun _ _ h => h) (fun _ h => h.elim) ?aF ?aB ?aS ?aL ?_; (case aR => exact (Kd.C_alloc HR.out _)); (case aB => exact bo); (case aF => exact (fun _ _ => trivial)); (case aO => exact HO.out); (case aS => exact (below_size bo)); (case aL => have := HL.out; simp; omega); intro v174 w5 ho hb hg hat; have n0_ := Aside0.mk (hb); have n1_ := Aside0.mk (ho); clear HB; clear HO; have HB := n0_; have HO175 := n1_; clear n0_ n1_; clear ho hb hg hat))
   go_ret
   exact ⟨_, rfl, by (with_reducible repeat (first | apply Kd.R_alloc | apply Kd.R_drewN | apply Kd.R_drew)); simpa using HO175.out, bo⟩
 ·rw [if_neg hl] at h
  cases h

end Go.Proofs.Ytigmekgknhoidaa.P

-- written by a program of the proving session, out of the translation; Lean checks it
namespace Go.Proofs.Ytigmekgknhoidaa.P
open Go.RowKit Go.Proofs.Ytigmekgknhoidaa.Sq Go.Proofs.YtigmekgknhoidaaW.PrintWords Go.Proofs.YtigmekgknhoidaaW.PrintLast Go.Proofs.YtigmekgknhoidaaW.PrintMore
attribute [local go_sem] max2_int min2_int max_two min_two max_three min_three max_four min_four   -- for this text's walks alone
set_option linter.unusedVariables false
set_option linter.unusedSimpArgs false

/-! ### inbox_End: function 32 -/
def inbox_End.j0 : Nat → List Int → Int → Bool → Option (List Int × Int)
 | 0, _, _, _ => none
 | k + 1, x0, x1, x15 => if x15 = true then (some (([] : List Int), 1)) else ((slices_BinarySearch_int_int.f k x0 x1).bind fun bt437 => (if bt437.2 = true then ((slices_Clone_int_int.f x0).bind fun t439 => ((slices_Delete_int_int.f t439 bt437.1 (wrap64 (bt437.1 + 1))).bind fun t442 => (some (t442, 0)))) else (some (([] : List Int), 3))))
def inbox_End.f (k : Nat) (l0 : List Int) (a1 : Int) : Option (List Int × Int) := (inbox_Check.f k l0).bind fun t435 => (if t435 = 0 then ((inbox_may.f a1).bind fun t436 => (inbox_End.j0 k l0 a1 (!t436))) else (inbox_End.j0 k l0 a1 true))
theorem inbox_End.mono_l : ∀ k, (∀ y0 y1 y2, LeO (inbox_End.j0 k y0 y1 y2) (inbox_End.j0 (k + 1) y0 y1 y2))
 | 0 => fun _ _ _ r h => by simp [inbox_End.j0] at h
 | k + 1 => by
  have ih0 := inbox_End.mono_l k
  ·intro y0 y1 y2
   unfold inbox_End.j0
   repeat' first
   | (with_reducible exact ih0 _ _ _)
   | (with_reducible exact inbox_Check.mono _ _)
   | (with_reducible exact slices_BinarySearch_int_int.mono _ _ _)
   | (with_reducible exact LeO.refl _)
   | (with_reducible exact LeO.none _)
   | (with_reducible refine LeO.ite ?_ ?_)
   | (with_reducible refine LeO.bind ?_ (fun _ => ?_))
   | exact ih0 _ _ _
   | exact inbox_Check.mono _ _
   | exact slices_BinarySearch_int_int.mono _ _ _
   | exact LeO.none _
   | refine LeO.ite ?_ ?_
   | refine LeO.bind ?_ (fun _ => ?_)
theorem inbox_End.mono : ∀ a0 a1 k, LeO (inbox_End.f k a0 a1) (inbox_End.f (k + 1) a0 a1) := by
 intro a0 a1 k
 have ih0 := inbox_End.mono_l k
 unfold inbox_End.f
 repeat' first
  | (with_reducible exact ih0 _ _ _)
  | (with_reducible exact inbox_Check.mono _ _)
  | (with_reducible exact slices_BinarySearch_int_int.mono _ _ _)
  | (with_reducible exact LeO.refl _)
  | (with_reducible exact LeO.none _)
  | (with_reducible refine LeO.ite ?_ ?_)
  | (with_reducible refine LeO.bind ?_ (fun _ => ?_))
  | exact ih0 _ _ _
  | exact inbox_Check.mono _ _
  | exact slices_BinarySearch_int_int.mono _ _ _
  | exact LeO.none _
  | refine LeO.ite ?_ ?_
  | refine LeO.bind ?_ (fun _ => ?_)
set_option maxHeartbeats 8000000 in
set_option maxRecDepth 100000 in
theorem inbox_End.calls (k : Nat) (A0 : Option Addr) (c0 : Nat) (l0 : List Int) (a1 : Int) (r1 : List Int) (r2 : Int) (w : World) (hr0 : Kd.C (Kd.int .i64) w A0 l0.length l0) (hc0 : l0.length ≤ c0) (h : inbox_End.f k l0 a1 = some (r1, r2)) :
 Calls Try.prog 32 #[.slice A0 l0.length c0, .int .i64 a1] w fun e w' => ∃ v0_ : Value, e = .returned (.tuple #[v0_, .int .i64 r2]) ∧ Kd.R (Kd.int .i64) 3 w' w.heap.size (fun _ => True) v0_ r1 ∧ Below w.heap.size w w' := by
 have HR0 := Aside0.mk hr0
 have HC0 := Aside0.mk hc0
 clear hr0 hc0
 have HB := Aside0.mk (Below.refl w.heap.size w)
 have H : ((inbox_Check.f k l0).bind fun t435 => (if t435 = 0 then ((inbox_may.f a1).bind fun t436 => (inbox_End.j0 k l0 a1 (!t436))) else (inbox_End.j0 k l0 a1 true))) = some (r1, r2) := h
 clear h
 have HC3 := Aside0.mk H
 clear H
 go_enter Try.func32, Try.ntmps32
 go_upto_region 1 with (fail)
 go_cut [15] (fun v15 wc => ∃ (kq : Nat) (x15_2 : Bool), v15 = .bool x15_2 ∧ Aside0 (inbox_End.j0 kq l0 a1 x15_2 = some (r1, r2)) ∧ Aside0 (kq ≤ k) ∧ Aside0 (Below w.heap.size w wc))
 case first =>
  have H := HC3.out
  clear HC3
  replace H := Option.bind_eq_some_iff.mp H
  obtain ⟨t435, A40, H⟩ := H
  replace H : (if t435 = 0 then ((inbox_may.f a1).bind fun t436 => (inbox_End.j0 k l0 a1 (!t436))) else (inbox_End.j0 k l0 a1 true)) = some (r1, r2) := H
  have A4 := Aside0.mk A40
  clear A40
  by_cases c5 : t435 = 0
  ·rw [if_pos c5] at H
   have c5b0 : (t435 == 0) = true := beq_iff_eq.mpr c5
   have c5b1 : (t435 != 0) = false := bne_eq_false_iff_eq.mpr c5
   clear c5
   (first | rw [c5b0] | (simp only [i64_w, i32_w]; rw [c5b0]) | skip)
   replace H := Option.bind_eq_some_iff.mp H
   obtain ⟨t436, A60, H⟩ := H
   replace H : (inbox_End.j0 k l0 a1 (!t436)) = some (r1, r2) := H
   have A6 := Aside0.mk A60
   clear A60
   have H' := Aside0.mk H
   clear H
   go_wp2_with (first | ((with_reducible refine gate_callee (f := 36) rfl ?_); refine goesL_ (some 9) rfl rfl Try.func36 (by kernel_rfl) rfl #[.slice A0 l0.length c0] rfl aa ?_; (with_reducible refine (inbox_Check.calls k _ _ l0 t435 _ ?side1 ?side2 A4.out).mono ?_); (case side1 => repeat (first | exact (Kd.C_below HR0.out HB.out) | (with_reducible refine Kd.C_alloc ?_ _) | (with_reducible refine Kd.C_drewN ?_ _) | (with_reducible refine Kd.C_drew ?_))); (case side2 => exact HC0.out); rintro e w' ⟨rfl, ⟨nd, rfl⟩⟩; refine ⟨_, rfl, ?_⟩) | (go_at_call 55; (with_reducible refine (inbox_may.calls a1 t436 _ A6.out).mono ?_); rintro e w' ⟨rfl, ⟨nd, rfl⟩⟩))
   go_meet
   case rel => exact ⟨_, (!t436), ap, H', ⟨by first | omega | exact Nat.le_refl _⟩, ⟨bo⟩⟩
  ·rw [if_neg c5] at H
   have c5b0 : (t435 == 0) = false := beq_eq_false_iff_ne.mpr c5
   have c5b1 : (t435 != 0) = true := bne_iff_ne.mpr c5
   (first | rw [c5b0] | (simp only [i64_w, i32_w]; rw [c5b0]) | skip)
   have H' := Aside0.mk H
   clear H
   go_wp2_with (first | ((with_reducible refine gate_callee (f := 36) rfl ?_); refine goesL_ (some 9) rfl rfl Try.func36 (by kernel_rfl) rfl #[.slice A0 l0.length c0] rfl aa ?_; (with_reducible refine (inbox_Check.calls k _ _ l0 t435 _ ?side1 ?side2 A4.out).mono ?_); (case side1 => repeat (first | exact (Kd.C_below HR0.out HB.out) | (with_reducible refine Kd.C_alloc ?_ _) | (with_reducible refine Kd.C_drewN ?_ _) | (with_reducible refine Kd.C_drew ?_))); (case side2 => exact HC0.out); rintro e w' ⟨rfl, ⟨nd, rfl⟩⟩; refine ⟨_, rfl, ?_⟩))
   go_meet
   case rel => exact ⟨_, (true), ap, H', ⟨by first | omega | exact Nat.le_refl _⟩, ⟨bo⟩⟩
 case rest =>
  clear HC3
  try clear p2
  try clear c3
  try clear c5
  try clear c5b0
  try clear c5b1
  obtain ⟨kq, x15_2, rfl, HA, HJ2, HB⟩ := hcut
  cases kq with
  | zero => exact absurd HA.out (by simp [inbox_End.j0])
  | succ kj2 =>
   have H := HA.out
   clear HA
   simp only [inbox_End.j0] at H
   by_cases c7 : x15_2 = true
   ·subst c7
    have H1 : (some (([] : List Int), 1)) = some (r1, r2) := by rw [if_pos rfl] at H; exact H
    clear H
    have H := H1
    clear H1
    simp only [Option.some.injEq, Prod.mk.injEq] at H
    obtain ⟨rfl, rfl⟩ := H
    go_wp2
    go_ret2
    exact ⟨_, er, by first | exact Kd.R_nil _ _ _ _ _ | exact Kd.N_nil _ _ _ _ _ | exact Kd.V_nil _ _ _ _ _ | exact Kd.Q_nil _ _ _ _ _ | exact Kd.S_nil _ _ _ _ _, bo⟩
   ·replace c7 := Bool.eq_false_iff.mpr c7
    subst c7
    have H1 : ((slices_BinarySearch_int_int.f kj2 l0 a1).bind fun bt437 => (if bt437.2 = true then ((slices_Clone_int_int.f l0).bind fun t439 => ((slices_Delete_int_int.f t439 bt437.1 (wrap64 (bt437.1 + 1))).bind fun t442 => (some (t442, 0)))) else (some (([] : List Int), 3)))) = some (r1, r2) := by rw [if_neg (show ¬ (false = true) by decide)] at H; exact H
    clear H
    have H := H1
    clear H1
    replace H := Option.bind_eq_some_iff.mp H
    obtain ⟨⟨t437, t438⟩, A80, H⟩ := H
    replace H : (if t438 = true then ((slices_Clone_int_int.f l0).bind fun t439 => ((slices_Delete_int_int.f t439 t437 (wrap64 (t437 + 1))).bind fun t442 => (some (t442, 0)))) else (some (([] : List Int), 3))) = some (r1, r2) := H
    have A8 := Aside0.mk A80
    clear A80
    by_cases c9 : t438 = true
    ·subst c9
     have H1 : ((slices_Clone_int_int.f l0).bind fun t439 => ((slices_Delete_int_int.f t439 t437 (wrap64 (t437 + 1))).bind fun t442 => (some (t442, 0)))) = some (r1, r2) := by rw [if_pos rfl] at H; exact H
     clear H
     have H := H1
     clear H1
     replace H := Option.bind_eq_some_iff.mp H
     obtain ⟨t439, A100, H⟩ := H
     replace H : ((slices_Delete_int_int.f t439 t437 (wrap64 (t437 + 1))).bind fun t442 => (some (t442, 0))) = some (r1, r2) := H
     have A10 := Aside0.mk A100
     clear A100
     replace H := Option.bind_eq_some_iff.mp H
     obtain ⟨t442, A110, H⟩ := H
     replace H : (some (t442, 0)) = some (r1, r2) := H
     have A11 := Aside0.mk A110
     clear A110
     simp only [Option.some.injEq, Prod.mk.injEq] at H
     obtain ⟨rfl, rfl⟩ := H
     go_wp2_with (first | ((with_reducible refine gate_callee (f := 56) rfl ?_); refine goesL_ (some 19) rfl rfl Try.func56 (by kernel_rfl) rfl #[.slice A0 l0.length c0, .int .i64 a1] rfl aa ?_; (with_reducible refine (slices_BinarySearch_int_int.calls kj2 _ _ l0 a1 t437 true _ ?side1 ?side2 A8.out).mono ?_); (case side1 => repeat (first | exact (Kd.C_below HR0.out HB.out) | (with_reducible refine Kd.C_alloc ?_ _) | (with_reducible refine Kd.C_drewN ?_ _) | (with_reducible refine Kd.C_drew ?_))); (case side2 => exact HC0.out); rintro e w' ⟨rfl, ⟨nd, rfl⟩⟩; refine ⟨_, rfl, ?_⟩) | ((with_reducible refine gate_callee (f := 58) rfl ?_); refine goesL_ (some 25) rfl rfl Try.func58 (by kernel_rfl) rfl #[.slice A0 l0.length c0] rfl aa ?_; (with_reducible refine (slices_Clone_int_int.calls _ _ l0 t439 _ ?side1 ?side2 A10.out).mono ?_); (case side1 => repeat (first | exact (Kd.C_below HR0.out bo) | (with_reducible refine Kd.C_alloc ?_ _) | (with_reducible refine Kd.C_drewN ?_ _) | (with_reducible refine Kd.C_drew ?_))); (case side2 => exact HC0.out); rintro e w12 ⟨v440, rfl, ho0, hb⟩; refine ⟨_, rfl, ?_⟩; have HO441 := Aside0.mk (Kd.R_lower ho0 (below_size bo)); replace HB := Aside0.mk (below_step bo hb); (try clear hb); (try clear hb2); (try clear hk); (try clear hi); (try clear ho0); obtain ⟨Ao13, co13, eo13⟩ := Kd.R_slice HO441.out; subst eo13) | ((with_reducible refine gate_callee (f := 57) rfl ?_); refine goesL_ (some 29) rfl rfl Try.func57 (by kernel_rfl) rfl #[.slice Ao13 t439.length co13, .int .i64 t437, .int .i64 (wrap64 (t437 + 1))] rfl aa ?_; (refine (slices_Delete_int_int.own (rk HO441.out) A11.out).mono ?_); rintro e w14 ⟨v443, rfl, ho0, hb⟩; refine ⟨_, rfl, ?_⟩; have HO444 := Aside0.mk ho0; replace HB := Aside0.mk (hb w bo); clear HO441; (try clear hb); (try clear hb2); (try clear hk); (try clear hi); (try clear ho0)))
     go_ret2
     exact ⟨_, er, by (with_reducible repeat (first | apply Kd.R_alloc | apply Kd.R_drewN | apply Kd.R_drew)); exact Kd.R_mono HO444.out (fun _ hk => trivial), bo⟩
    ·replace c9 := Bool.eq_false_iff.mpr c9
     subst c9
     have H1 : (some (([] : List Int), 3)) = some (r1, r2) := by rw [if_neg (show ¬ (false = true) by decide)] at H; exact H
     clear H
     have H := H1
     clear H1
     simp only [Option.some.injEq, Prod.mk.injEq] at H
     obtain ⟨rfl, rfl⟩ := H
     go_wp2_with (first | ((with_reducible refine gate_callee (f := 56) rfl ?_); refine goesL_ (some 19) rfl rfl Try.func56 (by kernel_rfl) rfl #[.slice A0 l0.length c0, .int .i64 a1] rfl aa ?_; (with_reducible refine (slices_BinarySearch_int_int.calls kj2 _ _ l0 a1 t437 false _ ?side1 ?side2 A8.out).mono ?_); (case side1 => repeat (first | exact (Kd.C_below HR0.out HB.out) | (with_reducible refine Kd.C_alloc ?_ _) | (with_reducible refine Kd.C_drewN ?_ _) | (with_reducible refine Kd.C_drew ?_))); (case side2 => exact HC0.out); rintro e w' ⟨rfl, ⟨nd, rfl⟩⟩; refine ⟨_, rfl, ?_⟩))
     go_ret2
     exact ⟨_, er, by first | exact Kd.R_nil _ _ _ _ _ | exact Kd.N_nil _ _ _ _ _ | exact Kd.V_nil _ _ _ _ _ | exact Kd.Q_nil _ _ _ _ _ | exact Kd.S_nil _ _ _ _ _, bo⟩

end Go.Proofs.Ytigmekgknhoidaa.P

-- written by a program of the proving session, out of the translation; Lean checks it
namespace Go.Proofs.Ytigmekgknhoidaa.P
open Go.RowKit Go.Proofs.Ytigmekgknhoidaa.Sq Go.Proofs.YtigmekgknhoidaaW.PrintWords Go.Proofs.YtigmekgknhoidaaW.PrintLast Go.Proofs.YtigmekgknhoidaaW.PrintMore
attribute [local go_sem] max2_int min2_int max_two min_two max_three min_three max_four min_four   -- for this text's walks alone
set_option linter.unusedVariables false
set_option linter.unusedSimpArgs false

/-! ### fairwayref17_Begin: function 33 -/
def fairwayref17_Begin.l0 : Nat → List Int → Int → Int → Option (List Int × Bool × Int)
 | 0, _, _, _ => none
 | k + 1, x0, x1, x7 => if x7 < (x0.length : Int) then (if 0 ≤ x7 then (if (rd x0 x7) < x1 then (fairwayref17_Begin.l0 k x0 x1 (wrap64 (x7 + 1))) else (if x7 ≤ (x0.length : Int) then ((fairwayref0_CopyNumbers.f k (x0.take (x7 : Int).toNat)).bind fun t451 => (if t451.length < 17592186044416 then ((some (t451 ++ [x1] : List Int)).bind fun y454 => (if y454.length + (x0.drop (x7 : Int).toNat).length < 17592186044416 then (some ((y454 ++ (x0.drop (x7 : Int).toNat)), false, 0)) else (none))) else (none))) else (none))) else (none)) else (if 0 ≤ x7 then (if x7 ≤ (x0.length : Int) then ((fairwayref0_CopyNumbers.f k (x0.take (x7 : Int).toNat)).bind fun t462 => (if t462.length < 17592186044416 then ((some (t462 ++ [x1] : List Int)).bind fun y465 => (if y465.length + (x0.drop (x7 : Int).toNat).length < 17592186044416 then (some ((y465 ++ (x0.drop (x7 : Int).toNat)), false, 0)) else (none))) else (none))) else (none)) else (none))
def fairwayref17_Begin.f (k : Nat) (l0 : List Int) (a1 : Int) : Option (List Int × Bool × Int) := (fairwayref0_In.f k l0 a1).bind fun t445 => (if t445 ≥ 0 then ((fairwayref0_CopyNumbers.f k l0).bind fun t446 => (some (t446, true, 0))) else (if (l0.length : Int) ≥ 16 then (some (([] : List Int), false, 5)) else (fairwayref17_Begin.l0 k l0 a1 0)))
theorem fairwayref17_Begin.mono_l : ∀ k, (∀ y0 y1 y2, LeO (fairwayref17_Begin.l0 k y0 y1 y2) (fairwayref17_Begin.l0 (k + 1) y0 y1 y2))
 | 0 => fun _ _ _ r h => by simp [fairwayref17_Begin.l0] at h
 | k + 1 => by
  have ih0 := fairwayref17_Begin.mono_l k
  ·intro y0 y1 y2
   unfold fairwayref17_Begin.l0
   repeat' first
   | (with_reducible exact ih0 _ _ _)
   | (with_reducible exact fairwayref0_CopyNumbers.mono _ _)
   | (with_reducible exact fairwayref0_In.mono _ _ _)
   | (with_reducible exact LeO.refl _)
   | (with_reducible exact LeO.none _)
   | (with_reducible refine LeO.ite ?_ ?_)
   | (with_reducible refine LeO.bind ?_ (fun _ => ?_))
   | exact ih0 _ _ _
   | exact fairwayref0_CopyNumbers.mono _ _
   | exact fairwayref0_In.mono _ _ _
   | exact LeO.none _
   | refine LeO.ite ?_ ?_
   | refine LeO.bind ?_ (fun _ => ?_)
theorem fairwayref17_Begin.mono : ∀ a0 a1 k, LeO (fairwayref17_Begin.f k a0 a1) (fairwayref17_Begin.f (k + 1) a0 a1) := by
 intro a0 a1 k
 have ih0 := fairwayref17_Begin.mono_l k
 unfold fairwayref17_Begin.f
 repeat' first
  | (with_reducible exact ih0 _ _ _)
  | (with_reducible exact fairwayref0_CopyNumbers.mono _ _)
  | (with_reducible exact fairwayref0_In.mono _ _ _)
  | (with_reducible exact LeO.refl _)
  | (with_reducible exact LeO.none _)
  | (with_reducible refine LeO.ite ?_ ?_)
  | (with_reducible refine LeO.bind ?_ (fun _ => ?_))
  | exact ih0 _ _ _
  | exact fairwayref0_CopyNumbers.mono _ _
  | exact fairwayref0_In.mono _ _ _
  | exact LeO.none _
  | refine LeO.ite ?_ ?_
  | refine LeO.bind ?_ (fun _ => ?_)
set_option maxHeartbeats 8000000 in
set_option maxRecDepth 100000 in
theorem fairwayref17_Begin.calls (k : Nat) (A0 : Option Addr) (c0 : Nat) (l0 : List Int) (a1 : Int) (r1 : List Int) (r2 : Bool) (r3 : Int) (w : World) (hr0 : Kd.C (Kd.int .i64) w A0 l0.length l0) (hc0 : l0.length ≤ c0) (h : fairwayref17_Begin.f k l0 a1 = some (r1, r2, r3)) :
 Calls Try.prog 33 #[.slice A0 l0.length c0, .int .i64 a1] w fun e w' => ∃ v0_ : Value, e = .returned (.tuple #[v0_, .bool r2, .int .i64 r3]) ∧ Kd.R (Kd.int .i64) 3 w' w.heap.size (fun _ => True) v0_ r1 ∧ Below w.heap.size w w' := by
 have HR0 := Aside0.mk hr0
 have HC0 := Aside0.mk hc0
 clear hr0 hc0
 have HB := Aside0.mk (Below.refl w.heap.size w)
 have H : ((fairwayref0_In.f k l0 a1).bind fun t445 => (if t445 ≥ 0 then ((fairwayref0_CopyNumbers.f k l0).bind fun t446 => (some (t446, true, 0))) else (if (l0.length : Int) ≥ 16 then (some (([] : List Int), false, 5)) else (fairwayref17_Begin.l0 k l0 a1 0)))) = some (r1, r2, r3) := h
 clear h
 replace H := Option.bind_eq_some_iff.mp H
 obtain ⟨t445, A30, H⟩ := H
 replace H : (if t445 ≥ 0 then ((fairwayref0_CopyNumbers.f k l0).bind fun t446 => (some (t446, true, 0))) else (if (l0.length : Int) ≥ 16 then (some (([] : List Int), false, 5)) else (fairwayref17_Begin.l0 k l0 a1 0))) = some (r1, r2, r3) := H
 have A3 := Aside0.mk A30
 clear A30
 by_cases c4 : t445 ≥ 0
 ·rw [if_pos c4] at H
  have c4b0 : decide (0 ≤ t445) = true := decide_eq_true c4
  clear c4
  replace H := Option.bind_eq_some_iff.mp H
  obtain ⟨t446, A50, H⟩ := H
  replace H : (some (t446, true, 0)) = some (r1, r2, r3) := H
  have A5 := Aside0.mk A50
  clear A50
  simp only [Option.some.injEq, Prod.mk.injEq] at H
  obtain ⟨rfl, rfl, rfl⟩ := H
  go_enter Try.func33, Try.ntmps33
  go_wp2_with (first | ((with_reducible refine gate_callee (f := 54) rfl ?_); refine goesL_ (some 11) rfl rfl Try.func54 (by kernel_rfl) rfl #[.slice A0 l0.length c0, .int .i64 a1] rfl aa ?_; (with_reducible refine (fairwayref0_In.calls k _ _ l0 a1 t445 _ ?side1 ?side2 A3.out).mono ?_); (case side1 => repeat (first | exact HR0.out | (with_reducible refine Kd.C_alloc ?_ _) | (with_reducible refine Kd.C_drewN ?_ _) | (with_reducible refine Kd.C_drew ?_))); (case side2 => exact HC0.out); rintro e w' ⟨rfl, ⟨nd, rfl⟩⟩; refine ⟨_, rfl, ?_⟩) | ((with_reducible refine gate_callee (f := 28) rfl ?_); refine goesL_ (some 14) rfl rfl Try.func28 (by kernel_rfl) rfl #[.slice A0 l0.length c0] rfl aa ?_; (with_reducible refine (fairwayref0_CopyNumbers.calls k _ _ l0 t446 _ ?side1 ?side2 A5.out).mono ?_); (case side1 => repeat (first | exact HR0.out | (with_reducible refine Kd.C_alloc ?_ _) | (with_reducible refine Kd.C_drewN ?_ _) | (with_reducible refine Kd.C_drew ?_))); (case side2 => exact HC0.out); rintro e w6 ⟨v447, rfl, ho0, hb⟩; refine ⟨_, rfl, ?_⟩; have HO448 := Aside0.mk (Kd.R_lower ho0 (below_size bo)); replace HB := Aside0.mk (below_step bo hb); (try clear hb); (try clear hb2); (try clear hk); (try clear hi); (try clear ho0)))
  go_ret3
  exact ⟨_, er, by (with_reducible repeat (first | apply Kd.R_alloc | apply Kd.R_drewN | apply Kd.R_drew)); exact HO448.out, bo⟩
 ·rw [if_neg c4] at H
  have c4b0 : decide (0 ≤ t445) = false := decide_eq_false c4
  clear c4
  by_cases c7 : (l0.length : Int) ≥ 16
  ·rw [if_pos c7] at H
   have c7b0 : decide (16 ≤ (l0.length : Int)) = true := decide_eq_true c7
   have c7b1 : decide (16 ≤ l0.length) = true := decide_eq_true (by omega)
   clear c7
   simp only [Option.some.injEq, Prod.mk.injEq] at H
   obtain ⟨rfl, rfl, rfl⟩ := H
   go_enter Try.func33, Try.ntmps33
   go_wp2_with (first | ((with_reducible refine gate_callee (f := 54) rfl ?_); refine goesL_ (some 11) rfl rfl Try.func54 (by kernel_rfl) rfl #[.slice A0 l0.length c0, .int .i64 a1] rfl aa ?_; (with_reducible refine (fairwayref0_In.calls k _ _ l0 a1 t445 _ ?side1 ?side2 A3.out).mono ?_); (case side1 => repeat (first | exact HR0.out | (with_reducible refine Kd.C_alloc ?_ _) | (with_reducible refine Kd.C_drewN ?_ _) | (with_reducible refine Kd.C_drew ?_))); (case side2 => exact HC0.out); rintro e w' ⟨rfl, ⟨nd, rfl⟩⟩; refine ⟨_, rfl, ?_⟩))
   go_ret3
   exact ⟨_, er, by first | exact Kd.R_nil _ _ _ _ _ | exact Kd.N_nil _ _ _ _ _ | exact Kd.V_nil _ _ _ _ _ | exact Kd.Q_nil _ _ _ _ _ | exact Kd.S_nil _ _ _ _ _, bo⟩
  ·rw [if_neg c7] at H
   have c7b0 : decide (16 ≤ (l0.length : Int)) = false := decide_eq_false c7
   have c7b1 : decide (16 ≤ l0.length) = false := decide_eq_false (by omega)
   clear c7
   have H' := Aside0.mk H
   clear H
   go_enter Try.func33, Try.ntmps33
   go_wp2_with (first | ((with_reducible refine gate_callee (f := 54) rfl ?_); refine goesL_ (some 11) rfl rfl Try.func54 (by kernel_rfl) rfl #[.slice A0 l0.length c0, .int .i64 a1] rfl aa ?_; (with_reducible refine (fairwayref0_In.calls k _ _ l0 a1 t445 _ ?side1 ?side2 A3.out).mono ?_); (case side1 => repeat (first | exact HR0.out | (with_reducible refine Kd.C_alloc ?_ _) | (with_reducible refine Kd.C_drewN ?_ _) | (with_reducible refine Kd.C_drew ?_))); (case side2 => exact HC0.out); rintro e w' ⟨rfl, ⟨nd, rfl⟩⟩; refine ⟨_, rfl, ?_⟩))
   go_loopg [7] k (fun kq v7 w' => ∃ (x7_1 : Int), v7 = .int .i64 x7_1 ∧ Aside0 (fairwayref17_Begin.l0 kq l0 a1 x7_1 = some (r1, r2, r3)) ∧ Aside0 (kq ≤ k) ∧ Aside0 (Below w.heap.size w w'))
   case atStart => exact ⟨(0), ap, H', ⟨Nat.le_refl _⟩, ⟨bo⟩⟩
   case round =>
    clear H'
    try clear c2
    try clear p2
    try clear c3
    try clear c4
    try clear c4b0
    try clear c5
    try clear c7
    try clear c7b0
    try clear c7b1
    obtain ⟨x7_1, rfl, HA, HK1, HB⟩ := hrel
    cases gk with
    | zero => exact absurd HA.out (by simp [fairwayref17_Begin.l0])
    | succ k1 =>
     have H := HA.out
     clear HA
     simp only [fairwayref17_Begin.l0] at H
     by_cases c8 : x7_1 < (l0.length : Int)
     ·rw [if_pos c8] at H
      have c8b0 : decide (x7_1 < (l0.length : Int)) = true := decide_eq_true c8
      clear c8
      by_cases c9 : 0 ≤ x7_1
      ·rw [if_pos c9] at H
       have c9b0 : decide (0 ≤ x7_1) = true := decide_eq_true c9
       clear c9
       by_cases c10 : (rd l0 x7_1) < a1
       ·rw [if_pos c10] at H
        have c10b0 : decide ((rd l0 x7_1) < a1) = true := decide_eq_true c10
        clear c10
        have H' := Aside0.mk H
        clear H
        have p449 : 0 ≤ (x7_1 : Int) := od
        have q449 : x7_1 < (l0.length : Int) := od
        obtain ⟨ad449, e449, hx449_0⟩ := Kd.at_int HR0.out x7_1 p449 q449
        cases e449
        replace hx449_0 := cx HB.out hx449_0
        replace p449 := eq_true p449
        replace q449 := eq_true q449
        go_wp2
        go_roundg k1
        case measure => have := HK1.out; omega
        case rel => exact ⟨(wrap64 (x7_1 + 1)), ap, H', ⟨by have := HK1.out; omega⟩, ⟨bo⟩⟩
       ·rw [if_neg c10] at H
        have c10b0 : decide ((rd l0 x7_1) < a1) = false := decide_eq_false c10
        clear c10
        have c11b0 := eq_true (od : 0 ≤ x7_1)
        by_cases c12 : x7_1 ≤ (l0.length : Int)
        ·rw [if_pos c12] at H
         have c12b0 := eq_true c12
         have c12b1 : decide (x7_1 ≤ (l0.length : Int)) = true := decide_eq_true c12
         clear c12
         replace H := Option.bind_eq_some_iff.mp H
         obtain ⟨t451, A130, H⟩ := H
         replace H : (if t451.length < 17592186044416 then ((some (t451 ++ [a1] : List Int)).bind fun y454 => (if y454.length + (l0.drop (x7_1 : Int).toNat).length < 17592186044416 then (some ((y454 ++ (l0.drop (x7_1 : Int).toNat)), false, 0)) else (none))) else (none)) = some (r1, r2, r3) := H
         have A13 := Aside0.mk A130
         clear A130
         by_cases c14 : t451.length < 17592186044416
         ·rw [if_pos c14] at H
          have LMc14 := Aside0.mk c14
          clear c14
          obtain ⟨y454, hy454⟩ : ∃ y_ : List Int, y_ = (t451 ++ [a1]) := ⟨_, rfl⟩
          replace H : (if y454.length + (l0.drop (x7_1 : Int).toNat).length < 17592186044416 then (some ((y454 ++ (l0.drop (x7_1 : Int).toNat)), false, 0)) else (none)) = some (r1, r2, r3) := by first | (rw [hy454]; with_reducible exact H) | (have H2_ := (Option.bind_some _ _).symm.trans H; rw [hy454]; with_reducible exact H2_) | (have H2_ := (Option.bind_some _ _).symm.trans H; with_reducible exact H2_) | with_reducible exact H | (rw [hy454]; exact H) | exact H
          have Ny454 := Aside0.mk hy454
          clear hy454
          have c15b0 := eq_true (od : 0 ≤ x7_1)
          have c16b0 := eq_true (od : x7_1 ≤ (l0.length : Int))
          by_cases c17 : y454.length + (l0.drop (x7_1 : Int).toNat).length < 17592186044416
          ·rw [if_pos c17] at H
           have LMc17 := Aside0.mk c17
           clear c17
           obtain ⟨y458, hy458⟩ : ∃ y_ : List Int, y_ = (y454 ++ (l0.drop (x7_1 : Int).toNat)) := ⟨_, rfl⟩
           replace H : (some (y458, false, 0)) = some (r1, r2, r3) := by first | (rw [hy458]; with_reducible exact H) | (have H2_ := (Option.bind_some _ _).symm.trans H; rw [hy458]; with_reducible exact H2_) | (have H2_ := (Option.bind_some _ _).symm.trans H; with_reducible exact H2_) | with_reducible exact H | (rw [hy458]; exact H) | exact H
           have Ny458 := Aside0.mk hy458
           clear hy458
           simp only [Option.some.injEq, Prod.mk.injEq] at H
           obtain ⟨rfl, rfl, rfl⟩ := H
           have p449 : 0 ≤ (x7_1 : Int) := od
           have q449 : x7_1 < (l0.length : Int) := od
           obtain ⟨ad449, e449, hx449_0⟩ := Kd.at_int HR0.out x7_1 p449 q449
           cases e449
           replace hx449_0 := cx HB.out hx449_0
           replace p449 := eq_true p449
           replace q449 := eq_true q449
           obtain ⟨i018, hi018, _, hsz18, _⟩ := info_parts info3
           obtain ⟨hcut18, hA18, hC18⟩ := print_take_of (P := Try.prog) (Value.int .i64) 0 54 3 .i64 Try.underlying54 hi018 hsz18 (some ad449) c0 l0 x7_1 (od) (od) HC0.out
           have HR450 := Aside0.mk (Kd.C_of_reads (h1 := fun _ => rfl) (hA18 _ (Kd.reads_of_C HR0.out)))
           have HC450 := Aside0.mk hC18
           clear hA18 hC18 hi018 hsz18
           go_wp2_with (first | ((with_reducible refine gate_callee (f := 28) rfl ?_); refine goesL_ (some 35) rfl rfl Try.func28 (by kernel_rfl) rfl #[.slice (some ad449) (l0.take (x7_1 : Int).toNat).length c0] rfl (by (try simp only [List.map_toArray, List.map_cons, List.map_nil]); first | done | (rw [show (l0.take (x7_1 : Int).toNat).length = x7_1.toNat from (by rw [List.length_take]; have h_ : (x7_1 : Int) ≤ (l0.length : Int) := od; omega)] <;> rfl) | rfl | (simp only [List.length_drop, List.length_take]; rfl) | (simp only [ByteArray.size_append]; rfl) | (simp; done)) ?_; (with_reducible refine (fairwayref0_CopyNumbers.calls k1 _ _ (l0.take (x7_1 : Int).toNat) t451 _ ?side1 ?side2 A13.out).mono ?_); (case side1 => repeat (first | exact (Kd.C_below HR450.out HB.out) | (with_reducible refine Kd.C_alloc ?_ _) | (with_reducible refine Kd.C_drewN ?_ _) | (with_reducible refine Kd.C_drew ?_))); (case side2 => exact HC450.out); rintro e w19 ⟨v452, rfl, ho0, hb⟩; refine ⟨_, rfl, ?_⟩; have HO453 := Aside0.mk (Kd.R_lower ho0 (below_size bo)); replace HB := Aside0.mk (below_step bo hb); (try clear hb); (try clear hb2); (try clear hk); (try clear hi); (try clear ho0)) | ((with_reducible refine gate_builtin (b := .append) (xs := #[.tmp 35, .tmp 37]) rfl ?_); at_builtin; refine Kd.R_append (Kd.int .i64) (w0 := w) w.heap.size rfl (.tmp 35) (.tmp 37) 54 3 (.int .i64 0) 8 rfl Try.underlying54 info3 rfl (by decide) (by omega) v452 t451 a1 [.int .i64 a1] (fun _ => True) (fun _ => False) rfl rfl ?aP (fun _ hk => hk.elim) ?aF ?aO ?aB ?aS ?aL ?_; (case aP => exact rfl); (case aB => exact bo); (case aF => exact (fun _ _ => trivial)); (case aO => exact (rk HO453.out)); (case aS => exact (below_size bo)); (case aL => have := LMc14.out; omega); intro v455 w20 ho hb hg hat; rw [← Ny454.out] at ho; have n0_ := Aside0.mk (hb); have n1_ := Aside0.mk (ho); clear HB; clear HO453; have HB := n0_; have HO456 := n1_; clear n0_ n1_; clear ho hb hg hat; obtain ⟨i021, hi021, _, hsz21, _⟩ := info_parts info3; obtain ⟨A21, hcut21, hA21, hC21⟩ := print_drop_of (P := Try.prog) (Value.int .i64) 0 54 3 .i64 Try.underlying54 hi021 hsz21 (some ad449) c0 l0 x7_1 (od) (od) HC0.out; have HR457 := Aside0.mk (Kd.C_of_reads (h1 := fun _ => rfl) (hA21 _ (Kd.reads_of_C HR0.out))); have HC457 := Aside0.mk hC21; clear hA21 hC21 hi021 hsz21) | ((with_reducible refine gate_builtin (b := .append) (xs := #[.tmp 39, .tmp 42]) rfl ?_); at_builtin; refine Kd.R_append_rows (Kd.int .i64) (w0 := w) w.heap.size rfl (.tmp 39) (.tmp 42) 54 3 (.int .i64 0) 8 rfl Try.underlying54 info3 rfl (by decide) (by omega) v455 y454 (l0.drop (x7_1 : Int).toNat) _ _ _ (fun _ => True) (fun _ => False) rfl rfl ?aO ?aR (fun _ _ h => h) (fun _ h => h.elim) ?aF ?aB ?aS ?aL ?_; (case aR => first | (rw [← show (l0.drop (x7_1 : Int).toNat).length = (l0.length - x7_1.toNat) from List.length_drop]; repeat (first | exact (Kd.C_below HR457.out HB.out) | (with_reducible refine Kd.C_alloc ?_ _) | (with_reducible refine Kd.C_drewN ?_ _) | (with_reducible refine Kd.C_drew ?_))) | (repeat (first | exact (Kd.C_below HR457.out HB.out) | (with_reducible refine Kd.C_alloc ?_ _) | (with_reducible refine Kd.C_drewN ?_ _) | (with_reducible refine Kd.C_drew ?_)))); (case aB => exact bo); (case aF => exact (fun _ _ => trivial)); (case aO => exact (rk HO456.out)); (case aS => exact (below_size bo)); (case aL => have := LMc17.out; have hlx_ := (show (l0.drop (x7_1 : Int).toNat).length = (l0.length - x7_1.toNat) from List.length_drop); omega); intro v459 w22 ho hb hg hat; rw [← Ny458.out] at ho; have n0_ := Aside0.mk (hb); have n1_ := Aside0.mk (ho); clear HB; clear HO456; have HB := n0_; have HO460 := n1_; clear n0_ n1_; clear ho hb hg hat))
           go_ret3
           exact ⟨_, er, by (with_reducible repeat (first | apply Kd.R_alloc | apply Kd.R_drewN | apply Kd.R_drew)); exact HO460.out, bo⟩
          ·rw [if_neg c17] at H
           exact absurd H (by simp)
         ·rw [if_neg c14] at H
          exact absurd H (by simp)
        ·rw [if_neg c12] at H
         exact absurd H (by simp)
      ·rw [if_neg c9] at H
       exact absurd H (by simp)
     ·rw [if_neg c8] at H
      have c8b0 : decide (x7_1 < (l0.length : Int)) = false := decide_eq_false c8
      clear c8
      by_cases c23 : 0 ≤ x7_1
      ·rw [if_pos c23] at H
       have c23b0 := eq_true c23
       have c23b1 : decide (0 ≤ x7_1) = true := decide_eq_true c23
       clear c23
       by_cases c24 : x7_1 ≤ (l0.length : Int)
       ·rw [if_pos c24] at H
        have c24b0 := eq_true c24
        have c24b1 : decide (x7_1 ≤ (l0.length : Int)) = true := decide_eq_true c24
        clear c24
        replace H := Option.bind_eq_some_iff.mp H
        obtain ⟨t462, A250, H⟩ := H
        replace H : (if t462.length < 17592186044416 then ((some (t462 ++ [a1] : List Int)).bind fun y465 => (if y465.length + (l0.drop (x7_1 : Int).toNat).length < 17592186044416 then (some ((y465 ++ (l0.drop (x7_1 : Int).toNat)), false, 0)) else (none))) else (none)) = some (r1, r2, r3) := H
        have A25 := Aside0.mk A250
        clear A250
        by_cases c26 : t462.length < 17592186044416
        ·rw [if_pos c26] at H
         have LMc26 := Aside0.mk c26
         clear c26
         obtain ⟨y465, hy465⟩ : ∃ y_ : List Int, y_ = (t462 ++ [a1]) := ⟨_, rfl⟩
         replace H : (if y465.length + (l0.drop (x7_1 : Int).toNat).length < 17592186044416 then (some ((y465 ++ (l0.drop (x7_1 : Int).toNat)), false, 0)) else (none)) = some (r1, r2, r3) := by first | (rw [hy465]; with_reducible exact H) | (have H2_ := (Option.bind_some _ _).symm.trans H; rw [hy465]; with_reducible exact H2_) | (have H2_ := (Option.bind_some _ _).symm.trans H; with_reducible exact H2_) | with_reducible exact H | (rw [hy465]; exact H) | exact H
         have Ny465 := Aside0.mk hy465
         clear hy465
         have c27b0 := eq_true (od : 0 ≤ x7_1)
         have c28b0 := eq_true (od : x7_1 ≤ (l0.length : Int))
         by_cases c29 : y465.length + (l0.drop (x7_1 : Int).toNat).length < 17592186044416
         ·rw [if_pos c29] at H
          have LMc29 := Aside0.mk c29
          clear c29
          obtain ⟨y469, hy469⟩ : ∃ y_ : List Int, y_ = (y465 ++ (l0.drop (x7_1 : Int).toNat)) := ⟨_, rfl⟩
          replace H : (some (y469, false, 0)) = some (r1, r2, r3) := by first | (rw [hy469]; with_reducible exact H) | (have H2_ := (Option.bind_some _ _).symm.trans H; rw [hy469]; with_reducible exact H2_) | (have H2_ := (Option.bind_some _ _).symm.trans H; with_reducible exact H2_) | with_reducible exact H | (rw [hy469]; exact H) | exact H
          have Ny469 := Aside0.mk hy469
          clear hy469
          simp only [Option.some.injEq, Prod.mk.injEq] at H
          obtain ⟨rfl, rfl, rfl⟩ := H
          obtain ⟨i030, hi030, _, hsz30, _⟩ := info_parts info3
          obtain ⟨hcut30, hA30, hC30⟩ := print_take_of (P := Try.prog) (Value.int .i64) 0 54 3 .i64 Try.underlying54 hi030 hsz30 A0 c0 l0 x7_1 (od) (od) HC0.out
          have HR461 := Aside0.mk (Kd.C_of_reads (h1 := fun _ => rfl) (hA30 _ (Kd.reads_of_C HR0.out)))
          have HC461 := Aside0.mk hC30
          clear hA30 hC30 hi030 hsz30
          go_wp2_with (first | ((with_reducible refine gate_callee (f := 28) rfl ?_); refine goesL_ (some 35) rfl rfl Try.func28 (by kernel_rfl) rfl #[.slice A0 (l0.take (x7_1 : Int).toNat).length c0] rfl (by (try simp only [List.map_toArray, List.map_cons, List.map_nil]); first | done | (rw [show (l0.take (x7_1 : Int).toNat).length = x7_1.toNat from (by rw [List.length_take]; have h_ : (x7_1 : Int) ≤ (l0.length : Int) := od; omega)] <;> rfl) | rfl | (simp only [List.length_drop, List.length_take]; rfl) | (simp only [ByteArray.size_append]; rfl) | (simp; done)) ?_; (with_reducible refine (fairwayref0_CopyNumbers.calls k1 _ _ (l0.take (x7_1 : Int).toNat) t462 _ ?side1 ?side2 A25.out).mono ?_); (case side1 => repeat (first | exact (Kd.C_below HR461.out HB.out) | (with_reducible refine Kd.C_alloc ?_ _) | (with_reducible refine Kd.C_drewN ?_ _) | (with_reducible refine Kd.C_drew ?_))); (case side2 => exact HC461.out); rintro e w31 ⟨v463, rfl, ho0, hb⟩; refine ⟨_, rfl, ?_⟩; have HO464 := Aside0.mk (Kd.R_lower ho0 (below_size bo)); replace HB := Aside0.mk (below_step bo hb); (try clear hb); (try clear hb2); (try clear hk); (try clear hi); (try clear ho0)) | ((with_reducible refine gate_builtin (b := .append) (xs := #[.tmp 35, .tmp 37]) rfl ?_); at_builtin; refine Kd.R_append (Kd.int .i64) (w0 := w) w.heap.size rfl (.tmp 35) (.tmp 37) 54 3 (.int .i64 0) 8 rfl Try.underlying54 info3 rfl (by decide) (by omega) v463 t462 a1 [.int .i64 a1] (fun _ => True) (fun _ => False) rfl rfl ?aP (fun _ hk => hk.elim) ?aF ?aO ?aB ?aS ?aL ?_; (case aP => exact rfl); (case aB => exact bo); (case aF => exact (fun _ _ => trivial)); (case aO => exact (rk HO464.out)); (case aS => exact (below_size bo)); (case aL => have := LMc26.out; omega); intro v466 w32 ho hb hg hat; rw [← Ny465.out] at ho; have n0_ := Aside0.mk (hb); have n1_ := Aside0.mk (ho); clear HB; clear HO464; have HB := n0_; have HO467 := n1_; clear n0_ n1_; clear ho hb hg hat; obtain ⟨i033, hi033, _, hsz33, _⟩ := info_parts info3; obtain ⟨A33, hcut33, hA33, hC33⟩ := print_drop_of (P := Try.prog) (Value.int .i64) 0 54 3 .i64 Try.underlying54 hi033 hsz33 A0 c0 l0 x7_1 (od) (od) HC0.out; have HR468 := Aside0.mk (Kd.C_of_reads (h1 := fun _ => rfl) (hA33 _ (Kd.reads_of_C HR0.out))); have HC468 := Aside0.mk hC33; clear hA33 hC33 hi033 hsz33) | ((with_reducible refine gate_builtin (b := .append) (xs := #[.tmp 39, .tmp 42]) rfl ?_); at_builtin; refine Kd.R_append_rows (Kd.int .i64) (w0 := w) w.heap.size rfl (.tmp 39) (.tmp 42) 54 3 (.int .i64 0) 8 rfl Try.underlying54 info3 rfl (by decide) (by omega) v466 y465 (l0.drop (x7_1 : Int).toNat) _ _ _ (fun _ => True) (fun _ => False) rfl rfl ?aO ?aR (fun _ _ h => h) (fun _ h => h.elim) ?aF ?aB ?aS ?aL ?_; (case aR => first | (rw [← show (l0.drop (x7_1 : Int).toNat).length = (l0.length - x7_1.toNat) from List.length_drop]; repeat (first | exact (Kd.C_below HR468.out HB.out) | (with_reducible refine Kd.C_alloc ?_ _) | (with_reducible refine Kd.C_drewN ?_ _) | (with_reducible refine Kd.C_drew ?_))) | (repeat (first | exact (Kd.C_below HR468.out HB.out) | (with_reducible refine Kd.C_alloc ?_ _) | (with_reducible refine Kd.C_drewN ?_ _) | (with_reducible refine Kd.C_drew ?_)))); (case aB => exact bo); (case aF => exact (fun _ _ => trivial)); (case aO => exact (rk HO467.out)); (case aS => exact (below_size bo)); (case aL => have := LMc29.out; have hlx_ := (show (l0.drop (x7_1 : Int).toNat).length = (l0.length - x7_1.toNat) from List.length_drop); omega); intro v470 w34 ho hb hg hat; rw [← Ny469.out] at ho; have n0_ := Aside0.mk (hb); have n1_ := Aside0.mk (ho); clear HB; clear HO467; have HB := n0_; have HO471 := n1_; clear n0_ n1_; clear ho hb hg hat))
          go_ret3
          exact ⟨_, er, by (with_reducible repeat (first | apply Kd.R_alloc | apply Kd.R_drewN | apply Kd.R_drew)); exact HO471.out, bo⟩
         ·rw [if_neg c29] at H
          exact absurd H (by simp)
        ·rw [if_neg c26] at H
         exact absurd H (by simp)
       ·rw [if_neg c24] at H
        exact absurd H (by simp)
      ·rw [if_neg c23] at H
       exact absurd H (by simp)

end Go.Proofs.Ytigmekgknhoidaa.P

-- written by a program of the proving session, out of the translation; Lean checks it
namespace Go.Proofs.Ytigmekgknhoidaa.P
open Go.RowKit Go.Proofs.Ytigmekgknhoidaa.Sq Go.Proofs.YtigmekgknhoidaaW.PrintWords Go.Proofs.YtigmekgknhoidaaW.PrintLast Go.Proofs.YtigmekgknhoidaaW.PrintMore
attribute [local go_sem] max2_int min2_int max_two min_two max_three min_three max_four min_four   -- for this text's walks alone
set_option linter.unusedVariables false
set_option linter.unusedSimpArgs false

/-! ### slices_Insert_int_int: function 59 -/
/-- slices.Insert of one element. -/
def slices_Insert_int_int.f (l0 : List Int) (a1 : Int) (l2 : List Int) : Option (List Int) := if l2.length = 1 ∧ 0 ≤ a1 ∧ a1 ≤ (l0.length : Int) ∧ l0.length ≤ 1000 then some (l0.take a1.toNat ++ rd l2 0 :: l0.drop a1.toNat) else none
theorem slices_Insert_int_int.own {A A2 : Option Addr} {n c m c2 base : Nat} {ok ok2 : Nat → Prop} {w : World} {l0 l2 r : List Int} {a1 : Int} (h : Kd.R (Kd.int .i64) 3 w base ok (.slice A n c) l0) (h2 : Kd.R (Kd.int .i64) 3 w base ok2 (.slice A2 m c2) l2) (hne : ∀ k, ok2 k → some k ≠ (Value.slice A n c).ownBlock) (hbase : base ≤ w.heap.size) (hf : slices_Insert_int_int.f l0 a1 l2 = some r) :
 Calls Try.prog 59 #[.slice A n c, .int .i64 a1, .slice A2 m c2] w fun e w' => ∃ v0_ : Value, e = .returned v0_ ∧ Kd.R (Kd.int .i64) 3 w' base (fun _ => True) v0_ r ∧ ∀ w0 : World, Below base w0 w → Below base w0 w' := by
 unfold slices_Insert_int_int.f at hf
 by_cases hc : l2.length = 1 ∧ 0 ≤ a1 ∧ a1 ≤ (l0.length : Int) ∧ l0.length ≤ 1000
 ·rw [if_pos hc] at hf
  obtain rfl := Option.some.inj hf
  obtain ⟨h1, h3, h4, h5⟩ := hc
  rcases own_block h2 with ⟨_, rfl⟩ | ⟨g, cap, cur, he, hb, hk, hh, hcc, hm, hs, hx⟩
  ·cases h1
  ·injection he with e1 e2 e3
   subst e1 e2 e3
   rw [h1]
   have hx0 : l2[0]? = some (rd l2 0) := by
    rw [List.getElem?_eq_getElem (by omega)]
    simp [rd, List.getD_eq_getElem?_getD, List.getElem?_eq_getElem (show 0 < l2.length by omega)]
   exact insert_own (Kd.R_mono h (fun _ _ => trivial)) a1 (rd l2 0) h3 h4 h5 g c2 cur hh (hx 0 _ hx0) (fun k hk2 he2 => hne g hk (by rw [hk2, he2])) hbase
 ·rw [if_neg hc] at hf
  cases hf

end Go.Proofs.Ytigmekgknhoidaa.P

-- written by a program of the proving session, out of the translation; Lean checks it
namespace Go.Proofs.Ytigmekgknhoidaa.P
open Go.RowKit Go.Proofs.Ytigmekgknhoidaa.Sq Go.Proofs.YtigmekgknhoidaaW.PrintWords Go.Proofs.YtigmekgknhoidaaW.PrintLast Go.Proofs.YtigmekgknhoidaaW.PrintMore
attribute [local go_sem] max2_int min2_int max_two min_two max_three min_three max_four min_four   -- for this text's walks alone
set_option linter.unusedVariables false
set_option linter.unusedSimpArgs false

/-! ### inbox_Begin: function 34 -/
def inbox_Begin.j0 : Nat → List Int → Int → Bool → Option (List Int × Bool × Int)
 | 0, _, _, _ => none
 | k + 1, x0, x1, x15 => if x15 = true then (some (([] : List Int), false, 1)) else ((slices_BinarySearch_int_int.f k x0 x1).bind fun bt482 => (if bt482.2 = true then ((slices_Clone_int_int.f x0).bind fun t484 => (some (t484, true, 0))) else (if (x0.length : Int) ≥ 16 then (some (([] : List Int), false, 5)) else ((slices_Clone_int_int.f x0).bind fun t487 => ((slices_Insert_int_int.f t487 bt482.1 (([x1] : List Int))).bind fun t493 => (some (t493, false, 0)))))))
def inbox_Begin.f (k : Nat) (l0 : List Int) (a1 : Int) : Option (List Int × Bool × Int) := (inbox_Check.f k l0).bind fun t480 => (if t480 = 0 then ((inbox_may.f a1).bind fun t481 => (inbox_Begin.j0 k l0 a1 (!t481))) else (inbox_Begin.j0 k l0 a1 true))
theorem inbox_Begin.mono_l : ∀ k, (∀ y0 y1 y2, LeO (inbox_Begin.j0 k y0 y1 y2) (inbox_Begin.j0 (k + 1) y0 y1 y2))
 | 0 => fun _ _ _ r h => by simp [inbox_Begin.j0] at h
 | k + 1 => by
  have ih0 := inbox_Begin.mono_l k
  ·intro y0 y1 y2
   unfold inbox_Begin.j0
   repeat' first
   | (with_reducible exact ih0 _ _ _)
   | (with_reducible exact inbox_Check.mono _ _)
   | (with_reducible exact slices_BinarySearch_int_int.mono _ _ _)
   | (with_reducible exact LeO.refl _)
   | (with_reducible exact LeO.none _)
   | (with_reducible refine LeO.ite ?_ ?_)
   | (with_reducible refine LeO.bind ?_ (fun _ => ?_))
   | exact ih0 _ _ _
   | exact inbox_Check.mono _ _
   | exact slices_BinarySearch_int_int.mono _ _ _
   | exact LeO.none _
   | refine LeO.ite ?_ ?_
   | refine LeO.bind ?_ (fun _ => ?_)
theorem inbox_Begin.mono : ∀ a0 a1 k, LeO (inbox_Begin.f k a0 a1) (inbox_Begin.f (k + 1) a0 a1) := by
 intro a0 a1 k
 have ih0 := inbox_Begin.mono_l k
 unfold inbox_Begin.f
 repeat' first
  | (with_reducible exact ih0 _ _ _)
  | (with_reducible exact inbox_Check.mono _ _)
  | (with_reducible exact slices_BinarySearch_int_int.mono _ _ _)
  | (with_reducible exact LeO.refl _)
  | (with_reducible exact LeO.none _)
  | (with_reducible refine LeO.ite ?_ ?_)
  | (with_reducible refine LeO.bind ?_ (fun _ => ?_))
  | exact ih0 _ _ _
  | exact inbox_Check.mono _ _
  | exact slices_BinarySearch_int_int.mono _ _ _
  | exact LeO.none _
  | refine LeO.ite ?_ ?_
  | refine LeO.bind ?_ (fun _ => ?_)
set_option maxHeartbeats 8000000 in
set_option maxRecDepth 100000 in
theorem inbox_Begin.calls (k : Nat) (A0 : Option Addr) (c0 : Nat) (l0 : List Int) (a1 : Int) (r1 : List Int) (r2 : Bool) (r3 : Int) (w : World) (hr0 : Kd.C (Kd.int .i64) w A0 l0.length l0) (hc0 : l0.length ≤ c0) (h : inbox_Begin.f k l0 a1 = some (r1, r2, r3)) :
 Calls Try.prog 34 #[.slice A0 l0.length c0, .int .i64 a1] w fun e w' => ∃ v0_ : Value, e = .returned (.tuple #[v0_, .bool r2, .int .i64 r3]) ∧ Kd.R (Kd.int .i64) 3 w' w.heap.size (fun _ => True) v0_ r1 ∧ Below w.heap.size w w' := by
 have HR0 := Aside0.mk hr0
 have HC0 := Aside0.mk hc0
 clear hr0 hc0
 have HB := Aside0.mk (Below.refl w.heap.size w)
 have H : ((inbox_Check.f k l0).bind fun t480 => (if t480 = 0 then ((inbox_may.f a1).bind fun t481 => (inbox_Begin.j0 k l0 a1 (!t481))) else (inbox_Begin.j0 k l0 a1 true))) = some (r1, r2, r3) := h
 clear h
 have HC3 := Aside0.mk H
 clear H
 go_enter Try.func34, Try.ntmps34
 go_upto_region 1 with (fail)
 go_cut [15] (fun v15 wc => ∃ (kq : Nat) (x15_2 : Bool), v15 = .bool x15_2 ∧ Aside0 (inbox_Begin.j0 kq l0 a1 x15_2 = some (r1, r2, r3)) ∧ Aside0 (kq ≤ k) ∧ Aside0 (Below w.heap.size w wc))
 case first =>
  have H := HC3.out
  clear HC3
  replace H := Option.bind_eq_some_iff.mp H
  obtain ⟨t480, A40, H⟩ := H
  replace H : (if t480 = 0 then ((inbox_may.f a1).bind fun t481 => (inbox_Begin.j0 k l0 a1 (!t481))) else (inbox_Begin.j0 k l0 a1 true)) = some (r1, r2, r3) := H
  have A4 := Aside0.mk A40
  clear A40
  by_cases c5 : t480 = 0
  ·rw [if_pos c5] at H
   have c5b0 : (t480 == 0) = true := beq_iff_eq.mpr c5
   have c5b1 : (t480 != 0) = false := bne_eq_false_iff_eq.mpr c5
   clear c5
   (first | rw [c5b0] | (simp only [i64_w, i32_w]; rw [c5b0]) | skip)
   replace H := Option.bind_eq_some_iff.mp H
   obtain ⟨t481, A60, H⟩ := H
   replace H : (inbox_Begin.j0 k l0 a1 (!t481)) = some (r1, r2, r3) := H
   have A6 := Aside0.mk A60
   clear A60
   have H' := Aside0.mk H
   clear H
   go_wp2_with (first | ((with_reducible refine gate_callee (f := 36) rfl ?_); refine goesL_ (some 9) rfl rfl Try.func36 (by kernel_rfl) rfl #[.slice A0 l0.length c0] rfl aa ?_; (with_reducible refine (inbox_Check.calls k _ _ l0 t480 _ ?side1 ?side2 A4.out).mono ?_); (case side1 => repeat (first | exact (Kd.C_below HR0.out HB.out) | (with_reducible refine Kd.C_alloc ?_ _) | (with_reducible refine Kd.C_drewN ?_ _) | (with_reducible refine Kd.C_drew ?_))); (case side2 => exact HC0.out); rintro e w' ⟨rfl, ⟨nd, rfl⟩⟩; refine ⟨_, rfl, ?_⟩) | (go_at_call 55; (with_reducible refine (inbox_may.calls a1 t481 _ A6.out).mono ?_); rintro e w' ⟨rfl, ⟨nd, rfl⟩⟩))
   go_meet
   case rel => exact ⟨_, (!t481), ap, H', ⟨by first | omega | exact Nat.le_refl _⟩, ⟨bo⟩⟩
  ·rw [if_neg c5] at H
   have c5b0 : (t480 == 0) = false := beq_eq_false_iff_ne.mpr c5
   have c5b1 : (t480 != 0) = true := bne_iff_ne.mpr c5
   (first | rw [c5b0] | (simp only [i64_w, i32_w]; rw [c5b0]) | skip)
   have H' := Aside0.mk H
   clear H
   go_wp2_with (first | ((with_reducible refine gate_callee (f := 36) rfl ?_); refine goesL_ (some 9) rfl rfl Try.func36 (by kernel_rfl) rfl #[.slice A0 l0.length c0] rfl aa ?_; (with_reducible refine (inbox_Check.calls k _ _ l0 t480 _ ?side1 ?side2 A4.out).mono ?_); (case side1 => repeat (first | exact (Kd.C_below HR0.out HB.out) | (with_reducible refine Kd.C_alloc ?_ _) | (with_reducible refine Kd.C_drewN ?_ _) | (with_reducible refine Kd.C_drew ?_))); (case side2 => exact HC0.out); rintro e w' ⟨rfl, ⟨nd, rfl⟩⟩; refine ⟨_, rfl, ?_⟩))
   go_meet
   case rel => exact ⟨_, (true), ap, H', ⟨by first | omega | exact Nat.le_refl _⟩, ⟨bo⟩⟩
 case rest =>
  clear HC3
  try clear p2
  try clear c3
  try clear c5
  try clear c5b0
  try clear c5b1
  obtain ⟨kq, x15_2, rfl, HA, HJ2, HB⟩ := hcut
  cases kq with
  | zero => exact absurd HA.out (by simp [inbox_Begin.j0])
  | succ kj2 =>
   have H := HA.out
   clear HA
   simp only [inbox_Begin.j0] at H
   by_cases c7 : x15_2 = true
   ·subst c7
    have H1 : (some (([] : List Int), false, 1)) = some (r1, r2, r3) := by rw [if_pos rfl] at H; exact H
    clear H
    have H := H1
    clear H1
    simp only [Option.some.injEq, Prod.mk.injEq] at H
    obtain ⟨rfl, rfl, rfl⟩ := H
    go_wp2
    go_ret3
    exact ⟨_, er, by first | exact Kd.R_nil _ _ _ _ _ | exact Kd.N_nil _ _ _ _ _ | exact Kd.V_nil _ _ _ _ _ | exact Kd.Q_nil _ _ _ _ _ | exact Kd.S_nil _ _ _ _ _, bo⟩
   ·replace c7 := Bool.eq_false_iff.mpr c7
    subst c7
    have H1 : ((slices_BinarySearch_int_int.f kj2 l0 a1).bind fun bt482 => (if bt482.2 = true then ((slices_Clone_int_int.f l0).bind fun t484 => (some (t484, true, 0))) else (if (l0.length : Int) ≥ 16 then (some (([] : List Int), false, 5)) else ((slices_Clone_int_int.f l0).bind fun t487 => ((slices_Insert_int_int.f t487 bt482.1 (([a1] : List Int))).bind fun t493 => (some (t493, false, 0))))))) = some (r1, r2, r3) := by rw [if_neg (show ¬ (false = true) by decide)] at H; exact H
    clear H
    have H := H1
    clear H1
    replace H := Option.bind_eq_some_iff.mp H
    obtain ⟨⟨t482, t483⟩, A80, H⟩ := H
    replace H : (if t483 = true then ((slices_Clone_int_int.f l0).bind fun t484 => (some (t484, true, 0))) else (if (l0.length : Int) ≥ 16 then (some (([] : List Int), false, 5)) else ((slices_Clone_int_int.f l0).bind fun t487 => ((slices_Insert_int_int.f t487 t482 (([a1] : List Int))).bind fun t493 => (some (t493, false, 0)))))) = some (r1, r2, r3) := H
    have A8 := Aside0.mk A80
    clear A80
    by_cases c9 : t483 = true
    ·subst c9
     have H1 : ((slices_Clone_int_int.f l0).bind fun t484 => (some (t484, true, 0))) = some (r1, r2, r3) := by rw [if_pos rfl] at H; exact H
     clear H
     have H := H1
     clear H1
     replace H := Option.bind_eq_some_iff.mp H
     obtain ⟨t484, A100, H⟩ := H
     replace H : (some (t484, true, 0)) = some (r1, r2, r3) := H
     have A10 := Aside0.mk A100
     clear A100
     simp only [Option.some.injEq, Prod.mk.injEq] at H
     obtain ⟨rfl, rfl, rfl⟩ := H
     go_wp2_with (first | ((with_reducible refine gate_callee (f := 56) rfl ?_); refine goesL_ (some 19) rfl rfl Try.func56 (by kernel_rfl) rfl #[.slice A0 l0.length c0, .int .i64 a1] rfl aa ?_; (with_reducible refine (slices_BinarySearch_int_int.calls kj2 _ _ l0 a1 t482 true _ ?side1 ?side2 A8.out).mono ?_); (case side1 => repeat (first | exact (Kd.C_below HR0.out HB.out) | (with_reducible refine Kd.C_alloc ?_ _) | (with_reducible refine Kd.C_drewN ?_ _) | (with_reducible refine Kd.C_drew ?_))); (case side2 => exact HC0.out); rintro e w' ⟨rfl, ⟨nd, rfl⟩⟩; refine ⟨_, rfl, ?_⟩) | ((with_reducible refine gate_callee (f := 58) rfl ?_); refine goesL_ (some 25) rfl rfl Try.func58 (by kernel_rfl) rfl #[.slice A0 l0.length c0] rfl aa ?_; (with_reducible refine (slices_Clone_int_int.calls _ _ l0 t484 _ ?side1 ?side2 A10.out).mono ?_); (case side1 => repeat (first | exact (Kd.C_below HR0.out bo) | (with_reducible refine Kd.C_alloc ?_ _) | (with_reducible refine Kd.C_drewN ?_ _) | (with_reducible refine Kd.C_drew ?_))); (case side2 => exact HC0.out); rintro e w11 ⟨v485, rfl, ho0, hb⟩; refine ⟨_, rfl, ?_⟩; have HO486 := Aside0.mk (Kd.R_lower ho0 (below_size bo)); replace HB := Aside0.mk (below_step bo hb); (try clear hb); (try clear hb2); (try clear hk); (try clear hi); (try clear ho0)))
     go_ret3
     exact ⟨_, er, by (with_reducible repeat (first | apply Kd.R_alloc | apply Kd.R_drewN | apply Kd.R_drew)); exact HO486.out, bo⟩
    ·replace c9 := Bool.eq_false_iff.mpr c9
     subst c9
     have H1 : (if (l0.length : Int) ≥ 16 then (some (([] : List Int), false, 5)) else ((slices_Clone_int_int.f l0).bind fun t487 => ((slices_Insert_int_int.f t487 t482 (([a1] : List Int))).bind fun t493 => (some (t493, false, 0))))) = some (r1, r2, r3) := by rw [if_neg (show ¬ (false = true) by decide)] at H; exact H
     clear H
     have H := H1
     clear H1
     by_cases c12 : (l0.length : Int) ≥ 16
     ·rw [if_pos c12] at H
      have c12b0 : decide (16 ≤ (l0.length : Int)) = true := decide_eq_true c12
      have c12b1 : decide (16 ≤ l0.length) = true := decide_eq_true (by omega)
      clear c12
      simp only [Option.some.injEq, Prod.mk.injEq] at H
      obtain ⟨rfl, rfl, rfl⟩ := H
      go_wp2_with (first | ((with_reducible refine gate_callee (f := 56) rfl ?_); refine goesL_ (some 19) rfl rfl Try.func56 (by kernel_rfl) rfl #[.slice A0 l0.length c0, .int .i64 a1] rfl aa ?_; (with_reducible refine (slices_BinarySearch_int_int.calls kj2 _ _ l0 a1 t482 false _ ?side1 ?side2 A8.out).mono ?_); (case side1 => repeat (first | exact (Kd.C_below HR0.out HB.out) | (with_reducible refine Kd.C_alloc ?_ _) | (with_reducible refine Kd.C_drewN ?_ _) | (with_reducible refine Kd.C_drew ?_))); (case side2 => exact HC0.out); rintro e w' ⟨rfl, ⟨nd, rfl⟩⟩; refine ⟨_, rfl, ?_⟩))
      go_ret3
      exact ⟨_, er, by first | exact Kd.R_nil _ _ _ _ _ | exact Kd.N_nil _ _ _ _ _ | exact Kd.V_nil _ _ _ _ _ | exact Kd.Q_nil _ _ _ _ _ | exact Kd.S_nil _ _ _ _ _, bo⟩
     ·rw [if_neg c12] at H
      have c12b0 : decide (16 ≤ (l0.length : Int)) = false := decide_eq_false c12
      have c12b1 : decide (16 ≤ l0.length) = false := decide_eq_false (by omega)
      clear c12
      replace H := Option.bind_eq_some_iff.mp H
      obtain ⟨t487, A130, H⟩ := H
      replace H : ((slices_Insert_int_int.f t487 t482 (([a1] : List Int))).bind fun t493 => (some (t493, false, 0))) = some (r1, r2, r3) := H
      have A13 := Aside0.mk A130
      clear A130
      obtain ⟨y490, hy490⟩ : ∃ y_ : List Int, y_ = (([a1] : List Int)) := ⟨_, rfl⟩
      replace H : ((slices_Insert_int_int.f t487 t482 y490).bind fun t493 => (some (t493, false, 0))) = some (r1, r2, r3) := by first | (rw [hy490]; with_reducible exact H) | (have H2_ := (Option.bind_some _ _).symm.trans H; rw [hy490]; with_reducible exact H2_) | (have H2_ := (Option.bind_some _ _).symm.trans H; with_reducible exact H2_) | with_reducible exact H | (rw [hy490]; exact H) | exact H
      have Ny490 := Aside0.mk hy490
      clear hy490
      replace H := Option.bind_eq_some_iff.mp H
      obtain ⟨t493, A140, H⟩ := H
      replace H : (some (t493, false, 0)) = some (r1, r2, r3) := H
      have A14 := Aside0.mk A140
      clear A140
      simp only [Option.some.injEq, Prod.mk.injEq] at H
      obtain ⟨rfl, rfl, rfl⟩ := H
      go_wp2_with (first | ((with_reducible refine gate_callee (f := 56) rfl ?_); refine goesL_ (some 19) rfl rfl Try.func56 (by kernel_rfl) rfl #[.slice A0 l0.length c0, .int .i64 a1] rfl aa ?_; (with_reducible refine (slices_BinarySearch_int_int.calls kj2 _ _ l0 a1 t482 false _ ?side1 ?side2 A8.out).mono ?_); (case side1 => repeat (first | exact (Kd.C_below HR0.out HB.out) | (with_reducible refine Kd.C_alloc ?_ _) | (with_reducible refine Kd.C_drewN ?_ _) | (with_reducible refine Kd.C_drew ?_))); (case side2 => exact HC0.out); rintro e w' ⟨rfl, ⟨nd, rfl⟩⟩; refine ⟨_, rfl, ?_⟩) | ((with_reducible refine gate_callee (f := 58) rfl ?_); refine goesL_ (some 31) rfl rfl Try.func58 (by kernel_rfl) rfl #[.slice A0 l0.length c0] rfl aa ?_; (with_reducible refine (slices_Clone_int_int.calls _ _ l0 t487 _ ?side1 ?side2 A13.out).mono ?_); (case side1 => repeat (first | exact (Kd.C_below HR0.out bo) | (with_reducible refine Kd.C_alloc ?_ _) | (with_reducible refine Kd.C_drewN ?_ _) | (with_reducible refine Kd.C_drew ?_))); (case side2 => exact HC0.out); rintro e w15 ⟨v488, rfl, ho0, hb⟩; refine ⟨_, rfl, ?_⟩; have HO489 := Aside0.mk (Kd.R_lower ho0 (below_size bo)); replace HB := Aside0.mk (below_step bo hb); (try clear hb); (try clear hb2); (try clear hk); (try clear hi); (try clear ho0)) | ((with_reducible refine gate_dst (N := 34) rfl ?_); refine Kd.R_lit (Kd.int .i64) _ 3 ?hg (N := 34) ?hd (xs := ([a1] : List Int)) (inner := [.int .i64 a1]) (ok := fun _ => True) (okp := fun _ => True) ?hr ?hp (fun _ hk => hk) trivial (Below.refl _ _) (Nat.le_refl _) (by simp) ?_; (case hd => rfl); (case hg => rfl); (case hr => first | (go_simp; done) | (go_simp; rfl)); (case hp => exact (Reps.one (show Kd.M (Kd.int .i64) _ _ _ a1 [.int .i64 a1] from rfl) (Reps.none _ _))); intro v491 w16 ho17 hb hg_ hnew_; clear hg_ hnew_; (first | rw [← Ny490.out] at ho17 | (simp only [Int.reduceToNat] at ho17; rw [← Ny490.out] at ho17)); have HO492 := Aside0.mk (Kd.R_lower (Kd.R_new' ho17 (Kd.R_lt (rk HO489.out))) (below_size bo)); replace HO489 := Aside0.mk (Kd.R_elder' (rk HO489.out) (Kd.R_base ho17) hb); replace HB := Aside0.mk (below_step bo hb); clear hb ho17; obtain ⟨Ao18, co18, eo18⟩ := Kd.R_slice HO489.out; subst eo18; obtain ⟨Ao19, co19, eo19⟩ := Kd.R_slice HO492.out; subst eo19) | ((with_reducible refine gate_callee (f := 59) rfl ?_); refine goesL_ (some 35) rfl rfl Try.func59 (by kernel_rfl) rfl #[.slice Ao18 t487.length co18, .int .i64 t482, .slice Ao19 y490.length co19] rfl aa ?_; (refine (slices_Insert_int_int.own HO489.out HO492.out (fun k hk => hk.2) (below_size bo) A14.out).mono ?_); rintro e w20 ⟨v494, rfl, ho0, hb⟩; refine ⟨_, rfl, ?_⟩; have HO495 := Aside0.mk ho0; replace HB := Aside0.mk (hb w bo); clear HO489 HO492; (try clear hb); (try clear hb2); (try clear hk); (try clear hi); (try clear ho0)))
      go_ret3
      exact ⟨_, er, by (with_reducible repeat (first | apply Kd.R_alloc | apply Kd.R_drewN | apply Kd.R_drew)); exact Kd.R_mono HO495.out (fun _ hk => trivial), bo⟩

end Go.Proofs.Ytigmekgknhoidaa.P

-- written by a program of the proving session, out of the translation; Lean checks it
namespace Go.Proofs.Ytigmekgknhoidaa.P
open Go.RowKit Go.Proofs.Ytigmekgknhoidaa.Sq Go.Proofs.YtigmekgknhoidaaW.PrintWords Go.Proofs.YtigmekgknhoidaaW.PrintLast Go.Proofs.YtigmekgknhoidaaW.PrintMore
attribute [local go_sem] max2_int min2_int max_two min_two max_three min_three max_four min_four   -- for this text's walks alone
set_option linter.unusedVariables false
set_option linter.unusedSimpArgs false

/-! ### fairwaylaw19_num: function 35 -/
def fairwaylaw19_num.f (a0 : Int) : Option (Int) := some a0
set_option maxHeartbeats 8000000 in
set_option maxRecDepth 100000 in
theorem fairwaylaw19_num.calls (a0 : Int) (r : Int) (w : World) (h : fairwaylaw19_num.f a0 = some r) :
 Calls Try.prog 35 #[.int .i64 a0] w fun e w' => e = .returned (.int .i64 r) ∧ Drawn0 w w' := by
 have H : (some a0) = some r := h
 clear h
 obtain rfl := Option.some.inj H
 go_enter Try.func35, Try.ntmps35
 go_wp2
 go_ret
 exact ⟨ap, dr⟩

end Go.Proofs.Ytigmekgknhoidaa.P

-- written by a program of the proving session, out of the translation; Lean checks it
namespace Go.Proofs.Ytigmekgknhoidaa.P
open Go.RowKit Go.Proofs.Ytigmekgknhoidaa.Sq Go.Proofs.YtigmekgknhoidaaW.PrintWords Go.Proofs.YtigmekgknhoidaaW.PrintLast Go.Proofs.YtigmekgknhoidaaW.PrintMore
attribute [local go_sem] max2_int min2_int max_two min_two max_three min_three max_four min_four   -- for this text's walks alone
set_option linter.unusedVariables false
set_option linter.unusedSimpArgs false

/-! ### fairwayref0_EqNumbers: function 37 -/
def fairwayref0_EqNumbers.l0 : Nat → List Int → List Int → Int → Option (Bool)
 | 0, _, _, _ => none
 | k + 1, x0, x1, x5 => if x5 < (x0.length : Int) then (if 0 ≤ x5 then (if x5 < (x1.length : Int) then (if (rd x0 x5) = (rd x1 x5) then (fairwayref0_EqNumbers.l0 k x0 x1 (wrap64 (x5 + 1))) else (some false)) else (none)) else (none)) else (some true)
def fairwayref0_EqNumbers.f (k : Nat) (l0 : List Int) (l1 : List Int) : Option (Bool) := if (l0.length : Int) = (l1.length : Int) then (fairwayref0_EqNumbers.l0 k l0 l1 0) else (some false)
theorem fairwayref0_EqNumbers.mono_l : ∀ k, (∀ y0 y1 y2, LeO (fairwayref0_EqNumbers.l0 k y0 y1 y2) (fairwayref0_EqNumbers.l0 (k + 1) y0 y1 y2))
 | 0 => fun _ _ _ r h => by simp [fairwayref0_EqNumbers.l0] at h
 | k + 1 => by
  have ih0 := fairwayref0_EqNumbers.mono_l k
  ·intro y0 y1 y2
   unfold fairwayref0_EqNumbers.l0
   repeat' first
   | (with_reducible exact ih0 _ _ _)
   | (with_reducible exact LeO.refl _)
   | (with_reducible exact LeO.none _)
   | (with_reducible refine LeO.ite ?_ ?_)
   | (with_reducible refine LeO.bind ?_ (fun _ => ?_))
   | exact ih0 _ _ _
   | exact LeO.none _
   | refine LeO.ite ?_ ?_
   | refine LeO.bind ?_ (fun _ => ?_)
theorem fairwayref0_EqNumbers.mono : ∀ a0 a1 k, LeO (fairwayref0_EqNumbers.f k a0 a1) (fairwayref0_EqNumbers.f (k + 1) a0 a1) := by
 intro a0 a1 k
 have ih0 := fairwayref0_EqNumbers.mono_l k
 unfold fairwayref0_EqNumbers.f
 repeat' first
  | (with_reducible exact ih0 _ _ _)
  | (with_reducible exact LeO.refl _)
  | (with_reducible exact LeO.none _)
  | (with_reducible refine LeO.ite ?_ ?_)
  | (with_reducible refine LeO.bind ?_ (fun _ => ?_))
  | exact ih0 _ _ _
  | exact LeO.none _
  | refine LeO.ite ?_ ?_
  | refine LeO.bind ?_ (fun _ => ?_)
set_option maxHeartbeats 8000000 in
set_option maxRecDepth 100000 in
theorem fairwayref0_EqNumbers.calls (k : Nat) (A0 : Option Addr) (c0 : Nat) (l0 : List Int) (A1 : Option Addr) (c1 : Nat) (l1 : List Int) (r : Bool) (w : World) (hr0 : Kd.C (Kd.int .i64) w A0 l0.length l0) (hc0 : l0.length ≤ c0) (hr1 : Kd.C (Kd.int .i64) w A1 l1.length l1) (hc1 : l1.length ≤ c1) (h : fairwayref0_EqNumbers.f k l0 l1 = some r) :
 Calls Try.prog 37 #[.slice A0 l0.length c0, .slice A1 l1.length c1] w fun e w' => e = .returned (.bool r) ∧ Drawn0 w w' := by
 have HR0 := Aside0.mk hr0
 have HC0 := Aside0.mk hc0
 clear hr0 hc0
 have HR1 := Aside0.mk hr1
 have HC1 := Aside0.mk hc1
 clear hr1 hc1
 have H : (if (l0.length : Int) = (l1.length : Int) then (fairwayref0_EqNumbers.l0 k l0 l1 0) else (some false)) = some r := h
 clear h
 by_cases c3 : (l0.length : Int) = (l1.length : Int)
 ·rw [if_pos c3] at H
  have c3b0 : ((l0.length : Int) == (l1.length : Int)) = true := beq_iff_eq.mpr c3
  have c3b1 : ((l0.length : Int) != (l1.length : Int)) = false := bne_eq_false_iff_eq.mpr c3
  have c3b2 : (l0.length == l1.length) = true := by first | simpa using c3 | (simp at c3 ⊢; omega)
  clear c3
  have H' := Aside0.mk H
  clear H
  go_enter Try.func37, Try.ntmps37
  go_wp2
  repeat (go_quiet (fail); try go_wp2)
  go_loopg [5] k (fun kq v5 w' => ∃ (x5_1 : Int), v5 = .int .i64 x5_1 ∧ Aside0 (fairwayref0_EqNumbers.l0 kq l0 l1 x5_1 = some r) ∧ Aside0 (kq ≤ k) ∧ Drawn0 w w')
  case atStart => exact ⟨(0), ap, H', ⟨Nat.le_refl _⟩, dr⟩
  case round =>
   clear H'
   try clear c1
   try clear p2
   try clear c3
   try clear c3b0
   try clear c3b1
   try clear c3b2
   obtain ⟨x5_1, rfl, HA, HK1, ⟨m1, rfl⟩⟩ := hrel
   cases gk with
   | zero => exact absurd HA.out (by simp [fairwayref0_EqNumbers.l0])
   | succ k1 =>
    have H := HA.out
    clear HA
    simp only [fairwayref0_EqNumbers.l0] at H
    by_cases c4 : x5_1 < (l0.length : Int)
    ·rw [if_pos c4] at H
     have c4b0 : decide (x5_1 < (l0.length : Int)) = true := decide_eq_true c4
     clear c4
     by_cases c5 : 0 ≤ x5_1
     ·rw [if_pos c5] at H
      have c5b0 : decide (0 ≤ x5_1) = true := decide_eq_true c5
      clear c5
      by_cases c6 : x5_1 < (l1.length : Int)
      ·rw [if_pos c6] at H
       have c6b0 : decide (x5_1 < (l1.length : Int)) = true := decide_eq_true c6
       clear c6
       by_cases c7 : (rd l0 x5_1) = (rd l1 x5_1)
       ·rw [if_pos c7] at H
        have c7b0 : ((rd l0 x5_1) == (rd l1 x5_1)) = true := beq_iff_eq.mpr c7
        have c7b1 : ((rd l0 x5_1) != (rd l1 x5_1)) = false := bne_eq_false_iff_eq.mpr c7
        clear c7
        have H' := Aside0.mk H
        clear H
        have p496 : 0 ≤ (x5_1 : Int) := od
        have q496 : x5_1 < (l0.length : Int) := od
        obtain ⟨ad496, e496, hx496_0⟩ := Kd.at_int HR0.out x5_1 p496 q496
        cases e496
        replace p496 := eq_true p496
        replace q496 := eq_true q496
        have p497 : 0 ≤ (x5_1 : Int) := od
        have q497 : x5_1 < (l1.length : Int) := od
        obtain ⟨ad497, e497, hx497_0⟩ := Kd.at_int HR1.out x5_1 p497 q497
        cases e497
        replace p497 := eq_true p497
        replace q497 := eq_true q497
        go_wp2
        repeat (go_quiet (fail); try go_wp2)
        go_roundg k1
        case measure => have := HK1.out; omega
        case rel => exact ⟨(wrap64 (x5_1 + 1)), ap, H', ⟨by have := HK1.out; omega⟩, dr⟩
       ·rw [if_neg c7] at H
        have c7b0 : ((rd l0 x5_1) == (rd l1 x5_1)) = false := beq_eq_false_iff_ne.mpr c7
        have c7b1 : ((rd l0 x5_1) != (rd l1 x5_1)) = true := bne_iff_ne.mpr c7
        obtain rfl := Option.some.inj H
        have p496 : 0 ≤ (x5_1 : Int) := od
        have q496 : x5_1 < (l0.length : Int) := od
        obtain ⟨ad496, e496, hx496_0⟩ := Kd.at_int HR0.out x5_1 p496 q496
        cases e496
        replace p496 := eq_true p496
        replace q496 := eq_true q496
        have p497 : 0 ≤ (x5_1 : Int) := od
        have q497 : x5_1 < (l1.length : Int) := od
        obtain ⟨ad497, e497, hx497_0⟩ := Kd.at_int HR1.out x5_1 p497 q497
        cases e497
        replace p497 := eq_true p497
        replace q497 := eq_true q497
        go_wp2
        repeat (go_quiet (fail); try go_wp2)
        go_ret
        exact ⟨ap, dr⟩
      ·rw [if_neg c6] at H
       exact absurd H (by simp)
     ·rw [if_neg c5] at H
      exact absurd H (by simp)
    ·rw [if_neg c4] at H
     have c4b0 : decide (x5_1 < (l0.length : Int)) = false := decide_eq_false c4
     clear c4
     obtain rfl := Option.some.inj H
     go_wp2
     repeat (go_quiet (fail); try go_wp2)
     go_ret
     exact ⟨ap, dr⟩
 ·rw [if_neg c3] at H
  have c3b0 : ((l0.length : Int) == (l1.length : Int)) = false := beq_eq_false_iff_ne.mpr c3
  have c3b1 : ((l0.length : Int) != (l1.length : Int)) = true := bne_iff_ne.mpr c3
  have c3b2 : (l0.length == l1.length) = false := by first | simpa using c3 | (simp at c3 ⊢; omega)
  obtain rfl := Option.some.inj H
  go_enter Try.func37, Try.ntmps37
  go_wp2
  repeat (go_quiet (fail); try go_wp2)
  go_ret
  exact ⟨ap, dr⟩

end Go.Proofs.Ytigmekgknhoidaa.P

-- written by a program of the proving session, out of the translation; Lean checks it
namespace Go.Proofs.Ytigmekgknhoidaa.P
open Go.RowKit Go.Proofs.Ytigmekgknhoidaa.Sq Go.Proofs.YtigmekgknhoidaaW.PrintWords Go.Proofs.YtigmekgknhoidaaW.PrintLast Go.Proofs.YtigmekgknhoidaaW.PrintMore
attribute [local go_sem] max2_int min2_int max_two min_two max_three min_three max_four min_four   -- for this text's walks alone
set_option linter.unusedVariables false
set_option linter.unusedSimpArgs false

/-! ### fairwaylaw0_Numbers: function 38 -/
def fairwaylaw0_Numbers.l0 : Nat → List Int → Int → Option (Unit)
 | 0, _, _ => none
 | k + 1, x0, x2 => if x2 < (x0.length : Int) then (if 0 ≤ x2 then (fairwaylaw0_Numbers.l0 k (x0.set (x2 : Int).toNat (-99)) (wrap64 (x2 + 1))) else (none)) else (if x0.length < 17592186044416 then (some ()) else (none))
def fairwaylaw0_Numbers.f (k : Nat) (l0 : List Int) : Option (Unit) := fairwaylaw0_Numbers.l0 k l0 0
theorem fairwaylaw0_Numbers.mono_l : ∀ k, (∀ y0 y1, LeO (fairwaylaw0_Numbers.l0 k y0 y1) (fairwaylaw0_Numbers.l0 (k + 1) y0 y1))
 | 0 => fun _ _ r h => by simp [fairwaylaw0_Numbers.l0] at h
 | k + 1 => by
  have ih0 := fairwaylaw0_Numbers.mono_l k
  ·intro y0 y1
   unfold fairwaylaw0_Numbers.l0
   repeat' first
   | (with_reducible exact ih0 _ _)
   | (with_reducible exact LeO.refl _)
   | (with_reducible exact LeO.none _)
   | (with_reducible refine LeO.ite ?_ ?_)
   | (with_reducible refine LeO.bind ?_ (fun _ => ?_))
   | exact ih0 _ _
   | exact LeO.none _
   | refine LeO.ite ?_ ?_
   | refine LeO.bind ?_ (fun _ => ?_)
theorem fairwaylaw0_Numbers.mono : ∀ a0 k, LeO (fairwaylaw0_Numbers.f k a0) (fairwaylaw0_Numbers.f (k + 1) a0) := by
 intro a0 k
 have ih0 := fairwaylaw0_Numbers.mono_l k
 unfold fairwaylaw0_Numbers.f
 repeat' first
  | (with_reducible exact ih0 _ _)
  | (with_reducible exact LeO.refl _)
  | (with_reducible exact LeO.none _)
  | (with_reducible refine LeO.ite ?_ ?_)
  | (with_reducible refine LeO.bind ?_ (fun _ => ?_))
  | exact ih0 _ _
  | exact LeO.none _
  | refine LeO.ite ?_ ?_
  | refine LeO.bind ?_ (fun _ => ?_)
set_option maxHeartbeats 8000000 in
set_option maxRecDepth 100000 in
theorem fairwaylaw0_Numbers.calls (k : Nat) (P0_ : Nat → Prop) (u9000_ : Value) (l0 : List Int) (w0 w : World) (hB : Below w0.heap.size w0 w) (ho0 : Kd.R (Kd.int .i64) 3 w w0.heap.size P0_ u9000_ l0) (h : fairwaylaw0_Numbers.f k l0 = some ()) :
 Calls Try.prog 38 #[u9000_] w fun e w' => e = .returned (.tuple #[]) ∧ Below w0.heap.size w0 w' ∧ Kept w w' (fun k_ => P0_ k_) := by
 have HO0 := Aside0.mk (show Kd.R (Kd.int .i64) 3 w w0.heap.size (fun k_ => (P0_ k_ ∨ w.heap.size ≤ k_)) u9000_ l0 from Kd.R_mono ho0 (fun k_ hk => (.inl hk)))
 have HK := Aside0.mk (Kept.refl w (fun k_ => P0_ k_))
 have HW0 := Aside0.mk hB.size
 have HB := Aside0.mk hB
 clear hB
 have H : (fairwaylaw0_Numbers.l0 k l0 0) = some () := h
 clear h
 have H' := Aside0.mk H
 clear H
 go_enter Try.func38, Try.ntmps38
 go_wp2
 go_loopg [2] k (fun kq v2 w' => ∃ (x0_1 : List Int) (x2_1 : Int), v2 = .int .i64 x2_1 ∧ Aside0 (fairwaylaw0_Numbers.l0 kq x0_1 x2_1 = some ()) ∧ Aside0 (kq ≤ k) ∧ Aside0 (Kd.R (Kd.int .i64) 3 w' w0.heap.size (fun k_ => (P0_ k_ ∨ w.heap.size ≤ k_)) u9000_ x0_1) ∧ Aside0 (Kept w w' (fun k_ => P0_ k_)) ∧ Aside0 (Below w0.heap.size w0 w'))
 case atStart => exact ⟨(l0), (0), ap, H', ⟨Nat.le_refl _⟩, ⟨by (with_reducible repeat (first | apply Kd.R_alloc | apply Kd.R_drewN | apply Kd.R_drew)); exact HO0.out⟩, ⟨by repeat (first | (with_reducible first | exact HK.out | apply Kept.alloc | apply Kept.drewN | apply Kept.drew) | exact HK.out)⟩, ⟨bo⟩⟩
 case round =>
  clear H'
  obtain ⟨x0_1, x2_1, rfl, HA, HK1, HO_0, HK, HB⟩ := hrel
  cases gk with
  | zero => exact absurd HA.out (by simp [fairwaylaw0_Numbers.l0])
  | succ k1 =>
   have H := HA.out
   clear HA
   simp only [fairwaylaw0_Numbers.l0] at H
   by_cases c2 : x2_1 < (x0_1.length : Int)
   ·rw [if_pos c2] at H
    have c2b0 : decide (x2_1 < (x0_1.length : Int)) = true := decide_eq_true c2
    clear c2
    by_cases c3 : 0 ≤ x2_1
    ·rw [if_pos c3] at H
     have c3b0 : decide (0 ≤ x2_1) = true := decide_eq_true c3
     clear c3
     obtain ⟨y498, hy498⟩ : ∃ y_ : List Int, y_ = (x0_1.set (x2_1 : Int).toNat (-99)) := ⟨_, rfl⟩
     replace H : (fairwaylaw0_Numbers.l0 k1 y498 (wrap64 (x2_1 + 1))) = some () := by first | (rw [hy498]; with_reducible exact H) | (have H2_ := (Option.bind_some _ _).symm.trans H; rw [hy498]; with_reducible exact H2_) | (have H2_ := (Option.bind_some _ _).symm.trans H; with_reducible exact H2_) | with_reducible exact H | (rw [hy498]; exact H) | exact H
     have Ny498 := Aside0.mk hy498
     clear hy498
     have H' := Aside0.mk H
     clear H
     obtain ⟨Ao5, co5, eo5⟩ := Kd.R_slice HO_0.out
     subst eo5
     have p4 : 0 ≤ (x2_1 : Int) := od
     have q4 : (x2_1 : Int) < ((x0_1.length : Int) : Int) := od
     obtain ⟨go4, co4, eo4, gb4, gl4, cl4, HG4⟩ := Kd.R_form HO_0.out (by omega)
     (first | cases eo4 | (injection eo4 with ea_ en_ ec_; (first | subst ea_ | (injection ea_ with ea_; subst ea_)); subst ec_; clear en_))
     have GB4 := Aside0.mk gb4
     have GG4 := Aside0.mk HG4
     clear gb4 gl4 HG4
     have HMgo4 := Aside0.mk (show (P0_ go4 ∨ w.heap.size ≤ go4) from (HO_0.out.1 _ rfl))
     obtain ⟨hx4_0, hf4_0⟩ := Kd.R_celln 0 HO_0.out (x2_1 : Int) p4 q4
     replace p4 := eq_true p4
     replace q4 := eq_true q4
     have HP6 := Kd.R_putg HO_0.out (x2_1 : Int) (-99)
     go_wp2_with (first | ((with_reducible refine gate_store (t := 3) (p := 11) rfl ?_); refine store_event (t := 3) (p := 11) (v := ?vo_w7) (w1 := (wr.setCell ⟨go4, (x2_1 : Int).toNat, none⟩ (.int .i64 (-99)))) ?hg ?ho ?hn ?hr ?_; (case ho => rfl); (case hg => rfl); (case hn => rfl); (case hr => first | (go_simp; done) | (go_simp; rfl)); intro w7 hw; have hg : wr.grownBy w7 (some go4) := (by rw [hw]; exact HP6.2); have hp_ : Kd.R (Kd.int .i64) 3 w7 w0.heap.size (fun k_ => (P0_ k_ ∨ w.heap.size ≤ k_)) (.slice (some ⟨go4, 0, none⟩) x0_1.length co5) y498 := (by rw [hw, Ny498.out]; exact HP6.1); clear HP6; replace HB := Aside0.mk ((by rw [hw]; exact below_set (HB.out) GB4.out : Below w0.heap.size w0 w7)); replace HK := Aside0.mk (Kept.of_grown (S := (fun k_ => P0_ k_)) hg (by repeat (first | (with_reducible first | exact HK.out | apply Kept.alloc | apply Kept.drewN | apply Kept.drew) | exact HK.out)) (fun k_ e_ => (HO_0.out.1 k_ e_))); replace HO_0 := Aside0.mk (hp_); clear hg hw hp_))
     go_roundg k1
     case measure => have := HK1.out; omega
     case rel => exact ⟨(y498), (wrap64 (x2_1 + 1)), ap, H', ⟨by have := HK1.out; omega⟩, ⟨by (with_reducible repeat (first | apply Kd.R_alloc | apply Kd.R_drewN | apply Kd.R_drew)); exact HO_0.out⟩, ⟨by repeat (first | (with_reducible first | exact HK.out | apply Kept.alloc | apply Kept.drewN | apply Kept.drew) | exact HK.out)⟩, ⟨bo⟩⟩
    ·rw [if_neg c3] at H
     exact absurd H (by simp)
   ·rw [if_neg c2] at H
    have c2b0 : decide (x2_1 < (x0_1.length : Int)) = false := decide_eq_false c2
    clear c2
    by_cases c8 : x0_1.length < 17592186044416
    ·rw [if_pos c8] at H
     have LMc8 := Aside0.mk c8
     clear c8
     obtain ⟨y499, hy499⟩ : ∃ y_ : List Int, y_ = (x0_1 ++ [5]) := ⟨_, rfl⟩
     replace H : (some ()) = some () := by first | (rw [hy499]; with_reducible exact H) | (have H2_ := (Option.bind_some _ _).symm.trans H; rw [hy499]; with_reducible exact H2_) | (have H2_ := (Option.bind_some _ _).symm.trans H; with_reducible exact H2_) | with_reducible exact H | (rw [hy499]; exact H) | exact H
     have Ny499 := Aside0.mk hy499
     clear hy499
     obtain ⟨Ao9, co9, eo9⟩ := Kd.R_slice HO_0.out
     subst eo9
     go_wp2_with (first | ((with_reducible refine gate_builtin (b := .append) (xs := #[.tmp 12, .tmp 13]) rfl ?_); at_builtin; refine Kd.R_append (Kd.int .i64) (w0 := w0) w0.heap.size rfl (.tmp 12) (.tmp 13) 54 3 (.int .i64 0) 8 rfl Try.underlying54 info3 rfl (by decide) (by omega) (.slice Ao9 x0_1.length co9) x0_1 5 [.int .i64 5] (fun k_ => (P0_ k_ ∨ w.heap.size ≤ k_)) (fun _ => False) rfl rfl ?aP (fun _ hk => hk.elim) ?aF ?aO ?aB ?aS ?aL ?_; (case aP => exact rfl); (case aB => exact bo); (case aF => exact (fun k_ hk => (.inr (Nat.le_trans (by first | exact HK.out.1 | exact (show Kept w _ (fun k_ => P0_ k_) from by repeat (first | (with_reducible first | exact HK.out | apply Kept.alloc | apply Kept.drewN | apply Kept.drew) | exact HK.out)).1) hk)))); (case aO => exact (rk HO_0.out)); (case aS => exact (below_size bo)); (case aL => have := LMc8.out; omega); intro v500 w10 ho hb hg hat; rw [← Ny499.out] at ho; have n0_ := Aside0.mk (hb); have n1_ := Aside0.mk (Kept.of_grown (S := (fun k_ => P0_ k_)) hg (by repeat (first | (with_reducible first | exact HK.out | apply Kept.alloc | apply Kept.drewN | apply Kept.drew) | exact HK.out)) (fun k_ e_ => (HO_0.out.1 k_ e_))); have n2_ := Aside0.mk (ho); clear HB; clear HK; clear HO_0; have HB := n0_; have HK := n1_; have HO501 := n2_; clear n0_ n1_ n2_; clear ho hb hg hat))
     first | go_end0 | ((try simp only [Exit.inBlock, Exit.then]); refine bodyPost_ret (results_none rfl _ _ _) rfl ?_)
     exact ⟨er, bo, by repeat (first | (with_reducible first | exact HK.out | apply Kept.alloc | apply Kept.drewN | apply Kept.drew) | exact HK.out)⟩
    ·rw [if_neg c8] at H
     exact absurd H (by simp)

end Go.Proofs.Ytigmekgknhoidaa.P

-- written by a program of the proving session, out of the translation; Lean checks it
namespace Go.Proofs.Ytigmekgknhoidaa.P
open Go.RowKit Go.Proofs.Ytigmekgknhoidaa.Sq Go.Proofs.YtigmekgknhoidaaW.PrintWords Go.Proofs.YtigmekgknhoidaaW.PrintLast Go.Proofs.YtigmekgknhoidaaW.PrintMore
attribute [local go_sem] max2_int min2_int max_two min_two max_three min_three max_four min_four   -- for this text's walks alone
set_option linter.unusedVariables false
set_option linter.unusedSimpArgs false

/-! ### fairwaylaw19_wakes: function 39 -/
def fairwaylaw19_wakes.f (k : Nat)  : Option (Bool) := (inbox_Begin.f k ([] : List Int) 5).bind fun bt502 => ((inbox_Begin.f k bt502.1 5).bind fun bt507 => ((fairwaylaw19_num.f bt502.2.2).bind fun t512 => (if t512 = 0 then ((fairwaylaw19_num.f bt507.2.2).bind fun t513 => (if t513 = 0 then (if bt502.2.1 = true then (some false) else (some bt507.2.1)) else (some false))) else (some false))))
theorem fairwaylaw19_wakes.mono : ∀ k, LeO (fairwaylaw19_wakes.f k ) (fairwaylaw19_wakes.f (k + 1) ) := by
 intro  k
 unfold fairwaylaw19_wakes.f
 repeat' first
  | (with_reducible exact inbox_Begin.mono _ _ _)
  | (with_reducible exact LeO.refl _)
  | (with_reducible exact LeO.none _)
  | (with_reducible refine LeO.ite ?_ ?_)
  | (with_reducible refine LeO.bind ?_ (fun _ => ?_))
  | exact inbox_Begin.mono _ _ _
  | exact LeO.none _
  | refine LeO.ite ?_ ?_
  | refine LeO.bind ?_ (fun _ => ?_)
set_option maxHeartbeats 8000000 in
set_option maxRecDepth 100000 in
theorem fairwaylaw19_wakes.calls (k : Nat)  (r : Bool) (w : World) (h : fairwaylaw19_wakes.f k  = some r) :
 Calls Try.prog 39 #[] w fun e w' => e = .returned (.bool r) ∧ Below w.heap.size w w' := by
 have HB := Aside0.mk (Below.refl w.heap.size w)
 have H : ((inbox_Begin.f k ([] : List Int) 5).bind fun bt502 => ((inbox_Begin.f k bt502.1 5).bind fun bt507 => ((fairwaylaw19_num.f bt502.2.2).bind fun t512 => (if t512 = 0 then ((fairwaylaw19_num.f bt507.2.2).bind fun t513 => (if t513 = 0 then (if bt502.2.1 = true then (some false) else (some bt507.2.1)) else (some false))) else (some false))))) = some r := h
 clear h
 replace H := Option.bind_eq_some_iff.mp H
 obtain ⟨⟨t502, t503, t504⟩, A10, H⟩ := H
 replace H : ((inbox_Begin.f k t502 5).bind fun bt507 => ((fairwaylaw19_num.f t504).bind fun t512 => (if t512 = 0 then ((fairwaylaw19_num.f bt507.2.2).bind fun t513 => (if t513 = 0 then (if t503 = true then (some false) else (some bt507.2.1)) else (some false))) else (some false)))) = some r := H
 have A1 := Aside0.mk A10
 clear A10
 replace H := Option.bind_eq_some_iff.mp H
 obtain ⟨⟨t507, t508, t509⟩, A20, H⟩ := H
 replace H : ((fairwaylaw19_num.f t504).bind fun t512 => (if t512 = 0 then ((fairwaylaw19_num.f t509).bind fun t513 => (if t513 = 0 then (if t503 = true then (some false) else (some t508)) else (some false))) else (some false))) = some r := H
 have A2 := Aside0.mk A20
 clear A20
 replace H := Option.bind_eq_some_iff.mp H
 obtain ⟨t512, A30, H⟩ := H
 replace H : (if t512 = 0 then ((fairwaylaw19_num.f t509).bind fun t513 => (if t513 = 0 then (if t503 = true then (some false) else (some t508)) else (some false))) else (some false)) = some r := H
 have A3 := Aside0.mk A30
 clear A30
 by_cases c4 : t512 = 0
 ·rw [if_pos c4] at H
  have c4b0 : (t512 == 0) = true := beq_iff_eq.mpr c4
  have c4b1 : (t512 != 0) = false := bne_eq_false_iff_eq.mpr c4
  clear c4
  replace H := Option.bind_eq_some_iff.mp H
  obtain ⟨t513, A50, H⟩ := H
  replace H : (if t513 = 0 then (if t503 = true then (some false) else (some t508)) else (some false)) = some r := H
  have A5 := Aside0.mk A50
  clear A50
  by_cases c6 : t513 = 0
  ·rw [if_pos c6] at H
   have c6b0 : (t513 == 0) = true := beq_iff_eq.mpr c6
   have c6b1 : (t513 != 0) = false := bne_eq_false_iff_eq.mpr c6
   clear c6
   by_cases c7 : t503 = true
   ·subst c7
    have H1 : (some false) = some r := by rw [if_pos rfl] at H; exact H
    clear H
    have H := H1
    clear H1
    obtain rfl := Option.some.inj H
    go_enter Try.func39, Try.ntmps39
    go_wp2_with (first | ((with_reducible refine gate_callee (f := 34) rfl ?_); refine goesL_ (some 8) rfl rfl Try.func34 (by kernel_rfl) rfl #[.slice none 0 0, .int .i64 5] rfl aa ?_; (refine (inbox_Begin.calls k _ _ ([] : List Int) 5 t502 true t504 _ ?side1 ?side2 A1.out).mono ?_); (case side1 => exact Kd.C_nil _ _); (case side2 => exact Nat.le_refl _); rintro e w8 ⟨v505, rfl, ho0, hb⟩; refine ⟨_, rfl, ?_⟩; have HO506 := Aside0.mk (Kd.R_lower ho0 (below_size bo)); replace HB := Aside0.mk (below_step bo hb); (try clear hb); (try clear hb2); (try clear hk); (try clear hi); (try clear ho0); obtain ⟨Ao9, co9, eo9⟩ := Kd.R_slice HO506.out; subst eo9) | ((with_reducible refine gate_callee (f := 34) rfl ?_); refine goesL_ (some 14) rfl rfl Try.func34 (by kernel_rfl) rfl #[.slice Ao9 t502.length co9, .int .i64 5] rfl aa ?_; (with_reducible refine (inbox_Begin.calls k _ _ t502 5 t507 t508 t509 _ ?side1 ?side2 A2.out).mono ?_); (case side1 => repeat (first | exact (Kd.R_reads' HO506.out).2.2 | (with_reducible refine Kd.C_alloc ?_ _) | (with_reducible refine Kd.C_drewN ?_ _) | (with_reducible refine Kd.C_drew ?_))); (case side2 => exact (Kd.R_reads' HO506.out).2.1); rintro e w10 ⟨v510, rfl, ho0, hb⟩; refine ⟨_, rfl, ?_⟩; have HO511 := Aside0.mk (Kd.R_lower (Kd.R_new' ho0 (Kd.R_lt (rk HO506.out))) (below_size bo)); replace HO506 := Aside0.mk (Kd.R_elder' (rk HO506.out) (Kd.R_base ho0) hb); replace HB := Aside0.mk (below_step bo hb); (try clear hb); (try clear hb2); (try clear hk); (try clear hi); (try clear ho0)) | ((with_reducible refine gate_callee (f := 35) rfl ?_); refine goesL_ (some 19) rfl rfl Try.func35 (by kernel_rfl) rfl #[.int .i64 t504] rfl aa ?_; (with_reducible refine (fairwaylaw19_num.calls t504 t512 _ A3.out).mono ?_); rintro e w' ⟨rfl, ⟨nd, rfl⟩⟩; refine ⟨_, rfl, ?_⟩) | (go_at_call 35; (with_reducible refine (fairwaylaw19_num.calls t509 t513 _ A5.out).mono ?_); rintro e w' ⟨rfl, ⟨nd, rfl⟩⟩))
    go_ret
    exact ⟨er, bo⟩
   ·replace c7 := Bool.eq_false_iff.mpr c7
    subst c7
    have H1 : (some t508) = some r := by rw [if_neg (show ¬ (false = true) by decide)] at H; exact H
    clear H
    have H := H1
    clear H1
    obtain rfl := Option.some.inj H
    go_enter Try.func39, Try.ntmps39
    go_wp2_with (first | ((with_reducible refine gate_callee (f := 34) rfl ?_); refine goesL_ (some 8) rfl rfl Try.func34 (by kernel_rfl) rfl #[.slice none 0 0, .int .i64 5] rfl aa ?_; (refine (inbox_Begin.calls k _ _ ([] : List Int) 5 t502 false t504 _ ?side1 ?side2 A1.out).mono ?_); (case side1 => exact Kd.C_nil _ _); (case side2 => exact Nat.le_refl _); rintro e w11 ⟨v505, rfl, ho0, hb⟩; refine ⟨_, rfl, ?_⟩; have HO506 := Aside0.mk (Kd.R_lower ho0 (below_size bo)); replace HB := Aside0.mk (below_step bo hb); (try clear hb); (try clear hb2); (try clear hk); (try clear hi); (try clear ho0); obtain ⟨Ao12, co12, eo12⟩ := Kd.R_slice HO506.out; subst eo12) | ((with_reducible refine gate_callee (f := 34) rfl ?_); refine goesL_ (some 14) rfl rfl Try.func34 (by kernel_rfl) rfl #[.slice Ao12 t502.length co12, .int .i64 5] rfl aa ?_; (with_reducible refine (inbox_Begin.calls k _ _ t502 5 t507 t508 t509 _ ?side1 ?side2 A2.out).mono ?_); (case side1 => repeat (first | exact (Kd.R_reads' HO506.out).2.2 | (with_reducible refine Kd.C_alloc ?_ _) | (with_reducible refine Kd.C_drewN ?_ _) | (with_reducible refine Kd.C_drew ?_))); (case side2 => exact (Kd.R_reads' HO506.out).2.1); rintro e w13 ⟨v510, rfl, ho0, hb⟩; refine ⟨_, rfl, ?_⟩; have HO511 := Aside0.mk (Kd.R_lower (Kd.R_new' ho0 (Kd.R_lt (rk HO506.out))) (below_size bo)); replace HO506 := Aside0.mk (Kd.R_elder' (rk HO506.out) (Kd.R_base ho0) hb); replace HB := Aside0.mk (below_step bo hb); (try clear hb); (try clear hb2); (try clear hk); (try clear hi); (try clear ho0)) | ((with_reducible refine gate_callee (f := 35) rfl ?_); refine goesL_ (some 19) rfl rfl Try.func35 (by kernel_rfl) rfl #[.int .i64 t504] rfl aa ?_; (with_reducible refine (fairwaylaw19_num.calls t504 t512 _ A3.out).mono ?_); rintro e w' ⟨rfl, ⟨nd, rfl⟩⟩; refine ⟨_, rfl, ?_⟩) | (go_at_call 35; (with_reducible refine (fairwaylaw19_num.calls t509 t513 _ A5.out).mono ?_); rintro e w' ⟨rfl, ⟨nd, rfl⟩⟩))
    go_ret
    exact ⟨er, bo⟩
  ·rw [if_neg c6] at H
   have c6b0 : (t513 == 0) = false := beq_eq_false_iff_ne.mpr c6
   have c6b1 : (t513 != 0) = true := bne_iff_ne.mpr c6
   obtain rfl := Option.some.inj H
   go_enter Try.func39, Try.ntmps39
   go_wp2_with (first | ((with_reducible refine gate_callee (f := 34) rfl ?_); refine goesL_ (some 8) rfl rfl Try.func34 (by kernel_rfl) rfl #[.slice none 0 0, .int .i64 5] rfl aa ?_; (refine (inbox_Begin.calls k _ _ ([] : List Int) 5 t502 t503 t504 _ ?side1 ?side2 A1.out).mono ?_); (case side1 => exact Kd.C_nil _ _); (case side2 => exact Nat.le_refl _); rintro e w14 ⟨v505, rfl, ho0, hb⟩; refine ⟨_, rfl, ?_⟩; have HO506 := Aside0.mk (Kd.R_lower ho0 (below_size bo)); replace HB := Aside0.mk (below_step bo hb); (try clear hb); (try clear hb2); (try clear hk); (try clear hi); (try clear ho0); obtain ⟨Ao15, co15, eo15⟩ := Kd.R_slice HO506.out; subst eo15) | ((with_reducible refine gate_callee (f := 34) rfl ?_); refine goesL_ (some 14) rfl rfl Try.func34 (by kernel_rfl) rfl #[.slice Ao15 t502.length co15, .int .i64 5] rfl aa ?_; (with_reducible refine (inbox_Begin.calls k _ _ t502 5 t507 t508 t509 _ ?side1 ?side2 A2.out).mono ?_); (case side1 => repeat (first | exact (Kd.R_reads' HO506.out).2.2 | (with_reducible refine Kd.C_alloc ?_ _) | (with_reducible refine Kd.C_drewN ?_ _) | (with_reducible refine Kd.C_drew ?_))); (case side2 => exact (Kd.R_reads' HO506.out).2.1); rintro e w16 ⟨v510, rfl, ho0, hb⟩; refine ⟨_, rfl, ?_⟩; have HO511 := Aside0.mk (Kd.R_lower (Kd.R_new' ho0 (Kd.R_lt (rk HO506.out))) (below_size bo)); replace HO506 := Aside0.mk (Kd.R_elder' (rk HO506.out) (Kd.R_base ho0) hb); replace HB := Aside0.mk (below_step bo hb); (try clear hb); (try clear hb2); (try clear hk); (try clear hi); (try clear ho0)) | ((with_reducible refine gate_callee (f := 35) rfl ?_); refine goesL_ (some 19) rfl rfl Try.func35 (by kernel_rfl) rfl #[.int .i64 t504] rfl aa ?_; (with_reducible refine (fairwaylaw19_num.calls t504 t512 _ A3.out).mono ?_); rintro e w' ⟨rfl, ⟨nd, rfl⟩⟩; refine ⟨_, rfl, ?_⟩) | (go_at_call 35; (with_reducible refine (fairwaylaw19_num.calls t509 t513 _ A5.out).mono ?_); rintro e w' ⟨rfl, ⟨nd, rfl⟩⟩))
   go_ret
   exact ⟨er, bo⟩
 ·rw [if_neg c4] at H
  have c4b0 : (t512 == 0) = false := beq_eq_false_iff_ne.mpr c4
  have c4b1 : (t512 != 0) = true := bne_iff_ne.mpr c4
  obtain rfl := Option.some.inj H
  go_enter Try.func39, Try.ntmps39
  go_wp2_with (first | ((with_reducible refine gate_callee (f := 34) rfl ?_); refine goesL_ (some 8) rfl rfl Try.func34 (by kernel_rfl) rfl #[.slice none 0 0, .int .i64 5] rfl aa ?_; (refine (inbox_Begin.calls k _ _ ([] : List Int) 5 t502 t503 t504 _ ?side1 ?side2 A1.out).mono ?_); (case side1 => exact Kd.C_nil _ _); (case side2 => exact Nat.le_refl _); rintro e w17 ⟨v505, rfl, ho0, hb⟩; refine ⟨_, rfl, ?_⟩; have HO506 := Aside0.mk (Kd.R_lower ho0 (below_size bo)); replace HB := Aside0.mk (below_step bo hb); (try clear hb); (try clear hb2); (try clear hk); (try clear hi); (try clear ho0); obtain ⟨Ao18, co18, eo18⟩ := Kd.R_slice HO506.out; subst eo18) | ((with_reducible refine gate_callee (f := 34) rfl ?_); refine goesL_ (some 14) rfl rfl Try.func34 (by kernel_rfl) rfl #[.slice Ao18 t502.length co18, .int .i64 5] rfl aa ?_; (with_reducible refine (inbox_Begin.calls k _ _ t502 5 t507 t508 t509 _ ?side1 ?side2 A2.out).mono ?_); (case side1 => repeat (first | exact (Kd.R_reads' HO506.out).2.2 | (with_reducible refine Kd.C_alloc ?_ _) | (with_reducible refine Kd.C_drewN ?_ _) | (with_reducible refine Kd.C_drew ?_))); (case side2 => exact (Kd.R_reads' HO506.out).2.1); rintro e w19 ⟨v510, rfl, ho0, hb⟩; refine ⟨_, rfl, ?_⟩; have HO511 := Aside0.mk (Kd.R_lower (Kd.R_new' ho0 (Kd.R_lt (rk HO506.out))) (below_size bo)); replace HO506 := Aside0.mk (Kd.R_elder' (rk HO506.out) (Kd.R_base ho0) hb); replace HB := Aside0.mk (below_step bo hb); (try clear hb); (try clear hb2); (try clear hk); (try clear hi); (try clear ho0)) | ((with_reducible refine gate_callee (f := 35) rfl ?_); refine goesL_ (some 19) rfl rfl Try.func35 (by kernel_rfl) rfl #[.int .i64 t504] rfl aa ?_; (with_reducible refine (fairwaylaw19_num.calls t504 t512 _ A3.out).mono ?_); rintro e w' ⟨rfl, ⟨nd, rfl⟩⟩; refine ⟨_, rfl, ?_⟩))
  go_ret
  exact ⟨er, bo⟩

end Go.Proofs.Ytigmekgknhoidaa.P

