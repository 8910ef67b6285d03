/- KeepAges: for every input of the row the law returns true, and the input reads afterwards as before. Conditions: none beside the row's own. -/
import Derived.Test.YtigmekgknhoidaaKKeepAges0
import Derived.Test.YtigmekgknhoidaaKKeepAges1
import Derived.ProofKit
import Derived.OpenShut
import Derived.SizedLaws
import Derived.Deep.Slices
import Derived.Test.YtigmekgknhoidaaKKeepAges4
import Derived.Test.YtigmekgknhoidaaKKeepAges6
import Derived.Test.YtigmekgknhoidaaRows
import Derived.WalkKit
import Derived.ShutString
import Derived.ChangeOld
import Derived.Below
/- From data to typed values: whatever the claim's reader reads at a type is told by the print's kinds, with the bounds of the reach. -/
namespace Go.Proofs.Ytigmekgknhoidaa.Open
open Go.RowKit Go.Proofs.YtigmekgknhoidaaW.PrintWords Go.Proofs.YtigmekgknhoidaaW.PrintLast
set_option linter.unusedVariables false

/-- What is read at type t is told by kind k, and is good. -/
structure Rd {α : Type} (P : Program) (t : TypeId) (k : Kd α) (good : α → Prop) : Prop where
  sz : P.cellsOf t = k.sz
  rd : ∀ {H : Type} (enc : TypeId × Value → H) (w : World) (fuel : Nat) (cs : List Value) (d : DataW H) (ps : List MemPlace),
    DataW.trod enc P w 0 (fun _ => true) true fuel t cs = some (d, ps) → (∀ n ∈ d.weights P t, n ≤ reachBytes) → ∃ x, k.K w x cs ∧ good x

theorem rd_int {P : Program} {t : TypeId} {k : IntKind} (hu : P.underlying t = some (.int k)) (hc : P.cellsOf t = 1) : Rd P t (Kd.int k) (fun n => (Lit.int k n).wf = true) where
  sz := hc
  rd := by
    intro H enc w fuel cs d ps h _
    obtain ⟨n, rfl, _, hw⟩ := DataW.trod_int hu h
    exact ⟨n, rfl, hw⟩

theorem rd_bool {P : Program} {t : TypeId} (hu : P.underlying t = some .bool) (hc : P.cellsOf t = 1) : Rd P t Kd.bool (fun _ => True) where
  sz := hc
  rd := by
    intro H enc w fuel cs d ps h _
    obtain ⟨b, rfl, _⟩ := DataW.trod_bool hu h
    exact ⟨b, rfl, trivial⟩

theorem rd_string {P : Program} {t : TypeId} (hu : P.underlying t = some .string) (hc : P.cellsOf t = 1) : Rd P t Kd.string (fun s => s.size ≤ 140737488351232) where
  sz := hc
  rd := by
    intro H enc w fuel cs d ps h hw
    obtain ⟨s, rfl, hx, _⟩ := DataW.trod_string hu h
    obtain ⟨rfl, rfl⟩ := Prod.mk.inj hx
    refine ⟨s, rfl, ?_⟩
    have := hw s.data.toList.length (by simp [DataW.weights])
    simpa [reachBytes] using this

/-- A struct's fields, from one on: their cells in line. -/
structure Fs {α : Type} (P : Program) (fs : List Field) (off : Nat) (k : Kd α) (good : α → Prop) : Prop where
  rd : ∀ {H : Type} (enc : TypeId × Value → H) (w : World) (fuel : Nat) (cs : List Value) (ds : List (DataW H × List MemPlace)),
    ds.length = fs.length → (∀ (i : Nat) f, fs[i]? = some f → DataW.trod enc P w 0 (fun _ => true) true fuel f.type ((cs.drop f.offset).take (P.cellsOf f.type)) = ds[i]?) →
    (∀ n ∈ DataW.weightsEach P (fs.map (·.type)) (ds.map (·.1)), n ≤ reachBytes) → cs.length = off + k.sz → ∃ x, k.K w x (cs.drop off) ∧ good x

theorem fs_last {α : Type} {P : Program} {f : Field} {k : Kd α} {good : α → Prop} (h : Rd P f.type k good) : Fs P [f] f.offset k good where
  rd := by
    intro H enc w fuel cs ds hl hd hw hc
    match ds, hl with
    | [y], _ =>
      have h0 := hd 0 f rfl
      simp only [List.getElem?_cons_zero] at h0
      obtain ⟨x, hk, hg⟩ := h.rd enc w fuel _ y.1 y.2 h0 (fun n hn => hw n (by simp [DataW.weightsEach]; exact hn))
      rw [h.sz, List.take_of_length_le (by rw [List.length_drop]; omega)] at hk
      exact ⟨x, hk, hg⟩

theorem fs_cons {α β : Type} {P : Program} {f : Field} {fs : List Field} {off : Nat} {k : Kd α} {k' : Kd β} {good : α → Prop} {good' : β → Prop} (h : Rd P f.type k good) (hs : Fs P fs off k' good')
    (ho : f.offset + k.sz = off) : Fs P (f :: fs) f.offset (Kd.pair k k') (fun x => good x.1 ∧ good' x.2) where
  rd := by
    intro H enc w fuel cs ds hl hd hw hc
    match ds, hl with
    | y :: ys, hl =>
      have hsz : (Kd.pair k k').sz = k.sz + k'.sz := rfl
      rw [hsz] at hc
      have h0 := hd 0 f rfl
      simp only [List.getElem?_cons_zero] at h0
      obtain ⟨x, hk, hg⟩ := h.rd enc w fuel _ y.1 y.2 h0 (fun n hn => hw n (by simp only [List.map_cons, DataW.weightsEach, List.mem_append]; exact .inl hn))
      obtain ⟨x', hk', hg'⟩ := hs.rd enc w fuel cs ys (by simpa using hl) (fun i g hi => by simpa using hd (i + 1) g (by simpa using hi))
        (fun n hn => hw n (by simp only [List.map_cons, DataW.weightsEach, List.mem_append]; exact .inr hn)) (by omega)
      rw [h.sz] at hk
      refine ⟨(x, x'), ⟨_, _, ?_, hk, hk'⟩, hg, hg'⟩
      rw [← ho, ← List.drop_drop, List.take_append_drop]

theorem rd_struct {α β : Type} {P : Program} {t : TypeId} {fs : Array Field} {k : Kd β} {good : β → Prop} {fw : α → β} {back : β → α} (hu : P.underlying t = some (.struct fs)) (h : Fs P fs.toList 0 k good)
    (hc : P.cellsOf t = k.sz) (hb : ∀ y, fw (back y) = y) : Rd P t (Kd.iso k fw) (fun x => good (fw x)) where
  sz := hc
  rd := by
    intro H enc w fuel cs d ps hr hw
    obtain ⟨xs, n, _, hx, hl, hlen, hf⟩ := DataW.trod_struct hu hr
    obtain ⟨rfl, rfl⟩ := Prod.mk.inj hx
    obtain ⟨x, hk, hg⟩ := h.rd enc w n cs xs (by simpa using hlen) (fun i f hi => by simpa using hf i f (by simpa using hi))
      (fun m hm => hw m (by simp only [DataW.weights, hu]; exact hm)) (by rw [hl, hc]; omega)
    refine ⟨back x, ?_, ?_⟩
    · show k.K w (fw (back x)) cs
      rw [hb]
      simpa using hk
    · show good (fw (back x))
      rw [hb]; exact hg

theorem list_of {α : Type} {p : Nat → α → Prop} : ∀ n, (∀ i, i < n → ∃ x, p i x) → ∃ xs : List α, xs.length = n ∧ ∀ i x, xs[i]? = some x → p i x
  | 0, _ => ⟨[], rfl, fun i x h => by simp at h⟩
  | n + 1, h => by
    obtain ⟨xs, hl, hx⟩ := list_of n (fun i hi => h i (by omega))
    obtain ⟨y, hy⟩ := h n (by omega)
    refine ⟨xs ++ [y], by simp [hl], fun i x hi => ?_⟩
    by_cases hin : i < xs.length
    · rw [List.getElem?_append_left hin] at hi
      exact hx i x hi
    · rw [List.getElem?_append_right (by omega)] at hi
      have : i = xs.length := by
        by_cases e : i - xs.length = 0
        · omega
        · rw [List.getElem?_eq_none (by simp; omega)] at hi
          exact absurd hi (by simp)
      subst this
      simp at hi
      rw [hl, ← hi]
      exact hy

theorem weights_all {H : Type} {P : Program} {e : TypeId} : ∀ {l : List (DataW H)} {d : DataW H}, d ∈ l → ∀ n ∈ d.weights P e, n ∈ DataW.weightsAll P e l
  | [], _, h, _, _ => by simp at h
  | x :: l, d, h, n, hn => by
    simp only [DataW.weightsAll, List.mem_append]
    rcases List.mem_cons.1 h with rfl | h
    · exact .inl hn
    · exact .inr (weights_all h n hn)

theorem rd_slice {α : Type} {P : Program} {t e : TypeId} {k : Kd α} {good : α → Prop} (B : Nat) (hu : P.underlying t = some (.slice e)) (hc : P.cellsOf t = 1) (hB : P.bytesOf e = B) (h : Rd P e k good) :
    Rd P t (Kd.slice e k) (fun xs => (∀ x ∈ xs, good x) ∧ xs.length * B ≤ 140737488351232) where
  sz := hc
  rd := by
    intro H enc w fuel cs d ps hr hw
    rcases DataW.trod_slice hu hr with ⟨rfl, hx⟩ | ⟨a, len, cap, elems, rest, n, _, rfl, hx, _, hl, hm, hlen, hel, _, _⟩
    · exact ⟨[], ⟨none, 0, rfl, Nat.le_refl 0, Kd.C_nil k w⟩, by simp, by simp⟩
    · obtain ⟨rfl, rfl⟩ := Prod.mk.inj hx
      have hw1 : ∀ x ∈ elems, ∀ n ∈ x.1.weights P e, n ≤ reachBytes := fun x hx n hn =>
        hw n (by simp only [DataW.weights, hu, List.mem_cons, List.mem_append]; exact .inr (.inl (weights_all (List.mem_map_of_mem hx) n hn)))
      have hw2 : (elems.length + rest.length) * P.bytesOf e ≤ reachBytes := hw _ (by simp only [DataW.weights, hu, List.mem_cons, List.length_map]; simp)
      have key : ∀ i, i < len → ∃ x, good x ∧ ∃ c, c.length = k.sz ∧ k.K w x c ∧ ∀ j u, c[j]? = some u → w.cell? (a.add (i * k.sz + j)) = some u := by
        intro i hi
        have h1 := hel i hi
        rw [List.getElem?_eq_getElem (by omega)] at h1
        obtain ⟨c, hcs, htr⟩ := Option.bind_eq_some_iff.1 h1
        obtain ⟨x, hk, hg⟩ := h.rd enc w n c _ _ htr (hw1 _ (List.getElem_mem _))
        obtain ⟨_, hcl, hcell⟩ := World.cells?_some hcs
        rw [h.sz] at hcl hcell
        refine ⟨x, hg, c, hcl, hk, fun j u hu => ?_⟩
        have hj : j < k.sz := by
          rw [← hcl]
          exact (List.getElem?_eq_some_iff.1 hu).1
        rw [← Go.Deep.add_add, hcell j hj, hu]
      obtain ⟨xs, hxl, hxs⟩ := list_of (α := α) len key
      subst hxl
      refine ⟨xs, ⟨some a, cap, rfl, hl, rfl, by unfold maxLen at hm; omega, fun _ => ⟨a, rfl, fun j p hp => ?_⟩⟩, fun x hx => ?_, ?_⟩
      · obtain ⟨_, c, h1, h2, h3⟩ := hxs j p hp
        exact ⟨c, h1, h2, h3⟩
      · obtain ⟨i, hi, rfl⟩ := List.mem_iff_getElem.1 hx
        exact (hxs i _ (List.getElem?_eq_getElem hi)).1
      · have : xs.length * P.bytesOf e ≤ (elems.length + rest.length) * P.bytesOf e := Nat.mul_le_mul_right _ (by omega)
        unfold reachBytes at hw2
        rw [hB] at hw2 this
        omega
end Go.Proofs.Ytigmekgknhoidaa.Open

/- Readers of the types that this seat's laws take. -/
namespace Go.Proofs.Ytigmekgknhoidaa.P
open Go.RowKit Go.Proofs.YtigmekgknhoidaaW.PrintWords Go.Proofs.YtigmekgknhoidaaW.PrintLast Go.Proofs.Ytigmekgknhoidaa.Open
set_option linter.unusedVariables false
def good25 (x : S25) : Prop := (Lit.int .i64 x.f0).wf = true ∧ (Lit.int .i64 x.f1).wf = true ∧ x.f2.size ≤ 140737488351232 ∧ x.f3.size ≤ 140737488351232 ∧ (Lit.int .i64 x.f4).wf = true ∧ True
theorem rd25 : Rd Try.prog 25 k25 good25 := rd_struct (back := fun y => ⟨y.1, y.2.1, y.2.2.1, y.2.2.2.1, y.2.2.2.2.1, y.2.2.2.2.2⟩) Try.underlying25 (fs_cons (rd_int Try.underlying3 (by kernel_rfl)) (fs_cons (rd_int Try.underlying3 (by kernel_rfl)) (fs_cons (rd_string Try.underlying9 (by kernel_rfl)) (fs_cons (rd_string Try.underlying9 (by kernel_rfl)) (fs_cons (rd_int Try.underlying3 (by kernel_rfl)) (fs_last (rd_bool Try.underlying4 (by kernel_rfl))) rfl) rfl) rfl) rfl) rfl) (by kernel_rfl) (fun _ => rfl)
def good29 (x : S29) : Prop := (Lit.int .i64 x.f0).wf = true ∧ ((∀ z ∈ x.f1, good25 z) ∧ x.f1.length * 64 ≤ 140737488351232)
theorem rd29 : Rd Try.prog 29 k29 good29 := rd_struct (back := fun y => ⟨y.1, y.2⟩) Try.underlying29 (fs_cons (rd_int Try.underlying3 (by kernel_rfl)) (fs_last (rd_slice 64 Try.underlying27 (by kernel_rfl) (by kernel_rfl) rd25)) rfl) (by kernel_rfl) (fun _ => rfl)
def good35 (x : S35) : Prop := (Lit.int .i64 x.f0).wf = true ∧ (Lit.int .i64 x.f1).wf = true ∧ (Lit.int .i64 x.f2).wf = true ∧ True ∧ (Lit.int .i64 x.f4).wf = true
theorem rd35 : Rd Try.prog 35 k35 good35 := rd_struct (back := fun y => ⟨y.1, y.2.1, y.2.2.1, y.2.2.2.1, y.2.2.2.2⟩) Try.underlying35 (fs_cons (rd_int Try.underlying3 (by kernel_rfl)) (fs_cons (rd_int Try.underlying3 (by kernel_rfl)) (fs_cons (rd_int Try.underlying3 (by kernel_rfl)) (fs_cons (rd_bool Try.underlying4 (by kernel_rfl)) (fs_last (rd_int Try.underlying3 (by kernel_rfl))) rfl) rfl) rfl) rfl) (by kernel_rfl) (fun _ => rfl)
def good41 (x : S41) : Prop := ((∀ z ∈ x.f0, good29 z) ∧ x.f0.length * 32 ≤ 140737488351232) ∧ good35 x.f1 ∧ (Lit.int .i64 x.f2).wf = true
theorem rd41 : Rd Try.prog 41 k41 good41 := rd_struct (back := fun y => ⟨y.1, y.2.1, y.2.2⟩) Try.underlying41 (fs_cons (rd_slice 32 Try.underlying23 (by kernel_rfl) (by kernel_rfl) rd29) (fs_cons rd35 (fs_last (rd_int Try.underlying3 (by kernel_rfl))) rfl) rfl) (by kernel_rfl) (fun _ => rfl)
structure S56 where
  f0 : List (Int)
  f1 : List (Int)
def k56 : Kd S56 := Kd.iso (Kd.pair (Kd.slice 3 (Kd.int .i64)) (Kd.slice 3 (Kd.int .i64))) (fun x : S56 => (x.f0, x.f1))
def good56 (x : S56) : Prop := ((∀ z ∈ x.f0, (Lit.int .i64 z).wf = true) ∧ x.f0.length * 8 ≤ 140737488351232) ∧ ((∀ z ∈ x.f1, (Lit.int .i64 z).wf = true) ∧ x.f1.length * 8 ≤ 140737488351232)
theorem rd56 : Rd Try.prog 56 k56 good56 := rd_struct (back := fun y => ⟨y.1, y.2⟩) Try.underlying56 (fs_cons (rd_slice 8 Try.underlying54 (by kernel_rfl) (by kernel_rfl) (rd_int Try.underlying3 (by kernel_rfl))) (fs_last (rd_slice 8 Try.underlying54 (by kernel_rfl) (by kernel_rfl) (rd_int Try.underlying3 (by kernel_rfl)))) rfl) (by kernel_rfl) (fun _ => rfl)
end Go.Proofs.Ytigmekgknhoidaa.P

/- The pure law KeepAges: by age alone just those closed segments go whose last record is too old, and what stands ahead of a younger one; an empty one is as old as any. -/
namespace Go.Proofs.Ytigmekgknhoidaa.Pure
open Go Go.RowKit Go.Proofs.Ytigmekgknhoidaa.P Go.Proofs.YtigmekgknhoidaaW.PrintWords Go.Proofs.YtigmekgknhoidaaW.PrintLast
set_option linter.unusedVariables false
set_option linter.unusedSimpArgs false
theorem ka_l0 (x0 : List S41) : ∀ (k : Nat), (∀ x3, fairwaylaw13_KeepAges.l0 k x0 x3 = fairwaylaw13_KeepAges.l0 k [] x3) ∧ (∀ a b c d e, fairwaylaw13_KeepAges.j1 k x0 a b c d e = fairwaylaw13_KeepAges.j1 k [] a b c d e) ∧ (∀ a b c d e, fairwaylaw13_KeepAges.j2 k x0 a b c d e = fairwaylaw13_KeepAges.j2 k [] a b c d e)
  | 0 => ⟨fun _ => rfl, fun _ _ _ _ _ => rfl, fun _ _ _ _ _ => rfl⟩
  | k + 1 => by
    have h1 : (x0.length : Int) ≥ 0 := Int.natCast_nonneg _
    have h2 : (([] : List S41).length : Int) ≥ 0 := Int.natCast_nonneg _
    obtain ⟨i1, i2, i3⟩ := ka_l0 x0 k
    refine ⟨fun x3 => ?_, fun a b c d e => ?_, fun a b c d e => ?_⟩
    · rw [fairwaylaw13_KeepAges.l0, fairwaylaw13_KeepAges.l0, if_pos h1, if_pos h2]
      simp only [i2]
    · rw [fairwaylaw13_KeepAges.j1, fairwaylaw13_KeepAges.j1, i3, i3]
    · rw [fairwaylaw13_KeepAges.j2, fairwaylaw13_KeepAges.j2]
      simp only [i1]
theorem ka_run : fairwaylaw13_KeepAges.f 400 [] = some true := by decide +kernel
theorem KeepAges (l0 : List (S41)) (hl : l0.length * 72 ≤ 140737488351232) (hg : ∀ x ∈ l0, good41 x) : ∃ k, fairwaylaw13_KeepAges.f k l0 = some true :=
  ⟨400, by rw [fairwaylaw13_KeepAges.f, (ka_l0 l0 400).1]; exact ka_run⟩
end Go.Proofs.Ytigmekgknhoidaa.Pure

/- KeepAges: for every input of the row the law returns true, and the input reads afterwards as before. Conditions: none beside the row's own. -/
namespace Go.Proofs.Ytigmekgknhoidaa.keepAges
open Go.ChangeShapes Go.WideShapes Go.ChangeAt Go.RowKit Go.Proofs.YtigmekgknhoidaaW.PrintWords Go.Proofs.Ytigmekgknhoidaa.Open Go.Proofs.Ytigmekgknhoidaa.P
set_option linter.unusedVariables false
theorem own : ownKnob Try.prog.godebug = none := by kernel_rfl
theorem laidOut : laidOutB Try.prog = true := by kernel_rfl
theorem purely (l0 : List (S41)) (hl : l0.length * 72 ≤ 140737488351232) (hg : ∀ x ∈ l0, good41 x) : ∃ k, fairwaylaw13_KeepAges.f k l0 = some true := Pure.KeepAges l0 hl hg
set_option maxRecDepth 100000 in
theorem lifted (os : Os) (started : os.Started) (H : Type) (enc : TypeId × Value → H) :
    ReturnsInHanded {} Try.checked os 4 .any (Rows.keepAgesSpec.pre6 enc Try.prog Try.f4 Rows.keepAgesRow.domain false) (Rows.keepAgesSpec.post enc Try.prog Try.f4 false true false false) := by
  refine returnsInHanded_of_change_sized (C := Try.checked) own started (by kernel_rfl) Try.func4
    (ChangeSpec.witness6 (enc := enc) (C := Try.checked) false ⟨#[], #[.slice none 0 0], []⟩ 8 (by kernel_rfl) (by kernel_rfl) (by kernel_rfl) (by kernel_rfl)) ?_
  intro W base args ds gs before hval0 hW hcnd hsz0 _
  have hsz : (DataW.weightsEach Try.prog (Try.f4.params.toList ++ Rows.keepAgesSpec.plain.varTypes Try.prog) (ds ++ gs)).all (· ≤ reachBytes) = true := hsz0
  have hval : ∀ (j : Nat) t v, Try.f4.params[j]? = some t → args[j]? = some v → Value.okWide Try.prog W .any base t v := hval0
  have hW' := hW
  obtain ⟨p_, q_, hA0, hV, rfl, hfz, hnd⟩ := hW
  have hA : DataW.TrodAll enc Try.prog W 0 (fun _ => true) true Try.f4.params.toList args.toList ds p_ := hA0
  rw [Try.params4] at hA hval hsz
  obtain ⟨v0, vs0, d0, ds0, p0, q0, hargs, rfl, rfl, h0, r0⟩ := trodAll_cons hA
  obtain ⟨rfl, rfl, rfl⟩ := trodAll_nil r0
  obtain rfl : args = #[v0] := by cases args; simp_all
  obtain ⟨rfl, rfl⟩ := trodVars_none hV
  obtain ⟨a0, len0, cap0, rfl⟩ := okWide_slice Try.underlying22 (hval 0 22 v0 rfl rfl)
  have k0 := h0
  have lt0 : ∀ x ∈ p0, x.block < W.heap.size := by obtain ⟨m, hm⟩ := k0; exact DataW.trod_lt m _ _ _ hm
  obtain ⟨l0, rfl, hr0, hc0, hg0, hl0⟩ : ∃ l : List (S41), len0 = l.length ∧ Kd.C k41 W a0 l.length l ∧ l.length ≤ cap0 ∧ (∀ x ∈ l, good41 x) ∧ l.length * 72 ≤ 140737488351232 := by
    obtain ⟨fuel, hf⟩ := h0
    obtain ⟨x, ⟨A, c, hcs, hl, hC⟩, hg, hb⟩ := (rd_slice 72 Try.underlying22 (by kernel_rfl) (by kernel_rfl) rd41).rd enc W fuel _ _ _ hf (fun m hm => of_decide_eq_true (List.all_eq_true.1 hsz m (DataW.weights_mem_each (j := 0) rfl rfl m hm)))
    simp [Value.cells] at hcs
    obtain ⟨rfl, rfl, rfl⟩ := hcs
    exact ⟨x, rfl, hC, hl, hg, hb⟩
  clear hA0 hval0 hsz0 hsz
  obtain ⟨k, h⟩ := purely l0 hl0 hg0
  refine (fairwaylaw13_KeepAges.calls k _ _ l0 true W hr0 hc0 h).mono fun e W' ⟨he, bel0⟩ => ?_
  have bel : Below W.heap.size W W' := bel0
  subst he
  exact ⟨_, rfl, _, _, _, [], _, [], hW', trodAll_mk1 (shut_bool Try.underlying4 _), (trodAll_cons_mk (Below.trod laidOut (by kernel_rfl) (of_decide_eq_true (by kernel_rfl)) k0 bel lt0) trodAll_mk0), rfl, bel.frame _, fun h => by cases h⟩
theorem over : Rows.keepAgesRow.holds Try.pinned (OpenSpec.ofChange Rows.keepAgesSpec) :=
  OpenClaim.holds_of_wide 4 Try.f4 rfl rfl rfl rfl rfl rfl rfl ⟨rfl, rfl, rfl, rfl, rfl⟩ rfl rfl rfl rfl rfl (by kernel_rfl) Try.func4 (by kernel_rfl)
    (of_decide_eq_true (by kernel_rfl)) (by unfold Func.isWrapper; first | (rw [if_pos (by decide +kernel)]; kernel_rfl) | (rw [if_neg (by decide +kernel)]; exact ⟨rfl, rfl⟩))
    (fun os started H enc _ => lifted os started H enc)
theorem proved : Rows.KeepAgesSaid := over
#print axioms proved
end Go.Proofs.Ytigmekgknhoidaa.keepAges
namespace Go.Proofs.Ytigmekgknhoidaa
theorem keepAges_holds : Rows.KeepAgesSaid := keepAges.proved
end Go.Proofs.Ytigmekgknhoidaa

