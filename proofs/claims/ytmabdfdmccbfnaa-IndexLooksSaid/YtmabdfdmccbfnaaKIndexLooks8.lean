/- IndexLooks: for every input of the row the law returns true, and the input reads afterwards as before. Conditions: none beside the row's own. -/
import Derived.Test.YtmabdfdmccbfnaaKIndexLooks0
import Derived.Test.YtmabdfdmccbfnaaKIndexLooks1
import Derived.ProofKit
import Derived.OpenShut
import Derived.SizedLaws
import Derived.Deep.Slices
import Derived.Test.YtmabdfdmccbfnaaKIndexLooks4
import Derived.Test.YtmabdfdmccbfnaaKIndexLooks5
import Derived.Test.YtmabdfdmccbfnaaKIndexLooks7
import Derived.Test.YtmabdfdmccbfnaaRows
import Derived.WalkKit
import Derived.ShutString
import Derived.ChangeOld
import Derived.Below
/- From data to typed values: whatever the claim's reader reads at a type is told by the print's kinds, with the bounds of the reach. -/
namespace Go.Proofs.Ytmabdfdmccbfnaa.Open
open Go.RowKit Go.Proofs.YtmabdfdmccbfnaaW.PrintWords Go.Proofs.YtmabdfdmccbfnaaW.PrintLast
set_option linter.unusedVariables false

/-- What is read at type t is told by kind k, and is good. -/
structure Rd {α : Type} (P : Program) (t : TypeId) (k : Kd α) (good : α → Prop) : Prop where
  sz : P.cellsOf t = k.sz
  rd : ∀ {H : Type} (enc : TypeId × Value → H) (w : World) (fuel : Nat) (cs : List Value) (d : DataW H) (ps : List MemPlace),
    DataW.trod enc P w 0 (fun _ => true) true fuel t cs = some (d, ps) → (∀ n ∈ d.weights P t, n ≤ reachBytes) → ∃ x, k.K w x cs ∧ good x

theorem rd_int {P : Program} {t : TypeId} {k : IntKind} (hu : P.underlying t = some (.int k)) (hc : P.cellsOf t = 1) : Rd P t (Kd.int k) (fun n => (Lit.int k n).wf = true) where
  sz := hc
  rd := by
    intro H enc w fuel cs d ps h _
    obtain ⟨n, rfl, _, hw⟩ := DataW.trod_int hu h
    exact ⟨n, rfl, hw⟩

theorem rd_bool {P : Program} {t : TypeId} (hu : P.underlying t = some .bool) (hc : P.cellsOf t = 1) : Rd P t Kd.bool (fun _ => True) where
  sz := hc
  rd := by
    intro H enc w fuel cs d ps h _
    obtain ⟨b, rfl, _⟩ := DataW.trod_bool hu h
    exact ⟨b, rfl, trivial⟩

theorem rd_string {P : Program} {t : TypeId} (hu : P.underlying t = some .string) (hc : P.cellsOf t = 1) : Rd P t Kd.string (fun s => s.size ≤ 140737488351232) where
  sz := hc
  rd := by
    intro H enc w fuel cs d ps h hw
    obtain ⟨s, rfl, hx, _⟩ := DataW.trod_string hu h
    obtain ⟨rfl, rfl⟩ := Prod.mk.inj hx
    refine ⟨s, rfl, ?_⟩
    have := hw s.data.toList.length (by simp [DataW.weights])
    simpa [reachBytes] using this

/-- A struct's fields, from one on: their cells in line. -/
structure Fs {α : Type} (P : Program) (fs : List Field) (off : Nat) (k : Kd α) (good : α → Prop) : Prop where
  rd : ∀ {H : Type} (enc : TypeId × Value → H) (w : World) (fuel : Nat) (cs : List Value) (ds : List (DataW H × List MemPlace)),
    ds.length = fs.length → (∀ (i : Nat) f, fs[i]? = some f → DataW.trod enc P w 0 (fun _ => true) true fuel f.type ((cs.drop f.offset).take (P.cellsOf f.type)) = ds[i]?) →
    (∀ n ∈ DataW.weightsEach P (fs.map (·.type)) (ds.map (·.1)), n ≤ reachBytes) → cs.length = off + k.sz → ∃ x, k.K w x (cs.drop off) ∧ good x

theorem fs_last {α : Type} {P : Program} {f : Field} {k : Kd α} {good : α → Prop} (h : Rd P f.type k good) : Fs P [f] f.offset k good where
  rd := by
    intro H enc w fuel cs ds hl hd hw hc
    match ds, hl with
    | [y], _ =>
      have h0 := hd 0 f rfl
      simp only [List.getElem?_cons_zero] at h0
      obtain ⟨x, hk, hg⟩ := h.rd enc w fuel _ y.1 y.2 h0 (fun n hn => hw n (by simp [DataW.weightsEach]; exact hn))
      rw [h.sz, List.take_of_length_le (by rw [List.length_drop]; omega)] at hk
      exact ⟨x, hk, hg⟩

theorem fs_cons {α β : Type} {P : Program} {f : Field} {fs : List Field} {off : Nat} {k : Kd α} {k' : Kd β} {good : α → Prop} {good' : β → Prop} (h : Rd P f.type k good) (hs : Fs P fs off k' good')
    (ho : f.offset + k.sz = off) : Fs P (f :: fs) f.offset (Kd.pair k k') (fun x => good x.1 ∧ good' x.2) where
  rd := by
    intro H enc w fuel cs ds hl hd hw hc
    match ds, hl with
    | y :: ys, hl =>
      have hsz : (Kd.pair k k').sz = k.sz + k'.sz := rfl
      rw [hsz] at hc
      have h0 := hd 0 f rfl
      simp only [List.getElem?_cons_zero] at h0
      obtain ⟨x, hk, hg⟩ := h.rd enc w fuel _ y.1 y.2 h0 (fun n hn => hw n (by simp only [List.map_cons, DataW.weightsEach, List.mem_append]; exact .inl hn))
      obtain ⟨x', hk', hg'⟩ := hs.rd enc w fuel cs ys (by simpa using hl) (fun i g hi => by simpa using hd (i + 1) g (by simpa using hi))
        (fun n hn => hw n (by simp only [List.map_cons, DataW.weightsEach, List.mem_append]; exact .inr hn)) (by omega)
      rw [h.sz] at hk
      refine ⟨(x, x'), ⟨_, _, ?_, hk, hk'⟩, hg, hg'⟩
      rw [← ho, ← List.drop_drop, List.take_append_drop]

theorem rd_struct {α β : Type} {P : Program} {t : TypeId} {fs : Array Field} {k : Kd β} {good : β → Prop} {fw : α → β} {back : β → α} (hu : P.underlying t = some (.struct fs)) (h : Fs P fs.toList 0 k good)
    (hc : P.cellsOf t = k.sz) (hb : ∀ y, fw (back y) = y) : Rd P t (Kd.iso k fw) (fun x => good (fw x)) where
  sz := hc
  rd := by
    intro H enc w fuel cs d ps hr hw
    obtain ⟨xs, n, _, hx, hl, hlen, hf⟩ := DataW.trod_struct hu hr
    obtain ⟨rfl, rfl⟩ := Prod.mk.inj hx
    obtain ⟨x, hk, hg⟩ := h.rd enc w n cs xs (by simpa using hlen) (fun i f hi => by simpa using hf i f (by simpa using hi))
      (fun m hm => hw m (by simp only [DataW.weights, hu]; exact hm)) (by rw [hl, hc]; omega)
    refine ⟨back x, ?_, ?_⟩
    · show k.K w (fw (back x)) cs
      rw [hb]
      simpa using hk
    · show good (fw (back x))
      rw [hb]; exact hg

theorem list_of {α : Type} {p : Nat → α → Prop} : ∀ n, (∀ i, i < n → ∃ x, p i x) → ∃ xs : List α, xs.length = n ∧ ∀ i x, xs[i]? = some x → p i x
  | 0, _ => ⟨[], rfl, fun i x h => by simp at h⟩
  | n + 1, h => by
    obtain ⟨xs, hl, hx⟩ := list_of n (fun i hi => h i (by omega))
    obtain ⟨y, hy⟩ := h n (by omega)
    refine ⟨xs ++ [y], by simp [hl], fun i x hi => ?_⟩
    by_cases hin : i < xs.length
    · rw [List.getElem?_append_left hin] at hi
      exact hx i x hi
    · rw [List.getElem?_append_right (by omega)] at hi
      have : i = xs.length := by
        by_cases e : i - xs.length = 0
        · omega
        · rw [List.getElem?_eq_none (by simp; omega)] at hi
          exact absurd hi (by simp)
      subst this
      simp at hi
      rw [hl, ← hi]
      exact hy

theorem weights_all {H : Type} {P : Program} {e : TypeId} : ∀ {l : List (DataW H)} {d : DataW H}, d ∈ l → ∀ n ∈ d.weights P e, n ∈ DataW.weightsAll P e l
  | [], _, h, _, _ => by simp at h
  | x :: l, d, h, n, hn => by
    simp only [DataW.weightsAll, List.mem_append]
    rcases List.mem_cons.1 h with rfl | h
    · exact .inl hn
    · exact .inr (weights_all h n hn)

theorem rd_slice {α : Type} {P : Program} {t e : TypeId} {k : Kd α} {good : α → Prop} (B : Nat) (hu : P.underlying t = some (.slice e)) (hc : P.cellsOf t = 1) (hB : P.bytesOf e = B) (h : Rd P e k good) :
    Rd P t (Kd.slice e k) (fun xs => (∀ x ∈ xs, good x) ∧ xs.length * B ≤ 140737488351232) where
  sz := hc
  rd := by
    intro H enc w fuel cs d ps hr hw
    rcases DataW.trod_slice hu hr with ⟨rfl, hx⟩ | ⟨a, len, cap, elems, rest, n, _, rfl, hx, _, hl, hm, hlen, hel, _, _⟩
    · exact ⟨[], ⟨none, 0, rfl, Nat.le_refl 0, Kd.C_nil k w⟩, by simp, by simp⟩
    · obtain ⟨rfl, rfl⟩ := Prod.mk.inj hx
      have hw1 : ∀ x ∈ elems, ∀ n ∈ x.1.weights P e, n ≤ reachBytes := fun x hx n hn =>
        hw n (by simp only [DataW.weights, hu, List.mem_cons, List.mem_append]; exact .inr (.inl (weights_all (List.mem_map_of_mem hx) n hn)))
      have hw2 : (elems.length + rest.length) * P.bytesOf e ≤ reachBytes := hw _ (by simp only [DataW.weights, hu, List.mem_cons, List.length_map]; simp)
      have key : ∀ i, i < len → ∃ x, good x ∧ ∃ c, c.length = k.sz ∧ k.K w x c ∧ ∀ j u, c[j]? = some u → w.cell? (a.add (i * k.sz + j)) = some u := by
        intro i hi
        have h1 := hel i hi
        rw [List.getElem?_eq_getElem (by omega)] at h1
        obtain ⟨c, hcs, htr⟩ := Option.bind_eq_some_iff.1 h1
        obtain ⟨x, hk, hg⟩ := h.rd enc w n c _ _ htr (hw1 _ (List.getElem_mem _))
        obtain ⟨_, hcl, hcell⟩ := World.cells?_some hcs
        rw [h.sz] at hcl hcell
        refine ⟨x, hg, c, hcl, hk, fun j u hu => ?_⟩
        have hj : j < k.sz := by
          rw [← hcl]
          exact (List.getElem?_eq_some_iff.1 hu).1
        rw [← Go.Deep.add_add, hcell j hj, hu]
      obtain ⟨xs, hxl, hxs⟩ := list_of (α := α) len key
      subst hxl
      refine ⟨xs, ⟨some a, cap, rfl, hl, rfl, by unfold maxLen at hm; omega, fun _ => ⟨a, rfl, fun j p hp => ?_⟩⟩, fun x hx => ?_, ?_⟩
      · obtain ⟨_, c, h1, h2, h3⟩ := hxs j p hp
        exact ⟨c, h1, h2, h3⟩
      · obtain ⟨i, hi, rfl⟩ := List.mem_iff_getElem.1 hx
        exact (hxs i _ (List.getElem?_eq_getElem hi)).1
      · have : xs.length * P.bytesOf e ≤ (elems.length + rest.length) * P.bytesOf e := Nat.mul_le_mul_right _ (by omega)
        unfold reachBytes at hw2
        rw [hB] at hw2 this
        omega
end Go.Proofs.Ytmabdfdmccbfnaa.Open

/- Readers of the types that this seat's laws take. -/
namespace Go.Proofs.Ytmabdfdmccbfnaa.P
open Go.RowKit Go.Proofs.YtmabdfdmccbfnaaW.PrintWords Go.Proofs.YtmabdfdmccbfnaaW.PrintLast Go.Proofs.Ytmabdfdmccbfnaa.Open
set_option linter.unusedVariables false
def good25 (x : S25) : Prop := (Lit.int .i64 x.f0).wf = true ∧ (Lit.int .i64 x.f1).wf = true ∧ x.f2.size ≤ 140737488351232 ∧ x.f3.size ≤ 140737488351232 ∧ (Lit.int .i64 x.f4).wf = true ∧ True
theorem rd25 : Rd Try.prog 25 k25 good25 := rd_struct (back := fun y => ⟨y.1, y.2.1, y.2.2.1, y.2.2.2.1, y.2.2.2.2.1, y.2.2.2.2.2⟩) Try.underlying25 (fs_cons (rd_int Try.underlying3 (by kernel_rfl)) (fs_cons (rd_int Try.underlying3 (by kernel_rfl)) (fs_cons (rd_string Try.underlying9 (by kernel_rfl)) (fs_cons (rd_string Try.underlying9 (by kernel_rfl)) (fs_cons (rd_int Try.underlying3 (by kernel_rfl)) (fs_last (rd_bool Try.underlying4 (by kernel_rfl))) rfl) rfl) rfl) rfl) rfl) (by kernel_rfl) (fun _ => rfl)
def good38 (x : S38) : Prop := ((∀ z ∈ x.f0, good25 z) ∧ x.f0.length * 64 ≤ 140737488351232) ∧ x.f1.size ≤ 140737488351232
theorem rd38 : Rd Try.prog 38 k38 good38 := rd_struct (back := fun y => ⟨y.1, y.2⟩) Try.underlying38 (fs_cons (rd_slice 64 Try.underlying36 (by kernel_rfl) (by kernel_rfl) rd25) (fs_last (rd_string Try.underlying9 (by kernel_rfl))) rfl) (by kernel_rfl) (fun _ => rfl)
def good53 (x : S53) : Prop := (Lit.int .i64 x.f0).wf = true ∧ ((∀ z ∈ x.f1, good25 z) ∧ x.f1.length * 64 ≤ 140737488351232)
theorem rd53 : Rd Try.prog 53 k53 good53 := rd_struct (back := fun y => ⟨y.1, y.2⟩) Try.underlying53 (fs_cons (rd_int Try.underlying3 (by kernel_rfl)) (fs_last (rd_slice 64 Try.underlying36 (by kernel_rfl) (by kernel_rfl) rd25)) rfl) (by kernel_rfl) (fun _ => rfl)
structure S55 where
  f0 : S53
  f1 : List (S25)
  f2 : List (Int)
  f3 : ByteArray
def k55 : Kd S55 := Kd.iso (Kd.pair k53 (Kd.pair (Kd.slice 25 k25) (Kd.pair (Kd.slice 3 (Kd.int .i64)) Kd.string))) (fun x : S55 => (x.f0, x.f1, x.f2, x.f3))
def good55 (x : S55) : Prop := good53 x.f0 ∧ ((∀ z ∈ x.f1, good25 z) ∧ x.f1.length * 64 ≤ 140737488351232) ∧ ((∀ z ∈ x.f2, (Lit.int .i64 z).wf = true) ∧ x.f2.length * 8 ≤ 140737488351232) ∧ x.f3.size ≤ 140737488351232
theorem rd55 : Rd Try.prog 55 k55 good55 := rd_struct (back := fun y => ⟨y.1, y.2.1, y.2.2.1, y.2.2.2⟩) Try.underlying55 (fs_cons rd53 (fs_cons (rd_slice 64 Try.underlying36 (by kernel_rfl) (by kernel_rfl) rd25) (fs_cons (rd_slice 8 Try.underlying50 (by kernel_rfl) (by kernel_rfl) (rd_int Try.underlying3 (by kernel_rfl))) (fs_last (rd_string Try.underlying9 (by kernel_rfl))) rfl) rfl) rfl) (by kernel_rfl) (fun _ => rfl)
end Go.Proofs.Ytmabdfdmccbfnaa.P

/- Records: which may be, how many bytes they have. -/
namespace Go.Proofs.Ytmabdfdmccbfnaa.URec
open Go Go.RowKit Go.Proofs.Ytmabdfdmccbfnaa.P Go.Proofs.YtmabdfdmccbfnaaW.PrintWords Go.Proofs.YtmabdfdmccbfnaaW.PrintLast
set_option linter.unusedVariables false
set_option linter.unusedSimpArgs false

abbrev R := S25
/-- A record that may be. -/
def recOk (r : R) : Prop := 0 ≤ r.f0 ∧ r.f0 < 1099511627776 ∧ 0 ≤ r.f1 ∧ r.f1 ≤ 1099511627776 ∧ r.f2.size ≤ 1024 ∧ r.f3.size ≤ 1024 ∧ 0 ≤ r.f4 ∧ r.f4 ≤ 2 ∧ (r.f5 = true → r.f3.toList = [])

theorem check_yes (r : R) (h : recOk r) : Ev (fun k => rec_Check.f k r.f0 r.f1 r.f2 r.f3 r.f4 r.f5) 0 := by
  obtain ⟨h0, h1, h2, h3, h4, h5, h6, h7, h8⟩ := h
  refine Ev.step (f := fun _ => some 0) (fun k => ?_) (Ev.now _)
  simp only [rec_Check.f, rec_Check.j0]
  rw [if_neg (by omega), if_neg (by omega), if_neg (by omega), if_neg (by omega), if_neg (by omega), if_neg (by simp; omega), if_neg (by omega), if_neg (by omega)]
  split
  · rename_i hg
    rw [if_pos (h8 hg)]
  · rfl
theorem check_no (r : R) (h : ¬ recOk r) : Ev (fun k => rec_Check.f k r.f0 r.f1 r.f2 r.f3 r.f4 r.f5) 1 := by
  refine Ev.step (f := fun _ => some 1) (fun k => ?_) (Ev.now _)
  simp only [rec_Check.f, rec_Check.j0]
  by_cases h0 : r.f0 < 0
  · rw [if_pos h0]; rfl
  rw [if_neg h0]
  by_cases h1 : r.f0 ≥ 1099511627776
  · rw [if_pos h1]; rfl
  rw [if_neg h1]
  by_cases h2 : r.f1 < 0
  · rw [if_pos h2]; rfl
  rw [if_neg h2]
  by_cases h3 : r.f1 > 1099511627776
  · rw [if_pos h3]; rfl
  rw [if_neg h3]
  by_cases h4 : r.f4 < 0
  · rw [if_pos h4]; rfl
  rw [if_neg h4]
  by_cases h5 : r.f4 > 2
  · rw [if_pos (by simpa using h5)]
  rw [if_neg (by simpa using h5)]
  by_cases h6 : (r.f2.size : Int) > 1024
  · rw [if_pos h6]
  rw [if_neg h6]
  by_cases h7 : (r.f3.size : Int) > 1024
  · rw [if_pos h7]
  rw [if_neg h7]
  by_cases h8 : r.f5 = true
  · rw [if_pos h8]
    by_cases h9 : r.f3.toList = []
    · exact absurd ⟨by omega, by omega, by omega, by omega, by omega, by omega, by omega, by omega, fun _ => h9⟩ h
    · rw [if_neg h9]
  · exact absurd ⟨by omega, by omega, by omega, by omega, by omega, by omega, by omega, by omega, fun g => absurd g h8⟩ h

theorem num_f (a b : Int) : fairwayref0_Num.f a b = some (decide (0 ≤ a ∧ a ≤ b)) := by
  unfold fairwayref0_Num.f
  by_cases h : a ≥ 0
  · rw [if_pos h]; congr 1; simp; omega
  · rw [if_neg h]; congr 1; symm; simp; omega

theorem rec_yes (r : R) (h : recOk r) : fairwayref10_Rec.f r.f0 r.f1 r.f2 r.f3 r.f4 r.f5 = some true := by
  obtain ⟨h0, h1, h2, h3, h4, h5, h6, h7, h8⟩ := h
  unfold fairwayref10_Rec.f
  simp only [num_f, Option.bind_some]
  rw [if_pos (by simp; omega), if_pos (by simp; omega), if_pos (by omega), if_pos (by omega), if_pos (by simp; omega)]
  split
  · rename_i hg
    rw [h8 hg]; rfl
  · rfl
theorem rec_no (r : R) (h : ¬ recOk r) : fairwayref10_Rec.f r.f0 r.f1 r.f2 r.f3 r.f4 r.f5 = some false := by
  unfold fairwayref10_Rec.f
  simp only [num_f, Option.bind_some]
  by_cases h0 : 0 ≤ r.f0 ∧ r.f0 ≤ 1099511627775
  · rw [if_pos (by simpa using h0)]
    by_cases h1 : 0 ≤ r.f1 ∧ r.f1 ≤ 1099511627776
    · rw [if_pos (by simpa using h1)]
      by_cases h2 : (r.f2.size : Int) ≤ 1024
      · rw [if_pos h2]
        by_cases h3 : (r.f3.size : Int) ≤ 1024
        · rw [if_pos h3]
          by_cases h4 : 0 ≤ r.f4 ∧ r.f4 ≤ 2
          · rw [if_pos (by simpa using h4)]
            by_cases h8 : r.f5 = true
            · rw [if_pos h8]
              by_cases h9 : r.f3.toList = []
              · exact absurd ⟨by omega, by omega, by omega, by omega, by omega, by omega, by omega, by omega, fun _ => h9⟩ h
              · simpa using h9
            · exact absurd ⟨by omega, by omega, by omega, by omega, by omega, by omega, by omega, by omega, fun g => absurd g h8⟩ h
          · rw [if_neg (by simpa using h4)]
        · rw [if_neg h3]
      · rw [if_neg h2]
    · rw [if_neg (by simpa using h1)]
  · rw [if_neg (by simpa using h0)]

/-- How many bytes a record has. -/
def recLen (r : R) : Nat := 25 + r.f2.size + r.f3.size
theorem wrap_in {x : Int} (h0 : -9223372036854775808 ≤ x) (h1 : x ≤ 9223372036854775807) : wrap64 x = x := by
  unfold wrap64; omega
theorem size_yes (r : R) (h : recOk r) : Ev (fun k => rec_Size.f k r.f0 r.f1 r.f2 r.f3 r.f4 r.f5) ((recLen r : Int), 0) := by
  obtain ⟨h0, h1, h2, h3, h4, h5, h6, h7, h8⟩ := id h
  refine Ev.bind (check_yes r h) (Ev.congr (f := fun _ => some ((recLen r : Int), 0)) (fun k => ?_) (Ev.now _))
  simp only [if_pos]
  rw [wrap_in (x := 25 + (r.f2.size : Int)) (by omega) (by omega), wrap_in (by omega) (by omega)]
  simp [recLen]
theorem size_no (r : R) (h : ¬ recOk r) : Ev (fun k => rec_Size.f k r.f0 r.f1 r.f2 r.f3 r.f4 r.f5) (0, 1) := by
  refine Ev.bind (check_no r h) (Ev.congr (f := fun _ => some (0, 1)) (fun k => ?_) (Ev.now _))
  rw [if_neg (by decide)]

theorem rd_take (l : List R) (n i : Nat) (h : i < n) : rd_T25 (l.take n) i = rd_T25 l i := by
  unfold rd_T25
  simp [List.getD_eq_getElem?_getD, List.getElem?_take, h]
theorem rd_mem {l : List R} {i : Nat} (h : i < l.length) : rd_T25 l i ∈ l := by
  unfold rd_T25
  simp [List.getD_eq_getElem?_getD, List.getElem?_eq_getElem h]
theorem rd_get {l : List R} {i : Nat} (h : i < l.length) : rd_T25 l i = l[i] := by
  unfold rd_T25
  simp [List.getD_eq_getElem?_getD, List.getElem?_eq_getElem h]
end Go.Proofs.Ytmabdfdmccbfnaa.URec

/- Weights: how much of a script is played. -/
namespace Go.Proofs.Ytmabdfdmccbfnaa.UHeavy
open Go Go.RowKit Go.Proofs.Ytmabdfdmccbfnaa.P Go.Proofs.Ytmabdfdmccbfnaa.URec Go.Proofs.YtmabdfdmccbfnaaW.PrintWords Go.Proofs.YtmabdfdmccbfnaaW.PrintLast
set_option linter.unusedVariables false
set_option linter.unusedSimpArgs false

/-- The letters of records. -/
def letters : List R → Nat
  | [] => 0
  | r :: l => r.f2.size + r.f3.size + letters l
theorem letters_take (l : List R) (i : Nat) (h : i < l.length) : letters (l.take (i + 1)) = letters (l.take i) + (rd_T25 l i).f2.size + (rd_T25 l i).f3.size := by
  rw [rd_get h]
  induction l generalizing i with
  | nil => simp at h
  | cons r l ih =>
    cases i with
    | zero => simp [letters]
    | succ i =>
      have := ih i (by simpa using h)
      simp [letters, this]; omega
theorem letters_mem {l : List R} {r : R} (h : r ∈ l) : r.f2.size + r.f3.size ≤ letters l := by
  induction l with
  | nil => simp at h
  | cons x l ih =>
    simp only [letters]
    rcases List.mem_cons.1 h with rfl | h
    · omega
    · have := ih h; omega

theorem weight_loop (l : List R) (hl : l.length * 64 ≤ 140737488351232) (hg : ∀ x ∈ l, good25 x) : ∀ (d i : Nat) (x : Nat), l.length = i + d → x = l.length + letters (l.take i) → x ≤ 562949953421312 →
    ∃ n : Nat, Ev (fun k => fairwaylaw0_RecsWeight.l0 k l x i) (n : Int) ∧ n ≤ 562949953421312 ∧ (n < 1048576 → n = l.length + letters l)
  | 0, i, x, h, hx, hm => by
    refine ⟨x, Ev.step (f := fun _ => some _) (fun k => ?_) (Ev.now _), hm, fun _ => ?_⟩
    · simp only [fairwaylaw0_RecsWeight.l0]
      rw [if_neg (by omega)]
    · rw [hx, List.take_of_length_le (by omega)]
  | d + 1, i, x, h, hx, hm => by
    have hi : i < l.length := by omega
    by_cases hs : x < 1048576
    · have hgi := hg _ (rd_mem hi)
      obtain ⟨g0, g1, g2, g3, g4⟩ := hgi
      obtain ⟨n, hn, h1, h2⟩ := weight_loop l hl hg d (i + 1) (x + (rd_T25 l i).f2.size + (rd_T25 l i).f3.size) (by omega) (by rw [letters_take l i hi]; omega) (by omega)
      refine ⟨n, Ev.step (fun k => ?_) hn, h1, h2⟩
      simp only [fairwaylaw0_RecsWeight.l0]
      rw [if_pos (by omega), if_pos (by omega), if_pos (by omega), wrap_in (x := (x : Int) + ((rd_T25 l i).f2.size : Int)) (by omega) (by omega), wrap_in (by omega) (by omega), wrap_in (by omega) (by omega)]
      rfl
    · refine ⟨x, Ev.step (f := fun _ => some _) (fun k => ?_) (Ev.now _), hm, fun h => absurd h hs⟩
      simp only [fairwaylaw0_RecsWeight.l0]
      rw [if_pos (by omega), if_neg (by omega)]
theorem weight_ev (l : List R) (hl : l.length * 64 ≤ 140737488351232) (hg : ∀ x ∈ l, good25 x) :
    ∃ n : Nat, Ev (fun k => fairwaylaw0_RecsWeight.f k l) (n : Int) ∧ n ≤ 562949953421312 ∧ (n < 1048576 → n = l.length + letters l) :=
  weight_loop l hl hg l.length 0 l.length (by omega) (by simp [letters]) (by omega)

theorem heavy_ev (base : Int) (g l : List R) (ns : List Int) (s : ByteArray) (hg : ∀ x ∈ g, good25 x) (hg2 : g.length * 64 ≤ 140737488351232) (hl : ∀ x ∈ l, good25 x) (hl2 : l.length * 64 ≤ 140737488351232) :
    ∃ b, Ev (fun k => fairwaylaw11_Heavy.f k base g l ns s) b ∧ (b = false → g.length + letters g + (l.length + letters l) ≤ 8000 ∧ s.size ≤ 8000 ∧ ns.length ≤ 500) := by
  obtain ⟨n, h1, h2, h3⟩ := weight_ev g hg2 hg
  obtain ⟨m, k1, k2, k3⟩ := weight_ev l hl2 hl
  by_cases a : wrap64 ((n : Int) + (m : Int)) > 8000
  · exact ⟨true, Ev.bind h1 (Ev.bind k1 (Ev.congr (fun k => if_pos a) (Ev.now _))), fun e => by cases e⟩
  · have hw : (n : Int) + m ≤ 8000 := by rw [wrap_in (by omega) (by omega)] at a; omega
    by_cases b : (s.size : Int) > 8000
    · exact ⟨true, Ev.bind h1 (Ev.bind k1 (Ev.congr (fun k => if_neg a) (Ev.congr (fun k => if_pos b) (Ev.now _)))), fun e => by cases e⟩
    · refine ⟨_, Ev.bind h1 (Ev.bind k1 (Ev.congr (fun k => if_neg a) (Ev.congr (fun k => if_neg b) (Ev.now _)))), fun e => ?_⟩
      have := of_decide_eq_false e
      exact ⟨by rw [← h3 (by omega), ← k3 (by omega)]; omega, by omega, by omega⟩
end Go.Proofs.Ytmabdfdmccbfnaa.UHeavy

-- written by a program of the proving session, out of the translation; Lean checks it
namespace Go.Proofs.Ytmabdfdmccbfnaa.P
open Go.RowKit Go.Proofs.Ytmabdfdmccbfnaa.Sq Go.Proofs.YtmabdfdmccbfnaaW.PrintWords Go.Proofs.YtmabdfdmccbfnaaW.PrintLast Go.Proofs.YtmabdfdmccbfnaaW.PrintMore
attribute [local go_sem] max2_int min2_int max_two min_two max_three min_three max_four min_four   -- for this text's walks alone
set_option linter.unusedVariables false
set_option linter.unusedSimpArgs false

/-! ### fairwayref10_Risen: function 50 -/
def fairwayref10_Risen.l0 : Nat → List (S77) → Int → Option (Bool)
 | 0, _, _ => none
 | k + 1, x0, x3 => if x3 < (x0.length : Int) then (if 0 ≤ (wrap64 (x3 - 1)) then (if (wrap64 (x3 - 1)) < (x0.length : Int) then (if 0 ≤ x3 then (if ((rd_T77 x0 (wrap64 (x3 - 1))).f0) ≥ ((rd_T77 x0 x3).f0) then (some false) else (if ((rd_T77 x0 (wrap64 (x3 - 1))).f1) > ((rd_T77 x0 x3).f1) then (some false) else (fairwayref10_Risen.l0 k x0 (wrap64 (x3 + 1))))) else (none)) else (none)) else (none)) else (some true)
def fairwayref10_Risen.f (k : Nat) (l0 : List (S77)) : Option (Bool) := fairwayref10_Risen.l0 k l0 1
theorem fairwayref10_Risen.mono_l : ∀ k, (∀ y0 y1, LeO (fairwayref10_Risen.l0 k y0 y1) (fairwayref10_Risen.l0 (k + 1) y0 y1))
 | 0 => fun _ _ r h => by simp [fairwayref10_Risen.l0] at h
 | k + 1 => by
  have ih0 := fairwayref10_Risen.mono_l k
  ·intro y0 y1
   unfold fairwayref10_Risen.l0
   repeat' first
   | (with_reducible exact ih0 _ _)
   | (with_reducible exact LeO.refl _)
   | (with_reducible exact LeO.none _)
   | (with_reducible refine LeO.ite ?_ ?_)
   | (with_reducible refine LeO.bind ?_ (fun _ => ?_))
   | exact ih0 _ _
   | exact LeO.none _
   | refine LeO.ite ?_ ?_
   | refine LeO.bind ?_ (fun _ => ?_)
theorem fairwayref10_Risen.mono : ∀ a0 k, LeO (fairwayref10_Risen.f k a0) (fairwayref10_Risen.f (k + 1) a0) := by
 intro a0 k
 have ih0 := fairwayref10_Risen.mono_l k
 unfold fairwayref10_Risen.f
 repeat' first
  | (with_reducible exact ih0 _ _)
  | (with_reducible exact LeO.refl _)
  | (with_reducible exact LeO.none _)
  | (with_reducible refine LeO.ite ?_ ?_)
  | (with_reducible refine LeO.bind ?_ (fun _ => ?_))
  | exact ih0 _ _
  | exact LeO.none _
  | refine LeO.ite ?_ ?_
  | refine LeO.bind ?_ (fun _ => ?_)
set_option maxHeartbeats 8000000 in
set_option maxRecDepth 100000 in
theorem fairwayref10_Risen.calls (k : Nat) (A0 : Option Addr) (c0 : Nat) (l0 : List (S77)) (r : Bool) (w : World) (hr0 : Kd.C k77 w A0 l0.length l0) (hc0 : l0.length ≤ c0) (h : fairwayref10_Risen.f k l0 = some r) :
 Calls Try.prog 50 #[.slice A0 l0.length c0] w fun e w' => e = .returned (.bool r) ∧ Drawn0 w w' := by
 have HR0 := Aside0.mk hr0
 have HC0 := Aside0.mk hc0
 clear hr0 hc0
 have H : (fairwayref10_Risen.l0 k l0 1) = some r := h
 clear h
 have H' := Aside0.mk H
 clear H
 go_enter Try.func50, Try.ntmps50
 go_wp2
 repeat (go_quiet (fail); try go_wp2)
 go_loopg [3] k (fun kq v3 w' => ∃ (x3_1 : Int), v3 = .int .i64 x3_1 ∧ Aside0 (fairwayref10_Risen.l0 kq l0 x3_1 = some r) ∧ Aside0 (kq ≤ k) ∧ Drawn0 w w')
 case atStart => exact ⟨(1), ap, H', ⟨Nat.le_refl _⟩, dr⟩
 case round =>
  clear H'
  obtain ⟨x3_1, rfl, HA, HK1, ⟨m1, rfl⟩⟩ := hrel
  cases gk with
  | zero => exact absurd HA.out (by simp [fairwayref10_Risen.l0])
  | succ k1 =>
   have H := HA.out
   clear HA
   simp only [fairwayref10_Risen.l0] at H
   by_cases c2 : x3_1 < (l0.length : Int)
   ·rw [if_pos c2] at H
    have c2b0 : decide (x3_1 < (l0.length : Int)) = true := decide_eq_true c2
    clear c2
    obtain ⟨ji3, hji3⟩ : ∃ j_ : Int, (wrap64 (x3_1 - 1)) = j_ := ⟨_, rfl⟩
    replace H : (if 0 ≤ (ji3) then (if (ji3) < (l0.length : Int) then (if 0 ≤ x3_1 then (if ((rd_T77 l0 (ji3)).f0) ≥ ((rd_T77 l0 x3_1).f0) then (some false) else (if ((rd_T77 l0 (ji3)).f1) > ((rd_T77 l0 x3_1).f1) then (some false) else (fairwayref10_Risen.l0 k1 l0 (wrap64 (x3_1 + 1))))) else (none)) else (none)) else (none)) = some r := by first | (rw [hji3] at H; exact H) | (simp only [hji3] at H ⊢; exact H)
    have hji3w : (IntKind.i64.wrap (x3_1 - 1)) = ji3 := (i64_w _).trans hji3
    by_cases c4 : 0 ≤ (ji3)
    ·rw [if_pos c4] at H
     have c4b0 : decide (0 ≤ (ji3)) = true := decide_eq_true c4
     clear c4
     by_cases c5 : (ji3) < (l0.length : Int)
     ·rw [if_pos c5] at H
      have c5b0 : decide ((ji3) < (l0.length : Int)) = true := decide_eq_true c5
      clear c5
      by_cases c6 : 0 ≤ x3_1
      ·rw [if_pos c6] at H
       have c6b0 : decide (0 ≤ x3_1) = true := decide_eq_true c6
       clear c6
       by_cases c7 : ((rd_T77 l0 (ji3)).f0) ≥ ((rd_T77 l0 x3_1).f0)
       ·rw [if_pos c7] at H
        have c7b0 : decide (((rd_T77 l0 x3_1).f0) ≤ ((rd_T77 l0 (ji3)).f0)) = true := decide_eq_true c7
        clear c7
        obtain rfl := Option.some.inj H
        have p613 : 0 ≤ ((ji3) : Int) := od
        have q613 : (ji3) < (l0.length : Int) := od
        obtain ⟨ad613, e613, hx613_0, hx613_1⟩ := at_T77 HR0.out (ji3) p613 q613
        cases e613
        replace p613 := eq_true p613
        replace q613 := eq_true q613
        have p614 : 0 ≤ (x3_1 : Int) := od
        have q614 : x3_1 < (l0.length : Int) := od
        obtain ⟨ad614, e614, hx614_0, hx614_1⟩ := at_T77 HR0.out x3_1 p614 q614
        obtain rfl : ad613 = ad614 := (by injection e614)
        replace p614 := eq_true p614
        replace q614 := eq_true q614
        go_wp2
        repeat (go_quiet (fail); try go_wp2)
        go_ret
        exact ⟨by first | rfl | (simp; done) | (simp only [← hji3] <;> (first | rfl | simp)) | (simp [*]; done), dr⟩
       ·rw [if_neg c7] at H
        have c7b0 : decide (((rd_T77 l0 x3_1).f0) ≤ ((rd_T77 l0 (ji3)).f0)) = false := decide_eq_false c7
        clear c7
        by_cases c8 : ((rd_T77 l0 (ji3)).f1) > ((rd_T77 l0 x3_1).f1)
        ·rw [if_pos c8] at H
         have c8b0 : decide (((rd_T77 l0 x3_1).f1) < ((rd_T77 l0 (ji3)).f1)) = true := decide_eq_true c8
         clear c8
         obtain rfl := Option.some.inj H
         have p613 : 0 ≤ ((ji3) : Int) := od
         have q613 : (ji3) < (l0.length : Int) := od
         obtain ⟨ad613, e613, hx613_0, hx613_1⟩ := at_T77 HR0.out (ji3) p613 q613
         cases e613
         replace p613 := eq_true p613
         replace q613 := eq_true q613
         have p614 : 0 ≤ (x3_1 : Int) := od
         have q614 : x3_1 < (l0.length : Int) := od
         obtain ⟨ad614, e614, hx614_0, hx614_1⟩ := at_T77 HR0.out x3_1 p614 q614
         obtain rfl : ad613 = ad614 := (by injection e614)
         replace p614 := eq_true p614
         replace q614 := eq_true q614
         have p615 : 0 ≤ ((ji3) : Int) := od
         have q615 : (ji3) < (l0.length : Int) := od
         obtain ⟨ad615, e615, hx615_0, hx615_1⟩ := at_T77 HR0.out (ji3) p615 q615
         obtain rfl : ad613 = ad615 := (by injection e615)
         replace p615 := eq_true p615
         replace q615 := eq_true q615
         have p616 : 0 ≤ (x3_1 : Int) := od
         have q616 : x3_1 < (l0.length : Int) := od
         obtain ⟨ad616, e616, hx616_0, hx616_1⟩ := at_T77 HR0.out x3_1 p616 q616
         obtain rfl : ad613 = ad616 := (by injection e616)
         replace p616 := eq_true p616
         replace q616 := eq_true q616
         go_wp2
         repeat (go_quiet (fail); try go_wp2)
         go_ret
         exact ⟨by first | rfl | (simp; done) | (simp only [← hji3] <;> (first | rfl | simp)) | (simp [*]; done), dr⟩
        ·rw [if_neg c8] at H
         have c8b0 : decide (((rd_T77 l0 x3_1).f1) < ((rd_T77 l0 (ji3)).f1)) = false := decide_eq_false c8
         clear c8
         have H' := Aside0.mk H
         clear H
         have p613 : 0 ≤ ((ji3) : Int) := od
         have q613 : (ji3) < (l0.length : Int) := od
         obtain ⟨ad613, e613, hx613_0, hx613_1⟩ := at_T77 HR0.out (ji3) p613 q613
         cases e613
         replace p613 := eq_true p613
         replace q613 := eq_true q613
         have p614 : 0 ≤ (x3_1 : Int) := od
         have q614 : x3_1 < (l0.length : Int) := od
         obtain ⟨ad614, e614, hx614_0, hx614_1⟩ := at_T77 HR0.out x3_1 p614 q614
         obtain rfl : ad613 = ad614 := (by injection e614)
         replace p614 := eq_true p614
         replace q614 := eq_true q614
         have p615 : 0 ≤ ((ji3) : Int) := od
         have q615 : (ji3) < (l0.length : Int) := od
         obtain ⟨ad615, e615, hx615_0, hx615_1⟩ := at_T77 HR0.out (ji3) p615 q615
         obtain rfl : ad613 = ad615 := (by injection e615)
         replace p615 := eq_true p615
         replace q615 := eq_true q615
         have p616 : 0 ≤ (x3_1 : Int) := od
         have q616 : x3_1 < (l0.length : Int) := od
         obtain ⟨ad616, e616, hx616_0, hx616_1⟩ := at_T77 HR0.out x3_1 p616 q616
         obtain rfl : ad613 = ad616 := (by injection e616)
         replace p616 := eq_true p616
         replace q616 := eq_true q616
         go_wp2
         repeat (go_quiet (fail); try go_wp2)
         go_roundg k1
         case measure => have := HK1.out; omega
         case rel => exact ⟨(wrap64 (x3_1 + 1)), ap, H', ⟨by have := HK1.out; omega⟩, dr⟩
      ·rw [if_neg c6] at H
       exact absurd H (by simp)
     ·rw [if_neg c5] at H
      exact absurd H (by simp)
    ·rw [if_neg c4] at H
     exact absurd H (by simp)
   ·rw [if_neg c2] at H
    have c2b0 : decide (x3_1 < (l0.length : Int)) = false := decide_eq_false c2
    clear c2
    obtain rfl := Option.some.inj H
    go_wp2
    repeat (go_quiet (fail); try go_wp2)
    go_ret
    exact ⟨ap, dr⟩

end Go.Proofs.Ytmabdfdmccbfnaa.P

-- written by a program of the proving session, out of the translation; Lean checks it
namespace Go.Proofs.Ytmabdfdmccbfnaa.P
open Go.RowKit Go.Proofs.Ytmabdfdmccbfnaa.Sq Go.Proofs.YtmabdfdmccbfnaaW.PrintWords Go.Proofs.YtmabdfdmccbfnaaW.PrintLast Go.Proofs.YtmabdfdmccbfnaaW.PrintMore
attribute [local go_sem] max2_int min2_int max_two min_two max_three min_three max_four min_four   -- for this text's walks alone
set_option linter.unusedVariables false
set_option linter.unusedSimpArgs false

attribute [local go_sem high] eqA77
/-! ### fairwayref0_EqMarks: function 57 -/
def fairwayref0_EqMarks.l0 : Nat → List (S77) → List (S77) → Int → Option (Bool)
 | 0, _, _, _ => none
 | k + 1, x0, x1, x5 => if x5 < (x0.length : Int) then (if 0 ≤ x5 then (if x5 < (x1.length : Int) then (if (!(((rd_T77 x0 x5).f0) == ((rd_T77 x1 x5).f0)) || (!(((rd_T77 x0 x5).f1) == ((rd_T77 x1 x5).f1)))) = true then (some false) else (fairwayref0_EqMarks.l0 k x0 x1 (wrap64 (x5 + 1)))) else (none)) else (none)) else (some true)
def fairwayref0_EqMarks.f (k : Nat) (l0 : List (S77)) (l1 : List (S77)) : Option (Bool) := if (l0.length : Int) = (l1.length : Int) then (fairwayref0_EqMarks.l0 k l0 l1 0) else (some false)
theorem fairwayref0_EqMarks.mono_l : ∀ k, (∀ y0 y1 y2, LeO (fairwayref0_EqMarks.l0 k y0 y1 y2) (fairwayref0_EqMarks.l0 (k + 1) y0 y1 y2))
 | 0 => fun _ _ _ r h => by simp [fairwayref0_EqMarks.l0] at h
 | k + 1 => by
  have ih0 := fairwayref0_EqMarks.mono_l k
  ·intro y0 y1 y2
   unfold fairwayref0_EqMarks.l0
   repeat' first
   | (with_reducible exact ih0 _ _ _)
   | (with_reducible exact LeO.refl _)
   | (with_reducible exact LeO.none _)
   | (with_reducible refine LeO.ite ?_ ?_)
   | (with_reducible refine LeO.bind ?_ (fun _ => ?_))
   | exact ih0 _ _ _
   | exact LeO.none _
   | refine LeO.ite ?_ ?_
   | refine LeO.bind ?_ (fun _ => ?_)
theorem fairwayref0_EqMarks.mono : ∀ a0 a1 k, LeO (fairwayref0_EqMarks.f k a0 a1) (fairwayref0_EqMarks.f (k + 1) a0 a1) := by
 intro a0 a1 k
 have ih0 := fairwayref0_EqMarks.mono_l k
 unfold fairwayref0_EqMarks.f
 repeat' first
  | (with_reducible exact ih0 _ _ _)
  | (with_reducible exact LeO.refl _)
  | (with_reducible exact LeO.none _)
  | (with_reducible refine LeO.ite ?_ ?_)
  | (with_reducible refine LeO.bind ?_ (fun _ => ?_))
  | exact ih0 _ _ _
  | exact LeO.none _
  | refine LeO.ite ?_ ?_
  | refine LeO.bind ?_ (fun _ => ?_)
set_option maxHeartbeats 8000000 in
set_option maxRecDepth 100000 in
theorem fairwayref0_EqMarks.calls (k : Nat) (A0 : Option Addr) (c0 : Nat) (l0 : List (S77)) (A1 : Option Addr) (c1 : Nat) (l1 : List (S77)) (r : Bool) (w : World) (hr0 : Kd.C k77 w A0 l0.length l0) (hc0 : l0.length ≤ c0) (hr1 : Kd.C k77 w A1 l1.length l1) (hc1 : l1.length ≤ c1) (h : fairwayref0_EqMarks.f k l0 l1 = some r) :
 Calls Try.prog 57 #[.slice A0 l0.length c0, .slice A1 l1.length c1] w fun e w' => e = .returned (.bool r) ∧ Drawn0 w w' := by
 have hu77 := Try.underlying77
 have HR0 := Aside0.mk hr0
 have HC0 := Aside0.mk hc0
 clear hr0 hc0
 have HR1 := Aside0.mk hr1
 have HC1 := Aside0.mk hc1
 clear hr1 hc1
 have H : (if (l0.length : Int) = (l1.length : Int) then (fairwayref0_EqMarks.l0 k l0 l1 0) else (some false)) = some r := h
 clear h
 by_cases c3 : (l0.length : Int) = (l1.length : Int)
 ·rw [if_pos c3] at H
  have c3b0 : ((l0.length : Int) == (l1.length : Int)) = true := beq_iff_eq.mpr c3
  have c3b1 : ((l0.length : Int) != (l1.length : Int)) = false := bne_eq_false_iff_eq.mpr c3
  have c3b2 : (l0.length == l1.length) = true := by first | simpa using c3 | (simp at c3 ⊢; omega)
  clear c3
  have H' := Aside0.mk H
  clear H
  go_enter Try.func57, Try.ntmps57
  go_wp2
  repeat (go_quiet (fail); try go_wp2)
  go_loopg [5] k (fun kq v5 w' => ∃ (x5_1 : Int), v5 = .int .i64 x5_1 ∧ Aside0 (fairwayref0_EqMarks.l0 kq l0 l1 x5_1 = some r) ∧ Aside0 (kq ≤ k) ∧ Drawn0 w w')
  case atStart => exact ⟨(0), ap, H', ⟨Nat.le_refl _⟩, dr⟩
  case round =>
   clear H'
   try clear c1
   try clear p2
   try clear c3
   try clear c3b0
   try clear c3b1
   try clear c3b2
   obtain ⟨x5_1, rfl, HA, HK1, ⟨m1, rfl⟩⟩ := hrel
   cases gk with
   | zero => exact absurd HA.out (by simp [fairwayref0_EqMarks.l0])
   | succ k1 =>
    have H := HA.out
    clear HA
    simp only [fairwayref0_EqMarks.l0] at H
    by_cases c4 : x5_1 < (l0.length : Int)
    ·rw [if_pos c4] at H
     have c4b0 : decide (x5_1 < (l0.length : Int)) = true := decide_eq_true c4
     clear c4
     by_cases c5 : 0 ≤ x5_1
     ·rw [if_pos c5] at H
      have c5b0 : decide (0 ≤ x5_1) = true := decide_eq_true c5
      clear c5
      by_cases c6 : x5_1 < (l1.length : Int)
      ·rw [if_pos c6] at H
       have c6b0 : decide (x5_1 < (l1.length : Int)) = true := decide_eq_true c6
       clear c6
       by_cases c7 : (!(((rd_T77 l0 x5_1).f0) == ((rd_T77 l1 x5_1).f0)) || (!(((rd_T77 l0 x5_1).f1) == ((rd_T77 l1 x5_1).f1)))) = true
       ·rw [if_pos c7] at H
        have c7b0 : (!(((rd_T77 l0 x5_1).f0) == ((rd_T77 l1 x5_1).f0)) || (!(((rd_T77 l0 x5_1).f1) == ((rd_T77 l1 x5_1).f1)))) = true := c7
        clear c7
        obtain rfl := Option.some.inj H
        have p695 : 0 ≤ (x5_1 : Int) := od
        have q695 : x5_1 < (l0.length : Int) := od
        obtain ⟨ad695, e695, hx695_0, hx695_1⟩ := at_T77 HR0.out x5_1 p695 q695
        cases e695
        replace p695 := eq_true p695
        replace q695 := eq_true q695
        have p696 : 0 ≤ (x5_1 : Int) := od
        have q696 : x5_1 < (l1.length : Int) := od
        obtain ⟨ad696, e696, hx696_0, hx696_1⟩ := at_T77 HR1.out x5_1 p696 q696
        cases e696
        replace p696 := eq_true p696
        replace q696 := eq_true q696
        go_wp2
        repeat (go_quiet (fail); try go_wp2)
        go_ret
        exact ⟨ap, dr⟩
       ·rw [if_neg c7] at H
        have c7b0 : (!(((rd_T77 l0 x5_1).f0) == ((rd_T77 l1 x5_1).f0)) || (!(((rd_T77 l0 x5_1).f1) == ((rd_T77 l1 x5_1).f1)))) = false := by simpa using c7
        clear c7
        have H' := Aside0.mk H
        clear H
        have p695 : 0 ≤ (x5_1 : Int) := od
        have q695 : x5_1 < (l0.length : Int) := od
        obtain ⟨ad695, e695, hx695_0, hx695_1⟩ := at_T77 HR0.out x5_1 p695 q695
        cases e695
        replace p695 := eq_true p695
        replace q695 := eq_true q695
        have p696 : 0 ≤ (x5_1 : Int) := od
        have q696 : x5_1 < (l1.length : Int) := od
        obtain ⟨ad696, e696, hx696_0, hx696_1⟩ := at_T77 HR1.out x5_1 p696 q696
        cases e696
        replace p696 := eq_true p696
        replace q696 := eq_true q696
        go_wp2
        repeat (go_quiet (fail); try go_wp2)
        go_roundg k1
        case measure => have := HK1.out; omega
        case rel => exact ⟨(wrap64 (x5_1 + 1)), ap, H', ⟨by have := HK1.out; omega⟩, dr⟩
      ·rw [if_neg c6] at H
       exact absurd H (by simp)
     ·rw [if_neg c5] at H
      exact absurd H (by simp)
    ·rw [if_neg c4] at H
     have c4b0 : decide (x5_1 < (l0.length : Int)) = false := decide_eq_false c4
     clear c4
     obtain rfl := Option.some.inj H
     go_wp2
     repeat (go_quiet (fail); try go_wp2)
     go_ret
     exact ⟨ap, dr⟩
 ·rw [if_neg c3] at H
  have c3b0 : ((l0.length : Int) == (l1.length : Int)) = false := beq_eq_false_iff_ne.mpr c3
  have c3b1 : ((l0.length : Int) != (l1.length : Int)) = true := bne_iff_ne.mpr c3
  have c3b2 : (l0.length == l1.length) = false := by first | simpa using c3 | (simp at c3 ⊢; omega)
  obtain rfl := Option.some.inj H
  go_enter Try.func57, Try.ntmps57
  go_wp2
  repeat (go_quiet (fail); try go_wp2)
  go_ret
  exact ⟨ap, dr⟩

end Go.Proofs.Ytmabdfdmccbfnaa.P

/- Segments: which may be: the program's answer and the page's are one. -/
namespace Go.Proofs.Ytmabdfdmccbfnaa.USeg
open Go Go.RowKit Go.Proofs.Ytmabdfdmccbfnaa.P Go.Proofs.Ytmabdfdmccbfnaa.URec Go.Proofs.YtmabdfdmccbfnaaW.PrintWords Go.Proofs.YtmabdfdmccbfnaaW.PrintLast
set_option linter.unusedVariables false
set_option linter.unusedSimpArgs false

/-- The record at a place may stand there. -/
def okAt (base : Int) (l : List R) (i : Nat) : Prop :=
  recOk (rd_T25 l i) ∧ base ≤ (rd_T25 l i).f0 ∧ (0 < i → (rd_T25 l (i - 1 : Nat)).f0 < (rd_T25 l i).f0 ∧ (rd_T25 l (i - 1 : Nat)).f1 ≤ (rd_T25 l i).f1)
/-- A segment that may be. -/
def segOk (base : Int) (l : List R) : Prop := 0 ≤ base ∧ base ≤ 1099511627776 ∧ l.length ≤ 200 ∧ ∀ i, i < l.length → okAt base l i

theorem segOk_rec {base : Int} {l : List R} (h : segOk base l) {i : Nat} (hi : i < l.length) : recOk (rd_T25 l i) := (h.2.2.2 i hi).1

theorem behind_yes (base : Int) (l : List R) (r : R) (h : recOk r) (hb : base ≤ r.f0) (hn : l.length < 200)
    (hp : 0 < l.length → (rd_T25 l (l.length - 1 : Nat)).f0 < r.f0 ∧ (rd_T25 l (l.length - 1 : Nat)).f1 ≤ r.f1) :
    Ev (fun k => seg_behind.f k base l r.f0 r.f1 r.f2 r.f3 r.f4 r.f5) true := by
  refine Ev.bind (check_yes r h) (Ev.congr (f := fun _ => some true) (fun k => ?_) (Ev.now _))
  rw [if_pos rfl, if_neg (by omega), if_neg (by omega)]
  by_cases h0 : (l.length : Int) = 0
  · rw [if_pos h0]
  · have hw : wrap64 ((l.length : Int) - 1) = ((l.length - 1 : Nat) : Int) := by rw [wrap_in (by omega) (by omega)]; omega
    obtain ⟨p0, p1⟩ := hp (by omega)
    rw [if_neg h0, hw, if_pos (by omega), if_pos (by omega), if_pos p0]
    simpa using p1
theorem behind_no (base : Int) (l : List R) (r : R) (hl : l.length ≤ 200) (h : ¬ (recOk r ∧ base ≤ r.f0 ∧ l.length < 200 ∧
    (0 < l.length → (rd_T25 l (l.length - 1 : Nat)).f0 < r.f0 ∧ (rd_T25 l (l.length - 1 : Nat)).f1 ≤ r.f1))) :
    Ev (fun k => seg_behind.f k base l r.f0 r.f1 r.f2 r.f3 r.f4 r.f5) false := by
  by_cases hr : recOk r
  · refine Ev.bind (check_yes r hr) (Ev.congr (f := fun _ => some false) (fun k => ?_) (Ev.now _))
    rw [if_pos rfl]
    by_cases hb : r.f0 < base
    · rw [if_pos hb]
    rw [if_neg hb]
    by_cases hn : (l.length : Int) ≥ 200
    · rw [if_pos hn]
    rw [if_neg hn]
    by_cases h0 : (l.length : Int) = 0
    · exact absurd ⟨hr, by omega, by omega, fun g => by omega⟩ h
    have hw : wrap64 ((l.length : Int) - 1) = ((l.length - 1 : Nat) : Int) := by rw [wrap_in (by omega) (by omega)]; omega
    rw [if_neg h0, hw, if_pos (by omega), if_pos (by omega)]
    by_cases p0 : (rd_T25 l (l.length - 1 : Nat)).f0 < r.f0
    · rw [if_pos p0]
      by_cases p1 : (rd_T25 l (l.length - 1 : Nat)).f1 ≤ r.f1
      · exact absurd ⟨hr, by omega, by omega, fun g => ⟨p0, p1⟩⟩ h
      · simpa using p1
    · rw [if_neg p0]
  · refine Ev.bind (check_no r hr) (Ev.congr (f := fun _ => some false) (fun k => ?_) (Ev.now _))
    rw [if_neg (by decide)]

theorem take_last (l : List R) (i : Nat) (h : i ≤ l.length) (h0 : 0 < i) : rd_T25 (l.take i) ((l.take i).length - 1 : Nat) = rd_T25 l (i - 1 : Nat) := by
  rw [List.length_take, Nat.min_eq_left h]
  exact rd_take l i (i - 1) (by omega)

theorem check_loop_yes (base : Int) (l : List R) (hl : l.length ≤ 200) (hok : ∀ i, i < l.length → okAt base l i) : ∀ (d i : Nat), l.length = i + d →
    Ev (fun k => seg_Check.l0 k l (l.length : Int) i base l) 0
  | 0, i, h => by
    refine Ev.step (f := fun _ => some 0) (fun k => ?_) (Ev.now _)
    simp only [seg_Check.l0]
    rw [if_neg (by omega)]
  | d + 1, i, h => by
    have hi : i < l.length := by omega
    obtain ⟨h1, h2, h3⟩ := hok i hi
    refine Ev.step (f := fun k => (seg_behind.f k base (l.take i) ((rd_T25 l i).f0) ((rd_T25 l i).f1) ((rd_T25 l i).f2) ((rd_T25 l i).f3) ((rd_T25 l i).f4) ((rd_T25 l i).f5)).bind fun t => if t = true then seg_Check.l0 k l (l.length : Int) (wrap64 (i + 1)) base l else some 1) (fun k => ?_) ?_
    · simp only [seg_Check.l0]
      rw [if_pos (by omega), if_pos (by omega), if_pos (by omega), if_pos (by omega), Int.toNat_natCast]
    · refine Ev.bind (behind_yes base (l.take i) (rd_T25 l i) h1 h2 (by rw [List.length_take]; omega) (fun g => ?_)) (Ev.congr (fun k => if_pos rfl) ?_)
      · have hi0 : 0 < i := by rw [List.length_take] at g; omega
        rw [take_last l i (by omega) hi0]
        exact h3 hi0
      · rw [wrap_in (by omega) (by omega)]
        exact check_loop_yes base l hl hok d (i + 1) (by omega)
theorem check_loop_no (base : Int) (l : List R) (j : Nat) (hj : j < l.length) (hj2 : j ≤ 200) (hbad : ¬ (okAt base l j ∧ j < 200)) (hok : ∀ i, i < j → okAt base l i) : ∀ (d i : Nat), j = i + d →
    Ev (fun k => seg_Check.l0 k l (l.length : Int) i base l) 1
  | 0, i, h => by
    obtain rfl : j = i := by omega
    refine Ev.step (f := fun k => (seg_behind.f k base (l.take j) ((rd_T25 l j).f0) ((rd_T25 l j).f1) ((rd_T25 l j).f2) ((rd_T25 l j).f3) ((rd_T25 l j).f4) ((rd_T25 l j).f5)).bind fun t => if t = true then seg_Check.l0 k l (l.length : Int) (wrap64 (j + 1)) base l else some 1) (fun k => ?_) ?_
    · simp only [seg_Check.l0]
      rw [if_pos (by omega), if_pos (by omega), if_pos (by omega), if_pos (by omega), Int.toNat_natCast]
    · refine Ev.bind (behind_no base (l.take j) (rd_T25 l j) (by rw [List.length_take]; omega) (fun g => hbad ?_)) (Ev.congr (f := fun _ => some 1) (fun k => if_neg (by decide)) (Ev.now _))
      obtain ⟨g1, g2, g3, g4⟩ := g
      rw [List.length_take, Nat.min_eq_left (by omega)] at g3
      refine ⟨⟨g1, g2, fun h0 => ?_⟩, g3⟩
      have := g4 (by rw [List.length_take]; omega)
      rw [take_last l j (by omega) h0] at this
      exact this
  | d + 1, i, h => by
    have hi : i < l.length := by omega
    obtain ⟨h1, h2, h3⟩ := hok i (by omega)
    refine Ev.step (f := fun k => (seg_behind.f k base (l.take i) ((rd_T25 l i).f0) ((rd_T25 l i).f1) ((rd_T25 l i).f2) ((rd_T25 l i).f3) ((rd_T25 l i).f4) ((rd_T25 l i).f5)).bind fun t => if t = true then seg_Check.l0 k l (l.length : Int) (wrap64 (i + 1)) base l else some 1) (fun k => ?_) ?_
    · simp only [seg_Check.l0]
      rw [if_pos (by omega), if_pos (by omega), if_pos (by omega), if_pos (by omega), Int.toNat_natCast]
    · refine Ev.bind (behind_yes base (l.take i) (rd_T25 l i) h1 h2 (by rw [List.length_take]; omega) (fun g => ?_)) (Ev.congr (fun k => if_pos rfl) ?_)
      · have hi0 : 0 < i := by rw [List.length_take] at g; omega
        rw [take_last l i (by omega) hi0]
        exact h3 hi0
      · rw [wrap_in (by omega) (by omega)]
        exact check_loop_no base l j hj hj2 hbad hok d (i + 1) (by omega)

theorem least {p : Nat → Prop} : ∀ n, (∃ i, i < n ∧ ¬ p i) → ∃ j, j < n ∧ ¬ p j ∧ ∀ i, i < j → p i
  | 0, ⟨i, h, _⟩ => by omega
  | n + 1, ⟨i, h, hp⟩ => by
    by_cases e : ∃ i, i < n ∧ ¬ p i
    · obtain ⟨j, h1, h2, h3⟩ := least n e
      exact ⟨j, by omega, h2, h3⟩
    · have e' : ∀ i, i < n → p i := fun i hi => Classical.byContradiction fun hn => e ⟨i, hi, hn⟩
      have : i = n := by
        by_cases hin : i < n
        · exact absurd (e' i hin) hp
        · omega
      subst this
      exact ⟨i, by omega, hp, e'⟩

theorem segcheck_yes (base : Int) (l : List R) (h : segOk base l) : Ev (fun k => seg_Check.f k base l) 0 := by
  obtain ⟨h0, h1, h2, h3⟩ := h
  refine Ev.step (f := fun k => seg_Check.l0 k l (l.length : Int) 0 base l) (fun k => ?_) (check_loop_yes base l h2 h3 l.length 0 (by omega))
  simp only [seg_Check.f, seg_Check.j0]
  rw [if_neg (by omega), if_neg (by simp; omega)]
theorem segcheck_no (base : Int) (l : List R) (h : ¬ segOk base l) : Ev (fun k => seg_Check.f k base l) 1 := by
  by_cases h0 : base < 0
  · refine Ev.step (f := fun _ => some 1) (fun k => ?_) (Ev.now _)
    simp only [seg_Check.f, seg_Check.j0]
    rw [if_pos h0]; rfl
  by_cases h1 : base > 1099511627776
  · refine Ev.step (f := fun _ => some 1) (fun k => ?_) (Ev.now _)
    simp only [seg_Check.f, seg_Check.j0]
    rw [if_neg h0, if_pos (by simpa using h1)]
  have hb : ∃ i, i < l.length ∧ ¬ (okAt base l i ∧ i < 200) := by
    refine Classical.byContradiction fun hn => h ⟨by omega, by omega, ?_, ?_⟩
    · by_cases hl : l.length ≤ 200
      · exact hl
      · exact absurd ⟨200, by omega, fun g => by omega⟩ hn
    · intro i hi
      exact Classical.byContradiction fun hc => hn ⟨i, hi, fun g => hc g.1⟩
  obtain ⟨j, hj, hbad, hok⟩ := least l.length hb
  have hj2 : j ≤ 200 := by
    by_cases e : j ≤ 200
    · exact e
    · have := (hok 200 (by omega)).2
      omega
  refine Ev.step (f := fun k => seg_Check.l0 k l (l.length : Int) 0 base l) (fun k => ?_) (check_loop_no base l j hj hj2 hbad (fun i hi => (hok i hi).1) j 0 (by omega))
  simp only [seg_Check.f, seg_Check.j0]
  rw [if_neg (by omega), if_neg (by simp; omega)]

/-! ### the page's own -/
theorem j2_no (base : Int) (l : List R) (i : Int) : Ev (fun k => fairwayref10_Seg.j2 k i true base l) false := by
  refine Ev.step (f := fun _ => some false) (fun k => ?_) (Ev.now _)
  simp only [fairwayref10_Seg.j2]
  rw [if_pos trivial]
theorem ref_step (base : Int) (l : List R) (hm : l.length ≤ 9223372036854775806) (i : Nat) (hi : i < l.length) (h : okAt base l i) {r : Bool} (hr : Ev (fun k => fairwayref10_Seg.l0 k ((i + 1 : Nat) : Int) base l) r) :
    Ev (fun k => fairwayref10_Seg.l0 k i base l) r := by
  obtain ⟨h1, h2, h3⟩ := h
  refine Ev.step (f := fun k => fairwayref10_Seg.j1 k i base l) (fun k => ?_) ?_
  · simp only [fairwayref10_Seg.l0]
    rw [if_pos (by omega)]
  · refine Ev.step (f := fun k => fairwayref10_Seg.j2 k i false base l) (fun k => ?_) ?_
    · simp only [fairwayref10_Seg.j1]
      rw [if_pos (by omega), if_pos (by omega), rec_yes _ h1]
      simp only [Option.bind_some]
      rw [if_pos trivial, if_neg (by omega)]
      by_cases h0 : (i : Int) > 0
      · obtain ⟨p0, p1⟩ := h3 (by omega)
        have hw : wrap64 ((i : Int) - 1) = ((i - 1 : Nat) : Int) := by rw [wrap_in (by omega) (by omega)]; omega
        rw [if_pos h0, hw, if_pos (by omega), if_pos (by omega), if_neg (by omega), decide_eq_false (by omega)]
      · rw [if_neg h0]
    · refine Ev.step (f := fun k => fairwayref10_Seg.l0 k ((i + 1 : Nat) : Int) base l) (fun k => ?_) hr
      simp only [fairwayref10_Seg.j2]
      rw [if_neg (by decide), wrap_in (by omega) (by omega)]
      rfl
theorem ref_stop (base : Int) (l : List R) (hm : l.length ≤ 9223372036854775806) (i : Nat) (hi : i < l.length) (h : ¬ okAt base l i) : Ev (fun k => fairwayref10_Seg.l0 k i base l) false := by
  refine Ev.step (f := fun k => fairwayref10_Seg.j1 k i base l) (fun k => ?_) ?_
  · simp only [fairwayref10_Seg.l0]
    rw [if_pos (by omega)]
  · refine Ev.step (f := fun k => fairwayref10_Seg.j2 k i true base l) (fun k => ?_) (j2_no base l i)
    simp only [fairwayref10_Seg.j1]
    rw [if_pos (by omega), if_pos (by omega)]
    by_cases h1 : recOk (rd_T25 l i)
    · rw [rec_yes _ h1]
      simp only [Option.bind_some]
      rw [if_pos trivial]
      by_cases h2 : (rd_T25 l i).f0 < base
      · rw [if_pos h2]
      rw [if_neg h2]
      by_cases h0 : (i : Int) > 0
      · have hw : wrap64 ((i : Int) - 1) = ((i - 1 : Nat) : Int) := by rw [wrap_in (by omega) (by omega)]; omega
        rw [if_pos h0, hw, if_pos (by omega), if_pos (by omega)]
        by_cases p0 : (rd_T25 l (i - 1 : Nat)).f0 ≥ (rd_T25 l i).f0
        · rw [if_pos p0]
        · rw [if_neg p0]
          by_cases p1 : (rd_T25 l (i - 1 : Nat)).f1 > (rd_T25 l i).f1
          · rw [decide_eq_true p1]
          · exact absurd ⟨h1, by omega, fun _ => ⟨by omega, by omega⟩⟩ h
      · exact absurd ⟨h1, by omega, fun g => by omega⟩ h
    · rw [rec_no _ h1]
      simp only [Option.bind_some]
      rw [if_neg (by decide)]
theorem ref_loop (base : Int) (l : List R) (hm : l.length ≤ 9223372036854775806) (n : Nat) (hn : n ≤ l.length) (hok : ∀ i, i < n → okAt base l i) {r : Bool} (hr : Ev (fun k => fairwayref10_Seg.l0 k n base l) r) : ∀ (d i : Nat), n = i + d →
    Ev (fun k => fairwayref10_Seg.l0 k i base l) r
  | 0, i, h => by
    obtain rfl : n = i := by omega
    exact hr
  | d + 1, i, h => ref_step base l hm i (by omega) (hok i (by omega)) (ref_loop base l hm n hn hok hr d (i + 1) (by omega))
theorem ref_end (base : Int) (l : List R) : Ev (fun k => fairwayref10_Seg.l0 k l.length base l) (decide (0 ≤ base ∧ base ≤ 1099511627776) && decide (l.length ≤ 200)) := by
  refine Ev.step (f := fun _ => some _) (fun k => ?_) (Ev.now _)
  simp only [fairwayref10_Seg.l0]
  rw [if_neg (by omega), num_f]
  simp only [Option.bind_some]
  by_cases h : 0 ≤ base ∧ base ≤ 1099511627776
  · rw [if_pos (by simpa using h), decide_eq_true h]
    simp only [Bool.true_and, Option.some.injEq, decide_eq_decide]
    omega
  · rw [if_neg (by simpa using h), decide_eq_false h]
    rfl
theorem refseg_yes (base : Int) (l : List R) (h : segOk base l) : Ev (fun k => fairwayref10_Seg.f k base l) true := by
  obtain ⟨h0, h1, h2, h3⟩ := h
  have e := ref_end base l
  rw [decide_eq_true ⟨h0, h1⟩, decide_eq_true h2] at e
  exact ref_loop base l (by omega) l.length (Nat.le_refl _) h3 e l.length 0 (by omega)
theorem refseg_no (base : Int) (l : List R) (hm : l.length ≤ 9223372036854775806) (h : ¬ segOk base l) : Ev (fun k => fairwayref10_Seg.f k base l) false := by
  by_cases e : ∃ i, i < l.length ∧ ¬ okAt base l i
  · obtain ⟨j, hj, hbad, hok⟩ := least l.length e
    exact ref_loop base l hm j (by omega) hok (ref_stop base l hm j hj hbad) j 0 (by omega)
  · have e' : ∀ i, i < l.length → okAt base l i := fun i hi => Classical.byContradiction fun hn => e ⟨i, hi, hn⟩
    have z := ref_end base l
    have : (decide (0 ≤ base ∧ base ≤ 1099511627776) && decide (l.length ≤ 200)) = false := by
      rw [Bool.and_eq_false_iff]
      by_cases hb : 0 ≤ base ∧ base ≤ 1099511627776
      · right
        exact decide_eq_false fun hl => h ⟨hb.1, hb.2, hl, e'⟩
      · left
        exact decide_eq_false hb
    rw [this] at z
    exact ref_loop base l hm l.length (Nat.le_refl _) e' z l.length 0 (by omega)
end Go.Proofs.Ytmabdfdmccbfnaa.USeg

-- written by a program of the proving session, out of the translation; Lean checks it
namespace Go.Proofs.Ytmabdfdmccbfnaa.P
open Go.RowKit Go.Proofs.Ytmabdfdmccbfnaa.Sq Go.Proofs.YtmabdfdmccbfnaaW.PrintWords Go.Proofs.YtmabdfdmccbfnaaW.PrintLast Go.Proofs.YtmabdfdmccbfnaaW.PrintMore
attribute [local go_sem] max2_int min2_int max_two min_two max_three min_three max_four min_four   -- for this text's walks alone
set_option linter.unusedVariables false
set_option linter.unusedSimpArgs false

/-! ### vbi_high: function 81 -/
mutual
def vbi_high.j0 : Nat → Int → Int → Bool → Option (ByteArray × Int)
 | 0, _, _, _ => none
 | k + 1, x0, x1, x16 => if x16 = true then (some ((⟨#[]⟩ : ByteArray), 2)) else (if 0 ≤ x1 then (if (x1 : Int).toNat ≤ 281474976710656 then ((some (List.replicate (x1 : Int).toNat 0 : List Int)).bind fun y102 => (vbi_high.l0 k x0 x1 y102 (y102.length : Int) 0)) else (none)) else (none))
def vbi_high.l0 : Nat → Int → Int → List Int → Int → Int → Option (ByteArray × Int)
 | 0, _, _, _, _, _ => none
 | k + 1, x0, x1, x6, x20, x21 => if x21 < x20 then (if 0 ≤ (wrap64 (8 * x21)) then (if 0 ≤ (wrap64 ((wrap64 (x1 - 1)) - x21)) then (if (wrap64 ((wrap64 (x1 - 1)) - x21)) < (x6.length : Int) then (vbi_high.l0 k x0 x1 (x6.set ((wrap64 ((wrap64 (x1 - 1)) - x21)) : Int).toNat ((shr .i64 x0 (wrap64 (8 * x21))) % 256)) x20 (wrap64 (x21 + 1))) else (none)) else (none)) else (none)) else (some (strOfNums x6, 0))
end
def vbi_high.f (k : Nat) (a0 : Int) (a1 : Int) : Option (ByteArray × Int) := if a0 < 0 then (vbi_high.j0 k a0 a1 true) else (if 0 ≤ (wrap64 (8 * a1)) then (vbi_high.j0 k a0 a1 ((shr .i64 a0 (wrap64 (8 * a1))) != 0)) else (none))
theorem vbi_high.mono_l : ∀ k, (∀ y0 y1 y2, LeO (vbi_high.j0 k y0 y1 y2) (vbi_high.j0 (k + 1) y0 y1 y2)) ∧ (∀ y0 y1 y2 y3 y4, LeO (vbi_high.l0 k y0 y1 y2 y3 y4) (vbi_high.l0 (k + 1) y0 y1 y2 y3 y4))
 | 0 => ⟨fun _ _ _ r h => by simp [vbi_high.j0] at h, fun _ _ _ _ _ r h => by simp [vbi_high.l0] at h⟩
 | k + 1 => by
  obtain ⟨ih0, ih1⟩ := vbi_high.mono_l k
  refine ⟨?_, ?_⟩
  ·intro y0 y1 y2
   unfold vbi_high.j0
   repeat' first
   | (with_reducible exact ih0 _ _ _)
   | (with_reducible exact ih1 _ _ _ _ _)
   | (with_reducible exact LeO.refl _)
   | (with_reducible exact LeO.none _)
   | (with_reducible refine LeO.ite ?_ ?_)
   | (with_reducible refine LeO.bind ?_ (fun _ => ?_))
   | exact ih0 _ _ _
   | exact ih1 _ _ _ _ _
   | exact LeO.none _
   | refine LeO.ite ?_ ?_
   | refine LeO.bind ?_ (fun _ => ?_)
  ·intro y0 y1 y2 y3 y4
   unfold vbi_high.l0
   repeat' first
   | (with_reducible exact ih0 _ _ _)
   | (with_reducible exact ih1 _ _ _ _ _)
   | (with_reducible exact LeO.refl _)
   | (with_reducible exact LeO.none _)
   | (with_reducible refine LeO.ite ?_ ?_)
   | (with_reducible refine LeO.bind ?_ (fun _ => ?_))
   | exact ih0 _ _ _
   | exact ih1 _ _ _ _ _
   | exact LeO.none _
   | refine LeO.ite ?_ ?_
   | refine LeO.bind ?_ (fun _ => ?_)
theorem vbi_high.mono : ∀ a0 a1 k, LeO (vbi_high.f k a0 a1) (vbi_high.f (k + 1) a0 a1) := by
 intro a0 a1 k
 obtain ⟨ih0, ih1⟩ := vbi_high.mono_l k
 unfold vbi_high.f
 repeat' first
  | (with_reducible exact ih0 _ _ _)
  | (with_reducible exact ih1 _ _ _ _ _)
  | (with_reducible exact LeO.refl _)
  | (with_reducible exact LeO.none _)
  | (with_reducible refine LeO.ite ?_ ?_)
  | (with_reducible refine LeO.bind ?_ (fun _ => ?_))
  | exact ih0 _ _ _
  | exact ih1 _ _ _ _ _
  | exact LeO.none _
  | refine LeO.ite ?_ ?_
  | refine LeO.bind ?_ (fun _ => ?_)
set_option maxHeartbeats 8000000 in
set_option maxRecDepth 100000 in
theorem vbi_high.calls (k : Nat) (a0 : Int) (a1 : Int) (r1 : ByteArray) (r2 : Int) (w : World) (h : vbi_high.f k a0 a1 = some (r1, r2)) :
 Calls Try.prog 81 #[.int .i64 a0, .int .i64 a1] w fun e w' => e = .returned (.tuple #[.string r1, .int .i64 r2]) ∧ Below w.heap.size w w' := by
 have HB := Aside0.mk (Below.refl w.heap.size w)
 have H : (if a0 < 0 then (vbi_high.j0 k a0 a1 true) else (if 0 ≤ (wrap64 (8 * a1)) then (vbi_high.j0 k a0 a1 ((shr .i64 a0 (wrap64 (8 * a1))) != 0)) else (none))) = some (r1, r2) := h
 clear h
 have HC3 := Aside0.mk H
 clear H
 go_enter Try.func81, Try.ntmps81
 go_upto_region 1 with (fail)
 go_cut [16] (fun v16 wc => ∃ (kq : Nat) (x16_2 : Bool), v16 = .bool x16_2 ∧ Aside0 (vbi_high.j0 kq a0 a1 x16_2 = some (r1, r2)) ∧ Aside0 (kq ≤ k) ∧ Aside0 (Below w.heap.size w wc))
 case first =>
  have H := HC3.out
  clear HC3
  by_cases c4 : a0 < 0
  ·rw [if_pos c4] at H
   have c4b0 : decide (a0 < 0) = true := decide_eq_true c4
   clear c4
   (first | rw [c4b0] | (simp only [i64_w, i32_w]; rw [c4b0]) | skip)
   have H' := Aside0.mk H
   clear H
   go_wp2
   go_meet
   case rel => exact ⟨_, (true), ap, H', ⟨by first | omega | exact Nat.le_refl _⟩, ⟨bo⟩⟩
  ·rw [if_neg c4] at H
   have c4b0 : decide (a0 < 0) = false := decide_eq_false c4
   clear c4
   (first | rw [c4b0] | (simp only [i64_w, i32_w]; rw [c4b0]) | skip)
   obtain ⟨ji5, hji5⟩ : ∃ j_ : Int, (wrap64 (8 * a1)) = j_ := ⟨_, rfl⟩
   replace H : (if 0 ≤ (ji5) then (vbi_high.j0 k a0 a1 ((shr .i64 a0 (ji5)) != 0)) else (none)) = some (r1, r2) := by first | (rw [hji5] at H; exact H) | (simp only [hji5] at H ⊢; exact H)
   have hji5w : (IntKind.i64.wrap (8 * a1)) = ji5 := (i64_w _).trans hji5
   by_cases c6 : 0 ≤ (ji5)
   ·rw [if_pos c6] at H
    have c6b0 := eq_true c6
    have c6b1 : decide (0 ≤ (ji5)) = true := decide_eq_true c6
    clear c6
    obtain ⟨ji7, hji7⟩ : ∃ j_ : Int, (shr .i64 a0 (ji5)) = j_ := ⟨_, rfl⟩
    replace H : (vbi_high.j0 k a0 a1 ((ji7) != 0)) = some (r1, r2) := by first | (rw [hji7] at H; exact H) | (simp only [hji7] at H ⊢; exact H)
    have hji7_ : (a0 / 2 ^ min (ji5).toNat 64) = ji7 := hji7
    have hji7z : (ji5) ≤ 64 → (a0 / 2 ^ (ji5).toNat) = ji7 := shr_small hji7
    have H' := Aside0.mk H
    clear H
    go_wp2
    go_meet
    case rel => exact ⟨_, (((ji7) != 0)), (by first | rfl | (simp; done) | (simp only [← hji7] <;> (first | rfl | simp)) | (simp [*]; done)), H', ⟨by first | omega | exact Nat.le_refl _⟩, ⟨bo⟩⟩
   ·rw [if_neg c6] at H
    exact absurd H (by simp)
 case rest =>
  clear HC3
  try clear p2
  try clear c4
  try clear c4b0
  try clear c6
  try clear c6b0
  try clear c6b1
  try clear p6
  obtain ⟨kq, x16_2, rfl, HA, HJ2, HB⟩ := hcut
  cases kq with
  | zero => exact absurd HA.out (by simp [vbi_high.j0])
  | succ kj2 =>
   have H := HA.out
   clear HA
   simp only [vbi_high.j0] at H
   by_cases c8 : x16_2 = true
   ·subst c8
    have H1 : (some ((⟨#[]⟩ : ByteArray), 2)) = some (r1, r2) := by rw [if_pos rfl] at H; exact H
    clear H
    have H := H1
    clear H1
    simp only [Option.some.injEq, Prod.mk.injEq] at H
    obtain ⟨rfl, rfl⟩ := H
    go_wp2
    go_ret2
    exact ⟨er, bo⟩
   ·replace c8 := Bool.eq_false_iff.mpr c8
    subst c8
    have H1 : (if 0 ≤ a1 then (if (a1 : Int).toNat ≤ 281474976710656 then ((some (List.replicate (a1 : Int).toNat 0 : List Int)).bind fun y102 => (vbi_high.l0 kj2 a0 a1 y102 (y102.length : Int) 0)) else (none)) else (none)) = some (r1, r2) := by rw [if_neg (show ¬ (false = true) by decide)] at H; exact H
    clear H
    have H := H1
    clear H1
    by_cases c9 : 0 ≤ a1
    ·rw [if_pos c9] at H
     have c9b0 := eq_true c9
     have c9b1 : decide (0 ≤ a1) = true := decide_eq_true c9
     clear c9
     by_cases c10 : (a1 : Int).toNat ≤ 281474976710656
     ·rw [if_pos c10] at H
      have c10b0 := eq_true c10
      have c10b1 : decide ((a1 : Int).toNat ≤ 281474976710656) = true := decide_eq_true c10
      clear c10
      obtain ⟨y102, hy102⟩ : ∃ y_ : List Int, y_ = (List.replicate (a1 : Int).toNat 0) := ⟨_, rfl⟩
      replace H : (vbi_high.l0 kj2 a0 a1 y102 (y102.length : Int) 0) = some (r1, r2) := by first | (rw [hy102]; with_reducible exact H) | (have H2_ := (Option.bind_some _ _).symm.trans H; rw [hy102]; with_reducible exact H2_) | (have H2_ := (Option.bind_some _ _).symm.trans H; with_reducible exact H2_) | with_reducible exact H | (rw [hy102]; exact H) | exact H
      have Ny102 := Aside0.mk hy102
      clear hy102
      have H' := Aside0.mk H
      clear H
      go_wp2_with (first | ((with_reducible refine gate_dst (N := 18) rfl ?_); refine Kd.R_make (Kd.int .u8) _ 5 rfl (N := 18) rfl 23 _ _ rfl a1 rfl rfl Try.underlying23 (.int .u8 0) 1 info5 rfl (by decide) (by omega) 0 (ok := fun _ => True) (okp := fun _ => True) rfl (fun _ hk => hk) trivial (od) (Nat.le_trans (Nat.mul_le_mul_right _ (od : a1.toNat ≤ 281474976710656)) (by omega)) (Below.refl _ _) (Nat.le_refl _) ?_; intro v103 w11 ho12 hb hg_ hnew_; clear hg_ hnew_; (first | rw [← Ny102.out] at ho12 | (simp only [Int.reduceToNat] at ho12; rw [← Ny102.out] at ho12)); have HO104 := Aside0.mk (Kd.R_lower ho12 (below_size bo)); replace HB := Aside0.mk (below_step bo hb); clear hb ho12; obtain ⟨Ao13, co13, eo13⟩ := Kd.R_slice HO104.out; subst eo13))
      go_loopg [21] kj2 (fun kq v21 w' => ∃ (x6_2 : List Int) (x21_2 : Int), v21 = .int .i64 x21_2 ∧ Aside0 (vbi_high.l0 kq a0 a1 x6_2 (y102.length : Int) x21_2 = some (r1, r2)) ∧ Aside0 (kq ≤ kj2) ∧ Aside0 (Kd.R (Kd.int .u8) 5 w' w.heap.size (fun _ => True) (.slice Ao13 y102.length co13) x6_2) ∧ Aside0 (Below w.heap.size w w'))
      case atStart => exact ⟨(y102), (0), ap, H', ⟨Nat.le_refl _⟩, ⟨by (with_reducible repeat (first | apply Kd.R_alloc | apply Kd.R_drewN | apply Kd.R_drew)); exact HO104.out⟩, ⟨bo⟩⟩
      case round =>
       clear H'
       try clear c1
       try clear p2
       try clear c4
       try clear c4b0
       try clear c6
       try clear c6b0
       try clear c6b1
       try clear p6
       try clear c8
       try clear c9
       try clear c9b0
       try clear c9b1
       try clear c10
       try clear c10b0
       try clear c10b1
       try clear p2
       try clear p6
       obtain ⟨x6_2, x21_2, rfl, HA, HK2, HO_6, HB⟩ := hrel
       have hl6_2 := (Kd.R_reads' HO_6.out).1
       rw [hl6_2] at HO_6
       (try simp only [hl6_2])
       cases gk with
       | zero => exact absurd HA.out (by simp [vbi_high.l0])
       | succ k2 =>
        have H := HA.out
        clear HA
        simp only [vbi_high.l0] at H
        by_cases c14 : x21_2 < (y102.length : Int)
        ·rw [if_pos c14] at H
         have c14b0 : decide (x21_2 < (y102.length : Int)) = true := decide_eq_true c14
         (try (have c14z0hl6_2 := c14b0; rw [hl6_2] at c14z0hl6_2))
         clear c14
         obtain ⟨ji15, hji15⟩ : ∃ j_ : Int, (wrap64 (8 * x21_2)) = j_ := ⟨_, rfl⟩
         replace H : (if 0 ≤ (ji15) then (if 0 ≤ (wrap64 ((wrap64 (a1 - 1)) - x21_2)) then (if (wrap64 ((wrap64 (a1 - 1)) - x21_2)) < (x6_2.length : Int) then (vbi_high.l0 k2 a0 a1 (x6_2.set ((wrap64 ((wrap64 (a1 - 1)) - x21_2)) : Int).toNat ((shr .i64 a0 (ji15)) % 256)) (y102.length : Int) (wrap64 (x21_2 + 1))) else (none)) else (none)) else (none)) = some (r1, r2) := by first | (rw [hji15] at H; exact H) | (simp only [hji15] at H ⊢; exact H)
         have hji15w : (IntKind.i64.wrap (8 * x21_2)) = ji15 := (i64_w _).trans hji15
         by_cases c16 : 0 ≤ (ji15)
         ·rw [if_pos c16] at H
          have c16b0 := eq_true c16
          have c16b1 : decide (0 ≤ (ji15)) = true := decide_eq_true c16
          clear c16
          obtain ⟨ji17, hji17⟩ : ∃ j_ : Int, (shr .i64 a0 (ji15)) = j_ := ⟨_, rfl⟩
          replace H : (if 0 ≤ (wrap64 ((wrap64 (a1 - 1)) - x21_2)) then (if (wrap64 ((wrap64 (a1 - 1)) - x21_2)) < (x6_2.length : Int) then (vbi_high.l0 k2 a0 a1 (x6_2.set ((wrap64 ((wrap64 (a1 - 1)) - x21_2)) : Int).toNat ((ji17) % 256)) (y102.length : Int) (wrap64 (x21_2 + 1))) else (none)) else (none)) = some (r1, r2) := by first | (rw [hji17] at H; exact H) | (simp only [hji17] at H ⊢; exact H)
          have hji17_ : (a0 / 2 ^ min (ji15).toNat 64) = ji17 := hji17
          have hji17z : (ji15) ≤ 64 → (a0 / 2 ^ (ji15).toNat) = ji17 := shr_small hji17
          obtain ⟨ji18, hji18⟩ : ∃ j_ : Int, (wrap64 ((wrap64 (a1 - 1)) - x21_2)) = j_ := ⟨_, rfl⟩
          replace H : (if 0 ≤ (ji18) then (if (ji18) < (x6_2.length : Int) then (vbi_high.l0 k2 a0 a1 (x6_2.set ((ji18) : Int).toNat ((ji17) % 256)) (y102.length : Int) (wrap64 (x21_2 + 1))) else (none)) else (none)) = some (r1, r2) := by first | (rw [hji18] at H; exact H) | (simp only [hji18] at H ⊢; exact H)
          have hji18w : (IntKind.i64.wrap ((wrap64 (a1 - 1)) - x21_2)) = ji18 := (i64_w _).trans hji18
          by_cases c19 : 0 ≤ (ji18)
          ·rw [if_pos c19] at H
           have c19b0 : decide (0 ≤ (ji18)) = true := decide_eq_true c19
           clear c19
           by_cases c20 : (ji18) < (x6_2.length : Int)
           ·rw [if_pos c20] at H
            have c20b0 : decide ((ji18) < (x6_2.length : Int)) = true := decide_eq_true c20
            (try (have c20z0hl6_2 := c20b0; rw [hl6_2] at c20z0hl6_2))
            clear c20
            obtain ⟨y105, hy105⟩ : ∃ y_ : List Int, y_ = (x6_2.set ((ji18) : Int).toNat ((ji17) % 256)) := ⟨_, rfl⟩
            replace H : (vbi_high.l0 k2 a0 a1 y105 (y102.length : Int) (wrap64 (x21_2 + 1))) = some (r1, r2) := by first | (rw [hy105]; with_reducible exact H) | (have H2_ := (Option.bind_some _ _).symm.trans H; rw [hy105]; with_reducible exact H2_) | (have H2_ := (Option.bind_some _ _).symm.trans H; with_reducible exact H2_) | with_reducible exact H | (rw [hy105]; exact H) | exact H
            have Ny105 := Aside0.mk hy105
            clear hy105
            have H' := Aside0.mk H
            clear H
            have p21 : 0 ≤ ((ji18) : Int) := od
            have q21 : ((ji18) : Int) < ((x6_2.length : Int) : Int) := od
            obtain ⟨go21, co21, eo21, gb21, gl21, cl21, HG21⟩ := Kd.R_form HO_6.out (by omega)
            (first | cases eo21 | (injection eo21 with ea_ en_ ec_; (first | subst ea_ | (injection ea_ with ea_; subst ea_)); subst ec_; clear en_))
            have GB21 := Aside0.mk gb21
            have GG21 := Aside0.mk HG21
            clear gb21 gl21 HG21
            obtain ⟨hx21_0, hf21_0⟩ := Kd.R_celln 0 HO_6.out ((ji18) : Int) p21 q21
            replace p21 := eq_true p21
            replace q21 := eq_true q21
            have HP22 := Kd.R_putg HO_6.out ((ji18) : Int) ((ji17) % 256)
            go_wp2_with (first | ((with_reducible refine gate_store (t := 5) (p := 34) rfl ?_); refine store_event (t := 5) (p := 34) (v := ?vo_w23) (w1 := (wr.setCell ⟨go21, ((ji18) : Int).toNat, none⟩ (.int .u8 ((ji17) % 256)))) ?hg ?ho ?hn ?hr ?_; (case ho => rfl); (case hg => rfl); (case hn => rfl); (case hr => first | (go_simp; done) | (go_simp; rfl)); intro w23 hw; have hg : wr.grownBy w23 (some go21) := (by rw [hw]; exact HP22.2); have hp_ : Kd.R (Kd.int .u8) 5 w23 w.heap.size (fun _ => True) (.slice (some ⟨go21, 0, none⟩) x6_2.length co13) y105 := (by rw [hw, Ny105.out]; exact HP22.1); clear HP22; replace HO_6 := Aside0.mk (hp_); replace HB := Aside0.mk ((by rw [hw]; exact below_set (HB.out) GB21.out : Below w.heap.size w w23)); clear hg hw hp_))
            (try simp only [← hl6_2])
            go_roundg k2
            case measure => have := HJ2.out; have := HK2.out; omega
            case rel => exact ⟨(y105), (wrap64 (x21_2 + 1)), ap, H', ⟨by have := HJ2.out; have := HK2.out; omega⟩, ⟨by (try simp only [hl6_2]); (with_reducible repeat (first | apply Kd.R_alloc | apply Kd.R_drewN | apply Kd.R_drew)); exact HO_6.out⟩, ⟨bo⟩⟩
           ·rw [if_neg c20] at H
            exact absurd H (by simp)
          ·rw [if_neg c19] at H
           exact absurd H (by simp)
         ·rw [if_neg c16] at H
          exact absurd H (by simp)
        ·rw [if_neg c14] at H
         have c14b0 : decide (x21_2 < (y102.length : Int)) = false := decide_eq_false c14
         (try (have c14z0hl6_2 := c14b0; rw [hl6_2] at c14z0hl6_2))
         clear c14
         simp only [Option.some.injEq, Prod.mk.injEq] at H
         obtain ⟨rfl, rfl⟩ := H
         have hcv24 := own_string (P := Try.prog) Try.underlying23 Try.underlying5 Try.underlying9 (Kd.own_of_R HO_6.out)
         go_wp2
         go_ret2
         exact ⟨er, bo⟩
     ·rw [if_neg c10] at H
      exact absurd H (by simp)
    ·rw [if_neg c9] at H
     exact absurd H (by simp)

end Go.Proofs.Ytmabdfdmccbfnaa.P

-- written by a program of the proving session, out of the translation; Lean checks it
namespace Go.Proofs.Ytmabdfdmccbfnaa.P
open Go.RowKit Go.Proofs.Ytmabdfdmccbfnaa.Sq Go.Proofs.YtmabdfdmccbfnaaW.PrintWords Go.Proofs.YtmabdfdmccbfnaaW.PrintLast Go.Proofs.YtmabdfdmccbfnaaW.PrintMore
attribute [local go_sem] max2_int min2_int max_two min_two max_three min_three max_four min_four   -- for this text's walks alone
set_option linter.unusedVariables false
set_option linter.unusedSimpArgs false

/-! ### vbi_Two: function 60 -/
def vbi_Two.f (k : Nat) (a0 : Int) : Option (ByteArray × Int) := (vbi_high.f k a0 2).bind fun bt106 => (some (bt106.1, bt106.2))
theorem vbi_Two.mono : ∀ a0 k, LeO (vbi_Two.f k a0) (vbi_Two.f (k + 1) a0) := by
 intro a0 k
 unfold vbi_Two.f
 repeat' first
  | (with_reducible exact vbi_high.mono _ _ _)
  | (with_reducible exact LeO.refl _)
  | (with_reducible exact LeO.none _)
  | (with_reducible refine LeO.ite ?_ ?_)
  | (with_reducible refine LeO.bind ?_ (fun _ => ?_))
  | exact vbi_high.mono _ _ _
  | exact LeO.none _
  | refine LeO.ite ?_ ?_
  | refine LeO.bind ?_ (fun _ => ?_)
set_option maxHeartbeats 8000000 in
set_option maxRecDepth 100000 in
theorem vbi_Two.calls (k : Nat) (a0 : Int) (r1 : ByteArray) (r2 : Int) (w : World) (h : vbi_Two.f k a0 = some (r1, r2)) :
 Calls Try.prog 60 #[.int .i64 a0] w fun e w' => e = .returned (.tuple #[.string r1, .int .i64 r2]) ∧ Below w.heap.size w w' := by
 have HB := Aside0.mk (Below.refl w.heap.size w)
 have H : ((vbi_high.f k a0 2).bind fun bt106 => (some (bt106.1, bt106.2))) = some (r1, r2) := h
 clear h
 replace H := Option.bind_eq_some_iff.mp H
 obtain ⟨⟨t106, t107⟩, A20, H⟩ := H
 replace H : (some (t106, t107)) = some (r1, r2) := H
 have A2 := Aside0.mk A20
 clear A20
 simp only [Option.some.injEq, Prod.mk.injEq] at H
 obtain ⟨rfl, rfl⟩ := H
 go_enter Try.func60, Try.ntmps60
 go_wp2_with (first | ((with_reducible refine gate_callee (f := 81) rfl ?_); refine goesL_ (some 5) rfl rfl Try.func81 (by kernel_rfl) rfl #[.int .i64 a0, .int .i64 2] rfl aa ?_; (with_reducible refine (vbi_high.calls k a0 2 t106 t107 _ A2.out).mono ?_); rintro e w3 ⟨rfl, hb⟩; refine ⟨_, rfl, ?_⟩; replace HB := Aside0.mk (below_step bo hb); (try clear hb); (try clear hb2); (try clear hk); (try clear hi)))
 go_ret2
 exact ⟨er, bo⟩

end Go.Proofs.Ytmabdfdmccbfnaa.P

-- written by a program of the proving session, out of the translation; Lean checks it
namespace Go.Proofs.Ytmabdfdmccbfnaa.P
open Go.RowKit Go.Proofs.Ytmabdfdmccbfnaa.Sq Go.Proofs.YtmabdfdmccbfnaaW.PrintWords Go.Proofs.YtmabdfdmccbfnaaW.PrintLast Go.Proofs.YtmabdfdmccbfnaaW.PrintMore
attribute [local go_sem] max2_int min2_int max_two min_two max_three min_three max_four min_four   -- for this text's walks alone
set_option linter.unusedVariables false
set_option linter.unusedSimpArgs false

/-! ### vbi_Four: function 62 -/
def vbi_Four.f (k : Nat) (a0 : Int) : Option (ByteArray × Int) := (vbi_high.f k a0 4).bind fun bt108 => (some (bt108.1, bt108.2))
theorem vbi_Four.mono : ∀ a0 k, LeO (vbi_Four.f k a0) (vbi_Four.f (k + 1) a0) := by
 intro a0 k
 unfold vbi_Four.f
 repeat' first
  | (with_reducible exact vbi_high.mono _ _ _)
  | (with_reducible exact LeO.refl _)
  | (with_reducible exact LeO.none _)
  | (with_reducible refine LeO.ite ?_ ?_)
  | (with_reducible refine LeO.bind ?_ (fun _ => ?_))
  | exact vbi_high.mono _ _ _
  | exact LeO.none _
  | refine LeO.ite ?_ ?_
  | refine LeO.bind ?_ (fun _ => ?_)
set_option maxHeartbeats 8000000 in
set_option maxRecDepth 100000 in
theorem vbi_Four.calls (k : Nat) (a0 : Int) (r1 : ByteArray) (r2 : Int) (w : World) (h : vbi_Four.f k a0 = some (r1, r2)) :
 Calls Try.prog 62 #[.int .i64 a0] w fun e w' => e = .returned (.tuple #[.string r1, .int .i64 r2]) ∧ Below w.heap.size w w' := by
 have HB := Aside0.mk (Below.refl w.heap.size w)
 have H : ((vbi_high.f k a0 4).bind fun bt108 => (some (bt108.1, bt108.2))) = some (r1, r2) := h
 clear h
 replace H := Option.bind_eq_some_iff.mp H
 obtain ⟨⟨t108, t109⟩, A20, H⟩ := H
 replace H : (some (t108, t109)) = some (r1, r2) := H
 have A2 := Aside0.mk A20
 clear A20
 simp only [Option.some.injEq, Prod.mk.injEq] at H
 obtain ⟨rfl, rfl⟩ := H
 go_enter Try.func62, Try.ntmps62
 go_wp2_with (first | ((with_reducible refine gate_callee (f := 81) rfl ?_); refine goesL_ (some 5) rfl rfl Try.func81 (by kernel_rfl) rfl #[.int .i64 a0, .int .i64 4] rfl aa ?_; (with_reducible refine (vbi_high.calls k a0 4 t108 t109 _ A2.out).mono ?_); rintro e w3 ⟨rfl, hb⟩; refine ⟨_, rfl, ?_⟩; replace HB := Aside0.mk (below_step bo hb); (try clear hb); (try clear hb2); (try clear hk); (try clear hi)))
 go_ret2
 exact ⟨er, bo⟩

end Go.Proofs.Ytmabdfdmccbfnaa.P

-- written by a program of the proving session, out of the translation; Lean checks it
namespace Go.Proofs.Ytmabdfdmccbfnaa.P
open Go.RowKit Go.Proofs.Ytmabdfdmccbfnaa.Sq Go.Proofs.YtmabdfdmccbfnaaW.PrintWords Go.Proofs.YtmabdfdmccbfnaaW.PrintLast Go.Proofs.YtmabdfdmccbfnaaW.PrintMore
attribute [local go_sem] max2_int min2_int max_two min_two max_three min_three max_four min_four   -- for this text's walks alone
set_option linter.unusedVariables false
set_option linter.unusedSimpArgs false

/-! ### rec_eight: function 61 -/
def rec_eight.f (k : Nat) (a0 : Int) : Option (ByteArray) := (vbi_Four.f k (a0 / 4294967296)).bind fun bt110 => ((vbi_Four.f k (Go.bits .and .i64 a0 4294967295)).bind fun bt112 => (if bt110.1.size + bt112.1.size ≤ 9223372036854775807 then (some (bt110.1 ++ bt112.1)) else (none)))
theorem rec_eight.mono : ∀ a0 k, LeO (rec_eight.f k a0) (rec_eight.f (k + 1) a0) := by
 intro a0 k
 unfold rec_eight.f
 repeat' first
  | (with_reducible exact vbi_Four.mono _ _)
  | (with_reducible exact LeO.refl _)
  | (with_reducible exact LeO.none _)
  | (with_reducible refine LeO.ite ?_ ?_)
  | (with_reducible refine LeO.bind ?_ (fun _ => ?_))
  | exact vbi_Four.mono _ _
  | exact LeO.none _
  | refine LeO.ite ?_ ?_
  | refine LeO.bind ?_ (fun _ => ?_)
set_option maxHeartbeats 8000000 in
set_option maxRecDepth 100000 in
theorem rec_eight.calls (k : Nat) (a0 : Int) (r : ByteArray) (w : World) (h : rec_eight.f k a0 = some r) :
 Calls Try.prog 61 #[.int .i64 a0] w fun e w' => e = .returned (.string r) ∧ Below w.heap.size w w' := by
 have HB := Aside0.mk (Below.refl w.heap.size w)
 have H : ((vbi_Four.f k (a0 / 4294967296)).bind fun bt110 => ((vbi_Four.f k (Go.bits .and .i64 a0 4294967295)).bind fun bt112 => (if bt110.1.size + bt112.1.size ≤ 9223372036854775807 then (some (bt110.1 ++ bt112.1)) else (none)))) = some r := h
 clear h
 replace H := Option.bind_eq_some_iff.mp H
 obtain ⟨⟨t110, t111⟩, A20, H⟩ := H
 replace H : ((vbi_Four.f k (Go.bits .and .i64 a0 4294967295)).bind fun bt112 => (if t110.size + bt112.1.size ≤ 9223372036854775807 then (some (t110 ++ bt112.1)) else (none))) = some r := H
 have A2 := Aside0.mk A20
 clear A20
 replace H := Option.bind_eq_some_iff.mp H
 obtain ⟨⟨t112, t113⟩, A30, H⟩ := H
 replace H : (if t110.size + t112.size ≤ 9223372036854775807 then (some (t110 ++ t112)) else (none)) = some r := H
 have A3 := Aside0.mk A30
 clear A30
 by_cases c4 : t110.size + t112.size ≤ 9223372036854775807
 ·rw [if_pos c4] at H
  have c4b0 := eq_true c4
  have c4b1 : decide (t110.size + t112.size ≤ 9223372036854775807) = true := decide_eq_true c4
  try have c4b2 : (9223372036854775807 < t110.size + t112.size) = False := eq_false (Nat.not_lt.2 c4)
  obtain rfl := Option.some.inj H
  go_enter Try.func61, Try.ntmps61
  go_wp2_with (first | ((with_reducible refine gate_callee (f := 62) rfl ?_); refine goesL_ (some 10) rfl rfl Try.func62 (by kernel_rfl) rfl #[.int .i64 (a0 / 4294967296)] rfl aa ?_; (with_reducible refine (vbi_Four.calls k (a0 / 4294967296) t110 t111 _ A2.out).mono ?_); rintro e w5 ⟨rfl, hb⟩; refine ⟨_, rfl, ?_⟩; replace HB := Aside0.mk (below_step bo hb); (try clear hb); (try clear hb2); (try clear hk); (try clear hi)) | ((with_reducible refine gate_callee (f := 62) rfl ?_); refine goesL_ (some 16) rfl rfl Try.func62 (by kernel_rfl) rfl #[.int .i64 (Go.bits .and .i64 a0 4294967295)] rfl aa ?_; (with_reducible refine (vbi_Four.calls k (Go.bits .and .i64 a0 4294967295) t112 t113 _ A3.out).mono ?_); rintro e w6 ⟨rfl, hb⟩; refine ⟨_, rfl, ?_⟩; replace HB := Aside0.mk (below_step bo hb); (try clear hb); (try clear hb2); (try clear hk); (try clear hi)))
  go_ret
  exact ⟨er, bo⟩
 ·rw [if_neg c4] at H
  exact absurd H (by simp)

end Go.Proofs.Ytmabdfdmccbfnaa.P

-- written by a program of the proving session, out of the translation; Lean checks it
namespace Go.Proofs.Ytmabdfdmccbfnaa.P
open Go.RowKit Go.Proofs.Ytmabdfdmccbfnaa.Sq Go.Proofs.YtmabdfdmccbfnaaW.PrintWords Go.Proofs.YtmabdfdmccbfnaaW.PrintLast Go.Proofs.YtmabdfdmccbfnaaW.PrintMore
attribute [local go_sem] max2_int min2_int max_two min_two max_three min_three max_four min_four   -- for this text's walks alone
set_option linter.unusedVariables false
set_option linter.unusedSimpArgs false

/-! ### sum_Sum: function 63 -/
mutual
def sum_Sum.l0 : Nat → Int → ByteArray → Int → Int → Option (Int)
 | 0, _, _, _, _ => none
 | k + 1, x0, x1, x9, x10 => if x10 < x9 then (if 0 ≤ x10 then (if x10 < (x1.size : Int) then (sum_Sum.l1 k (Go.bits .xor .u32 x0 ((bt x1 x10) % 4294967296)) x1 x9 x10 0) else (none)) else (none)) else (some (Go.bits .xor .u32 4294967295 x0))
def sum_Sum.l1 : Nat → Int → ByteArray → Int → Int → Int → Option (Int)
 | 0, _, _, _, _, _ => none
 | k + 1, x0, x1, x9, x10, x19 => if x19 < 8 then (sum_Sum.l1 k (Go.bits .xor .u32 (x0 / 2) (Go.bits .and .u32 2197175160 ((-(Go.bits .and .u32 x0 1)) % 4294967296))) x1 x9 x10 (wrap64 (x19 + 1))) else (sum_Sum.l0 k x0 x1 x9 (wrap64 (x10 + 1)))
end
def sum_Sum.f (k : Nat) (a0 : Int) (a1 : ByteArray) : Option (Int) := sum_Sum.l0 k (Go.bits .xor .u32 4294967295 a0) a1 (a1.size : Int) 0
theorem sum_Sum.mono_l : ∀ k, (∀ y0 y1 y2 y3, LeO (sum_Sum.l0 k y0 y1 y2 y3) (sum_Sum.l0 (k + 1) y0 y1 y2 y3)) ∧ (∀ y0 y1 y2 y3 y4, LeO (sum_Sum.l1 k y0 y1 y2 y3 y4) (sum_Sum.l1 (k + 1) y0 y1 y2 y3 y4))
 | 0 => ⟨fun _ _ _ _ r h => by simp [sum_Sum.l0] at h, fun _ _ _ _ _ r h => by simp [sum_Sum.l1] at h⟩
 | k + 1 => by
  obtain ⟨ih0, ih1⟩ := sum_Sum.mono_l k
  refine ⟨?_, ?_⟩
  ·intro y0 y1 y2 y3
   unfold sum_Sum.l0
   repeat' first
   | (with_reducible exact ih0 _ _ _ _)
   | (with_reducible exact ih1 _ _ _ _ _)
   | (with_reducible exact LeO.refl _)
   | (with_reducible exact LeO.none _)
   | (with_reducible refine LeO.ite ?_ ?_)
   | (with_reducible refine LeO.bind ?_ (fun _ => ?_))
   | exact ih0 _ _ _ _
   | exact ih1 _ _ _ _ _
   | exact LeO.none _
   | refine LeO.ite ?_ ?_
   | refine LeO.bind ?_ (fun _ => ?_)
  ·intro y0 y1 y2 y3 y4
   unfold sum_Sum.l1
   repeat' first
   | (with_reducible exact ih0 _ _ _ _)
   | (with_reducible exact ih1 _ _ _ _ _)
   | (with_reducible exact LeO.refl _)
   | (with_reducible exact LeO.none _)
   | (with_reducible refine LeO.ite ?_ ?_)
   | (with_reducible refine LeO.bind ?_ (fun _ => ?_))
   | exact ih0 _ _ _ _
   | exact ih1 _ _ _ _ _
   | exact LeO.none _
   | refine LeO.ite ?_ ?_
   | refine LeO.bind ?_ (fun _ => ?_)
theorem sum_Sum.mono : ∀ a0 a1 k, LeO (sum_Sum.f k a0 a1) (sum_Sum.f (k + 1) a0 a1) := by
 intro a0 a1 k
 obtain ⟨ih0, ih1⟩ := sum_Sum.mono_l k
 unfold sum_Sum.f
 repeat' first
  | (with_reducible exact ih0 _ _ _ _)
  | (with_reducible exact ih1 _ _ _ _ _)
  | (with_reducible exact LeO.refl _)
  | (with_reducible exact LeO.none _)
  | (with_reducible refine LeO.ite ?_ ?_)
  | (with_reducible refine LeO.bind ?_ (fun _ => ?_))
  | exact ih0 _ _ _ _
  | exact ih1 _ _ _ _ _
  | exact LeO.none _
  | refine LeO.ite ?_ ?_
  | refine LeO.bind ?_ (fun _ => ?_)
set_option maxHeartbeats 8000000 in
set_option maxRecDepth 100000 in
theorem sum_Sum.calls (k : Nat) (a0 : Int) (a1 : ByteArray) (r : Int) (w : World) (h : sum_Sum.f k a0 a1 = some r) :
 Calls Try.prog 63 #[.int .u32 a0, .string a1] w fun e w' => e = .returned (.int .u32 r) ∧ Drawn0 w w' := by
 have H : (sum_Sum.l0 k (Go.bits .xor .u32 4294967295 a0) a1 (a1.size : Int) 0) = some r := h
 clear h
 have H' := Aside0.mk H
 clear H
 go_enter Try.func63, Try.ntmps63
 go_wp2
 go_loopg [0, 10] k (fun kq v0 v10 w' => ∃ (x0_1 : Int) (x10_1 : Int), v0 = .int .u32 x0_1 ∧ v10 = .int .i64 x10_1 ∧ Aside0 (sum_Sum.l0 kq x0_1 a1 (a1.size : Int) x10_1 = some r) ∧ Aside0 (kq ≤ k) ∧ Drawn0 w w')
 case atStart => exact ⟨(Go.bits .xor .u32 4294967295 a0), (0), ap, ap, H', ⟨Nat.le_refl _⟩, dr⟩
 case round =>
  clear H'
  try clear p2
  obtain ⟨x0_1, x10_1, rfl, rfl, HA, HK1, ⟨m1, rfl⟩⟩ := hrel
  cases gk with
  | zero => exact absurd HA.out (by simp [sum_Sum.l0])
  | succ k1 =>
   have H := HA.out
   clear HA
   simp only [sum_Sum.l0] at H
   by_cases c3 : x10_1 < (a1.size : Int)
   ·rw [if_pos c3] at H
    have c3b0 : decide (x10_1 < (a1.size : Int)) = true := decide_eq_true c3
    clear c3
    by_cases c4 : 0 ≤ x10_1
    ·rw [if_pos c4] at H
     have c4b0 : decide (0 ≤ x10_1) = true := decide_eq_true c4
     clear c4
     by_cases c5 : x10_1 < (a1.size : Int)
     ·rw [if_pos c5] at H
      have c5b0 : decide (x10_1 < (a1.size : Int)) = true := decide_eq_true c5
      clear c5
      have H' := Aside0.mk H
      clear H
      have p6 : 0 ≤ (x10_1 : Int) := od
      have q6 : x10_1 < (a1.size : Int) := od
      have hx6 := bt_at a1 x10_1
      replace p6 := eq_true p6
      replace q6 := eq_true q6
      go_wp2
      go_loopg [0, 19] k1 (fun kq v0 v19 w' => ∃ (x0_2 : Int) (x19_2 : Int), v0 = .int .u32 x0_2 ∧ v19 = .int .i64 x19_2 ∧ Aside0 (sum_Sum.l1 kq x0_2 a1 (a1.size : Int) x10_1 x19_2 = some r) ∧ Aside0 (kq ≤ k1) ∧ Drawn0 w w')
      case atStart => exact ⟨(Go.bits .xor .u32 x0_1 ((bt a1 x10_1) % 4294967296)), (0), ap, ap, H', ⟨Nat.le_refl _⟩, dr⟩
      case round =>
       clear H'
       try clear p2
       try clear c3
       try clear c3b0
       try clear c4
       try clear c4b0
       try clear c5
       try clear c5b0
       try clear c6
       try clear p6
       try clear q6
       try clear hx6
       try clear p2
       try clear p6
       try clear q6
       obtain ⟨x0_2, x19_2, rfl, rfl, HA, HK2, ⟨m2, rfl⟩⟩ := hrel
       cases gk with
       | zero => exact absurd HA.out (by simp [sum_Sum.l1])
       | succ k2 =>
        have H := HA.out
        clear HA
        simp only [sum_Sum.l1] at H
        by_cases c7 : x19_2 < 8
        ·rw [if_pos c7] at H
         have c7b0 : decide (x19_2 < 8) = true := decide_eq_true c7
         clear c7
         have H' := Aside0.mk H
         clear H
         go_wp2
         go_roundg k2
         case measure => have := HK1.out; have := HK2.out; omega
         case rel => exact ⟨(Go.bits .xor .u32 (x0_2 / 2) (Go.bits .and .u32 2197175160 ((-(Go.bits .and .u32 x0_2 1)) % 4294967296))), (wrap64 (x19_2 + 1)), ap, ap, H', ⟨by have := HK1.out; have := HK2.out; omega⟩, dr⟩
        ·rw [if_neg c7] at H
         have c7b0 : decide (x19_2 < 8) = false := decide_eq_false c7
         clear c7
         have H' := Aside0.mk H
         clear H
         go_wp2
         go_roundg k2
         case measure => have := HK1.out; have := HK2.out; omega
         case rel => exact ⟨(x0_2), (wrap64 (x10_1 + 1)), ap, ap, H', ⟨by have := HK1.out; have := HK2.out; omega⟩, dr⟩
     ·rw [if_neg c5] at H
      exact absurd H (by simp)
    ·rw [if_neg c4] at H
     exact absurd H (by simp)
   ·rw [if_neg c3] at H
    have c3b0 : decide (x10_1 < (a1.size : Int)) = false := decide_eq_false c3
    clear c3
    obtain rfl := Option.some.inj H
    go_wp2
    go_ret
    exact ⟨ap, dr⟩

end Go.Proofs.Ytmabdfdmccbfnaa.P

-- written by a program of the proving session, out of the translation; Lean checks it
namespace Go.Proofs.Ytmabdfdmccbfnaa.P
open Go.RowKit Go.Proofs.Ytmabdfdmccbfnaa.Sq Go.Proofs.YtmabdfdmccbfnaaW.PrintWords Go.Proofs.YtmabdfdmccbfnaaW.PrintLast Go.Proofs.YtmabdfdmccbfnaaW.PrintMore
attribute [local go_sem] max2_int min2_int max_two min_two max_three min_three max_four min_four   -- for this text's walks alone
set_option linter.unusedVariables false
set_option linter.unusedSimpArgs false

/-! ### rec_Bytes: function 14 -/
def rec_Bytes.j0 : Nat → Int → Int → Int → ByteArray → ByteArray → Int → Bool → Option (ByteArray × Int)
 | 0, _, _, _, _, _, _, _ => none
 | k + 1, x5, x115000, x115001, x115002, x115003, x115004, x115005 => (vbi_Two.f k (x115002.size : Int)).bind fun bt116 => ((rec_eight.f k x115000).bind fun t118 => ((rec_eight.f k x115001).bind fun t119 => (if t118.size + t119.size ≤ 9223372036854775807 then ((some (([x5] : List Int) : List Int)).bind fun y120 => (if (t118 ++ t119).size + (strOfNums y120).size ≤ 9223372036854775807 then (if ((t118 ++ t119) ++ (strOfNums y120)).size + bt116.1.size ≤ 9223372036854775807 then (if (((t118 ++ t119) ++ (strOfNums y120)) ++ bt116.1).size + x115002.size ≤ 9223372036854775807 then (if ((((t118 ++ t119) ++ (strOfNums y120)) ++ bt116.1) ++ x115002).size + x115003.size ≤ 9223372036854775807 then ((vbi_Two.f k ((((((t118 ++ t119) ++ (strOfNums y120)) ++ bt116.1) ++ x115002) ++ x115003).size : Int)).bind fun bt123 => ((sum_Sum.f k 0 bt123.1).bind fun t125 => ((sum_Sum.f k t125 (((((t118 ++ t119) ++ (strOfNums y120)) ++ bt116.1) ++ x115002) ++ x115003)).bind fun t126 => ((vbi_Four.f k (wrap64 (t126))).bind fun bt127 => (if bt123.1.size + bt127.1.size ≤ 9223372036854775807 then (if (bt123.1 ++ bt127.1).size + (((((t118 ++ t119) ++ (strOfNums y120)) ++ bt116.1) ++ x115002) ++ x115003).size ≤ 9223372036854775807 then (some ((bt123.1 ++ bt127.1) ++ (((((t118 ++ t119) ++ (strOfNums y120)) ++ bt116.1) ++ x115002) ++ x115003), 0)) else (none)) else (none)))))) else (none)) else (none)) else (none)) else (none))) else (none))))
def rec_Bytes.f (k : Nat) (a0_0 : Int) (a0_1 : Int) (a0_2 : ByteArray) (a0_3 : ByteArray) (a0_4 : Int) (a0_5 : Bool) : Option (ByteArray × Int) := (rec_Check.f k a0_0 a0_1 a0_2 a0_3 a0_4 a0_5).bind fun t115 => (if t115 = 0 then (if a0_5 = true then (rec_Bytes.j0 k (Go.bits .or .u8 ((a0_4) % 256) 4) a0_0 a0_1 a0_2 a0_3 a0_4 a0_5) else (rec_Bytes.j0 k ((a0_4) % 256) a0_0 a0_1 a0_2 a0_3 a0_4 a0_5)) else (some ((⟨#[]⟩ : ByteArray), t115)))
theorem rec_Bytes.mono_l : ∀ k, (∀ y0 y1 y2 y3 y4 y5 y6, LeO (rec_Bytes.j0 k y0 y1 y2 y3 y4 y5 y6) (rec_Bytes.j0 (k + 1) y0 y1 y2 y3 y4 y5 y6))
 | 0 => fun _ _ _ _ _ _ _ r h => by simp [rec_Bytes.j0] at h
 | k + 1 => by
  have ih0 := rec_Bytes.mono_l k
  ·intro y0 y1 y2 y3 y4 y5 y6
   unfold rec_Bytes.j0
   repeat' first
   | (with_reducible exact ih0 _ _ _ _ _ _ _)
   | (with_reducible exact rec_Check.mono _ _ _ _ _ _ _)
   | (with_reducible exact rec_eight.mono _ _)
   | (with_reducible exact sum_Sum.mono _ _ _)
   | (with_reducible exact vbi_Four.mono _ _)
   | (with_reducible exact vbi_Two.mono _ _)
   | (with_reducible exact LeO.refl _)
   | (with_reducible exact LeO.none _)
   | (with_reducible refine LeO.ite ?_ ?_)
   | (with_reducible refine LeO.bind ?_ (fun _ => ?_))
   | exact ih0 _ _ _ _ _ _ _
   | exact rec_Check.mono _ _ _ _ _ _ _
   | exact rec_eight.mono _ _
   | exact sum_Sum.mono _ _ _
   | exact vbi_Four.mono _ _
   | exact vbi_Two.mono _ _
   | exact LeO.none _
   | refine LeO.ite ?_ ?_
   | refine LeO.bind ?_ (fun _ => ?_)
theorem rec_Bytes.mono : ∀ a0 a1 a2 a3 a4 a5 k, LeO (rec_Bytes.f k a0 a1 a2 a3 a4 a5) (rec_Bytes.f (k + 1) a0 a1 a2 a3 a4 a5) := by
 intro a0 a1 a2 a3 a4 a5 k
 have ih0 := rec_Bytes.mono_l k
 unfold rec_Bytes.f
 repeat' first
  | (with_reducible exact ih0 _ _ _ _ _ _ _)
  | (with_reducible exact rec_Check.mono _ _ _ _ _ _ _)
  | (with_reducible exact rec_eight.mono _ _)
  | (with_reducible exact sum_Sum.mono _ _ _)
  | (with_reducible exact vbi_Four.mono _ _)
  | (with_reducible exact vbi_Two.mono _ _)
  | (with_reducible exact LeO.refl _)
  | (with_reducible exact LeO.none _)
  | (with_reducible refine LeO.ite ?_ ?_)
  | (with_reducible refine LeO.bind ?_ (fun _ => ?_))
  | exact ih0 _ _ _ _ _ _ _
  | exact rec_Check.mono _ _ _ _ _ _ _
  | exact rec_eight.mono _ _
  | exact sum_Sum.mono _ _ _
  | exact vbi_Four.mono _ _
  | exact vbi_Two.mono _ _
  | exact LeO.none _
  | refine LeO.ite ?_ ?_
  | refine LeO.bind ?_ (fun _ => ?_)
def rec_Bytes.T8 : Bool × List (List Nat × List Nat) := (true, [([], []), ([0], [0]), ([1], [1]), ([], []), ([3], [3]), ([4, 2], [4]), ([2, 5], [2, 5]), ([], []), ([7], [7]), ([8], [8]), ([6, 9], [6, 9]), ([], []), ([10, 11], [10, 11]), ([], []), ([13], [13]), ([12, 14], [12, 14]), ([], []), ([16], [16]), ([15, 17], [15, 17]), ([18, 5, 0, 1, 2, 3, 4, 5, 6, 7, 8, 9, 10, 11, 12, 13, 14, 15, 16, 17, 18], [18])])
def rec_Bytes.B8 : List Nat := [0, 1, 3, 0, 8, 31, 63, 0, 128, 384, 1023, 0, 4095, 0, 8192, 32767, 0, 65536, 262143, 524287]
theorem rec_Bytes.tab8 : rtab .any (opsOf Try.f14 8) = rec_Bytes.T8 := by kernel_rfl
theorem rec_Bytes.bits8 : waitsOk rec_Bytes.T8.2 rec_Bytes.B8 = true := by kernel_rfl
set_option maxHeartbeats 8000000 in
set_option maxRecDepth 100000 in
theorem rec_Bytes.calls (k : Nat) (a0_0 : Int) (a0_1 : Int) (a0_2 : ByteArray) (a0_3 : ByteArray) (a0_4 : Int) (a0_5 : Bool) (r1 : ByteArray) (r2 : Int) (w : World) (h : rec_Bytes.f k a0_0 a0_1 a0_2 a0_3 a0_4 a0_5 = some (r1, r2)) :
 Calls Try.prog 14 #[.agg #[.int .i64 a0_0, .int .i64 a0_1, .string a0_2, .string a0_3, .int .i64 a0_4, .bool a0_5]] w fun e w' => e = .returned (.tuple #[.string r1, .int .i64 r2]) ∧ Below w.heap.size w w' := by
 have hu25 := Try.underlying25
 have HB := Aside0.mk (Below.refl w.heap.size w)
 have H : ((rec_Check.f k a0_0 a0_1 a0_2 a0_3 a0_4 a0_5).bind fun t115 => (if t115 = 0 then (if a0_5 = true then (rec_Bytes.j0 k (Go.bits .or .u8 ((a0_4) % 256) 4) a0_0 a0_1 a0_2 a0_3 a0_4 a0_5) else (rec_Bytes.j0 k ((a0_4) % 256) a0_0 a0_1 a0_2 a0_3 a0_4 a0_5)) else (some ((⟨#[]⟩ : ByteArray), t115)))) = some (r1, r2) := h
 clear h
 replace H := Option.bind_eq_some_iff.mp H
 obtain ⟨t115, A20, H⟩ := H
 replace H : (if t115 = 0 then (if a0_5 = true then (rec_Bytes.j0 k (Go.bits .or .u8 ((a0_4) % 256) 4) a0_0 a0_1 a0_2 a0_3 a0_4 a0_5) else (rec_Bytes.j0 k ((a0_4) % 256) a0_0 a0_1 a0_2 a0_3 a0_4 a0_5)) else (some ((⟨#[]⟩ : ByteArray), t115))) = some (r1, r2) := H
 have A2 := Aside0.mk A20
 clear A20
 by_cases c3 : t115 = 0
 ·rw [if_pos c3] at H
  have c3b0 : (t115 == 0) = true := beq_iff_eq.mpr c3
  have c3b1 : (t115 != 0) = false := bne_eq_false_iff_eq.mpr c3
  clear c3
  have HC4 := Aside0.mk H
  clear H
  go_enter Try.func14, Try.ntmps14
  go_upto_if 22 with (first | ((with_reducible refine gate_dst (N := 1) rfl ?_); refine box_event ?hg (N := 1) ?hd (cs := #[.int .i64 a0_0, .int .i64 a0_1, .string a0_2, .string a0_3, .int .i64 a0_4, .bool a0_5]) (t := 25) ?hr ?_; (case hd => rfl); (case hg => rfl); (case hr => first | (go_simp; done) | (go_simp; rfl)); intro gb114 hg w5 hbox hb; have BK114 := Aside0.mk (hbox); have GW114 := Aside0.mk ((by rw [hg]; exact (below_size bo) : w.heap.size ≤ gb114)); have GE114 := Aside0.mk ((by rw [hg]; exact (below_size bo) : w.heap.size ≤ gb114)); replace HB := Aside0.mk (below_step bo hb); clear hb hbox hg; obtain ⟨hcz6_0, hcz6_1, hcz6_2, hcz6_3, hcz6_4, hcz6_5⟩ := cl6 BK114.out; obtain ⟨hfz6_0, hfz6_1, hfz6_2, hfz6_3, hfz6_4, hfz6_5⟩ := fz6 BK114.out) | ((with_reducible refine gate_callee (f := 22) rfl ?_); refine goesL_ (some 14) rfl rfl Try.func22 (by kernel_rfl) rfl #[.agg #[.int .i64 a0_0, .int .i64 a0_1, .string a0_2, .string a0_3, .int .i64 a0_4, .bool a0_5]] rfl aa ?_; (with_reducible refine (rec_Check.calls k a0_0 a0_1 a0_2 a0_3 a0_4 a0_5 t115 _ A2.out).mono ?_); rintro e w7 ⟨rfl, hb⟩; refine ⟨_, rfl, ?_⟩; replace BK114 := Aside0.mk (blk_below (g := gb114) (o := .cells #[.int .i64 a0_0, .int .i64 a0_1, .string a0_2, .string a0_3, .int .i64 a0_4, .bool a0_5] 25 (0, 0)) (bk BK114.out) hb); replace HB := Aside0.mk (below_step bo hb); (try clear hb); (try clear hb2); (try clear hk); (try clear hi); obtain ⟨hcz8_0, hcz8_1, hcz8_2, hcz8_3, hcz8_4, hcz8_5⟩ := cl6 BK114.out; obtain ⟨hfz8_0, hfz8_1, hfz8_2, hfz8_3, hfz8_4, hfz8_5⟩ := fz6 BK114.out))
  (try simp only [Act.put, List.setIfInBounds_toArray, List.set_cons_zero, List.set_cons_succ])
  go_cut [5] (fun v5 wc => ∃ (kq : Nat) (x5_3 : Int), v5 = .int .u8 x5_3 ∧ Aside0 (rec_Bytes.j0 kq x5_3 a0_0 a0_1 a0_2 a0_3 a0_4 a0_5 = some (r1, r2)) ∧ Aside0 (kq ≤ k) ∧ Aside0 (wc.heap[gb114]? = some (.cells #[.int .i64 a0_0, .int .i64 a0_1, .string a0_2, .string a0_3, .int .i64 a0_4, .bool a0_5] 25 (0, 0))) ∧ Aside0 (Below w.heap.size w wc))
  case first =>
   have H := HC4.out
   clear HC4
   by_cases c9 : a0_5 = true
   ·subst c9
    have H1 : (rec_Bytes.j0 k (Go.bits .or .u8 ((a0_4) % 256) 4) a0_0 a0_1 a0_2 a0_3 a0_4 true) = some (r1, r2) := by rw [if_pos rfl] at H; exact H
    clear H
    have H := H1
    clear H1
    have H' := Aside0.mk H
    clear H
    go_wp2
    go_meet
    case rel => exact ⟨_, (Go.bits .or .u8 ((a0_4) % 256) 4), ap, H', ⟨by first | omega | exact Nat.le_refl _⟩, ⟨by (with_reducible repeat (first | refine blk_drewN ?_ _ | refine blk_drew ?_ | refine blk_alloc ?_ _)); exact BK114.out⟩, ⟨bo⟩⟩
   ·replace c9 := Bool.eq_false_iff.mpr c9
    subst c9
    have H1 : (rec_Bytes.j0 k ((a0_4) % 256) a0_0 a0_1 a0_2 a0_3 a0_4 false) = some (r1, r2) := by rw [if_neg (show ¬ (false = true) by decide)] at H; exact H
    clear H
    have H := H1
    clear H1
    have H' := Aside0.mk H
    clear H
    go_wp2
    go_meet
    case rel => exact ⟨_, ((a0_4) % 256), ap, H', ⟨by first | omega | exact Nat.le_refl _⟩, ⟨by (with_reducible repeat (first | refine blk_drewN ?_ _ | refine blk_drew ?_ | refine blk_alloc ?_ _)); exact BK114.out⟩, ⟨bo⟩⟩
  case rest =>
   clear HC4
   try clear c1
   try clear c2
   try clear p2
   try clear c3
   try clear c3b0
   try clear c3b1
   try clear c9
   try clear hcz6_0
   try clear hcz6_1
   try clear hcz6_2
   try clear hcz6_3
   try clear hcz6_4
   try clear hcz6_5
   try clear hcz8_0
   try clear hcz8_1
   try clear hcz8_2
   try clear hcz8_3
   try clear hcz8_4
   try clear hcz8_5
   try clear hfz6_0
   try clear hfz6_1
   try clear hfz6_2
   try clear hfz6_3
   try clear hfz6_4
   try clear hfz6_5
   try clear hfz8_0
   try clear hfz8_1
   try clear hfz8_2
   try clear hfz8_3
   try clear hfz8_4
   try clear hfz8_5
   obtain ⟨kq, x5_3, rfl, HA, HJ3, BK114, HB⟩ := hcut
   cases kq with
   | zero => exact absurd HA.out (by simp [rec_Bytes.j0])
   | succ kj3 =>
    have H := HA.out
    clear HA
    simp only [rec_Bytes.j0] at H
    replace H := Option.bind_eq_some_iff.mp H
    obtain ⟨⟨t116, t117⟩, A100, H⟩ := H
    replace H : ((rec_eight.f kj3 a0_0).bind fun t118 => ((rec_eight.f kj3 a0_1).bind fun t119 => (if t118.size + t119.size ≤ 9223372036854775807 then ((some (([x5_3] : List Int) : List Int)).bind fun y120 => (if (t118 ++ t119).size + (strOfNums y120).size ≤ 9223372036854775807 then (if ((t118 ++ t119) ++ (strOfNums y120)).size + t116.size ≤ 9223372036854775807 then (if (((t118 ++ t119) ++ (strOfNums y120)) ++ t116).size + a0_2.size ≤ 9223372036854775807 then (if ((((t118 ++ t119) ++ (strOfNums y120)) ++ t116) ++ a0_2).size + a0_3.size ≤ 9223372036854775807 then ((vbi_Two.f kj3 ((((((t118 ++ t119) ++ (strOfNums y120)) ++ t116) ++ a0_2) ++ a0_3).size : Int)).bind fun bt123 => ((sum_Sum.f kj3 0 bt123.1).bind fun t125 => ((sum_Sum.f kj3 t125 (((((t118 ++ t119) ++ (strOfNums y120)) ++ t116) ++ a0_2) ++ a0_3)).bind fun t126 => ((vbi_Four.f kj3 (wrap64 (t126))).bind fun bt127 => (if bt123.1.size + bt127.1.size ≤ 9223372036854775807 then (if (bt123.1 ++ bt127.1).size + (((((t118 ++ t119) ++ (strOfNums y120)) ++ t116) ++ a0_2) ++ a0_3).size ≤ 9223372036854775807 then (some ((bt123.1 ++ bt127.1) ++ (((((t118 ++ t119) ++ (strOfNums y120)) ++ t116) ++ a0_2) ++ a0_3), 0)) else (none)) else (none)))))) else (none)) else (none)) else (none)) else (none))) else (none)))) = some (r1, r2) := H
    have A10 := Aside0.mk A100
    clear A100
    replace H := Option.bind_eq_some_iff.mp H
    obtain ⟨t118, A110, H⟩ := H
    replace H : ((rec_eight.f kj3 a0_1).bind fun t119 => (if t118.size + t119.size ≤ 9223372036854775807 then ((some (([x5_3] : List Int) : List Int)).bind fun y120 => (if (t118 ++ t119).size + (strOfNums y120).size ≤ 9223372036854775807 then (if ((t118 ++ t119) ++ (strOfNums y120)).size + t116.size ≤ 9223372036854775807 then (if (((t118 ++ t119) ++ (strOfNums y120)) ++ t116).size + a0_2.size ≤ 9223372036854775807 then (if ((((t118 ++ t119) ++ (strOfNums y120)) ++ t116) ++ a0_2).size + a0_3.size ≤ 9223372036854775807 then ((vbi_Two.f kj3 ((((((t118 ++ t119) ++ (strOfNums y120)) ++ t116) ++ a0_2) ++ a0_3).size : Int)).bind fun bt123 => ((sum_Sum.f kj3 0 bt123.1).bind fun t125 => ((sum_Sum.f kj3 t125 (((((t118 ++ t119) ++ (strOfNums y120)) ++ t116) ++ a0_2) ++ a0_3)).bind fun t126 => ((vbi_Four.f kj3 (wrap64 (t126))).bind fun bt127 => (if bt123.1.size + bt127.1.size ≤ 9223372036854775807 then (if (bt123.1 ++ bt127.1).size + (((((t118 ++ t119) ++ (strOfNums y120)) ++ t116) ++ a0_2) ++ a0_3).size ≤ 9223372036854775807 then (some ((bt123.1 ++ bt127.1) ++ (((((t118 ++ t119) ++ (strOfNums y120)) ++ t116) ++ a0_2) ++ a0_3), 0)) else (none)) else (none)))))) else (none)) else (none)) else (none)) else (none))) else (none))) = some (r1, r2) := H
    have A11 := Aside0.mk A110
    clear A110
    replace H := Option.bind_eq_some_iff.mp H
    obtain ⟨t119, A120, H⟩ := H
    replace H : (if t118.size + t119.size ≤ 9223372036854775807 then ((some (([x5_3] : List Int) : List Int)).bind fun y120 => (if (t118 ++ t119).size + (strOfNums y120).size ≤ 9223372036854775807 then (if ((t118 ++ t119) ++ (strOfNums y120)).size + t116.size ≤ 9223372036854775807 then (if (((t118 ++ t119) ++ (strOfNums y120)) ++ t116).size + a0_2.size ≤ 9223372036854775807 then (if ((((t118 ++ t119) ++ (strOfNums y120)) ++ t116) ++ a0_2).size + a0_3.size ≤ 9223372036854775807 then ((vbi_Two.f kj3 ((((((t118 ++ t119) ++ (strOfNums y120)) ++ t116) ++ a0_2) ++ a0_3).size : Int)).bind fun bt123 => ((sum_Sum.f kj3 0 bt123.1).bind fun t125 => ((sum_Sum.f kj3 t125 (((((t118 ++ t119) ++ (strOfNums y120)) ++ t116) ++ a0_2) ++ a0_3)).bind fun t126 => ((vbi_Four.f kj3 (wrap64 (t126))).bind fun bt127 => (if bt123.1.size + bt127.1.size ≤ 9223372036854775807 then (if (bt123.1 ++ bt127.1).size + (((((t118 ++ t119) ++ (strOfNums y120)) ++ t116) ++ a0_2) ++ a0_3).size ≤ 9223372036854775807 then (some ((bt123.1 ++ bt127.1) ++ (((((t118 ++ t119) ++ (strOfNums y120)) ++ t116) ++ a0_2) ++ a0_3), 0)) else (none)) else (none)))))) else (none)) else (none)) else (none)) else (none))) else (none)) = some (r1, r2) := H
    have A12 := Aside0.mk A120
    clear A120
    by_cases c13 : t118.size + t119.size ≤ 9223372036854775807
    ·rw [if_pos c13] at H
     have c13b0 := eq_true c13
     have c13b1 : decide (t118.size + t119.size ≤ 9223372036854775807) = true := decide_eq_true c13
     try have c13b2 : (9223372036854775807 < t118.size + t119.size) = False := eq_false (Nat.not_lt.2 c13)
     obtain ⟨y120, hy120⟩ : ∃ y_ : List Int, y_ = (([x5_3] : List Int)) := ⟨_, rfl⟩
     replace H : (if (t118 ++ t119).size + (strOfNums y120).size ≤ 9223372036854775807 then (if ((t118 ++ t119) ++ (strOfNums y120)).size + t116.size ≤ 9223372036854775807 then (if (((t118 ++ t119) ++ (strOfNums y120)) ++ t116).size + a0_2.size ≤ 9223372036854775807 then (if ((((t118 ++ t119) ++ (strOfNums y120)) ++ t116) ++ a0_2).size + a0_3.size ≤ 9223372036854775807 then ((vbi_Two.f kj3 ((((((t118 ++ t119) ++ (strOfNums y120)) ++ t116) ++ a0_2) ++ a0_3).size : Int)).bind fun bt123 => ((sum_Sum.f kj3 0 bt123.1).bind fun t125 => ((sum_Sum.f kj3 t125 (((((t118 ++ t119) ++ (strOfNums y120)) ++ t116) ++ a0_2) ++ a0_3)).bind fun t126 => ((vbi_Four.f kj3 (wrap64 (t126))).bind fun bt127 => (if bt123.1.size + bt127.1.size ≤ 9223372036854775807 then (if (bt123.1 ++ bt127.1).size + (((((t118 ++ t119) ++ (strOfNums y120)) ++ t116) ++ a0_2) ++ a0_3).size ≤ 9223372036854775807 then (some ((bt123.1 ++ bt127.1) ++ (((((t118 ++ t119) ++ (strOfNums y120)) ++ t116) ++ a0_2) ++ a0_3), 0)) else (none)) else (none)))))) else (none)) else (none)) else (none)) else (none)) = some (r1, r2) := by first | (rw [hy120]; with_reducible exact H) | (have H2_ := (Option.bind_some _ _).symm.trans H; rw [hy120]; with_reducible exact H2_) | (have H2_ := (Option.bind_some _ _).symm.trans H; with_reducible exact H2_) | with_reducible exact H | (rw [hy120]; exact H) | exact H
     have Ny120 := Aside0.mk hy120
     clear hy120
     by_cases c14 : (t118 ++ t119).size + (strOfNums y120).size ≤ 9223372036854775807
     ·rw [if_pos c14] at H
      have c14b0 := eq_true c14
      have c14b1 : decide ((t118 ++ t119).size + (strOfNums y120).size ≤ 9223372036854775807) = true := decide_eq_true c14
      try have c14b2 : (9223372036854775807 < (t118 ++ t119).size + (strOfNums y120).size) = False := eq_false (Nat.not_lt.2 c14)
      (try (have c14n2 := c14b2; simp only [ByteArray.size_append] at c14n2))
      (try (have c14n1 := c14b1; simp only [ByteArray.size_append] at c14n1))
      by_cases c15 : ((t118 ++ t119) ++ (strOfNums y120)).size + t116.size ≤ 9223372036854775807
      ·rw [if_pos c15] at H
       have c15b0 := eq_true c15
       have c15b1 : decide (((t118 ++ t119) ++ (strOfNums y120)).size + t116.size ≤ 9223372036854775807) = true := decide_eq_true c15
       try have c15b2 : (9223372036854775807 < ((t118 ++ t119) ++ (strOfNums y120)).size + t116.size) = False := eq_false (Nat.not_lt.2 c15)
       (try (have c15n2 := c15b2; simp only [ByteArray.size_append] at c15n2))
       (try (have c15n1 := c15b1; simp only [ByteArray.size_append] at c15n1))
       by_cases c16 : (((t118 ++ t119) ++ (strOfNums y120)) ++ t116).size + a0_2.size ≤ 9223372036854775807
       ·rw [if_pos c16] at H
        have c16b0 := eq_true c16
        have c16b1 : decide ((((t118 ++ t119) ++ (strOfNums y120)) ++ t116).size + a0_2.size ≤ 9223372036854775807) = true := decide_eq_true c16
        try have c16b2 : (9223372036854775807 < (((t118 ++ t119) ++ (strOfNums y120)) ++ t116).size + a0_2.size) = False := eq_false (Nat.not_lt.2 c16)
        (try (have c16n2 := c16b2; simp only [ByteArray.size_append] at c16n2))
        (try (have c16n1 := c16b1; simp only [ByteArray.size_append] at c16n1))
        by_cases c17 : ((((t118 ++ t119) ++ (strOfNums y120)) ++ t116) ++ a0_2).size + a0_3.size ≤ 9223372036854775807
        ·rw [if_pos c17] at H
         have c17b0 := eq_true c17
         have c17b1 : decide (((((t118 ++ t119) ++ (strOfNums y120)) ++ t116) ++ a0_2).size + a0_3.size ≤ 9223372036854775807) = true := decide_eq_true c17
         try have c17b2 : (9223372036854775807 < ((((t118 ++ t119) ++ (strOfNums y120)) ++ t116) ++ a0_2).size + a0_3.size) = False := eq_false (Nat.not_lt.2 c17)
         (try (have c17n2 := c17b2; simp only [ByteArray.size_append] at c17n2))
         (try (have c17n1 := c17b1; simp only [ByteArray.size_append] at c17n1))
         replace H := Option.bind_eq_some_iff.mp H
         obtain ⟨⟨t123, t124⟩, A180, H⟩ := H
         replace H : ((sum_Sum.f kj3 0 t123).bind fun t125 => ((sum_Sum.f kj3 t125 (((((t118 ++ t119) ++ (strOfNums y120)) ++ t116) ++ a0_2) ++ a0_3)).bind fun t126 => ((vbi_Four.f kj3 (wrap64 (t126))).bind fun bt127 => (if t123.size + bt127.1.size ≤ 9223372036854775807 then (if (t123 ++ bt127.1).size + (((((t118 ++ t119) ++ (strOfNums y120)) ++ t116) ++ a0_2) ++ a0_3).size ≤ 9223372036854775807 then (some ((t123 ++ bt127.1) ++ (((((t118 ++ t119) ++ (strOfNums y120)) ++ t116) ++ a0_2) ++ a0_3), 0)) else (none)) else (none))))) = some (r1, r2) := H
         have A18 := Aside0.mk A180
         clear A180
         replace H := Option.bind_eq_some_iff.mp H
         obtain ⟨t125, A190, H⟩ := H
         replace H : ((sum_Sum.f kj3 t125 (((((t118 ++ t119) ++ (strOfNums y120)) ++ t116) ++ a0_2) ++ a0_3)).bind fun t126 => ((vbi_Four.f kj3 (wrap64 (t126))).bind fun bt127 => (if t123.size + bt127.1.size ≤ 9223372036854775807 then (if (t123 ++ bt127.1).size + (((((t118 ++ t119) ++ (strOfNums y120)) ++ t116) ++ a0_2) ++ a0_3).size ≤ 9223372036854775807 then (some ((t123 ++ bt127.1) ++ (((((t118 ++ t119) ++ (strOfNums y120)) ++ t116) ++ a0_2) ++ a0_3), 0)) else (none)) else (none)))) = some (r1, r2) := H
         have A19 := Aside0.mk A190
         clear A190
         replace H := Option.bind_eq_some_iff.mp H
         obtain ⟨t126, A200, H⟩ := H
         replace H : ((vbi_Four.f kj3 (wrap64 (t126))).bind fun bt127 => (if t123.size + bt127.1.size ≤ 9223372036854775807 then (if (t123 ++ bt127.1).size + (((((t118 ++ t119) ++ (strOfNums y120)) ++ t116) ++ a0_2) ++ a0_3).size ≤ 9223372036854775807 then (some ((t123 ++ bt127.1) ++ (((((t118 ++ t119) ++ (strOfNums y120)) ++ t116) ++ a0_2) ++ a0_3), 0)) else (none)) else (none))) = some (r1, r2) := H
         have A20 := Aside0.mk A200
         clear A200
         replace H := Option.bind_eq_some_iff.mp H
         obtain ⟨⟨t127, t128⟩, A210, H⟩ := H
         replace H : (if t123.size + t127.size ≤ 9223372036854775807 then (if (t123 ++ t127).size + (((((t118 ++ t119) ++ (strOfNums y120)) ++ t116) ++ a0_2) ++ a0_3).size ≤ 9223372036854775807 then (some ((t123 ++ t127) ++ (((((t118 ++ t119) ++ (strOfNums y120)) ++ t116) ++ a0_2) ++ a0_3), 0)) else (none)) else (none)) = some (r1, r2) := H
         have A21 := Aside0.mk A210
         clear A210
         by_cases c22 : t123.size + t127.size ≤ 9223372036854775807
         ·rw [if_pos c22] at H
          have c22b0 := eq_true c22
          have c22b1 : decide (t123.size + t127.size ≤ 9223372036854775807) = true := decide_eq_true c22
          try have c22b2 : (9223372036854775807 < t123.size + t127.size) = False := eq_false (Nat.not_lt.2 c22)
          by_cases c23 : (t123 ++ t127).size + (((((t118 ++ t119) ++ (strOfNums y120)) ++ t116) ++ a0_2) ++ a0_3).size ≤ 9223372036854775807
          ·rw [if_pos c23] at H
           have c23b0 := eq_true c23
           have c23b1 : decide ((t123 ++ t127).size + (((((t118 ++ t119) ++ (strOfNums y120)) ++ t116) ++ a0_2) ++ a0_3).size ≤ 9223372036854775807) = true := decide_eq_true c23
           try have c23b2 : (9223372036854775807 < (t123 ++ t127).size + (((((t118 ++ t119) ++ (strOfNums y120)) ++ t116) ++ a0_2) ++ a0_3).size) = False := eq_false (Nat.not_lt.2 c23)
           (try (have c23n2 := c23b2; simp only [ByteArray.size_append] at c23n2))
           (try (have c23n1 := c23b1; simp only [ByteArray.size_append] at c23n1))
           simp only [Option.some.injEq, Prod.mk.injEq] at H
           obtain ⟨rfl, rfl⟩ := H
           have hcz24_0 : wc.cell? ⟨gb114, 0, none⟩ = some (.int .i64 a0_0) := (blk_cell BK114.out 0).trans rfl
           have hcz24_1 : wc.cell? ⟨gb114, 1, none⟩ = some (.int .i64 a0_1) := (blk_cell BK114.out 1).trans rfl
           have hcz24_2 : wc.cell? ⟨gb114, 2, none⟩ = some (.string a0_2) := (blk_cell BK114.out 2).trans rfl
           have hcz24_3 : wc.cell? ⟨gb114, 3, none⟩ = some (.string a0_3) := (blk_cell BK114.out 3).trans rfl
           have hcz24_4 : wc.cell? ⟨gb114, 4, none⟩ = some (.int .i64 a0_4) := (blk_cell BK114.out 4).trans rfl
           have hcz24_5 : wc.cell? ⟨gb114, 5, none⟩ = some (.bool a0_5) := (blk_cell BK114.out 5).trans rfl
           have hfz24_0 := blk_frozen BK114.out 0
           have hfz24_1 := blk_frozen BK114.out 1
           have hfz24_2 := blk_frozen BK114.out 2
           have hfz24_3 := blk_frozen BK114.out 3
           have hfz24_4 := blk_frozen BK114.out 4
           have hfz24_5 := blk_frozen BK114.out 5
           try go_wp2_with (first | ((with_reducible refine gate_callee (f := 60) rfl ?_); refine goesL_ (some 29) rfl rfl Try.func60 (by kernel_rfl) rfl #[.int .i64 (a0_2.size : Int)] rfl aa ?_; (with_reducible refine (vbi_Two.calls kj3 (a0_2.size : Int) t116 t117 _ A10.out).mono ?_); rintro e w25 ⟨rfl, hb⟩; refine ⟨_, rfl, ?_⟩; replace BK114 := Aside0.mk (blk_below (g := gb114) (o := .cells #[.int .i64 a0_0, .int .i64 a0_1, .string a0_2, .string a0_3, .int .i64 a0_4, .bool a0_5] 25 (0, 0)) (bk BK114.out) hb); replace HB := Aside0.mk (below_step bo hb); (try clear hb); (try clear hb2); (try clear hk); (try clear hi)))
           replace BK114 := Aside0.mk (blk_drew BK114.out)
           replace HB := Aside0.mk (below_drew1 HB.out)
           refine start_ (n := 20) (S := fun w' => w'.cell? ⟨gb114, 0, none⟩ = some (.int .i64 a0_0) ∧ w'.cell? ⟨gb114, 1, none⟩ = some (.int .i64 a0_1) ∧ w'.cell? ⟨gb114, 2, none⟩ = some (.string a0_2) ∧ w'.cell? ⟨gb114, 3, none⟩ = some (.string a0_3) ∧ w'.cell? ⟨gb114, 4, none⟩ = some (.int .i64 a0_4) ∧ w'.cell? ⟨gb114, 5, none⟩ = some (.bool a0_5)) (ds := []) #[O,O,O,O,O,O,O,O,O,O,O,O,O,O,O,O,O,O,O,O] (by kernel_rfl) rfl rfl ⟨(blk_cell BK114.out 0).trans rfl, (blk_cell BK114.out 1).trans rfl, (blk_cell BK114.out 2).trans rfl, (blk_cell BK114.out 3).trans rfl, (blk_cell BK114.out 4).trans rfl, (blk_cell BK114.out 5).trans rfl⟩ (fun hHeld => ?_); refine with_tabW rec_Bytes.tab8 rec_Bytes.bits8 (fun HT_ HW_ => ?_)
           generalize w25.drew = w26 at BK114 HB hHeld ⊢
           refine pz (i := 0) (N := some 32) #[I,O,O,O,O,O,O,O,O,O,O,O,O,O,O,O,O,O,O,O] ?_
           refine pz (i := 3) (N := some 35) #[I,O,O,I,O,O,O,O,O,O,O,O,O,O,O,O,O,O,O,O] ?_
           refine pz (i := 7) (N := some 39) #[I,O,O,I,O,O,O,I,O,O,O,O,O,O,O,O,O,O,O,O] ?_
           refine pz (i := 11) (N := some 43) #[I,O,O,I,O,O,O,I,O,O,O,I,O,O,O,O,O,O,O,O] ?_
           refine pz (i := 13) (N := some 45) #[I,O,O,I,O,O,O,I,O,O,O,I,O,I,O,O,O,O,O,O] ?_
           refine pz (i := 16) (N := some 48) #[I,O,O,I,O,O,O,I,O,O,O,I,O,I,O,O,I,O,O,O] ?_
           refine tz (i := 1) (N := some 33) #[I,I,O,I,O,O,O,I,O,O,O,I,O,I,O,O,I,O,O,O] ?_
           refine tz (i := 4) (N := some 36) #[I,I,O,I,I,O,O,I,O,O,O,I,O,I,O,O,I,O,O,O] ?_
           refine tz (i := 14) (N := some 46) #[I,I,O,I,I,O,O,I,O,O,O,I,O,I,I,O,I,O,O,O] ?_
           refine tz (i := 17) (N := some 49) #[I,I,O,I,I,O,O,I,O,O,O,I,O,I,I,O,I,I,O,O] ?_
           refine join_ (σ := Value) 5 #[I,I,I,I,I,I,I,I,I,I,O,I,O,I,I,O,I,I,O,O] (fun s_ => [(34, .string t118), (37, .string t119), (40, s_), (41, .string (strOfNums y120)), (38, .string (t118 ++ t119))]) (fun s_ w' => (w'.cell? ⟨gb114, 0, none⟩ = some (.int .i64 a0_0) ∧ w'.cell? ⟨gb114, 1, none⟩ = some (.int .i64 a0_1) ∧ w'.cell? ⟨gb114, 2, none⟩ = some (.string a0_2) ∧ w'.cell? ⟨gb114, 3, none⟩ = some (.string a0_3) ∧ w'.cell? ⟨gb114, 4, none⟩ = some (.int .i64 a0_4) ∧ w'.cell? ⟨gb114, 5, none⟩ = some (.bool a0_5)) ∧ (Kd.R (Kd.int .u8) 5 w' w.heap.size (fun _ => True) s_ y120) ∧ (w'.heap[gb114]? = some (.cells #[.int .i64 a0_0, .int .i64 a0_1, .string a0_2, .string a0_3, .int .i64 a0_4, .bool a0_5] 25 (0, 0))) ∧ (Below w.heap.size w w')) ?_ ?_
           rotate_left
           ·intro hJ2_5_8_9
            refine join_ (σ := Value) 6 #[I,I,I,I,I,I,I,I,I,O,O,I,O,I,I,O,I,I,O,O] (fun s_ => [(34, .string t118), (37, .string t119), (40, s_), (38, .string (t118 ++ t119))]) (fun s_ w' => (w'.cell? ⟨gb114, 0, none⟩ = some (.int .i64 a0_0) ∧ w'.cell? ⟨gb114, 1, none⟩ = some (.int .i64 a0_1) ∧ w'.cell? ⟨gb114, 2, none⟩ = some (.string a0_2) ∧ w'.cell? ⟨gb114, 3, none⟩ = some (.string a0_3) ∧ w'.cell? ⟨gb114, 4, none⟩ = some (.int .i64 a0_4) ∧ w'.cell? ⟨gb114, 5, none⟩ = some (.bool a0_5)) ∧ (Kd.R (Kd.int .u8) 5 w' w.heap.size (fun _ => True) s_ y120) ∧ (w'.heap[gb114]? = some (.cells #[.int .i64 a0_0, .int .i64 a0_1, .string a0_2, .string a0_3, .int .i64 a0_4, .bool a0_5] 25 (0, 0))) ∧ (Below w.heap.size w w')) ?_ ?_
            rotate_left
            ·intro hJ2_5_8
             refine join_ (σ := Value) 7 #[I,I,I,I,I,O,O,I,I,I,O,I,O,I,I,O,I,I,O,O] (fun s_ => [(34, .string t118), (40, s_), (41, .string (strOfNums y120))]) (fun s_ w' => (w'.cell? ⟨gb114, 0, none⟩ = some (.int .i64 a0_0) ∧ w'.cell? ⟨gb114, 1, none⟩ = some (.int .i64 a0_1) ∧ w'.cell? ⟨gb114, 2, none⟩ = some (.string a0_2) ∧ w'.cell? ⟨gb114, 3, none⟩ = some (.string a0_3) ∧ w'.cell? ⟨gb114, 4, none⟩ = some (.int .i64 a0_4) ∧ w'.cell? ⟨gb114, 5, none⟩ = some (.bool a0_5)) ∧ (Kd.R (Kd.int .u8) 5 w' w.heap.size (fun _ => True) s_ y120) ∧ (w'.heap[gb114]? = some (.cells #[.int .i64 a0_0, .int .i64 a0_1, .string a0_2, .string a0_3, .int .i64 a0_4, .bool a0_5] 25 (0, 0))) ∧ (Below w.heap.size w w')) ?_ ?_
             rotate_left
             ·intro hJ2_8_9
              refine join_ (σ := Unit) 7 #[I,I,I,I,I,I,I,I,O,O,O,I,O,I,I,O,I,I,O,O] (fun s_ => [(34, .string t118), (37, .string t119), (38, .string (t118 ++ t119))]) (fun s_ w' => (w'.cell? ⟨gb114, 0, none⟩ = some (.int .i64 a0_0) ∧ w'.cell? ⟨gb114, 1, none⟩ = some (.int .i64 a0_1) ∧ w'.cell? ⟨gb114, 2, none⟩ = some (.string a0_2) ∧ w'.cell? ⟨gb114, 3, none⟩ = some (.string a0_3) ∧ w'.cell? ⟨gb114, 4, none⟩ = some (.int .i64 a0_4) ∧ w'.cell? ⟨gb114, 5, none⟩ = some (.bool a0_5)) ∧ (w'.heap[gb114]? = some (.cells #[.int .i64 a0_0, .int .i64 a0_1, .string a0_2, .string a0_3, .int .i64 a0_4, .bool a0_5] 25 (0, 0))) ∧ (Below w.heap.size w w')) ?_ ?_
              rotate_left
              ·intro hJ2_5
               refine join_ (σ := Value) 8 #[I,I,I,I,I,O,O,I,I,O,O,I,O,I,I,O,I,I,O,O] (fun s_ => [(34, .string t118), (40, s_)]) (fun s_ w' => (w'.cell? ⟨gb114, 0, none⟩ = some (.int .i64 a0_0) ∧ w'.cell? ⟨gb114, 1, none⟩ = some (.int .i64 a0_1) ∧ w'.cell? ⟨gb114, 2, none⟩ = some (.string a0_2) ∧ w'.cell? ⟨gb114, 3, none⟩ = some (.string a0_3) ∧ w'.cell? ⟨gb114, 4, none⟩ = some (.int .i64 a0_4) ∧ w'.cell? ⟨gb114, 5, none⟩ = some (.bool a0_5)) ∧ (Kd.R (Kd.int .u8) 5 w' w.heap.size (fun _ => True) s_ y120) ∧ (w'.heap[gb114]? = some (.cells #[.int .i64 a0_0, .int .i64 a0_1, .string a0_2, .string a0_3, .int .i64 a0_4, .bool a0_5] 25 (0, 0))) ∧ (Below w.heap.size w w')) ?_ ?_
               rotate_left
               ·intro hJ2_8
                refine join_ (σ := Value) 8 #[I,I,O,I,I,O,O,I,I,I,O,I,O,I,I,O,I,I,O,O] (fun s_ => [(40, s_), (41, .string (strOfNums y120))]) (fun s_ w' => (w'.cell? ⟨gb114, 0, none⟩ = some (.int .i64 a0_0) ∧ w'.cell? ⟨gb114, 1, none⟩ = some (.int .i64 a0_1) ∧ w'.cell? ⟨gb114, 2, none⟩ = some (.string a0_2) ∧ w'.cell? ⟨gb114, 3, none⟩ = some (.string a0_3) ∧ w'.cell? ⟨gb114, 4, none⟩ = some (.int .i64 a0_4) ∧ w'.cell? ⟨gb114, 5, none⟩ = some (.bool a0_5)) ∧ (Kd.R (Kd.int .u8) 5 w' w.heap.size (fun _ => True) s_ y120) ∧ (w'.heap[gb114]? = some (.cells #[.int .i64 a0_0, .int .i64 a0_1, .string a0_2, .string a0_3, .int .i64 a0_4, .bool a0_5] 25 (0, 0))) ∧ (Below w.heap.size w w')) ?_ ?_
                rotate_left
                ·intro hJ8_9
                 refine join_ (σ := Unit) 9 #[I,I,I,I,I,O,O,I,O,O,O,I,O,I,I,O,I,I,O,O] (fun s_ => [(34, .string t118)]) (fun s_ w' => (w'.cell? ⟨gb114, 0, none⟩ = some (.int .i64 a0_0) ∧ w'.cell? ⟨gb114, 1, none⟩ = some (.int .i64 a0_1) ∧ w'.cell? ⟨gb114, 2, none⟩ = some (.string a0_2) ∧ w'.cell? ⟨gb114, 3, none⟩ = some (.string a0_3) ∧ w'.cell? ⟨gb114, 4, none⟩ = some (.int .i64 a0_4) ∧ w'.cell? ⟨gb114, 5, none⟩ = some (.bool a0_5)) ∧ (w'.heap[gb114]? = some (.cells #[.int .i64 a0_0, .int .i64 a0_1, .string a0_2, .string a0_3, .int .i64 a0_4, .bool a0_5] 25 (0, 0))) ∧ (Below w.heap.size w w')) ?_ ?_
                 rotate_left
                 ·intro hJ2
                  refine join_ (σ := Value) 9 #[I,I,O,I,I,O,O,I,I,O,O,I,O,I,I,O,I,I,O,O] (fun s_ => [(40, s_)]) (fun s_ w' => (w'.cell? ⟨gb114, 0, none⟩ = some (.int .i64 a0_0) ∧ w'.cell? ⟨gb114, 1, none⟩ = some (.int .i64 a0_1) ∧ w'.cell? ⟨gb114, 2, none⟩ = some (.string a0_2) ∧ w'.cell? ⟨gb114, 3, none⟩ = some (.string a0_3) ∧ w'.cell? ⟨gb114, 4, none⟩ = some (.int .i64 a0_4) ∧ w'.cell? ⟨gb114, 5, none⟩ = some (.bool a0_5)) ∧ (Kd.R (Kd.int .u8) 5 w' w.heap.size (fun _ => True) s_ y120) ∧ (w'.heap[gb114]? = some (.cells #[.int .i64 a0_0, .int .i64 a0_1, .string a0_2, .string a0_3, .int .i64 a0_4, .bool a0_5] 25 (0, 0))) ∧ (Below w.heap.size w w')) ?_ ?_
                  rotate_left
                  ·intro hJ8
                   refine two_ (i := 2) (j := 8) (Ni := some 34) (Nj := some 40) #[I,I,I,I,I,O,O,I,O,O,O,I,O,I,I,O,I,I,O,O] #[I,I,O,I,I,O,O,I,I,O,O,I,O,I,I,O,I,I,O,O] rfl rfl rfl rfl (two_of HT_.out (by kernel_rfl)) (by decide) (by decide) (fun K hK => ?_) (fun K hK => ?_)
                   ·skip
                    refine goes_ Try.func61 (by kernel_rfl) rfl #[.int .i64 a0_0] (by rfl) rfl rfl aa ?_
                    with_reducible refine (rec_eight.calls kj3 a0_0 t118 _ A11.out).mono ?_
                    rintro e w27 ⟨rfl, hb⟩
                    refine ⟨_, rfl, ?_⟩
                    replace BK114 := Aside0.mk (blk_below (g := gb114) (o := .cells #[.int .i64 a0_0, .int .i64 a0_1, .string a0_2, .string a0_3, .int .i64 a0_4, .bool a0_5] 25 (0, 0)) (bk BK114.out) hb)
                    replace HB := Aside0.mk (below_step bo hb)
                    (try clear hb)
                    (try clear hb2)
                    (try clear hk)
                    (try clear hi)
                    refine hK.out _ _ ⟨(blk_cell BK114.out 0).trans rfl, (blk_cell BK114.out 1).trans rfl, (blk_cell BK114.out 2).trans rfl, (blk_cell BK114.out 3).trans rfl, (blk_cell BK114.out 4).trans rfl, (blk_cell BK114.out 5).trans rfl⟩ (fun hHeld => ?_)
                    clear hK K
                    refine norm_ (a' := ?_) ?_ ?_
                    rotate_left
                    ·show Act.put _ (some 34) _ = _
                     simp only [Act.put, List.setIfInBounds_toArray, List.set_cons_zero, List.set_cons_succ, i64_w, i32_w]
                     rfl
                    exact norm_ (by first | (simp only [putAll, Act.put, List.setIfInBounds_toArray, List.set_cons_zero, List.set_cons_succ]; done) | (simp only [putAll, Act.put, List.setIfInBounds_toArray, List.set_cons_zero, List.set_cons_succ]; rfl)) (hJ2 () _ ⟨hHeld, (bk BK114.out), bo⟩)
                   ·skip
                    refine Kd.R_lit_step (Kd.int .u8) _ 5 ?hg (N := 40) ?hd (xs := ([x5_3] : List Int)) (inner := [.int .u8 x5_3]) (ok := fun _ => True) (okp := fun _ => True) ?hr ?hp (fun _ hk => hk) trivial (Below.refl _ _) (Nat.le_refl _) (by simp) ?_; (case hd => rfl); (case hg => rfl); (case hr => first | (go_simp; done) | (go_simp; rfl)); (case hp => exact (Reps.one (show Kd.M (Kd.int .u8) _ _ _ x5_3 [.int .u8 x5_3] from rfl) (Reps.none _ _)))
                    intro v121 w27 ho28 hb hg_ hnew_
                    clear hg_ hnew_
                    (first | rw [← Ny120.out] at ho28 | (simp only [Int.reduceToNat] at ho28; rw [← Ny120.out] at ho28))
                    have HO122 := Aside0.mk (Kd.R_lower ho28 (below_size bo))
                    replace BK114 := Aside0.mk (blk_below (g := gb114) (o := .cells #[.int .i64 a0_0, .int .i64 a0_1, .string a0_2, .string a0_3, .int .i64 a0_4, .bool a0_5] 25 (0, 0)) (bk BK114.out) hb)
                    replace HB := Aside0.mk (below_step bo hb)
                    clear hb ho28
                    refine hK.out _ _ ⟨(blk_cell BK114.out 0).trans rfl, (blk_cell BK114.out 1).trans rfl, (blk_cell BK114.out 2).trans rfl, (blk_cell BK114.out 3).trans rfl, (blk_cell BK114.out 4).trans rfl, (blk_cell BK114.out 5).trans rfl⟩ (fun hHeld => ?_)
                    clear hK K
                    refine norm_ (a' := ?_) ?_ ?_
                    rotate_left
                    ·show Act.put _ (some 40) _ = _
                     simp only [Act.put, List.setIfInBounds_toArray, List.set_cons_zero, List.set_cons_succ, i64_w, i32_w]
                     rfl
                    exact norm_ (by first | (simp only [putAll, Act.put, List.setIfInBounds_toArray, List.set_cons_zero, List.set_cons_succ]; done) | (simp only [putAll, Act.put, List.setIfInBounds_toArray, List.set_cons_zero, List.set_cons_succ]; rfl)) (hJ8 (v121) _ ⟨hHeld, (rk HO122.out), (bk BK114.out), bo⟩)
                  ·skip
                   rintro v121 w29 ⟨hS_, h0_, h1_, h2_⟩
                   have n0_ : Aside0 (Kd.R (Kd.int .u8) 5 w29 w.heap.size (fun _ => True) v121 y120) := ⟨h0_⟩
                   have n1_ : Aside0 (w29.heap[gb114]? = some (.cells #[.int .i64 a0_0, .int .i64 a0_1, .string a0_2, .string a0_3, .int .i64 a0_4, .bool a0_5] 25 (0, 0))) := ⟨h1_⟩
                   have n2_ : Aside0 (Below w.heap.size w w29) := ⟨h2_⟩
                   clear BK114
                   clear HB
                   clear h0_ h1_ h2_
                   have HO122 := n0_
                   have BK114 := n1_
                   have HB := n2_
                   clear n0_ n1_ n2_
                   have hHeld : w29.cell? ⟨gb114, 0, none⟩ = some (.int .i64 a0_0) ∧ w29.cell? ⟨gb114, 1, none⟩ = some (.int .i64 a0_1) ∧ w29.cell? ⟨gb114, 2, none⟩ = some (.string a0_2) ∧ w29.cell? ⟨gb114, 3, none⟩ = some (.string a0_3) ∧ w29.cell? ⟨gb114, 4, none⟩ = some (.int .i64 a0_4) ∧ w29.cell? ⟨gb114, 5, none⟩ = some (.bool a0_5) := hS_
                   refine norm_ (a' := ?_) ?_ ?_
                   rotate_left
                   ·simp only [putAll, Act.put, List.setIfInBounds_toArray, List.set_cons_zero, List.set_cons_succ]
                    rfl
                   refine two_ (i := 2) (j := 9) (Ni := some 34) (Nj := some 41) #[I,I,I,I,I,O,O,I,I,O,O,I,O,I,I,O,I,I,O,O] #[I,I,O,I,I,O,O,I,I,I,O,I,O,I,I,O,I,I,O,O] rfl rfl rfl rfl (two_of HT_.out (by kernel_rfl)) (by decide) (by decide) (fun K hK => ?_) (fun K hK => ?_)
                   ·skip
                    refine goes_ Try.func61 (by kernel_rfl) rfl #[.int .i64 a0_0] (by rfl) rfl rfl aa ?_
                    with_reducible refine (rec_eight.calls kj3 a0_0 t118 _ A11.out).mono ?_
                    rintro e w30 ⟨rfl, hb⟩
                    refine ⟨_, rfl, ?_⟩
                    replace HO122 := Aside0.mk (Kd.R_below (rk HO122.out) hb)
                    replace BK114 := Aside0.mk (blk_below (g := gb114) (o := .cells #[.int .i64 a0_0, .int .i64 a0_1, .string a0_2, .string a0_3, .int .i64 a0_4, .bool a0_5] 25 (0, 0)) (bk BK114.out) hb)
                    replace HB := Aside0.mk (below_step bo hb)
                    (try clear hb)
                    (try clear hb2)
                    (try clear hk)
                    (try clear hi)
                    refine hK.out _ _ ⟨(blk_cell BK114.out 0).trans rfl, (blk_cell BK114.out 1).trans rfl, (blk_cell BK114.out 2).trans rfl, (blk_cell BK114.out 3).trans rfl, (blk_cell BK114.out 4).trans rfl, (blk_cell BK114.out 5).trans rfl⟩ (fun hHeld => ?_)
                    clear hK K
                    refine norm_ (a' := ?_) ?_ ?_
                    rotate_left
                    ·show Act.put _ (some 34) _ = _
                     simp only [Act.put, List.setIfInBounds_toArray, List.set_cons_zero, List.set_cons_succ, i64_w, i32_w]
                     rfl
                    exact norm_ (by first | (simp only [putAll, Act.put, List.setIfInBounds_toArray, List.set_cons_zero, List.set_cons_succ]; done) | (simp only [putAll, Act.put, List.setIfInBounds_toArray, List.set_cons_zero, List.set_cons_succ]; rfl)) (hJ2_8 (v121) _ ⟨hHeld, (rk HO122.out), (bk BK114.out), bo⟩)
                   ·skip
                    have hcv30 := own_string (P := Try.prog) Try.underlying23 Try.underlying5 Try.underlying9 (Kd.own_of_R HO122.out)
                    refine value_ (w1 := ?_) (v := ?_) (by rfl) rfl ?_ ?_
                    rotate_left 2
                    ·go_simp
                     constructor
                     ·rfl
                     ·rfl
                    clear hcv30
                    refine hK.out _ _ ⟨(blk_cell BK114.out 0).trans rfl, (blk_cell BK114.out 1).trans rfl, (blk_cell BK114.out 2).trans rfl, (blk_cell BK114.out 3).trans rfl, (blk_cell BK114.out 4).trans rfl, (blk_cell BK114.out 5).trans rfl⟩ (fun hHeld => ?_)
                    clear hK K
                    refine norm_ (a' := ?_) ?_ ?_
                    rotate_left
                    ·show Act.put _ (some 41) _ = _
                     simp only [Act.put, List.setIfInBounds_toArray, List.set_cons_zero, List.set_cons_succ, i64_w, i32_w]
                     rfl
                    exact norm_ (by first | (simp only [putAll, Act.put, List.setIfInBounds_toArray, List.set_cons_zero, List.set_cons_succ]; done) | (simp only [putAll, Act.put, List.setIfInBounds_toArray, List.set_cons_zero, List.set_cons_succ]; rfl)) (hJ8_9 (v121) _ ⟨hHeld, (rk HO122.out), (bk BK114.out), bo⟩)
                 ·skip
                  rintro _ w28 ⟨hS_, h0_, h1_⟩
                  have n0_ : Aside0 (w28.heap[gb114]? = some (.cells #[.int .i64 a0_0, .int .i64 a0_1, .string a0_2, .string a0_3, .int .i64 a0_4, .bool a0_5] 25 (0, 0))) := ⟨h0_⟩
                  have n1_ : Aside0 (Below w.heap.size w w28) := ⟨h1_⟩
                  clear BK114
                  clear HB
                  clear h0_ h1_
                  have BK114 := n0_
                  have HB := n1_
                  clear n0_ n1_
                  have hHeld : w28.cell? ⟨gb114, 0, none⟩ = some (.int .i64 a0_0) ∧ w28.cell? ⟨gb114, 1, none⟩ = some (.int .i64 a0_1) ∧ w28.cell? ⟨gb114, 2, none⟩ = some (.string a0_2) ∧ w28.cell? ⟨gb114, 3, none⟩ = some (.string a0_3) ∧ w28.cell? ⟨gb114, 4, none⟩ = some (.int .i64 a0_4) ∧ w28.cell? ⟨gb114, 5, none⟩ = some (.bool a0_5) := hS_
                  refine norm_ (a' := ?_) ?_ ?_
                  rotate_left
                  ·simp only [putAll, Act.put, List.setIfInBounds_toArray, List.set_cons_zero, List.set_cons_succ]
                   rfl
                  refine two_ (i := 5) (j := 8) (Ni := some 37) (Nj := some 40) #[I,I,I,I,I,I,O,I,O,O,O,I,O,I,I,O,I,I,O,O] #[I,I,I,I,I,O,O,I,I,O,O,I,O,I,I,O,I,I,O,O] rfl rfl rfl rfl (two_of HT_.out (by kernel_rfl)) (by decide) (by decide) (fun K hK => ?_) (fun K hK => ?_)
                  ·skip
                   refine goes_ Try.func61 (by kernel_rfl) rfl #[.int .i64 a0_1] (by rfl) rfl rfl aa ?_
                   with_reducible refine (rec_eight.calls kj3 a0_1 t119 _ A12.out).mono ?_
                   rintro e w29 ⟨rfl, hb⟩
                   refine ⟨_, rfl, ?_⟩
                   replace BK114 := Aside0.mk (blk_below (g := gb114) (o := .cells #[.int .i64 a0_0, .int .i64 a0_1, .string a0_2, .string a0_3, .int .i64 a0_4, .bool a0_5] 25 (0, 0)) (bk BK114.out) hb)
                   replace HB := Aside0.mk (below_step bo hb)
                   (try clear hb)
                   (try clear hb2)
                   (try clear hk)
                   (try clear hi)
                   refine hK.out _ _ ⟨(blk_cell BK114.out 0).trans rfl, (blk_cell BK114.out 1).trans rfl, (blk_cell BK114.out 2).trans rfl, (blk_cell BK114.out 3).trans rfl, (blk_cell BK114.out 4).trans rfl, (blk_cell BK114.out 5).trans rfl⟩ (fun hHeld => ?_)
                   clear hK K
                   refine norm_ (a' := ?_) ?_ ?_
                   rotate_left
                   ·show Act.put _ (some 37) _ = _
                    simp only [Act.put, List.setIfInBounds_toArray, List.set_cons_zero, List.set_cons_succ, i64_w, i32_w]
                    rfl
                   refine pz (i := 6) (N := some 38) #[I,I,I,I,I,I,I,I,O,O,O,I,O,I,I,O,I,I,O,O] ?_
                   exact norm_ (by first | (simp only [putAll, Act.put, List.setIfInBounds_toArray, List.set_cons_zero, List.set_cons_succ]; done) | (simp only [putAll, Act.put, List.setIfInBounds_toArray, List.set_cons_zero, List.set_cons_succ]; rfl)) (hJ2_5 () _ ⟨hHeld, (bk BK114.out), bo⟩)
                  ·skip
                   refine Kd.R_lit_step (Kd.int .u8) _ 5 ?hg (N := 40) ?hd (xs := ([x5_3] : List Int)) (inner := [.int .u8 x5_3]) (ok := fun _ => True) (okp := fun _ => True) ?hr ?hp (fun _ hk => hk) trivial (Below.refl _ _) (Nat.le_refl _) (by simp) ?_; (case hd => rfl); (case hg => rfl); (case hr => first | (go_simp; done) | (go_simp; rfl)); (case hp => exact (Reps.one (show Kd.M (Kd.int .u8) _ _ _ x5_3 [.int .u8 x5_3] from rfl) (Reps.none _ _)))
                   intro v121 w29 ho30 hb hg_ hnew_
                   clear hg_ hnew_
                   (first | rw [← Ny120.out] at ho30 | (simp only [Int.reduceToNat] at ho30; rw [← Ny120.out] at ho30))
                   have HO122 := Aside0.mk (Kd.R_lower ho30 (below_size bo))
                   replace BK114 := Aside0.mk (blk_below (g := gb114) (o := .cells #[.int .i64 a0_0, .int .i64 a0_1, .string a0_2, .string a0_3, .int .i64 a0_4, .bool a0_5] 25 (0, 0)) (bk BK114.out) hb)
                   replace HB := Aside0.mk (below_step bo hb)
                   clear hb ho30
                   refine hK.out _ _ ⟨(blk_cell BK114.out 0).trans rfl, (blk_cell BK114.out 1).trans rfl, (blk_cell BK114.out 2).trans rfl, (blk_cell BK114.out 3).trans rfl, (blk_cell BK114.out 4).trans rfl, (blk_cell BK114.out 5).trans rfl⟩ (fun hHeld => ?_)
                   clear hK K
                   refine norm_ (a' := ?_) ?_ ?_
                   rotate_left
                   ·show Act.put _ (some 40) _ = _
                    simp only [Act.put, List.setIfInBounds_toArray, List.set_cons_zero, List.set_cons_succ, i64_w, i32_w]
                    rfl
                   exact norm_ (by first | (simp only [putAll, Act.put, List.setIfInBounds_toArray, List.set_cons_zero, List.set_cons_succ]; done) | (simp only [putAll, Act.put, List.setIfInBounds_toArray, List.set_cons_zero, List.set_cons_succ]; rfl)) (hJ2_8 (v121) _ ⟨hHeld, (rk HO122.out), (bk BK114.out), bo⟩)
                ·skip
                 rintro v121 w30 ⟨hS_, h0_, h1_, h2_⟩
                 have n0_ : Aside0 (Kd.R (Kd.int .u8) 5 w30 w.heap.size (fun _ => True) v121 y120) := ⟨h0_⟩
                 have n1_ : Aside0 (w30.heap[gb114]? = some (.cells #[.int .i64 a0_0, .int .i64 a0_1, .string a0_2, .string a0_3, .int .i64 a0_4, .bool a0_5] 25 (0, 0))) := ⟨h1_⟩
                 have n2_ : Aside0 (Below w.heap.size w w30) := ⟨h2_⟩
                 clear BK114
                 clear HB
                 clear h0_ h1_ h2_
                 have HO122 := n0_
                 have BK114 := n1_
                 have HB := n2_
                 clear n0_ n1_ n2_
                 have hHeld : w30.cell? ⟨gb114, 0, none⟩ = some (.int .i64 a0_0) ∧ w30.cell? ⟨gb114, 1, none⟩ = some (.int .i64 a0_1) ∧ w30.cell? ⟨gb114, 2, none⟩ = some (.string a0_2) ∧ w30.cell? ⟨gb114, 3, none⟩ = some (.string a0_3) ∧ w30.cell? ⟨gb114, 4, none⟩ = some (.int .i64 a0_4) ∧ w30.cell? ⟨gb114, 5, none⟩ = some (.bool a0_5) := hS_
                 refine norm_ (a' := ?_) ?_ ?_
                 rotate_left
                 ·simp only [putAll, Act.put, List.setIfInBounds_toArray, List.set_cons_zero, List.set_cons_succ]
                  rfl
                 refine one_ (i := 2) (N := some 34) #[I,I,I,I,I,O,O,I,I,I,O,I,O,I,I,O,I,I,O,O] rfl rfl (one_of HT_.out (by kernel_rfl)) (by decide) (fun K hK => ?_)
                 refine goes_ Try.func61 (by kernel_rfl) rfl #[.int .i64 a0_0] (by rfl) rfl rfl aa ?_
                 with_reducible refine (rec_eight.calls kj3 a0_0 t118 _ A11.out).mono ?_
                 rintro e w31 ⟨rfl, hb⟩
                 refine ⟨_, rfl, ?_⟩
                 replace HO122 := Aside0.mk (Kd.R_below (rk HO122.out) hb)
                 replace BK114 := Aside0.mk (blk_below (g := gb114) (o := .cells #[.int .i64 a0_0, .int .i64 a0_1, .string a0_2, .string a0_3, .int .i64 a0_4, .bool a0_5] 25 (0, 0)) (bk BK114.out) hb)
                 replace HB := Aside0.mk (below_step bo hb)
                 (try clear hb)
                 (try clear hb2)
                 (try clear hk)
                 (try clear hi)
                 refine hK.out _ _ ⟨(blk_cell BK114.out 0).trans rfl, (blk_cell BK114.out 1).trans rfl, (blk_cell BK114.out 2).trans rfl, (blk_cell BK114.out 3).trans rfl, (blk_cell BK114.out 4).trans rfl, (blk_cell BK114.out 5).trans rfl⟩ (fun hHeld => ?_)
                 clear hK K
                 refine norm_ (a' := ?_) ?_ ?_
                 rotate_left
                 ·show Act.put _ (some 34) _ = _
                  simp only [Act.put, List.setIfInBounds_toArray, List.set_cons_zero, List.set_cons_succ, i64_w, i32_w]
                  rfl
                 exact norm_ (by first | (simp only [putAll, Act.put, List.setIfInBounds_toArray, List.set_cons_zero, List.set_cons_succ]; done) | (simp only [putAll, Act.put, List.setIfInBounds_toArray, List.set_cons_zero, List.set_cons_succ]; rfl)) (hJ2_8_9 (v121) _ ⟨hHeld, (rk HO122.out), (bk BK114.out), bo⟩)
               ·skip
                rintro v121 w30 ⟨hS_, h0_, h1_, h2_⟩
                have n0_ : Aside0 (Kd.R (Kd.int .u8) 5 w30 w.heap.size (fun _ => True) v121 y120) := ⟨h0_⟩
                have n1_ : Aside0 (w30.heap[gb114]? = some (.cells #[.int .i64 a0_0, .int .i64 a0_1, .string a0_2, .string a0_3, .int .i64 a0_4, .bool a0_5] 25 (0, 0))) := ⟨h1_⟩
                have n2_ : Aside0 (Below w.heap.size w w30) := ⟨h2_⟩
                clear BK114
                clear HB
                clear h0_ h1_ h2_
                have HO122 := n0_
                have BK114 := n1_
                have HB := n2_
                clear n0_ n1_ n2_
                have hHeld : w30.cell? ⟨gb114, 0, none⟩ = some (.int .i64 a0_0) ∧ w30.cell? ⟨gb114, 1, none⟩ = some (.int .i64 a0_1) ∧ w30.cell? ⟨gb114, 2, none⟩ = some (.string a0_2) ∧ w30.cell? ⟨gb114, 3, none⟩ = some (.string a0_3) ∧ w30.cell? ⟨gb114, 4, none⟩ = some (.int .i64 a0_4) ∧ w30.cell? ⟨gb114, 5, none⟩ = some (.bool a0_5) := hS_
                refine norm_ (a' := ?_) ?_ ?_
                rotate_left
                ·simp only [putAll, Act.put, List.setIfInBounds_toArray, List.set_cons_zero, List.set_cons_succ]
                 rfl
                refine two_ (i := 5) (j := 9) (Ni := some 37) (Nj := some 41) #[I,I,I,I,I,I,O,I,I,O,O,I,O,I,I,O,I,I,O,O] #[I,I,I,I,I,O,O,I,I,I,O,I,O,I,I,O,I,I,O,O] rfl rfl rfl rfl (two_of HT_.out (by kernel_rfl)) (by decide) (by decide) (fun K hK => ?_) (fun K hK => ?_)
                ·skip
                 refine goes_ Try.func61 (by kernel_rfl) rfl #[.int .i64 a0_1] (by rfl) rfl rfl aa ?_
                 with_reducible refine (rec_eight.calls kj3 a0_1 t119 _ A12.out).mono ?_
                 rintro e w31 ⟨rfl, hb⟩
                 refine ⟨_, rfl, ?_⟩
                 replace HO122 := Aside0.mk (Kd.R_below (rk HO122.out) hb)
                 replace BK114 := Aside0.mk (blk_below (g := gb114) (o := .cells #[.int .i64 a0_0, .int .i64 a0_1, .string a0_2, .string a0_3, .int .i64 a0_4, .bool a0_5] 25 (0, 0)) (bk BK114.out) hb)
                 replace HB := Aside0.mk (below_step bo hb)
                 (try clear hb)
                 (try clear hb2)
                 (try clear hk)
                 (try clear hi)
                 refine hK.out _ _ ⟨(blk_cell BK114.out 0).trans rfl, (blk_cell BK114.out 1).trans rfl, (blk_cell BK114.out 2).trans rfl, (blk_cell BK114.out 3).trans rfl, (blk_cell BK114.out 4).trans rfl, (blk_cell BK114.out 5).trans rfl⟩ (fun hHeld => ?_)
                 clear hK K
                 refine norm_ (a' := ?_) ?_ ?_
                 rotate_left
                 ·show Act.put _ (some 37) _ = _
                  simp only [Act.put, List.setIfInBounds_toArray, List.set_cons_zero, List.set_cons_succ, i64_w, i32_w]
                  rfl
                 refine pz (i := 6) (N := some 38) #[I,I,I,I,I,I,I,I,I,O,O,I,O,I,I,O,I,I,O,O] ?_
                 exact norm_ (by first | (simp only [putAll, Act.put, List.setIfInBounds_toArray, List.set_cons_zero, List.set_cons_succ]; done) | (simp only [putAll, Act.put, List.setIfInBounds_toArray, List.set_cons_zero, List.set_cons_succ]; rfl)) (hJ2_5_8 (v121) _ ⟨hHeld, (rk HO122.out), (bk BK114.out), bo⟩)
                ·skip
                 have hcv31 := own_string (P := Try.prog) Try.underlying23 Try.underlying5 Try.underlying9 (Kd.own_of_R HO122.out)
                 refine value_ (w1 := ?_) (v := ?_) (by rfl) rfl ?_ ?_
                 rotate_left 2
                 ·go_simp
                  constructor
                  ·rfl
                  ·rfl
                 clear hcv31
                 refine hK.out _ _ ⟨(blk_cell BK114.out 0).trans rfl, (blk_cell BK114.out 1).trans rfl, (blk_cell BK114.out 2).trans rfl, (blk_cell BK114.out 3).trans rfl, (blk_cell BK114.out 4).trans rfl, (blk_cell BK114.out 5).trans rfl⟩ (fun hHeld => ?_)
                 clear hK K
                 refine norm_ (a' := ?_) ?_ ?_
                 rotate_left
                 ·show Act.put _ (some 41) _ = _
                  simp only [Act.put, List.setIfInBounds_toArray, List.set_cons_zero, List.set_cons_succ, i64_w, i32_w]
                  rfl
                 exact norm_ (by first | (simp only [putAll, Act.put, List.setIfInBounds_toArray, List.set_cons_zero, List.set_cons_succ]; done) | (simp only [putAll, Act.put, List.setIfInBounds_toArray, List.set_cons_zero, List.set_cons_succ]; rfl)) (hJ2_8_9 (v121) _ ⟨hHeld, (rk HO122.out), (bk BK114.out), bo⟩)
              ·skip
               rintro _ w29 ⟨hS_, h0_, h1_⟩
               have n0_ : Aside0 (w29.heap[gb114]? = some (.cells #[.int .i64 a0_0, .int .i64 a0_1, .string a0_2, .string a0_3, .int .i64 a0_4, .bool a0_5] 25 (0, 0))) := ⟨h0_⟩
               have n1_ : Aside0 (Below w.heap.size w w29) := ⟨h1_⟩
               clear BK114
               clear HB
               clear h0_ h1_
               have BK114 := n0_
               have HB := n1_
               clear n0_ n1_
               have hHeld : w29.cell? ⟨gb114, 0, none⟩ = some (.int .i64 a0_0) ∧ w29.cell? ⟨gb114, 1, none⟩ = some (.int .i64 a0_1) ∧ w29.cell? ⟨gb114, 2, none⟩ = some (.string a0_2) ∧ w29.cell? ⟨gb114, 3, none⟩ = some (.string a0_3) ∧ w29.cell? ⟨gb114, 4, none⟩ = some (.int .i64 a0_4) ∧ w29.cell? ⟨gb114, 5, none⟩ = some (.bool a0_5) := hS_
               refine norm_ (a' := ?_) ?_ ?_
               rotate_left
               ·simp only [putAll, Act.put, List.setIfInBounds_toArray, List.set_cons_zero, List.set_cons_succ]
                rfl
               refine one_ (i := 8) (N := some 40) #[I,I,I,I,I,I,I,I,I,O,O,I,O,I,I,O,I,I,O,O] rfl rfl (one_of HT_.out (by kernel_rfl)) (by decide) (fun K hK => ?_)
               refine Kd.R_lit_step (Kd.int .u8) _ 5 ?hg (N := 40) ?hd (xs := ([x5_3] : List Int)) (inner := [.int .u8 x5_3]) (ok := fun _ => True) (okp := fun _ => True) ?hr ?hp (fun _ hk => hk) trivial (Below.refl _ _) (Nat.le_refl _) (by simp) ?_; (case hd => rfl); (case hg => rfl); (case hr => first | (go_simp; done) | (go_simp; rfl)); (case hp => exact (Reps.one (show Kd.M (Kd.int .u8) _ _ _ x5_3 [.int .u8 x5_3] from rfl) (Reps.none _ _)))
               intro v121 w30 ho31 hb hg_ hnew_
               clear hg_ hnew_
               (first | rw [← Ny120.out] at ho31 | (simp only [Int.reduceToNat] at ho31; rw [← Ny120.out] at ho31))
               have HO122 := Aside0.mk (Kd.R_lower ho31 (below_size bo))
               replace BK114 := Aside0.mk (blk_below (g := gb114) (o := .cells #[.int .i64 a0_0, .int .i64 a0_1, .string a0_2, .string a0_3, .int .i64 a0_4, .bool a0_5] 25 (0, 0)) (bk BK114.out) hb)
               replace HB := Aside0.mk (below_step bo hb)
               clear hb ho31
               refine hK.out _ _ ⟨(blk_cell BK114.out 0).trans rfl, (blk_cell BK114.out 1).trans rfl, (blk_cell BK114.out 2).trans rfl, (blk_cell BK114.out 3).trans rfl, (blk_cell BK114.out 4).trans rfl, (blk_cell BK114.out 5).trans rfl⟩ (fun hHeld => ?_)
               clear hK K
               refine norm_ (a' := ?_) ?_ ?_
               rotate_left
               ·show Act.put _ (some 40) _ = _
                simp only [Act.put, List.setIfInBounds_toArray, List.set_cons_zero, List.set_cons_succ, i64_w, i32_w]
                rfl
               exact norm_ (by first | (simp only [putAll, Act.put, List.setIfInBounds_toArray, List.set_cons_zero, List.set_cons_succ]; done) | (simp only [putAll, Act.put, List.setIfInBounds_toArray, List.set_cons_zero, List.set_cons_succ]; rfl)) (hJ2_5_8 (v121) _ ⟨hHeld, (rk HO122.out), (bk BK114.out), bo⟩)
             ·skip
              rintro v121 w31 ⟨hS_, h0_, h1_, h2_⟩
              have n0_ : Aside0 (Kd.R (Kd.int .u8) 5 w31 w.heap.size (fun _ => True) v121 y120) := ⟨h0_⟩
              have n1_ : Aside0 (w31.heap[gb114]? = some (.cells #[.int .i64 a0_0, .int .i64 a0_1, .string a0_2, .string a0_3, .int .i64 a0_4, .bool a0_5] 25 (0, 0))) := ⟨h1_⟩
              have n2_ : Aside0 (Below w.heap.size w w31) := ⟨h2_⟩
              clear BK114
              clear HB
              clear h0_ h1_ h2_
              have HO122 := n0_
              have BK114 := n1_
              have HB := n2_
              clear n0_ n1_ n2_
              have hHeld : w31.cell? ⟨gb114, 0, none⟩ = some (.int .i64 a0_0) ∧ w31.cell? ⟨gb114, 1, none⟩ = some (.int .i64 a0_1) ∧ w31.cell? ⟨gb114, 2, none⟩ = some (.string a0_2) ∧ w31.cell? ⟨gb114, 3, none⟩ = some (.string a0_3) ∧ w31.cell? ⟨gb114, 4, none⟩ = some (.int .i64 a0_4) ∧ w31.cell? ⟨gb114, 5, none⟩ = some (.bool a0_5) := hS_
              refine norm_ (a' := ?_) ?_ ?_
              rotate_left
              ·simp only [putAll, Act.put, List.setIfInBounds_toArray, List.set_cons_zero, List.set_cons_succ]
               rfl
              refine one_ (i := 5) (N := some 37) #[I,I,I,I,I,I,O,I,I,I,O,I,O,I,I,O,I,I,O,O] rfl rfl (one_of HT_.out (by kernel_rfl)) (by decide) (fun K hK => ?_)
              refine goes_ Try.func61 (by kernel_rfl) rfl #[.int .i64 a0_1] (by rfl) rfl rfl aa ?_
              with_reducible refine (rec_eight.calls kj3 a0_1 t119 _ A12.out).mono ?_
              rintro e w32 ⟨rfl, hb⟩
              refine ⟨_, rfl, ?_⟩
              replace HO122 := Aside0.mk (Kd.R_below (rk HO122.out) hb)
              replace BK114 := Aside0.mk (blk_below (g := gb114) (o := .cells #[.int .i64 a0_0, .int .i64 a0_1, .string a0_2, .string a0_3, .int .i64 a0_4, .bool a0_5] 25 (0, 0)) (bk BK114.out) hb)
              replace HB := Aside0.mk (below_step bo hb)
              (try clear hb)
              (try clear hb2)
              (try clear hk)
              (try clear hi)
              refine hK.out _ _ ⟨(blk_cell BK114.out 0).trans rfl, (blk_cell BK114.out 1).trans rfl, (blk_cell BK114.out 2).trans rfl, (blk_cell BK114.out 3).trans rfl, (blk_cell BK114.out 4).trans rfl, (blk_cell BK114.out 5).trans rfl⟩ (fun hHeld => ?_)
              clear hK K
              refine norm_ (a' := ?_) ?_ ?_
              rotate_left
              ·show Act.put _ (some 37) _ = _
               simp only [Act.put, List.setIfInBounds_toArray, List.set_cons_zero, List.set_cons_succ, i64_w, i32_w]
               rfl
              refine pz (i := 6) (N := some 38) #[I,I,I,I,I,I,I,I,I,I,O,I,O,I,I,O,I,I,O,O] ?_
              exact norm_ (by first | (simp only [putAll, Act.put, List.setIfInBounds_toArray, List.set_cons_zero, List.set_cons_succ]; done) | (simp only [putAll, Act.put, List.setIfInBounds_toArray, List.set_cons_zero, List.set_cons_succ]; rfl)) (hJ2_5_8_9 (v121) _ ⟨hHeld, (rk HO122.out), (bk BK114.out), bo⟩)
            ·skip
             rintro v121 w31 ⟨hS_, h0_, h1_, h2_⟩
             have n0_ : Aside0 (Kd.R (Kd.int .u8) 5 w31 w.heap.size (fun _ => True) v121 y120) := ⟨h0_⟩
             have n1_ : Aside0 (w31.heap[gb114]? = some (.cells #[.int .i64 a0_0, .int .i64 a0_1, .string a0_2, .string a0_3, .int .i64 a0_4, .bool a0_5] 25 (0, 0))) := ⟨h1_⟩
             have n2_ : Aside0 (Below w.heap.size w w31) := ⟨h2_⟩
             clear BK114
             clear HB
             clear h0_ h1_ h2_
             have HO122 := n0_
             have BK114 := n1_
             have HB := n2_
             clear n0_ n1_ n2_
             have hHeld : w31.cell? ⟨gb114, 0, none⟩ = some (.int .i64 a0_0) ∧ w31.cell? ⟨gb114, 1, none⟩ = some (.int .i64 a0_1) ∧ w31.cell? ⟨gb114, 2, none⟩ = some (.string a0_2) ∧ w31.cell? ⟨gb114, 3, none⟩ = some (.string a0_3) ∧ w31.cell? ⟨gb114, 4, none⟩ = some (.int .i64 a0_4) ∧ w31.cell? ⟨gb114, 5, none⟩ = some (.bool a0_5) := hS_
             refine norm_ (a' := ?_) ?_ ?_
             rotate_left
             ·simp only [putAll, Act.put, List.setIfInBounds_toArray, List.set_cons_zero, List.set_cons_succ]
              rfl
             refine one_ (i := 9) (N := some 41) #[I,I,I,I,I,I,I,I,I,I,O,I,O,I,I,O,I,I,O,O] rfl rfl (one_of HT_.out (by kernel_rfl)) (by decide) (fun K hK => ?_)
             have hcv32 := own_string (P := Try.prog) Try.underlying23 Try.underlying5 Try.underlying9 (Kd.own_of_R HO122.out)
             refine value_ (w1 := ?_) (v := ?_) (by rfl) rfl ?_ ?_
             rotate_left 2
             ·go_simp
              constructor
              ·rfl
              ·rfl
             clear hcv32
             refine hK.out _ _ ⟨(blk_cell BK114.out 0).trans rfl, (blk_cell BK114.out 1).trans rfl, (blk_cell BK114.out 2).trans rfl, (blk_cell BK114.out 3).trans rfl, (blk_cell BK114.out 4).trans rfl, (blk_cell BK114.out 5).trans rfl⟩ (fun hHeld => ?_)
             clear hK K
             refine norm_ (a' := ?_) ?_ ?_
             rotate_left
             ·show Act.put _ (some 41) _ = _
              simp only [Act.put, List.setIfInBounds_toArray, List.set_cons_zero, List.set_cons_succ, i64_w, i32_w]
              rfl
             exact norm_ (by first | (simp only [putAll, Act.put, List.setIfInBounds_toArray, List.set_cons_zero, List.set_cons_succ]; done) | (simp only [putAll, Act.put, List.setIfInBounds_toArray, List.set_cons_zero, List.set_cons_succ]; rfl)) (hJ2_5_8_9 (v121) _ ⟨hHeld, (rk HO122.out), (bk BK114.out), bo⟩)
           rintro v121 w32 ⟨hS_, h0_, h1_, h2_⟩
           have n0_ : Aside0 (Kd.R (Kd.int .u8) 5 w32 w.heap.size (fun _ => True) v121 y120) := ⟨h0_⟩
           have n1_ : Aside0 (w32.heap[gb114]? = some (.cells #[.int .i64 a0_0, .int .i64 a0_1, .string a0_2, .string a0_3, .int .i64 a0_4, .bool a0_5] 25 (0, 0))) := ⟨h1_⟩
           have n2_ : Aside0 (Below w.heap.size w w32) := ⟨h2_⟩
           clear BK114
           clear HB
           clear h0_ h1_ h2_
           have HO122 := n0_
           have BK114 := n1_
           have HB := n2_
           clear n0_ n1_ n2_
           have hHeld : w32.cell? ⟨gb114, 0, none⟩ = some (.int .i64 a0_0) ∧ w32.cell? ⟨gb114, 1, none⟩ = some (.int .i64 a0_1) ∧ w32.cell? ⟨gb114, 2, none⟩ = some (.string a0_2) ∧ w32.cell? ⟨gb114, 3, none⟩ = some (.string a0_3) ∧ w32.cell? ⟨gb114, 4, none⟩ = some (.int .i64 a0_4) ∧ w32.cell? ⟨gb114, 5, none⟩ = some (.bool a0_5) := hS_
           refine norm_ (a' := ?_) ?_ ?_
           rotate_left
           ·simp only [putAll, Act.put, List.setIfInBounds_toArray, List.set_cons_zero, List.set_cons_succ]
            rfl
           refine pz (i := 10) (N := some 42) #[I,I,I,I,I,I,I,I,I,I,I,I,O,I,I,O,I,I,O,O] ?_
           refine pz (i := 12) (N := some 44) #[I,I,I,I,I,I,I,I,I,I,I,I,I,I,I,O,I,I,O,O] ?_
           refine pz (i := 15) (N := some 47) #[I,I,I,I,I,I,I,I,I,I,I,I,I,I,I,I,I,I,O,O] ?_
           refine pz (i := 18) (N := some 50) #[I,I,I,I,I,I,I,I,I,I,I,I,I,I,I,I,I,I,I,O] ?_
           refine pz (i := 19) (N := some 8) #[I,I,I,I,I,I,I,I,I,I,I,I,I,I,I,I,I,I,I,I] ?_
           refine done_ (done_of HT_.out (by kernel_rfl)) ?_
           try go_wp2_with (first | ((with_reducible refine gate_callee (f := 60) rfl ?_); refine goesL_ (some 54) rfl rfl Try.func60 (by kernel_rfl) rfl #[.int .i64 ((((((t118 ++ t119) ++ (strOfNums y120)) ++ t116) ++ a0_2) ++ a0_3).size : Int)] rfl aa ?_; (with_reducible refine (vbi_Two.calls kj3 ((((((t118 ++ t119) ++ (strOfNums y120)) ++ t116) ++ a0_2) ++ a0_3).size : Int) t123 t124 _ A18.out).mono ?_); rintro e w33 ⟨rfl, hb⟩; refine ⟨_, rfl, ?_⟩; replace HO122 := Aside0.mk (Kd.R_below (rk HO122.out) hb); replace BK114 := Aside0.mk (blk_below (g := gb114) (o := .cells #[.int .i64 a0_0, .int .i64 a0_1, .string a0_2, .string a0_3, .int .i64 a0_4, .bool a0_5] 25 (0, 0)) (bk BK114.out) hb); replace HB := Aside0.mk (below_step bo hb); (try clear hb); (try clear hb2); (try clear hk); (try clear hi)) | ((with_reducible refine gate_callee (f := 63) rfl ?_); refine goesL_ (some 59) rfl rfl Try.func63 (by kernel_rfl) rfl #[.int .u32 0, .string t123] rfl aa ?_; (with_reducible refine (sum_Sum.calls kj3 0 t123 t125 _ A19.out).mono ?_); rintro e w' ⟨rfl, ⟨nd, rfl⟩⟩; refine ⟨_, rfl, ?_⟩) | ((with_reducible refine gate_callee (f := 63) rfl ?_); refine goesL_ (some 61) rfl rfl Try.func63 (by kernel_rfl) rfl #[.int .u32 t125, .string (((((t118 ++ t119) ++ (strOfNums y120)) ++ t116) ++ a0_2) ++ a0_3)] rfl aa ?_; (with_reducible refine (sum_Sum.calls kj3 t125 (((((t118 ++ t119) ++ (strOfNums y120)) ++ t116) ++ a0_2) ++ a0_3) t126 _ A20.out).mono ?_); rintro e w' ⟨rfl, ⟨nd, rfl⟩⟩; refine ⟨_, rfl, ?_⟩) | ((with_reducible refine gate_callee (f := 62) rfl ?_); refine goesL_ (some 63) rfl rfl Try.func62 (by kernel_rfl) rfl #[.int .i64 (wrap64 (t126))] rfl aa ?_; (with_reducible refine (vbi_Four.calls kj3 (wrap64 (t126)) t127 t128 _ A21.out).mono ?_); rintro e w34 ⟨rfl, hb⟩; refine ⟨_, rfl, ?_⟩; replace HO122 := Aside0.mk (Kd.R_below (rk HO122.out) hb); replace BK114 := Aside0.mk (blk_below (g := gb114) (o := .cells #[.int .i64 a0_0, .int .i64 a0_1, .string a0_2, .string a0_3, .int .i64 a0_4, .bool a0_5] 25 (0, 0)) (bk BK114.out) hb); replace HB := Aside0.mk (below_step bo hb); (try clear hb); (try clear hb2); (try clear hk); (try clear hi)))
           go_ret2
           exact ⟨er, bo⟩
          ·rw [if_neg c23] at H
           exact absurd H (by simp)
         ·rw [if_neg c22] at H
          exact absurd H (by simp)
        ·rw [if_neg c17] at H
         exact absurd H (by simp)
       ·rw [if_neg c16] at H
        exact absurd H (by simp)
      ·rw [if_neg c15] at H
       exact absurd H (by simp)
     ·rw [if_neg c14] at H
      exact absurd H (by simp)
    ·rw [if_neg c13] at H
     exact absurd H (by simp)
 ·rw [if_neg c3] at H
  have c3b0 : (t115 == 0) = false := beq_eq_false_iff_ne.mpr c3
  have c3b1 : (t115 != 0) = true := bne_iff_ne.mpr c3
  simp only [Option.some.injEq, Prod.mk.injEq] at H
  obtain ⟨rfl, rfl⟩ := H
  go_enter Try.func14, Try.ntmps14
  go_wp2_with (first | ((with_reducible refine gate_dst (N := 1) rfl ?_); refine box_event ?hg (N := 1) ?hd (cs := #[.int .i64 a0_0, .int .i64 a0_1, .string a0_2, .string a0_3, .int .i64 a0_4, .bool a0_5]) (t := 25) ?hr ?_; (case hd => rfl); (case hg => rfl); (case hr => first | (go_simp; done) | (go_simp; rfl)); intro gb114 hg w35 hbox hb; have BK114 := Aside0.mk (hbox); have GW114 := Aside0.mk ((by rw [hg]; exact (below_size bo) : w.heap.size ≤ gb114)); have GE114 := Aside0.mk ((by rw [hg]; exact (below_size bo) : w.heap.size ≤ gb114)); replace HB := Aside0.mk (below_step bo hb); clear hb hbox hg; obtain ⟨hcz36_0, hcz36_1, hcz36_2, hcz36_3, hcz36_4, hcz36_5⟩ := cl6 BK114.out; obtain ⟨hfz36_0, hfz36_1, hfz36_2, hfz36_3, hfz36_4, hfz36_5⟩ := fz6 BK114.out) | ((with_reducible refine gate_callee (f := 22) rfl ?_); refine goesL_ (some 14) rfl rfl Try.func22 (by kernel_rfl) rfl #[.agg #[.int .i64 a0_0, .int .i64 a0_1, .string a0_2, .string a0_3, .int .i64 a0_4, .bool a0_5]] rfl aa ?_; (with_reducible refine (rec_Check.calls k a0_0 a0_1 a0_2 a0_3 a0_4 a0_5 t115 _ A2.out).mono ?_); rintro e w37 ⟨rfl, hb⟩; refine ⟨_, rfl, ?_⟩; replace BK114 := Aside0.mk (blk_below (g := gb114) (o := .cells #[.int .i64 a0_0, .int .i64 a0_1, .string a0_2, .string a0_3, .int .i64 a0_4, .bool a0_5] 25 (0, 0)) (bk BK114.out) hb); replace HB := Aside0.mk (below_step bo hb); (try clear hb); (try clear hb2); (try clear hk); (try clear hi)))
  go_ret2
  exact ⟨er, bo⟩

end Go.Proofs.Ytmabdfdmccbfnaa.P

/- The check sum of bytes as a run over 32 bits: what sum.Sum and the page's Sum compute, and what the run is worth. -/
namespace Go.Proofs.Ytmabdfdmccbfnaa.USum
open Go Go.RowKit Go.Proofs.YtmabdfdmccbfnaaW.PrintWords Go.Proofs.YtmabdfdmccbfnaaW.PrintLast
set_option linter.unusedVariables false
theorem ofI (a : BitVec 32) : BitVec.ofInt (IntKind.bits .u32) (a.toNat : Int) = a := by
  show BitVec.ofInt 32 _ = a
  rw [BitVec.ofInt_natCast, BitVec.ofNat_toNat, BitVec.setWidth_eq]
theorem wrapI (a : BitVec 32) : IntKind.wrap .u32 (a.toNat : Int) = a.toNat := by
  have := a.isLt
  simp [IntKind.wrap, IntKind.bits, IntKind.signed]
  omega
theorem bits_xor (a b : BitVec 32) : Go.bits .xor .u32 (a.toNat : Int) (b.toNat : Int) = ((a ^^^ b).toNat : Int) := by
  unfold Go.bits
  simp only [ofI]
  exact wrapI _
theorem bits_and (a b : BitVec 32) : Go.bits .and .u32 (a.toNat : Int) (b.toNat : Int) = ((a &&& b).toNat : Int) := by
  unfold Go.bits
  simp only [ofI]
  exact wrapI _
theorem half (a : BitVec 32) : (a.toNat : Int) / (2 : Int) = ((a >>> 1).toNat : Int) := by
  rw [BitVec.toNat_ushiftRight, Nat.shiftRight_eq_div_pow]; rfl
theorem low (a : BitVec 32) : a &&& 1#32 = 0#32 ∨ a &&& 1#32 = 1#32 := by
  have : (a &&& 1#32).toNat = a.toNat % 2 := by simp [BitVec.toNat_and, Nat.and_one_is_mod]
  rcases Nat.mod_two_eq_zero_or_one a.toNat with h | h
  · left; apply BitVec.eq_of_toNat_eq; rw [this, h]; rfl
  · right; apply BitVec.eq_of_toNat_eq; rw [this, h]; rfl
def cstep (s : BitVec 32) : BitVec 32 := if s &&& 1#32 = 1#32 then (s >>> 1) ^^^ 2197175160#32 else s >>> 1
theorem pstep (s : BitVec 32) : Go.bits .xor .u32 ((s.toNat : Int) / 2) (Go.bits .and .u32 2197175160 ((-(Go.bits .and .u32 (s.toNat : Int) 1)) % 4294967296)) = ((cstep s).toNat : Int) := by
  have e1 : (1 : Int) = ((1#32 : BitVec 32).toNat : Int) := rfl
  have e2 : (2197175160 : Int) = ((2197175160#32 : BitVec 32).toNat : Int) := rfl
  have hb : Go.bits .and .u32 (s.toNat : Int) 1 = ((s &&& 1#32).toNat : Int) := bits_and s 1#32
  rw [hb, half]
  unfold cstep
  rcases low s with h | h
  · rw [h, if_neg (by decide)]
    have : Go.bits .and .u32 2197175160 ((-(((0#32 : BitVec 32).toNat : Nat) : Int)) % 4294967296) = ((0#32 : BitVec 32).toNat : Int) := bits_and 2197175160#32 0#32
    rw [this, bits_xor]
    simp
  · rw [h, if_pos rfl]
    have : Go.bits .and .u32 2197175160 ((-(((1#32 : BitVec 32).toNat : Nat) : Int)) % 4294967296) = ((2197175160#32 : BitVec 32).toNat : Int) := bits_and 2197175160#32 4294967295#32
    rw [this, bits_xor]
theorem rstep1 (s : BitVec 32) (h : Go.bits .and .u32 (s.toNat : Int) 1 = 1) : Go.bits .xor .u32 ((s.toNat : Int) / 2) 2197175160 = ((cstep s).toNat : Int) := by
  have hb : Go.bits .and .u32 (s.toNat : Int) 1 = ((s &&& 1#32).toNat : Int) := bits_and s 1#32
  rw [hb] at h
  rw [half, show (2197175160 : Int) = ((2197175160#32 : BitVec 32).toNat : Int) from rfl, bits_xor]
  unfold cstep
  rcases low s with h' | h'
  · rw [h'] at h; exact absurd h (by decide)
  · rw [if_pos h']
theorem rstep0 (s : BitVec 32) (h : ¬ Go.bits .and .u32 (s.toNat : Int) 1 = 1) : (s.toNat : Int) / 2 = ((cstep s).toNat : Int) := by
  have hb : Go.bits .and .u32 (s.toNat : Int) 1 = ((s &&& 1#32).toNat : Int) := bits_and s 1#32
  rw [hb] at h
  rw [half]
  unfold cstep
  rcases low s with h' | h'
  · rw [if_neg (by rw [h']; decide)]
  · rw [h'] at h; exact absurd rfl h

theorem wrap_one {x : Int} (h0 : 0 ≤ x) (h1 : x < 9223372036854775807) : wrap64 (x + 1) = x + 1 := by
  unfold wrap64; omega
def bstep (s : BitVec 32) (b : UInt8) : BitVec 32 := cstep (cstep (cstep (cstep (cstep (cstep (cstep (cstep (s ^^^ BitVec.ofNat 32 b.toNat))))))))
def run (s : BitVec 32) (l : List UInt8) : BitVec 32 := l.foldl bstep s
theorem bt_get (s : ByteArray) (i : Nat) (h : i < s.size) : bt s i = ((s.data.toList[i]'(by simpa using h)).toNat : Int) := by
  have := bt_at s i (by simpa using h)
  rw [← this]; simp; rfl
theorem bt_u32 (b : UInt8) : (b.toNat : Int) % 4294967296 = ((BitVec.ofNat 32 b.toNat).toNat : Int) := by
  have := b.toNat_lt
  rw [BitVec.toNat_ofNat]; omega
theorem not_eq (s : BitVec 32) : Go.bits .xor .u32 4294967295 (s.toNat : Int) = ((~~~s).toNat : Int) := by
  rw [show (4294967295 : Int) = ((4294967295#32 : BitVec 32).toNat : Int) from rfl, bits_xor]
  have : (4294967295#32 : BitVec 32) = BitVec.allOnes 32 := by decide
  rw [this, BitVec.allOnes_xor]
section
open Go.Proofs.Ytmabdfdmccbfnaa.P
/-- The eight rounds over a byte. -/
theorem l1_ev (x1 : ByteArray) (n i : Int) (r : Int) (s : BitVec 32)
    (h : Ev (fun k => sum_Sum.l0 k ((cstep (cstep (cstep (cstep (cstep (cstep (cstep (cstep s)))))))).toNat) x1 n (wrap64 (i + 1))) r) :
    Ev (fun k => sum_Sum.l1 k (s.toNat) x1 n i 0) r := by
  have one : ∀ (j : Int) (s : BitVec 32), 0 ≤ j → j < 8 → Ev (fun k => sum_Sum.l1 k ((cstep s).toNat) x1 n i (j + 1)) r → Ev (fun k => sum_Sum.l1 k (s.toNat) x1 n i j) r := by
    intro j s h0 h1 hh
    refine Ev.step (f := fun k => sum_Sum.l1 k ((cstep s).toNat) x1 n i (j + 1)) (fun k => ?_) hh
    simp only [sum_Sum.l1]
    rw [if_pos (by omega), pstep, wrap_one h0 (by omega)]
  refine one 0 _ (by omega) (by omega) (one 1 _ (by omega) (by omega) (one 2 _ (by omega) (by omega) (one 3 _ (by omega) (by omega) (one 4 _ (by omega) (by omega) (one 5 _ (by omega) (by omega) (one 6 _ (by omega) (by omega) (one 7 _ (by omega) (by omega) ?_)))))))
  refine Ev.step (fun k => ?_) h
  simp only [sum_Sum.l1]
  rw [if_neg (by omega)]
theorem l0_ev (x1 : ByteArray) (hx : x1.size ≤ 140737488351232) : ∀ (d i : Nat) (s : BitVec 32), x1.size = i + d →
    Ev (fun k => sum_Sum.l0 k (s.toNat) x1 (x1.size : Int) i) ((~~~ (run s (x1.data.toList.drop i))).toNat : Int)
  | 0, i, s, h => by
    refine Ev.step (f := fun _ => some _) (fun k => ?_) (Ev.now _)
    simp only [sum_Sum.l0]
    rw [if_neg (by omega), not_eq, List.drop_eq_nil_of_le (by simp; omega)]
    rfl
  | d + 1, i, s, h => by
    have hi : i < x1.size := by omega
    have ih := l0_ev x1 hx d (i + 1) (bstep s (x1.data.toList[i]'(by simpa using hi))) (by omega)
    refine Ev.step (f := fun k => sum_Sum.l1 k ((s ^^^ BitVec.ofNat 32 (x1.data.toList[i]'(by simpa using hi)).toNat).toNat) x1 (x1.size : Int) i 0) (fun k => ?_) (l1_ev x1 _ _ _ _ ?_)
    · simp only [sum_Sum.l0]
      rw [if_pos (by omega), if_pos (by omega), if_pos (by omega), bt_get x1 i hi, bt_u32, bits_xor]
    · rw [wrap_one (by omega) (by omega), List.drop_eq_getElem_cons (by simpa using hi)]
      exact ih
theorem sum_ev (s : BitVec 32) (x1 : ByteArray) (hx : x1.size ≤ 140737488351232) : Ev (fun k => sum_Sum.f k (s.toNat) x1) ((~~~ (run (~~~ s) x1.data.toList)).toNat : Int) := by
  unfold sum_Sum.f
  rw [not_eq]
  exact l0_ev x1 hx x1.size 0 (~~~s) (by omega)
/-- The eight rounds over a byte. -/
theorem rl1_ev (x1 : ByteArray) (i : Int) (r : Int) (s : BitVec 32)
    (h : Ev (fun k => fairwayref1_Sum.l0 k ((cstep (cstep (cstep (cstep (cstep (cstep (cstep (cstep s)))))))).toNat) x1 (wrap64 (i + 1))) r) :
    Ev (fun k => fairwayref1_Sum.l1 k (s.toNat) x1 i 0) r := by
  have one : ∀ (j : Int) (s : BitVec 32), 0 ≤ j → j < 8 → Ev (fun k => fairwayref1_Sum.l1 k ((cstep s).toNat) x1 i (j + 1)) r → Ev (fun k => fairwayref1_Sum.l1 k (s.toNat) x1 i j) r := by
    intro j s h0 h1 hh
    refine Ev.step (f := fun k => fairwayref1_Sum.l1 k ((cstep s).toNat) x1 i (j + 1)) (fun k => ?_) hh
    simp only [fairwayref1_Sum.l1]
    by_cases hb : Go.bits .and .u32 (s.toNat : Int) 1 = 1
    · rw [if_pos (by omega), if_pos hb, rstep1 s hb, wrap_one h0 (by omega)]
    · rw [if_pos (by omega), if_neg hb, rstep0 s hb, wrap_one h0 (by omega)]
  refine one 0 _ (by omega) (by omega) (one 1 _ (by omega) (by omega) (one 2 _ (by omega) (by omega) (one 3 _ (by omega) (by omega) (one 4 _ (by omega) (by omega) (one 5 _ (by omega) (by omega) (one 6 _ (by omega) (by omega) (one 7 _ (by omega) (by omega) ?_)))))))
  refine Ev.step (fun k => ?_) h
  simp only [fairwayref1_Sum.l1]
  rw [if_neg (by omega)]
theorem rl0_ev (x1 : ByteArray) (hx : x1.size ≤ 140737488351232) : ∀ (d i : Nat) (s : BitVec 32), x1.size = i + d →
    Ev (fun k => fairwayref1_Sum.l0 k (s.toNat) x1 i) ((~~~ (run s (x1.data.toList.drop i))).toNat : Int)
  | 0, i, s, h => by
    refine Ev.step (f := fun _ => some _) (fun k => ?_) (Ev.now _)
    simp only [fairwayref1_Sum.l0]
    rw [if_neg (by omega), not_eq, List.drop_eq_nil_of_le (by simp; omega)]
    rfl
  | d + 1, i, s, h => by
    have hi : i < x1.size := by omega
    have ih := rl0_ev x1 hx d (i + 1) (bstep s (x1.data.toList[i]'(by simpa using hi))) (by omega)
    refine Ev.step (f := fun k => fairwayref1_Sum.l1 k ((s ^^^ BitVec.ofNat 32 (x1.data.toList[i]'(by simpa using hi)).toNat).toNat) x1 i 0) (fun k => ?_) (rl1_ev x1 _ _ _ ?_)
    · simp only [fairwayref1_Sum.l0]
      rw [if_pos (by omega), if_pos (by omega), bt_get x1 i hi, bt_u32, bits_xor]
    · rw [wrap_one (by omega) (by omega), List.drop_eq_getElem_cons (by simpa using hi)]
      exact ih
theorem sumref_ev (s : BitVec 32) (x1 : ByteArray) (hx : x1.size ≤ 140737488351232) : Ev (fun k => fairwayref1_Sum.f k (s.toNat) x1) ((~~~ (run (~~~ s) x1.data.toList)).toNat : Int) := by
  unfold fairwayref1_Sum.f
  rw [not_eq]
  exact rl0_ev x1 hx x1.size 0 (~~~s) (by omega)
/-- A number of the kind u32 is a word's. -/
theorem of_wf {n : Int} (h : (Lit.int .u32 n).wf = true) : ∃ s : BitVec 32, n = (s.toNat : Int) := by
  simp [Lit.wf, IntKind.min, IntKind.max, IntKind.signed, IntKind.bits] at h
  refine ⟨BitVec.ofNat 32 n.toNat, ?_⟩
  rw [BitVec.toNat_ofNat]
  omega
end
end Go.Proofs.Ytmabdfdmccbfnaa.USum

/- Records as bytes: what the program puts together is what the page says. -/
namespace Go.Proofs.Ytmabdfdmccbfnaa.UBytes
open Go Go.RowKit Go.Proofs.Ytmabdfdmccbfnaa.P Go.Proofs.Ytmabdfdmccbfnaa.URec Go.Proofs.Ytmabdfdmccbfnaa.USum Go.Proofs.YtmabdfdmccbfnaaW.PrintWords Go.Proofs.YtmabdfdmccbfnaaW.PrintLast Go.Proofs.YtmabdfdmccbfnaaW.PrintMore
set_option linter.unusedVariables false
set_option linter.unusedSimpArgs false

/-- A number's bytes, the highest first. -/
def digits (x : Int) : Nat → List Int
  | 0 => []
  | n + 1 => (x / 2 ^ (8 * n)) % 256 :: digits x n
theorem digits_length (x : Int) : ∀ n, (digits x n).length = n
  | 0 => rfl
  | n + 1 => by simp [digits, digits_length x n]
def fixed (x : Int) (n : Nat) : ByteArray := strOfNums (digits x n)
theorem fixed_size (x : Int) (n : Nat) : (fixed x n).size = n := by rw [fixed, strOfNums_size, digits_length]
theorem shr_in (x : Int) (n : Nat) (h : n ≤ 64) : shr .i64 x (n : Int) = x / 2 ^ n := by
  unfold shr
  have : min (n : Int).toNat (IntKind.bits .i64) = n := by
    have : IntKind.bits .i64 = 64 := rfl
    omega
  rw [this]
theorem wrap8 (n : Nat) (h : n ≤ 8) : wrap64 (8 * (n : Int)) = ((8 * n : Nat) : Int) := by rw [wrap_in (by omega) (by omega)]; omega

theorem fixed_loop (x : Int) : ∀ (n : Nat) (acc : List Int), n ≤ 8 → acc.length + n ≤ 100 → Ev (fun k => fairwayref1_Fixed.l0 k x acc ((n : Int) - 1)) (strOfNums (acc ++ digits x n))
  | 0, acc, _, _ => by
    refine Ev.step (f := fun _ => some _) (fun k => ?_) (Ev.now _)
    simp only [fairwayref1_Fixed.l0]
    rw [if_neg (by omega)]
    simp [digits]
  | n + 1, acc, hn, hl => by
    have ih := fixed_loop x n (acc ++ [(x / 2 ^ (8 * n)) % 256]) (by omega) (by simp; omega)
    refine Ev.step (f := fun k => fairwayref1_Fixed.l0 k x (acc ++ [(x / 2 ^ (8 * n)) % 256]) ((n : Int) - 1)) (fun k => ?_) ?_
    · simp only [fairwayref1_Fixed.l0]
      have e : ((n + 1 : Nat) : Int) - 1 = (n : Int) := by omega
      rw [e, if_pos (by omega), wrap8 n (by omega), if_pos (by omega), if_pos (by omega), shr_in x (8 * n) (by omega), wrap_in (by omega) (by omega)]
    · simpa [digits] using ih
theorem fixed_ev (x : Int) (n : Nat) (h : n ≤ 8) : Ev (fun k => fairwayref1_Fixed.f k x n) (fixed x n) := by
  unfold fairwayref1_Fixed.f
  rw [wrap_in (by omega) (by omega)]
  simpa [fixed] using fixed_loop x n [] h (by simp; omega)

theorem set_row (m : Nat) (D : List Int) (v : Int) : ((List.replicate (m + 1) (0 : Int)) ++ D).set m v = List.replicate m 0 ++ (v :: D) := by
  rw [List.replicate_succ', List.append_assoc, List.set_append_right _ _ (by simp)]
  simp
theorem high_loop (x : Int) (wd : Nat) (hw : wd ≤ 8) : ∀ (d i : Nat), wd = i + d → Ev (fun k => vbi_high.l0 k x wd (List.replicate d 0 ++ digits x i) wd i) (fixed x wd, 0)
  | 0, i, h => by
    obtain rfl : wd = i := by omega
    refine Ev.step (f := fun _ => some _) (fun k => ?_) (Ev.now _)
    simp only [vbi_high.l0]
    rw [if_neg (by omega)]
    simp [fixed]
  | d + 1, i, h => by
    have ih := high_loop x wd hw d (i + 1) (by omega)
    refine Ev.step (f := fun k => vbi_high.l0 k x wd (List.replicate d 0 ++ digits x (i + 1)) wd ((i + 1 : Nat) : Int)) (fun k => ?_) ih
    simp only [vbi_high.l0]
    have e : wrap64 (wrap64 ((wd : Int) - 1) - (i : Int)) = ((d : Nat) : Int) := by rw [wrap_in (x := (wd : Int) - 1) (by omega) (by omega), wrap_in (by omega) (by omega)]; omega
    rw [if_pos (by omega), wrap8 i (by omega), if_pos (by omega), e, if_pos (by omega), if_pos (by simp [digits_length]; omega), shr_in x (8 * i) (by omega), wrap_in (by omega) (by omega), Int.toNat_natCast, set_row]
    rfl
theorem high_ev (x : Int) (wd : Nat) (hw : wd ≤ 8) (h0 : 0 ≤ x) (h1 : x / 2 ^ (8 * wd) = 0) : Ev (fun k => vbi_high.f k x wd) (fixed x wd, 0) := by
  have hl := high_loop x wd hw wd 0 (by omega)
  refine Ev.step (f := fun k => vbi_high.l0 k x wd (List.replicate wd 0) (wd : Int) 0) (fun k => ?_) (by simpa [digits] using hl)
  simp only [vbi_high.f, vbi_high.j0]
  rw [if_neg (by omega), wrap8 wd hw, if_pos (by omega), shr_in x (8 * wd) (by omega), h1, if_neg (by decide), if_pos (by omega), if_pos (by omega)]
  simp
theorem two_ev (x : Int) (h0 : 0 ≤ x) (h1 : x < 65536) : Ev (fun k => vbi_Two.f k x) (fixed x 2, 0) :=
  Ev.bind (g := fun k => vbi_high.f k x 2) (f := fun _ b => some (b.1, b.2)) (high_ev x 2 (by omega) h0 (by show x / 65536 = 0; omega)) (Ev.now _)
theorem four_ev (x : Int) (h0 : 0 ≤ x) (h1 : x < 4294967296) : Ev (fun k => vbi_Four.f k x) (fixed x 4, 0) :=
  Ev.bind (g := fun k => vbi_high.f k x 4) (f := fun _ b => some (b.1, b.2)) (high_ev x 4 (by omega) h0 (by show x / 4294967296 = 0; omega)) (Ev.now _)

theorem strOfNums_append (a b : List Int) : strOfNums (a ++ b) = strOfNums a ++ strOfNums b := by
  apply ByteArray.ext
  simp [strOfNums, ByteArray.data_append]
theorem low32 (x : Int) (h0 : 0 ≤ x) (h1 : x < 9223372036854775808) : Go.bits .and .i64 x 4294967295 = x % 4294967296 :=
  bits_mask .i64 63 (by decide) (fun n h0 h1 => by rw [IntKind.wrap_i64]; omega) 32 (by decide) x h0 h1
theorem digits8 (x : Int) (h0 : 0 ≤ x) : digits x 8 = digits (x / 4294967296) 4 ++ digits (x % 4294967296) 4 := by
  simp only [digits, List.cons_append, List.nil_append, List.cons.injEq, and_true]
  refine ⟨?_, ?_, ?_, ?_, ?_, ?_, ?_, ?_⟩ <;> omega
theorem eight_ev (x : Int) (h0 : 0 ≤ x) (h1 : x < 9223372036854775808) : Ev (fun k => rec_eight.f k x) (fixed x 8) := by
  refine Ev.bind (f := fun k b => (vbi_Four.f k (Go.bits .and .i64 x 4294967295)).bind fun c => (if b.1.size + c.1.size ≤ 9223372036854775807 then (some (b.1 ++ c.1)) else none)) (four_ev (x / 4294967296) (by omega) (by omega)) ?_
  rw [low32 x h0 h1]
  refine Ev.bind (f := fun k c => (if (fixed (x / 4294967296) 4).size + c.1.size ≤ 9223372036854775807 then (some ((fixed (x / 4294967296) 4) ++ c.1)) else none)) (four_ev (x % 4294967296) (by omega) (by omega)) ?_
  refine Ev.congr (f := fun _ => some _) (fun k => ?_) (Ev.now _)
  rw [if_pos (by simp [fixed_size])]
  rw [fixed, fixed, fixed, ← strOfNums_append, ← digits8 x h0]

/-- A record's first byte behind its numbers. -/
def flagOf (r : R) : Int := if r.f5 = true then r.f4 + 4 else r.f4
def bodyOf (r : R) : ByteArray := ((((fixed r.f0 8 ++ fixed r.f1 8) ++ strOfNums [flagOf r]) ++ fixed (r.f2.size : Int) 2) ++ r.f2) ++ r.f3
def headOf (r : R) : ByteArray := fixed ((bodyOf r).size : Int) 2
def sumOf (h b : ByteArray) : Int := ((~~~ (run (~~~ (0#32)) (h ++ b).data.toList)).toNat : Int)
/-- A record's bytes, by the page. -/
def recBytes (r : R) : ByteArray := (headOf r ++ fixed (sumOf (headOf r) (bodyOf r)) 4) ++ bodyOf r
theorem bodyOf_size (r : R) : (bodyOf r).size = 19 + r.f2.size + r.f3.size := by
  simp only [bodyOf, ByteArray.size_append, fixed_size, strOfNums_size, List.length_singleton]
theorem recBytes_size (r : R) : (recBytes r).size = recLen r := by
  simp only [recBytes, headOf, ByteArray.size_append, fixed_size, bodyOf_size, recLen]; omega
theorem sumOf_in (h b : ByteArray) : 0 ≤ sumOf h b ∧ sumOf h b < 4294967296 := by
  unfold sumOf
  have := (~~~ (run (~~~ (0#32)) (h ++ b).data.toList)).isLt
  omega

theorem ref_tail (r : R) (hr : recOk r) : Ev (fun k => fairwayref10_Bytes.j0 k (flagOf r) r.f0 r.f1 r.f2 r.f3 r.f4 r.f5) (recBytes r) := by
  obtain ⟨h0, h1, h2, h3, h4, h5, h6, h7, h8⟩ := hr
  have hb := bodyOf_size r
  have hf : 0 ≤ flagOf r ∧ flagOf r ≤ 6 := by unfold flagOf; split <;> omega
  have hs := sumOf_in (headOf r) (bodyOf r)
  have hh : (headOf r).size = 2 := fixed_size _ _
  refine Ev.step (fun k => by rw [fairwayref10_Bytes.j0]) ?_
  refine Ev.bind (fixed_ev r.f0 8 (by omega)) ?_
  refine Ev.bind (fixed_ev r.f1 8 (by omega)) ?_
  refine Ev.congr (fun k => if_pos (by simp [fixed_size])) ?_
  refine Ev.bind (Ev.now _) ?_
  rw [show flagOf r % 256 = flagOf r by omega]
  refine Ev.congr (fun k => if_pos (by simp [fixed_size, strOfNums_size])) ?_
  refine Ev.bind (fixed_ev (r.f2.size : Int) 2 (by omega)) ?_
  refine Ev.congr (fun k => if_pos (by simp [fixed_size, strOfNums_size])) ?_
  refine Ev.congr (fun k => if_pos (by simp [fixed_size, strOfNums_size]; omega)) ?_
  refine Ev.congr (fun k => if_pos (by simp [fixed_size, strOfNums_size]; omega)) ?_
  show Ev (fun k => (fairwayref1_Fixed.f k ((bodyOf r).size : Int) (2 : Nat)).bind fun t224 => (if t224.size + (bodyOf r).size ≤ 9223372036854775807 then ((fairwayref1_Sum.f k 0 (t224 ++ bodyOf r)).bind fun t225 => ((fairwayref1_Fixed.f k (wrap64 (t225)) (4 : Nat)).bind fun t226 => (if t224.size + t226.size ≤ 9223372036854775807 then (if (t224 ++ t226).size + (bodyOf r).size ≤ 9223372036854775807 then (some ((t224 ++ t226) ++ bodyOf r)) else (none)) else (none)))) else (none))) (recBytes r)
  refine Ev.bind (fixed_ev ((bodyOf r).size : Int) 2 (by omega)) ?_
  refine Ev.congr (fun k => if_pos (by rw [fixed_size]; omega)) ?_
  refine Ev.bind (sumref_ev 0#32 (headOf r ++ bodyOf r) (by rw [ByteArray.size_append]; omega)) ?_
  have hw : wrap64 ((~~~ (run (~~~ (0#32)) (headOf r ++ bodyOf r).data.toList)).toNat : Int) = sumOf (headOf r) (bodyOf r) := by
    rw [wrap_in (by have := hs; unfold sumOf at this; omega) (by have := hs; unfold sumOf at this; omega)]; rfl
  rw [hw]
  refine Ev.bind (fixed_ev (sumOf (headOf r) (bodyOf r)) 4 (by omega)) ?_
  refine Ev.congr (fun k => if_pos (by rw [fixed_size, fixed_size]; omega)) ?_
  refine Ev.congr (fun k => if_pos (by rw [ByteArray.size_append, fixed_size, fixed_size]; omega)) ?_
  exact Ev.now _
theorem refbytes_ev (r : R) (hr : recOk r) : Ev (fun k => fairwayref10_Bytes.f k r.f0 r.f1 r.f2 r.f3 r.f4 r.f5) (recBytes r) := by
  have ht := ref_tail r hr
  obtain ⟨h0, h1, h2, h3, h4, h5, h6, h7, h8⟩ := hr
  refine Ev.congr (fun k => ?_) ht
  unfold fairwayref10_Bytes.f flagOf
  split
  · rw [wrap_in (by omega) (by omega)]
  · rfl

theorem run_append (s : BitVec 32) (a b : List UInt8) : run s (a ++ b) = run (run s a) b := by simp [run]
theorem flag_u8 (r : R) (hr : recOk r) : (if r.f5 = true then Go.bits .or .u8 (r.f4 % 256) 4 else r.f4 % 256) = flagOf r := by
  obtain ⟨h0, h1, h2, h3, h4, h5, h6, h7, h8⟩ := hr
  have : r.f4 = 0 ∨ r.f4 = 1 ∨ r.f4 = 2 := by omega
  unfold flagOf
  rcases this with h | h | h <;> rw [h] <;> split <;> first | rfl | decide
theorem prog_tail (r : R) (hr : recOk r) : Ev (fun k => rec_Bytes.j0 k (flagOf r) r.f0 r.f1 r.f2 r.f3 r.f4 r.f5) (recBytes r, 0) := by
  obtain ⟨h0, h1, h2, h3, h4, h5, h6, h7, h8⟩ := hr
  have hb := bodyOf_size r
  have hs := sumOf_in (headOf r) (bodyOf r)
  have hh : (headOf r).size = 2 := fixed_size _ _
  refine Ev.step (fun k => by rw [rec_Bytes.j0]) ?_
  refine Ev.bind (two_ev (r.f2.size : Int) (by omega) (by omega)) ?_
  refine Ev.bind (eight_ev r.f0 (by omega) (by omega)) ?_
  refine Ev.bind (eight_ev r.f1 (by omega) (by omega)) ?_
  refine Ev.congr (fun k => if_pos (by simp [fixed_size])) ?_
  refine Ev.bind (Ev.now _) ?_
  refine Ev.congr (fun k => if_pos (by simp [fixed_size, strOfNums_size])) ?_
  refine Ev.congr (fun k => if_pos (by simp [fixed_size, strOfNums_size])) ?_
  refine Ev.congr (fun k => if_pos (by simp [fixed_size, strOfNums_size]; omega)) ?_
  refine Ev.congr (fun k => if_pos (by simp [fixed_size, strOfNums_size]; omega)) ?_
  show Ev (fun k => (vbi_Two.f k ((bodyOf r).size : Int)).bind fun b => ((sum_Sum.f k 0 b.1).bind fun t => ((sum_Sum.f k t (bodyOf r)).bind fun t2 => ((vbi_Four.f k (wrap64 t2)).bind fun c => (if b.1.size + c.1.size ≤ 9223372036854775807 then (if (b.1 ++ c.1).size + (bodyOf r).size ≤ 9223372036854775807 then (some ((b.1 ++ c.1) ++ bodyOf r, (0 : Int))) else none) else none))))) (recBytes r, 0)
  refine Ev.bind (two_ev ((bodyOf r).size : Int) (by omega) (by omega)) ?_
  refine Ev.bind (sum_ev 0#32 (headOf r) (by omega)) ?_
  refine Ev.bind (sum_ev (~~~ (run (~~~ (0#32)) (headOf r).data.toList)) (bodyOf r) (by omega)) ?_
  have hw : wrap64 ((~~~ (run (~~~ ~~~ (run (~~~ (0#32)) (headOf r).data.toList)) (bodyOf r).data.toList)).toNat : Int) = sumOf (headOf r) (bodyOf r) := by
    rw [BitVec.not_not, ← run_append]
    have e : (headOf r).data.toList ++ (bodyOf r).data.toList = (headOf r ++ bodyOf r).data.toList := by simp [ByteArray.data_append]
    rw [e]
    rw [wrap_in (by have := hs; unfold sumOf at this; omega) (by have := hs; unfold sumOf at this; omega)]; rfl
  rw [hw]
  refine Ev.bind (four_ev (sumOf (headOf r) (bodyOf r)) hs.1 hs.2) ?_
  refine Ev.congr (fun k => if_pos (by rw [fixed_size, fixed_size]; omega)) ?_
  refine Ev.congr (fun k => if_pos (by rw [ByteArray.size_append, fixed_size, fixed_size]; omega)) ?_
  exact Ev.now _
theorem bytes_yes (r : R) (hr : recOk r) : Ev (fun k => rec_Bytes.f k r.f0 r.f1 r.f2 r.f3 r.f4 r.f5) (recBytes r, 0) := by
  refine Ev.bind (check_yes r hr) (Ev.congr (fun k => if_pos rfl) ?_)
  have ht := prog_tail r hr
  rw [← flag_u8 r hr] at ht
  refine Ev.congr (fun k => ?_) ht
  split <;> rfl
theorem bytes_no (r : R) (hr : ¬ recOk r) : Ev (fun k => rec_Bytes.f k r.f0 r.f1 r.f2 r.f3 r.f4 r.f5) (⟨#[]⟩, 1) :=
  Ev.bind (check_no r hr) (Ev.congr (fun k => if_neg (by decide)) (Ev.now _))
end Go.Proofs.Ytmabdfdmccbfnaa.UBytes

/- Marks: what the program makes of a segment is what the page says; equality of lists of marks. -/
namespace Go.Proofs.Ytmabdfdmccbfnaa.UMarks
open Go Go.RowKit Go.Proofs.Ytmabdfdmccbfnaa.P Go.Proofs.Ytmabdfdmccbfnaa.URec Go.Proofs.Ytmabdfdmccbfnaa.USeg Go.Proofs.Ytmabdfdmccbfnaa.UBytes Go.Proofs.YtmabdfdmccbfnaaW.PrintWords Go.Proofs.YtmabdfdmccbfnaaW.PrintLast
set_option linter.unusedVariables false
set_option linter.unusedSimpArgs false

abbrev M := S77
/-- The marks of records from place i on, which so many bytes stand ahead of. -/
def mk : List R → Nat → Int → List M
  | [], _, _ => []
  | r :: l, i, n => (if i % 4 = 0 then [⟨r.f0, n⟩] else []) ++ mk l (i + 1) (n + recLen r)
theorem mk_length : ∀ (l : List R) (i : Nat) (n : Int), (mk l i n).length ≤ l.length
  | [], _, _ => Nat.le_refl _
  | r :: l, i, n => by
    have := mk_length l (i + 1) (n + recLen r)
    simp only [mk, List.length_append, List.length_cons]
    split <;> simp <;> omega
theorem tmod4 (i : Nat) : (Int.tmod (i : Int) 4 = 0) ↔ i % 4 = 0 := by
  rw [Int.tmod_eq_emod_of_nonneg (by omega)]; omega

theorem marks_loop (l : List R) (hl : l.length ≤ 200) (hok : ∀ i, i < l.length → recOk (rd_T25 l i)) : ∀ (d i : Nat) (acc : List M) (n : Nat), l.length = i + d → acc.length ≤ i → n ≤ i * 3000 →
    Ev (fun k => index_Marks.l0 k acc n l (l.length : Int) i) (acc ++ mk (l.drop i) i n, 0)
  | 0, i, acc, n, h, ha, hn => by
    refine Ev.step (f := fun _ => some _) (fun k => ?_) (Ev.now _)
    simp only [index_Marks.l0]
    rw [if_neg (by omega), List.drop_eq_nil_of_le (by omega)]
    simp [mk]
  | d + 1, i, acc, n, h, ha, hn => by
    have hi : i < l.length := by omega
    have hr := hok i hi
    have hrl : recLen (rd_T25 l i) ≤ 3000 := by obtain ⟨_, _, _, _, h4, h5, _⟩ := hr; unfold recLen; omega
    have hd : l.drop i = rd_T25 l i :: l.drop (i + 1) := by rw [rd_get hi]; exact List.drop_eq_getElem_cons hi
    rw [hd]
    by_cases h4 : i % 4 = 0
    · have ih := marks_loop l hl hok d (i + 1) (acc ++ [⟨(rd_T25 l i).f0, (n : Int)⟩]) (n + recLen (rd_T25 l i)) (by omega) (by simp; omega) (by omega)
      refine Ev.step (f := fun k => (rec_Size.f k ((rd_T25 l i).f0) ((rd_T25 l i).f1) ((rd_T25 l i).f2) ((rd_T25 l i).f3) ((rd_T25 l i).f4) ((rd_T25 l i).f5)).bind fun b => index_Marks.l0 k (acc ++ [⟨(rd_T25 l i).f0, (n : Int)⟩]) (wrap64 (n + b.1)) l (l.length : Int) (wrap64 (i + 1))) (fun k => ?_) ?_
      · simp only [index_Marks.l0]
        rw [if_pos (by omega), if_pos (by omega), if_pos (by omega), if_pos ((tmod4 i).2 h4), if_pos (by omega)]
      · refine Ev.bind (size_yes _ hr) ?_
        rw [wrap_in (by omega) (by omega), wrap_in (by omega) (by omega)]
        simpa [mk, h4] using ih
    · have ih := marks_loop l hl hok d (i + 1) acc (n + recLen (rd_T25 l i)) (by omega) (by omega) (by omega)
      refine Ev.step (f := fun k => (rec_Size.f k ((rd_T25 l i).f0) ((rd_T25 l i).f1) ((rd_T25 l i).f2) ((rd_T25 l i).f3) ((rd_T25 l i).f4) ((rd_T25 l i).f5)).bind fun b => index_Marks.l0 k acc (wrap64 (n + b.1)) l (l.length : Int) (wrap64 (i + 1))) (fun k => ?_) ?_
      · simp only [index_Marks.l0]
        rw [if_pos (by omega), if_pos (by omega), if_pos (by omega), if_neg (fun g => h4 ((tmod4 i).1 g))]
      · refine Ev.bind (size_yes _ hr) ?_
        rw [wrap_in (by omega) (by omega), wrap_in (by omega) (by omega)]
        simpa [mk, h4] using ih
theorem marks_yes (base : Int) (l : List R) (h : segOk base l) : Ev (fun k => index_Marks.f k base l) (mk l 0 0, 0) := by
  refine Ev.bind (segcheck_yes base l h) (Ev.congr (fun k => if_pos rfl) ?_)
  simpa using marks_loop l h.2.2.1 (fun i hi => segOk_rec h hi) l.length 0 [] 0 (by omega) (by simp) (by omega)
theorem marks_no (base : Int) (l : List R) (h : ¬ segOk base l) : Ev (fun k => index_Marks.f k base l) ([], 1) :=
  Ev.bind (segcheck_no base l h) (Ev.congr (fun k => if_neg (by decide)) (Ev.now _))

theorem refmarks_loop (base : Int) (l : List R) (hl : l.length ≤ 200) (hok : ∀ i, i < l.length → recOk (rd_T25 l i)) : ∀ (d i : Nat) (acc : List M) (n : Nat), l.length = i + d → acc.length ≤ i → n ≤ i * 3000 →
    Ev (fun k => fairwayref10_Marks.l0 k acc n i base l) (acc ++ mk (l.drop i) i n)
  | 0, i, acc, n, h, ha, hn => by
    refine Ev.step (f := fun _ => some _) (fun k => ?_) (Ev.now _)
    simp only [fairwayref10_Marks.l0]
    rw [if_neg (by omega), List.drop_eq_nil_of_le (by omega)]
    simp [mk]
  | d + 1, i, acc, n, h, ha, hn => by
    have hi : i < l.length := by omega
    have hr := hok i hi
    have hrl : recLen (rd_T25 l i) ≤ 3000 := by obtain ⟨_, _, _, _, h4, h5, _⟩ := hr; unfold recLen; omega
    have hd : l.drop i = rd_T25 l i :: l.drop (i + 1) := by rw [rd_get hi]; exact List.drop_eq_getElem_cons hi
    rw [hd]
    have hb := refbytes_ev _ hr
    by_cases h4 : i % 4 = 0
    · have ih := refmarks_loop base l hl hok d (i + 1) (acc ++ [⟨(rd_T25 l i).f0, (n : Int)⟩]) (n + recLen (rd_T25 l i)) (by omega) (by simp; omega) (by omega)
      refine Ev.step (f := fun k => (fairwayref10_Bytes.f k ((rd_T25 l i).f0) ((rd_T25 l i).f1) ((rd_T25 l i).f2) ((rd_T25 l i).f3) ((rd_T25 l i).f4) ((rd_T25 l i).f5)).bind fun b => fairwayref10_Marks.l0 k (acc ++ [⟨(rd_T25 l i).f0, (n : Int)⟩]) (wrap64 (n + (b.size : Int))) (wrap64 (i + 1)) base l) (fun k => ?_) ?_
      · simp only [fairwayref10_Marks.l0]
        rw [if_pos (by omega), if_pos ((tmod4 i).2 h4), if_pos (by omega), if_pos (by omega)]
      · refine Ev.bind hb ?_
        rw [recBytes_size, wrap_in (by omega) (by omega), wrap_in (by omega) (by omega)]
        simpa [mk, h4] using ih
    · have ih := refmarks_loop base l hl hok d (i + 1) acc (n + recLen (rd_T25 l i)) (by omega) (by omega) (by omega)
      refine Ev.step (f := fun k => (fairwayref10_Bytes.f k ((rd_T25 l i).f0) ((rd_T25 l i).f1) ((rd_T25 l i).f2) ((rd_T25 l i).f3) ((rd_T25 l i).f4) ((rd_T25 l i).f5)).bind fun b => fairwayref10_Marks.l0 k acc (wrap64 (n + (b.size : Int))) (wrap64 (i + 1)) base l) (fun k => ?_) ?_
      · simp only [fairwayref10_Marks.l0]
        rw [if_pos (by omega), if_neg (fun g => h4 ((tmod4 i).1 g)), if_pos (by omega)]
      · refine Ev.bind hb ?_
        rw [recBytes_size, wrap_in (by omega) (by omega), wrap_in (by omega) (by omega)]
        simpa [mk, h4] using ih
theorem refmarks_ev (base : Int) (l : List R) (h : segOk base l) : Ev (fun k => fairwayref10_Marks.f k base l) (mk l 0 0) := by
  unfold fairwayref10_Marks.f
  simpa using refmarks_loop base l h.2.2.1 (fun i hi => segOk_rec h hi) l.length 0 [] 0 (by omega) (by simp) (by omega)

/-! ### equality -/
theorem m_rd {l : List M} {i : Nat} (h : i < l.length) : rd_T77 l i = l[i] := by
  unfold rd_T77
  simp [List.getD_eq_getElem?_getD, List.getElem?_eq_getElem h]
theorem m_same (a b : M) : (!(a.f0 == b.f0) || !(a.f1 == b.f1)) = true ↔ a ≠ b := by
  rcases a with ⟨a0, a1⟩
  rcases b with ⟨b0, b1⟩
  by_cases h0 : a0 = b0 <;> by_cases h1 : a1 = b1 <;> simp [h0, h1]
theorem eq_of_rd {a b : List M} (hl : a.length = b.length) (h : ∀ i, i < a.length → rd_T77 a i = rd_T77 b i) : a = b :=
  List.ext_getElem hl fun i h1 h2 => by rw [← m_rd h1, ← m_rd h2]; exact h i h1
theorem eq_loop_yes (a b : List M) (hm : a.length ≤ 9223372036854775806) (hl : a.length = b.length) : ∀ (d i : Nat), a.length = i + d → (∀ j, i ≤ j → j < a.length → rd_T77 a j = rd_T77 b j) →
    Ev (fun k => api_Mark.l0 k a b (a.length : Int) i) true ∧ Ev (fun k => fairwayref0_EqMarks.l0 k a b i) true
  | 0, i, h, _ => by
    refine ⟨Ev.step (f := fun _ => some _) (fun k => ?_) (Ev.now _), Ev.step (f := fun _ => some _) (fun k => ?_) (Ev.now _)⟩
    · simp only [api_Mark.l0]; rw [if_neg (by omega)]
    · simp only [fairwayref0_EqMarks.l0]; rw [if_neg (by omega)]
  | d + 1, i, h, he => by
    obtain ⟨i1, i2⟩ := eq_loop_yes a b hm hl d (i + 1) (by omega) (fun j hj => he j (by omega))
    have hs : ¬ (!((rd_T77 a i).f0 == (rd_T77 b i).f0) || !((rd_T77 a i).f1 == (rd_T77 b i).f1)) = true := fun g => (m_same _ _).1 g (he i (Nat.le_refl _) (by omega))
    refine ⟨Ev.step (fun k => ?_) i1, Ev.step (fun k => ?_) i2⟩
    · simp only [api_Mark.l0]; rw [if_pos (by omega), if_pos (by omega), if_pos (by omega), if_pos (by omega), if_neg hs, wrap_in (by omega) (by omega)]; rfl
    · simp only [fairwayref0_EqMarks.l0]; rw [if_pos (by omega), if_pos (by omega), if_pos (by omega), if_neg hs, wrap_in (by omega) (by omega)]; rfl
theorem eq_loop_no (a b : List M) (hm : a.length ≤ 9223372036854775806) (hl : a.length = b.length) (j : Nat) (hj : j < a.length) (hne : rd_T77 a j ≠ rd_T77 b j) : ∀ (d i : Nat), j = i + d → (∀ q, i ≤ q → q < j → rd_T77 a q = rd_T77 b q) →
    Ev (fun k => api_Mark.l0 k a b (a.length : Int) i) false
  | 0, i, h, _ => by
    obtain rfl : j = i := by omega
    refine Ev.step (f := fun _ => some _) (fun k => ?_) (Ev.now _)
    simp only [api_Mark.l0]; rw [if_pos (by omega), if_pos (by omega), if_pos (by omega), if_pos (by omega), if_pos ((m_same _ _).2 hne)]
  | d + 1, i, h, he => by
    have i1 := eq_loop_no a b hm hl j hj hne d (i + 1) (by omega) (fun q hq => he q (by omega))
    have hs : ¬ (!((rd_T77 a i).f0 == (rd_T77 b i).f0) || !((rd_T77 a i).f1 == (rd_T77 b i).f1)) = true := fun g => (m_same _ _).1 g (he i (Nat.le_refl _) (by omega))
    refine Ev.step (fun k => ?_) i1
    simp only [api_Mark.l0]; rw [if_pos (by omega), if_pos (by omega), if_pos (by omega), if_pos (by omega), if_neg hs, wrap_in (by omega) (by omega)]; rfl
theorem equal_yes (a : List M) (hm : a.length ≤ 9223372036854775806) : Ev (fun k => api_Mark.f k a a) true := by
  unfold api_Mark.f
  exact Ev.congr (fun k => if_pos rfl) (eq_loop_yes a a hm rfl a.length 0 (by omega) (fun _ _ _ => rfl)).1
theorem refequal_yes (a : List M) (hm : a.length ≤ 9223372036854775806) : Ev (fun k => fairwayref0_EqMarks.f k a a) true := by
  unfold fairwayref0_EqMarks.f
  exact Ev.congr (fun k => if_pos rfl) (eq_loop_yes a a hm rfl a.length 0 (by omega) (fun _ _ _ => rfl)).2
theorem equal_no (a b : List M) (hm : a.length ≤ 9223372036854775806) (h : a ≠ b) : Ev (fun k => api_Mark.f k a b) false := by
  unfold api_Mark.f
  by_cases hl : a.length = b.length
  · refine Ev.congr (fun k => if_pos (by omega)) ?_
    obtain ⟨j, hj, hne, hall⟩ := least (p := fun i => rd_T77 a i = rd_T77 b i) a.length (Classical.byContradiction fun hn => h (eq_of_rd hl fun i hi => Classical.byContradiction fun hc => hn ⟨i, hi, hc⟩))
    exact eq_loop_no a b hm hl j hj hne j 0 (by omega) (fun q _ hq => hall q hq)
  · exact Ev.congr (fun k => if_neg (by omega)) (Ev.now _)

theorem copy_loop (l : List M) (hm : l.length ≤ 8000000000000) : ∀ (d i : Nat), l.length = i + d → Ev (fun k => fairwayref0_CopyMarks.l0 k l (l.take i) i) l
  | 0, i, h => by
    refine Ev.step (f := fun _ => some _) (fun k => ?_) (Ev.now _)
    simp only [fairwayref0_CopyMarks.l0]
    rw [if_neg (by omega), List.take_of_length_le (by omega)]
  | d + 1, i, h => by
    have hi : i < l.length := by omega
    have ih := copy_loop l hm d (i + 1) (by omega)
    refine Ev.step (fun k => ?_) ih
    simp only [fairwayref0_CopyMarks.l0]
    rw [if_pos (by omega), if_pos (by omega), if_pos (by rw [List.length_take]; omega), wrap_in (by omega) (by omega)]
    have : l.take (i + 1) = l.take i ++ [⟨(rd_T77 l i).f0, (rd_T77 l i).f1⟩] := by rw [m_rd hi]; exact List.take_succ_eq_append_getElem hi
    rw [this]; rfl
theorem copymarks_ev (l : List M) (hm : l.length ≤ 8000000000000) : Ev (fun k => fairwayref0_CopyMarks.f k l) l := by
  unfold fairwayref0_CopyMarks.f
  simpa using copy_loop l hm l.length 0 (by omega)

theorem icheck_yes (base : Int) (l : List R) (h : segOk base l) : Ev (fun k => index_Check.f k base l (mk l 0 0)) (true, 0) := by
  have hm := mk_length l 0 0
  have h2 := h.2.2.1
  exact Ev.bind (marks_yes base l h) (Ev.congr (fun k => if_pos rfl) (Ev.bind (equal_yes (mk l 0 0) (by omega)) (Ev.now _)))
theorem icheck_other (base : Int) (l : List R) (h : segOk base l) (m : List M) (hm : m.length ≤ 9223372036854775806) (hne : m ≠ mk l 0 0) : Ev (fun k => index_Check.f k base l m) (false, 0) :=
  Ev.bind (marks_yes base l h) (Ev.congr (fun k => if_pos rfl) (Ev.bind (equal_no m (mk l 0 0) hm hne) (Ev.now _)))
theorem icheck_no (base : Int) (l : List R) (h : ¬ segOk base l) (m : List M) : Ev (fun k => index_Check.f k base l m) (false, 1) :=
  Ev.bind (marks_no base l h) (Ev.congr (fun k => if_neg (by decide)) (Ev.now _))
end Go.Proofs.Ytmabdfdmccbfnaa.UMarks

/- From which mark on an offset is looked for: the program's and the page's; marks that rise. -/
namespace Go.Proofs.Ytmabdfdmccbfnaa.UFrom
open Go Go.RowKit Go.Proofs.Ytmabdfdmccbfnaa.P Go.Proofs.Ytmabdfdmccbfnaa.URec Go.Proofs.Ytmabdfdmccbfnaa.USeg Go.Proofs.Ytmabdfdmccbfnaa.UMarks Go.Proofs.YtmabdfdmccbfnaaW.PrintWords Go.Proofs.YtmabdfdmccbfnaaW.PrintLast
set_option linter.unusedVariables false
set_option linter.unusedSimpArgs false

theorem ar_n (n i : Nat) (hn : n ≤ 9223372036854775806) (hi : i < n) : wrap64 ((i : Int) + 1) = ((i + 1 : Nat) : Int) := by
  rw [wrap_in (by omega) (by omega)]; omega
theorem ar_p (n i : Nat) (hn : n ≤ 9223372036854775806) (hi : i < n) (h0 : 0 < i) : wrap64 ((i : Int) - 1) = ((i - 1 : Nat) : Int) := by
  rw [wrap_in (by omega) (by omega)]; omega
/-- The last place of which the mark isn't above q (the first place in any case). -/
def fromAt (q : Int) : List M → Nat → Int → Int
  | [], _, a => a
  | x :: t, i, a => fromAt q t (i + 1) (if i = 0 ∨ x.f0 ≤ q then (i : Int) else a)
theorem from_step (q : Int) (l : List M) (i : Nat) (a : Int) (h : i < l.length) : fromAt q (l.drop i) i a = fromAt q (l.drop (i + 1)) (i + 1) (if i = 0 ∨ (rd_T77 l i).f0 ≤ q then (i : Int) else a) := by
  rw [List.drop_eq_getElem_cons h, fromAt, m_rd h]
theorem reffrom_loop (q : Int) (l : List M) (hm : l.length ≤ 9223372036854775806) : ∀ (d i : Nat) (a : Int), l.length = i + d → Ev (fun k => fairwayref10_From.l0 k l q a i) (fromAt q (l.drop i) i a)
  | 0, i, a, h => by
    rw [List.drop_eq_nil_of_le (by omega), fromAt]
    exact Ev.step (fun k => by rw [fairwayref10_From.l0, if_neg (by omega)]) (Ev.now _)
  | d + 1, i, a, h => by
    have hi : i < l.length := by omega
    have hw := ar_n l.length i hm hi
    rw [from_step q l i a hi]
    by_cases h0 : i = 0
    · rw [if_pos (Or.inl h0)]
      exact Ev.step (fun k => by rw [fairwayref10_From.l0, if_pos (by omega), if_pos (by omega), hw]) (reffrom_loop q l hm d (i + 1) i (by omega))
    · by_cases hq : (rd_T77 l i).f0 ≤ q
      · rw [if_pos (Or.inr hq)]
        exact Ev.step (fun k => by rw [fairwayref10_From.l0, if_pos (by omega), if_neg (by omega), if_pos (by omega), if_pos hq, hw]) (reffrom_loop q l hm d (i + 1) i (by omega))
      · rw [if_neg (fun g => g.elim h0 hq)]
        exact Ev.step (fun k => by rw [fairwayref10_From.l0, if_pos (by omega), if_neg (by omega), if_pos (by omega), if_neg hq, hw]) (reffrom_loop q l hm d (i + 1) a (by omega))
theorem reffrom_ev (q : Int) (l : List M) (hm : l.length ≤ 9223372036854775806) : Ev (fun k => fairwayref10_From.f k l q) (fromAt q l 0 (-1)) :=
  reffrom_loop q l hm l.length 0 (-1) (by omega)

/-- What rises at a place. -/
def risesAt (l : List M) (i : Nat) : Prop := 0 < i → (rd_T77 l (i - 1 : Nat)).f0 < (rd_T77 l i).f0 ∧ (rd_T77 l (i - 1 : Nat)).f1 ≤ (rd_T77 l i).f1
def rises (l : List M) : Prop := ∀ i, i < l.length → risesAt l i
theorem risen_loop (l : List M) (hm : l.length ≤ 9223372036854775806) (n : Nat) (hn : n ≤ l.length) (hok : ∀ i, i < n → risesAt l i) {r : Bool} (hr : Ev (fun k => fairwayref10_Risen.l0 k l n) r) : ∀ (d i : Nat), n = i + d → 0 < i →
    Ev (fun k => fairwayref10_Risen.l0 k l i) r
  | 0, i, h, h0 => by
    obtain rfl : n = i := by omega
    exact hr
  | d + 1, i, h, h0 => by
    have hi : i < l.length := by omega
    have hw := ar_n l.length i hm hi
    have hp := ar_p l.length i hm hi h0
    obtain ⟨a1, a2⟩ := hok i (by omega) h0
    exact Ev.step (fun k => by rw [fairwayref10_Risen.l0, if_pos (by omega), hp, if_pos (by omega), if_pos (by omega), if_pos (by omega), if_neg (by omega), if_neg (by omega), hw]) (risen_loop l hm n hn hok hr d (i + 1) (by omega) (by omega))
theorem risen_yes (l : List M) (hm : l.length ≤ 9223372036854775806) (h : rises l) : Ev (fun k => fairwayref10_Risen.f k l) true := by
  have hend : ∀ n : Nat, l.length ≤ n → Ev (fun k => fairwayref10_Risen.l0 k l n) true := fun n hn => Ev.step (fun k => by rw [fairwayref10_Risen.l0, if_neg (by omega)]) (Ev.now _)
  by_cases h1 : l.length ≤ 1
  · exact hend 1 h1
  · exact risen_loop l hm l.length (Nat.le_refl _) h (hend _ (Nat.le_refl _)) (l.length - 1) 1 (by omega) (by omega)
theorem risen_no (l : List M) (hm : l.length ≤ 9223372036854775806) (j : Nat) (hj : j < l.length) (hb : ¬ risesAt l j) (hok : ∀ i, i < j → risesAt l i) : Ev (fun k => fairwayref10_Risen.f k l) false := by
  have h0 : 0 < j := by
    rcases Nat.eq_zero_or_pos j with h | h
    · subst h; exact absurd (fun g => absurd g (by omega)) hb
    · exact h
  have hp := ar_p l.length j hm hj h0
  refine risen_loop l hm j (by omega) hok ?_ (j - 1) 1 (by omega) (by omega)
  refine Ev.step (f := fun _ => some false) (fun k => ?_) (Ev.now _)
  rw [fairwayref10_Risen.l0, if_pos (by omega), hp, if_pos (by omega), if_pos (by omega), if_pos (by omega)]
  by_cases a1 : (rd_T77 l (j - 1 : Nat)).f0 ≥ (rd_T77 l j).f0
  · rw [if_pos a1]
  · rw [if_neg a1]
    by_cases a2 : (rd_T77 l (j - 1 : Nat)).f1 > (rd_T77 l j).f1
    · rw [if_pos a2]
    · exact absurd (fun _ => ⟨by omega, by omega⟩) hb

/-- The mark at a place; none: of nothing. -/
def mAt (l : List M) (a : Int) : M := if a < 0 then ⟨0, 0⟩ else rd_T77 l a
theorem mAt_nat (l : List M) (i : Nat) : mAt l (i : Int) = rd_T77 l i := by unfold mAt; rw [if_neg (by omega)]
theorem from_one (q : Int) (l : List M) (hm : l.length ≤ 9223372036854775806) (i : Nat) (hi : i < l.length) (a : Int) (h : risesAt l i) {r} (hr : Ev (fun k => index_From.l0 k l q l (l.length : Int) ((i + 1 : Nat) : Int) (mAt l (if i = 0 ∨ (rd_T77 l i).f0 ≤ q then (i : Int) else a)).f0 (mAt l (if i = 0 ∨ (rd_T77 l i).f0 ≤ q then (i : Int) else a)).f1) r) :
    Ev (fun k => index_From.l0 k l q l (l.length : Int) i (mAt l a).f0 (mAt l a).f1) r := by
  have hw := ar_n l.length i hm hi
  refine Ev.step (f := fun k => index_From.j1 k l q i l (l.length : Int) i false (mAt l a).f0 (mAt l a).f1 (rd_T77 l i).f0 (rd_T77 l i).f1) (fun k => ?_) ?_
  · rw [index_From.l0, if_pos (by omega), if_pos (by omega), if_pos (by omega)]
    by_cases h0 : (i : Int) > 0
    · obtain ⟨a1, a2⟩ := h (by omega)
      rw [if_pos h0, ar_p l.length i hm hi (by omega), if_pos (by omega), if_pos (by omega), if_neg (by omega), decide_eq_false (by omega)]
    · rw [if_neg h0]
  · by_cases h0 : i = 0
    · rw [if_pos (Or.inl h0), mAt_nat] at hr
      exact Ev.step (fun k => by rw [index_From.j1, if_neg Bool.false_ne_true, if_pos (by omega), hw]) hr
    · by_cases hq : (rd_T77 l i).f0 ≤ q
      · rw [if_pos (Or.inr hq), mAt_nat] at hr
        exact Ev.step (fun k => by rw [index_From.j1, if_neg Bool.false_ne_true, if_neg (by omega), if_pos hq, hw]) hr
      · rw [if_neg (fun g => g.elim h0 hq)] at hr
        exact Ev.step (fun k => by rw [index_From.j1, if_neg Bool.false_ne_true, if_neg (by omega), if_neg hq, hw]) hr
theorem from_yes_loop (q : Int) (l : List M) (hm : l.length ≤ 9223372036854775806) (h : rises l) : ∀ (d i : Nat) (a : Int), l.length = i + d →
    Ev (fun k => index_From.l0 k l q l (l.length : Int) i (mAt l a).f0 (mAt l a).f1) ((mAt l (fromAt q (l.drop i) i a)).f0, (mAt l (fromAt q (l.drop i) i a)).f1, 0)
  | 0, i, a, hd => by
    rw [List.drop_eq_nil_of_le (by omega), fromAt]
    exact Ev.step (fun k => by rw [index_From.l0, if_neg (by omega)]) (Ev.now _)
  | d + 1, i, a, hd => by
    have hi : i < l.length := by omega
    rw [from_step q l i a hi]
    exact from_one q l hm i hi a (h i hi) (from_yes_loop q l hm h d (i + 1) _ (by omega))
theorem from_yes (q : Int) (l : List M) (hm : l.length ≤ 9223372036854775806) (h : rises l) : Ev (fun k => index_From.f k l q) ((mAt l (fromAt q l 0 (-1))).f0, (mAt l (fromAt q l 0 (-1))).f1, 0) := by
  have := from_yes_loop q l hm h l.length 0 (-1) (by omega)
  exact this
theorem from_no_loop (q : Int) (l : List M) (hm : l.length ≤ 9223372036854775806) (j : Nat) (hj : j < l.length) (hb : ¬ risesAt l j) (hok : ∀ i, i < j → risesAt l i) : ∀ (d i : Nat) (a : Int), j = i + d →
    Ev (fun k => index_From.l0 k l q l (l.length : Int) i (mAt l a).f0 (mAt l a).f1) (0, 0, 1)
  | 0, i, a, hd => by
    obtain rfl : j = i := by omega
    have h0 : 0 < j := by
      rcases Nat.eq_zero_or_pos j with h | h
      · subst h; exact absurd (fun g => absurd g (by omega)) hb
      · exact h
    refine Ev.step (f := fun k => index_From.j1 k l q j l (l.length : Int) j true (mAt l a).f0 (mAt l a).f1 (rd_T77 l j).f0 (rd_T77 l j).f1) (fun k => ?_) (Ev.step (fun k => by rw [index_From.j1, if_pos rfl]) (Ev.now _))
    rw [index_From.l0, if_pos (by omega), if_pos (by omega), if_pos (by omega), if_pos (by omega), ar_p l.length j hm hj h0, if_pos (by omega), if_pos (by omega)]
    by_cases a1 : (rd_T77 l j).f0 ≤ (rd_T77 l (j - 1 : Nat)).f0
    · rw [if_pos a1]
    · rw [if_neg a1]
      by_cases a2 : (rd_T77 l j).f1 < (rd_T77 l (j - 1 : Nat)).f1
      · rw [decide_eq_true a2]
      · exact absurd (fun _ => ⟨by omega, by omega⟩) hb
  | d + 1, i, a, hd => from_one q l hm i (by omega) a (hok i (by omega)) (from_no_loop q l hm j hj hb hok d (i + 1) _ (by omega))
theorem from_no (q : Int) (l : List M) (hm : l.length ≤ 9223372036854775806) (j : Nat) (hj : j < l.length) (hb : ¬ risesAt l j) (hok : ∀ i, i < j → risesAt l i) : Ev (fun k => index_From.f k l q) (0, 0, 1) := by
  have := from_no_loop q l hm j hj hb hok j 0 (-1) (by omega)
  exact this
theorem not_rises (l : List M) (h : ¬ rises l) : ∃ j, j < l.length ∧ ¬ risesAt l j ∧ ∀ i, i < j → risesAt l i :=
  least l.length (Classical.byContradiction fun hn => h fun i hi => Classical.byContradiction fun hc => hn ⟨i, hi, hc⟩)
theorem from_in (q : Int) : ∀ (l : List M) (i : Nat) (a : Int), (0 < i → 0 ≤ a) → a < i → -1 ≤ a → (l ≠ [] ∨ 0 < i → 0 ≤ fromAt q l i a) ∧ fromAt q l i a < i + l.length ∧ -1 ≤ fromAt q l i a
  | [], i, a, h1, h2, h3 => ⟨fun h => h1 (h.resolve_left (fun g => g rfl)), by simp only [fromAt, List.length_nil]; omega, h3⟩
  | x :: t, i, a, h1, h2, h3 => by
    simp only [fromAt]
    obtain ⟨b1, b2, b3⟩ := from_in q t (i + 1) (if i = 0 ∨ x.f0 ≤ q then (i : Int) else a) (fun _ => by split <;> omega) (by split <;> omega) (by split <;> omega)
    exact ⟨fun _ => b1 (Or.inr (by omega)), by simp only [List.length_cons]; omega, b3⟩
end Go.Proofs.Ytmabdfdmccbfnaa.UFrom

-- written by a program of the proving session, out of the translation; Lean checks it
namespace Go.Proofs.Ytmabdfdmccbfnaa.P
open Go.RowKit Go.Proofs.Ytmabdfdmccbfnaa.Sq Go.Proofs.YtmabdfdmccbfnaaW.PrintWords Go.Proofs.YtmabdfdmccbfnaaW.PrintLast Go.Proofs.YtmabdfdmccbfnaaW.PrintMore
attribute [local go_sem] max2_int min2_int max_two min_two max_three min_three max_four min_four   -- for this text's walks alone
set_option linter.unusedVariables false
set_option linter.unusedSimpArgs false

/-! ### seg_Find: function 32 -/
/-- The first record of which the closure holds. -/
def seg_Find.ix (q : Int) : List S25 → Nat → Int
 | [], _ => -1
 | x :: l, i => if x.f0 ≥ q then (i : Int) else seg_Find.ix q l (i + 1)
def seg_Find.f (k : Nat) (a0_0 : Int) (l0_1 : List (S25)) (a1 : Int) : Option (Int × Int × ByteArray × ByteArray × Int × Bool × Int) :=
 (seg_Check.f k a0_0 l0_1).bind fun t => (if t = 0 then (if seg_Find.ix a1 l0_1 0 < 0 then (some (0, 0, (⟨#[]⟩ : ByteArray), (⟨#[]⟩ : ByteArray), 0, false, 3)) else (some ((rd_T25 l0_1 (seg_Find.ix a1 l0_1 0)).f0, (rd_T25 l0_1 (seg_Find.ix a1 l0_1 0)).f1, (rd_T25 l0_1 (seg_Find.ix a1 l0_1 0)).f2, (rd_T25 l0_1 (seg_Find.ix a1 l0_1 0)).f3, (rd_T25 l0_1 (seg_Find.ix a1 l0_1 0)).f4, (rd_T25 l0_1 (seg_Find.ix a1 l0_1 0)).f5, 0))) else (some (0, 0, (⟨#[]⟩ : ByteArray), (⟨#[]⟩ : ByteArray), 0, false, t)))
theorem seg_Find.mono : ∀ a0 a1 a2 k, LeO (seg_Find.f k a0 a1 a2) (seg_Find.f (k + 1) a0 a1 a2) := by
 intro a0 a1 a2 k
 unfold seg_Find.f
 exact LeO.bind (seg_Check.mono _ _ _) (fun _ => LeO.refl _)
theorem seg_Find.ix_step (q : Int) (l : List S25) (i : Nat) (h : i < l.length) : seg_Find.ix q (l.drop i) i = if (rd_T25 l i).f0 ≥ q then (i : Int) else seg_Find.ix q (l.drop (i + 1)) (i + 1) := by
 have e : rd_T25 l i = l[i] := by unfold rd_T25; simp [List.getD_eq_getElem?_getD, List.getElem?_eq_getElem h]
 rw [List.drop_eq_getElem_cons h, seg_Find.ix, e]
theorem seg_Find.ix_in (q : Int) : ∀ (l : List S25) (i : Nat), seg_Find.ix q l i = -1 ∨ ((i : Int) ≤ seg_Find.ix q l i ∧ seg_Find.ix q l i < i + l.length)
 | [], i => .inl rfl
 | x :: l, i => by
  unfold seg_Find.ix
  split
  ·right; simp; omega
  ·rcases seg_Find.ix_in q l (i + 1) with h | h
   ·exact .inl h
   ·right; simp; omega
theorem seg_Find.below_cells {W w1 : World} (hb : Below W.heap.size W w1) : (∀ b o, b < W.heap.size → w1.cell? ⟨b, o, none⟩ = W.cell? ⟨b, o, none⟩) ∧ (∀ b o, b < W.heap.size → w1.frozen? ⟨b, o, none⟩ = W.frozen? ⟨b, o, none⟩) :=
 ⟨fun b o h => hb.cell (p := ⟨b, o, none⟩) h, fun b o h => hb.frozen (p := ⟨b, o, none⟩) h⟩
set_option maxHeartbeats 1000000 in
set_option maxRecDepth 100000 in
theorem seg_Find.cl (g : Nat) (q : Int) (x : S25) (W : World) (hg : g < W.heap.size) (hc : W.cell? ⟨g, 0, none⟩ = some (.int .i64 q)) (b : Bool) (hb : decide (x.f0 ≥ q) = b) :
 Calls Try.prog 73 #[.agg #[.int .i64 x.f0, .int .i64 x.f1, .string x.f2, .string x.f3, .int .i64 x.f4, .bool x.f5], .pointer (some ⟨g, 0, none⟩)] W fun e w' => e = .returned (.bool b) ∧ Below W.heap.size W w' := by
 have hu25 := Try.underlying25
 subst hb
 go_enter Try.func73, Try.ntmps73
 go_wp2
 go_ret
 exact ⟨by first | rfl | simp, by first | exact (Below.refl _ _).alloc (Nat.le_refl _) _ | skip⟩
set_option maxHeartbeats 4000000 in
set_option maxRecDepth 100000 in
theorem seg_Find.ixcalls (A0 : Option Addr) (c0 : Nat) (l0 : List S25) (q : Int) (g : Nat) (w : World) (hr0 : Kd.C k25 w A0 l0.length l0) (hc0 : l0.length ≤ c0) (hg : g < w.heap.size) (hc : w.cell? ⟨g, 0, none⟩ = some (.int .i64 q)) :
 Calls Try.prog 84 #[.slice A0 l0.length c0, .func (.func 73) #[] #[.pointer (some ⟨g, 0, none⟩)]] w fun e w' => e = .returned (.int .i64 (seg_Find.ix q l0 0)) ∧ Below w.heap.size w w' := by
 have hm := hr0.2.1
 have HR0 := Aside0.mk hr0
 have HC0 := Aside0.mk hc0
 have HG := Aside0.mk hg
 have HCl := Aside0.mk hc
 have HB := Aside0.mk (Below.refl w.heap.size w)
 clear hr0 hc0 hg hc
 go_enter Try.func84, Try.ntmps84
 go_wp2
 go_loopw [8] (fun v8 w' => ∃ i : Nat, i ≤ l0.length ∧ v8 = .int .i64 i ∧ Aside0 (seg_Find.ix q (l0.drop i) i = seg_Find.ix q l0 0) ∧ Aside0 (Below w.heap.size w w')) (fun v8 _ => l0.length - (intOf v8).toNat)
 case atStart => exact ⟨0, Nat.zero_le _, rfl, ⟨by simp⟩, HB⟩
 case round =>
  clear HB
  obtain ⟨i, hi, rfl, HX, HB⟩ := hrel
  by_cases hlt : i < l0.length
  ·have hs := seg_Find.ix_step q l0 i hlt
   have HS := Aside0.mk hs
   clear hs
   obtain ⟨ad, ead, hx0, hx1, hx2, hx3, hx4, hx5⟩ := at_T25 HR0.out (i : Int) (by omega) (by omega)
   cases ead
   simp only [Int.toNat_natCast] at hx0 hx1 hx2 hx3 hx4 hx5
   replace hx0 := cx HB.out hx0
   replace hx1 := cx HB.out hx1
   replace hx2 := cx HB.out hx2
   replace hx3 := cx HB.out hx3
   replace hx4 := cx HB.out hx4
   replace hx5 := cx HB.out hx5
   by_cases ht : (rd_T25 l0 (i : Int)).f0 ≥ q
   ·have hd : decide ((rd_T25 l0 (i : Int)).f0 ≥ q) = true := decide_eq_true ht
    have HD := Aside0.mk hd
    clear hd
    go_wp2_with (first | (go_at_call 73; (with_reducible refine (seg_Find.cl g q (rd_T25 l0 (i : Int)) _ (Nat.lt_of_lt_of_le HG.out HB.out.size) ((HB.out.cell (p := ⟨g, 0, none⟩) HG.out).trans HCl.out) true HD.out).mono ?_); rintro e w31 ⟨rfl, hb⟩; replace HB := Aside0.mk (below_step HB.out hb); clear hb))
    go_ret
    refine ⟨?_, HB.out⟩
    have e1 := HX.out
    rw [HS.out, if_pos ht] at e1
    rw [← e1]; rfl
   ·have hd : decide ((rd_T25 l0 (i : Int)).f0 ≥ q) = false := decide_eq_false ht
    have HD := Aside0.mk hd
    clear hd
    go_wp2_with (first | (go_at_call 73; (with_reducible refine (seg_Find.cl g q (rd_T25 l0 (i : Int)) _ (Nat.lt_of_lt_of_le HG.out HB.out.size) ((HB.out.cell (p := ⟨g, 0, none⟩) HG.out).trans HCl.out) false HD.out).mono ?_); rintro e w31 ⟨rfl, hb⟩; replace HB := Aside0.mk (below_step HB.out hb); clear hb))
    go_roundw
    case rel => exact ⟨i + 1, by omega, by go_num, ⟨by have e1 := HX.out; rw [HS.out, if_neg (by omega)] at e1; exact e1⟩, HB⟩
    case measure => simp [intOf]; omega
  ·have hi2 : i = l0.length := by omega
   have e1 := HX.out
   rw [List.drop_eq_nil_of_le (by omega)] at e1
   have E1 := Aside0.mk e1
   clear e1
   subst hi2
   go_wp2
   go_ret
   exact ⟨by rw [← E1.out]; rfl, HB.out⟩
set_option maxHeartbeats 4000000 in
set_option maxRecDepth 100000 in
theorem seg_Find.fst (k : Nat) (a0_0 : Int) (A0_1 : Option Addr) (c0_1 : Nat) (l0_1 : List S25) (q : Int) (g : Nat) (r1 : Int) (r2 : Int) (r3 : ByteArray) (r4 : ByteArray) (r5 : Int) (r6 : Bool) (r7 : Int) (w : World) (hr0_1 : Kd.C k25 w A0_1 l0_1.length l0_1) (hc0_1 : l0_1.length ≤ c0_1) (hg : g < w.heap.size) (hc : w.cell? ⟨g, 0, none⟩ = some (.int .i64 q))
 (h : seg_Find.f k a0_0 l0_1 q = some (r1, r2, r3, r4, r5, r6, r7)) :
 Calls Try.prog 72 #[.agg #[.int .i64 a0_0, .slice A0_1 l0_1.length c0_1], .func (.func 73) #[] #[.pointer (some ⟨g, 0, none⟩)]] w fun e w' => e = .returned (.tuple #[.agg #[.int .i64 r1, .int .i64 r2, .string r3, .string r4, .int .i64 r5, .bool r6], .int .i64 r7]) ∧ Below w.heap.size w w' := by
 have hu53 := Try.underlying53
 have hu25 := Try.underlying25
 unfold seg_Find.f at h
 obtain ⟨t, ht, h⟩ := Option.bind_eq_some_iff.1 h
 have HT := Aside0.mk ht
 have HR0 := Aside0.mk hr0_1
 have HC0 := Aside0.mk hc0_1
 have HG := Aside0.mk hg
 have HCl := Aside0.mk hc
 have HB := Aside0.mk (Below.refl w.heap.size w)
 clear hr0_1 hc0_1 hg hc ht
 by_cases h0 : t = 0
 ·subst h0
  rw [if_pos rfl] at h
  have hin := seg_Find.ix_in q l0_1 0
  by_cases hx : seg_Find.ix q l0_1 0 < 0
  ·rw [if_pos hx] at h
   simp only [Option.some.injEq, Prod.mk.injEq] at h
   obtain ⟨rfl, rfl, rfl, rfl, rfl, rfl, rfl⟩ := h
   have b0 : decide (seg_Find.ix q l0_1 0 < 0) = true := decide_eq_true hx
   clear hin hx
   go_enter Try.func72, Try.ntmps72
   go_wp2_with (first | (go_at_call 46; (with_reducible refine (seg_Check.calls k a0_0 _ _ l0_1 _ _ (Kd.C_alloc (Kd.C_alloc HR0.out _) _) HC0.out HT.out).mono ?_); rintro e w2 ⟨rfl, hb⟩; obtain ⟨hc2, hf2⟩ := seg_Find.below_cells hb; have hz2 : w.heap.size + 1 < w2.heap.size := (by have := hb.size; simp at this; omega); replace HB := Aside0.mk (below_step ((((Below.refl w.heap.size w).alloc (Nat.le_refl _) _).alloc (by simp) _)) hb); have HX := Aside0.mk hb; have hz2b : w.heap.size < w2.heap.size := (by omega); clear hb) | (go_at_call 84; (with_reducible refine (seg_Find.ixcalls _ _ l0_1 q g _ (Kd.C_below HR0.out HB.out) HC0.out (Nat.lt_of_lt_of_le HG.out HB.out.size) ((HB.out.cell (p := ⟨g, 0, none⟩) HG.out).trans HCl.out)).mono ?_); rintro e w3 ⟨rfl, hb⟩; obtain ⟨hc3, hf3⟩ := seg_Find.below_cells hb; have hz3 : w.heap.size + 1 < w3.heap.size := (Nat.lt_of_lt_of_le hz2 hb.size); replace HB := Aside0.mk (below_step HB.out hb); clear hb; skip))
   refine bodyPost_ret (v := .tuple #[.agg #[.int .i64 0, .int .i64 0, .string ⟨#[]⟩, .string ⟨#[]⟩, .int .i64 0, .bool false], .int .i64 3]) (by simp [results, Try.results72, go_sem, hc2, hz2, hc3, hz3]) rfl ⟨rfl, ?_⟩
   (repeat (refine Below.setCell ?_ (by first | omega | (simp; done) | (simp; omega)) _)); exact HB.out
  ·rw [if_neg hx] at h
   simp only [Option.some.injEq, Prod.mk.injEq] at h
   obtain ⟨rfl, rfl, rfl, rfl, rfl, rfl, rfl⟩ := h
   have b0 : decide (seg_Find.ix q l0_1 0 < 0) = false := decide_eq_false hx
   obtain ⟨i, hi⟩ : ∃ i : Nat, seg_Find.ix q l0_1 0 = (i : Int) := ⟨(seg_Find.ix q l0_1 0).toNat, by omega⟩
   have hil : i < l0_1.length := by omega
   simp only [hi] at b0 ⊢
   have HI := Aside0.mk hi
   obtain ⟨ad, ead, hx0, hx1, hx2, hx3, hx4, hx5⟩ := at_T25 HR0.out (i : Int) (by omega) (by omega)
   cases ead
   simp only [Int.toNat_natCast] at hx0 hx1 hx2 hx3 hx4 hx5
   have H0 := Aside0.mk hx0
   have H1 := Aside0.mk hx1
   have H2 := Aside0.mk hx2
   have H3 := Aside0.mk hx3
   have H4 := Aside0.mk hx4
   have H5 := Aside0.mk hx5
   clear hin hx hi hx0 hx1 hx2 hx3 hx4 hx5
   go_enter Try.func72, Try.ntmps72
   go_wp2_with (first | (go_at_call 46; (with_reducible refine (seg_Check.calls k a0_0 _ _ l0_1 _ _ (Kd.C_alloc (Kd.C_alloc HR0.out _) _) HC0.out HT.out).mono ?_); rintro e w2 ⟨rfl, hb⟩; obtain ⟨hc2, hf2⟩ := seg_Find.below_cells hb; have hz2 : w.heap.size + 1 < w2.heap.size := (by have := hb.size; simp at this; omega); replace HB := Aside0.mk (below_step ((((Below.refl w.heap.size w).alloc (Nat.le_refl _) _).alloc (by simp) _)) hb); have HX := Aside0.mk hb; have hz2b : w.heap.size < w2.heap.size := (by omega); clear hb) | (go_at_call 84; (with_reducible refine (seg_Find.ixcalls _ _ l0_1 q g _ (Kd.C_below HR0.out HB.out) HC0.out (Nat.lt_of_lt_of_le HG.out HB.out.size) ((HB.out.cell (p := ⟨g, 0, none⟩) HG.out).trans HCl.out)).mono ?_); rintro e w3 ⟨rfl, hb⟩; obtain ⟨hc3, hf3⟩ := seg_Find.below_cells hb; have hz3 : w.heap.size + 1 < w3.heap.size := (Nat.lt_of_lt_of_le hz2 hb.size); replace HB := Aside0.mk (below_step HB.out hb); clear hb; rw [HI.out]; have hy0 := cx HB.out H0.out; have hy1 := cx HB.out H1.out; have hy2 := cx HB.out H2.out; have hy3 := cx HB.out H3.out; have hy4 := cx HB.out H4.out; have hy5 := cx HB.out H5.out))
   refine bodyPost_ret (v := .tuple #[.agg #[.int .i64 (rd_T25 l0_1 (i : Int)).f0, .int .i64 (rd_T25 l0_1 (i : Int)).f1, .string (rd_T25 l0_1 (i : Int)).f2, .string (rd_T25 l0_1 (i : Int)).f3, .int .i64 (rd_T25 l0_1 (i : Int)).f4, .bool (rd_T25 l0_1 (i : Int)).f5], .int .i64 0]) (by simp [results, Try.results72, go_sem, hc2, hz2, hc3, hz3]) rfl ⟨rfl, ?_⟩
   (repeat (refine Below.setCell ?_ (by first | omega | (simp; done) | (simp; omega)) _)); exact HB.out
 ·rw [if_neg h0] at h
  simp only [Option.some.injEq, Prod.mk.injEq] at h
  obtain ⟨rfl, rfl, rfl, rfl, rfl, rfl, rfl⟩ := h
  have b0 : (t == 0) = false := beq_eq_false_iff_ne.mpr h0
  have b1 : (t != 0) = true := bne_iff_ne.mpr h0
  go_enter Try.func72, Try.ntmps72
  go_wp2_with (first | (go_at_call 46; (with_reducible refine (seg_Check.calls k a0_0 _ _ l0_1 _ _ (Kd.C_alloc (Kd.C_alloc HR0.out _) _) HC0.out HT.out).mono ?_); rintro e w2 ⟨rfl, hb⟩; obtain ⟨hc2, hf2⟩ := seg_Find.below_cells hb; have hz2 : w.heap.size + 1 < w2.heap.size := (by have := hb.size; simp at this; omega); replace HB := Aside0.mk (below_step ((((Below.refl w.heap.size w).alloc (Nat.le_refl _) _).alloc (by simp) _)) hb); have HX := Aside0.mk hb; have hz2b : w.heap.size < w2.heap.size := (by omega); clear hb))
  refine bodyPost_ret (v := .tuple #[.agg #[.int .i64 0, .int .i64 0, .string ⟨#[]⟩, .string ⟨#[]⟩, .int .i64 0, .bool false], .int .i64 t]) (by simp [results, Try.results72, go_sem, hc2, hz2]) rfl ⟨rfl, ?_⟩
  (repeat (refine Below.setCell ?_ (by first | omega | (simp; done) | (simp; omega)) _)); exact HB.out
set_option maxHeartbeats 4000000 in
set_option maxRecDepth 100000 in
theorem seg_Find.calls (k : Nat) (a0_0 : Int) (A0_1 : Option Addr) (c0_1 : Nat) (l0_1 : List S25) (a1 : Int) (r1 : Int) (r2 : Int) (r3 : ByteArray) (r4 : ByteArray) (r5 : Int) (r6 : Bool) (r7 : Int) (w : World) (hr0_1 : Kd.C k25 w A0_1 l0_1.length l0_1) (hc0_1 : l0_1.length ≤ c0_1)
 (h : seg_Find.f k a0_0 l0_1 a1 = some (r1, r2, r3, r4, r5, r6, r7)) :
 Calls Try.prog 32 #[.agg #[.int .i64 a0_0, .slice A0_1 l0_1.length c0_1], .int .i64 a1] w fun e w' => e = .returned (.tuple #[.agg #[.int .i64 r1, .int .i64 r2, .string r3, .string r4, .int .i64 r5, .bool r6], .int .i64 r7]) ∧ Below w.heap.size w w' := by
 have hu53 := Try.underlying53
 have hu25 := Try.underlying25
 have HT := Aside0.mk h
 have HR0 := Aside0.mk hr0_1
 have HC0 := Aside0.mk hc0_1
 have HB := Aside0.mk (Below.refl w.heap.size w)
 clear hr0_1 hc0_1 h
 go_enter Try.func32, Try.ntmps32
 go_wp2_with (first | (go_at_call 72; (with_reducible refine (seg_Find.fst k a0_0 _ _ l0_1 a1 _ r1 r2 r3 r4 r5 r6 r7 _ (Kd.C_alloc (Kd.C_alloc (Kd.C_alloc HR0.out _) _) _) HC0.out ?hg ?hc HT.out).mono ?_); (case hg => simp); (case hc => go_simp); rintro e w2 ⟨rfl, hb⟩; obtain ⟨hc2, hf2⟩ := seg_Find.below_cells hb; have hz2 : w.heap.size + 2 < w2.heap.size := (by have := hb.size; simp at this; omega); replace HB := Aside0.mk (below_step (((((Below.refl w.heap.size w).alloc (Nat.le_refl _) _).alloc (by simp) _).alloc (by simp; omega) _)) hb); clear hb))
 refine bodyPost_ret (v := .tuple #[.agg #[.int .i64 r1, .int .i64 r2, .string r3, .string r4, .int .i64 r5, .bool r6], .int .i64 r7]) (by simp [results, Try.results32, go_sem, hc2, hz2]) rfl ⟨rfl, ?_⟩
 (repeat (refine Below.setCell ?_ (by first | omega | (simp; done) | (simp; omega)) _)); exact HB.out

end Go.Proofs.Ytmabdfdmccbfnaa.P

-- written by a program of the proving session, out of the translation; Lean checks it
namespace Go.Proofs.Ytmabdfdmccbfnaa.P
open Go.RowKit Go.Proofs.Ytmabdfdmccbfnaa.Sq Go.Proofs.YtmabdfdmccbfnaaW.PrintWords Go.Proofs.YtmabdfdmccbfnaaW.PrintLast Go.Proofs.YtmabdfdmccbfnaaW.PrintMore
attribute [local go_sem] max2_int min2_int max_two min_two max_three min_three max_four min_four   -- for this text's walks alone
set_option linter.unusedVariables false
set_option linter.unusedSimpArgs false

/-! ### seg_Since: function 33 -/
/-- The first record of which the closure holds. -/
def seg_Since.ix (q : Int) : List S25 → Nat → Int
 | [], _ => -1
 | x :: l, i => if x.f1 ≥ q then (i : Int) else seg_Since.ix q l (i + 1)
def seg_Since.f (k : Nat) (a0_0 : Int) (l0_1 : List (S25)) (a1 : Int) : Option (Int × Int × ByteArray × ByteArray × Int × Bool × Int) :=
 (seg_Check.f k a0_0 l0_1).bind fun t => (if t = 0 then (if seg_Since.ix a1 l0_1 0 < 0 then (some (0, 0, (⟨#[]⟩ : ByteArray), (⟨#[]⟩ : ByteArray), 0, false, 3)) else (some ((rd_T25 l0_1 (seg_Since.ix a1 l0_1 0)).f0, (rd_T25 l0_1 (seg_Since.ix a1 l0_1 0)).f1, (rd_T25 l0_1 (seg_Since.ix a1 l0_1 0)).f2, (rd_T25 l0_1 (seg_Since.ix a1 l0_1 0)).f3, (rd_T25 l0_1 (seg_Since.ix a1 l0_1 0)).f4, (rd_T25 l0_1 (seg_Since.ix a1 l0_1 0)).f5, 0))) else (some (0, 0, (⟨#[]⟩ : ByteArray), (⟨#[]⟩ : ByteArray), 0, false, t)))
theorem seg_Since.mono : ∀ a0 a1 a2 k, LeO (seg_Since.f k a0 a1 a2) (seg_Since.f (k + 1) a0 a1 a2) := by
 intro a0 a1 a2 k
 unfold seg_Since.f
 exact LeO.bind (seg_Check.mono _ _ _) (fun _ => LeO.refl _)
theorem seg_Since.ix_step (q : Int) (l : List S25) (i : Nat) (h : i < l.length) : seg_Since.ix q (l.drop i) i = if (rd_T25 l i).f1 ≥ q then (i : Int) else seg_Since.ix q (l.drop (i + 1)) (i + 1) := by
 have e : rd_T25 l i = l[i] := by unfold rd_T25; simp [List.getD_eq_getElem?_getD, List.getElem?_eq_getElem h]
 rw [List.drop_eq_getElem_cons h, seg_Since.ix, e]
theorem seg_Since.ix_in (q : Int) : ∀ (l : List S25) (i : Nat), seg_Since.ix q l i = -1 ∨ ((i : Int) ≤ seg_Since.ix q l i ∧ seg_Since.ix q l i < i + l.length)
 | [], i => .inl rfl
 | x :: l, i => by
  unfold seg_Since.ix
  split
  ·right; simp; omega
  ·rcases seg_Since.ix_in q l (i + 1) with h | h
   ·exact .inl h
   ·right; simp; omega
theorem seg_Since.below_cells {W w1 : World} (hb : Below W.heap.size W w1) : (∀ b o, b < W.heap.size → w1.cell? ⟨b, o, none⟩ = W.cell? ⟨b, o, none⟩) ∧ (∀ b o, b < W.heap.size → w1.frozen? ⟨b, o, none⟩ = W.frozen? ⟨b, o, none⟩) :=
 ⟨fun b o h => hb.cell (p := ⟨b, o, none⟩) h, fun b o h => hb.frozen (p := ⟨b, o, none⟩) h⟩
set_option maxHeartbeats 1000000 in
set_option maxRecDepth 100000 in
theorem seg_Since.cl (g : Nat) (q : Int) (x : S25) (W : World) (hg : g < W.heap.size) (hc : W.cell? ⟨g, 0, none⟩ = some (.int .i64 q)) (b : Bool) (hb : decide (x.f1 ≥ q) = b) :
 Calls Try.prog 74 #[.agg #[.int .i64 x.f0, .int .i64 x.f1, .string x.f2, .string x.f3, .int .i64 x.f4, .bool x.f5], .pointer (some ⟨g, 0, none⟩)] W fun e w' => e = .returned (.bool b) ∧ Below W.heap.size W w' := by
 have hu25 := Try.underlying25
 subst hb
 go_enter Try.func74, Try.ntmps74
 go_wp2
 go_ret
 exact ⟨by first | rfl | simp, by first | exact (Below.refl _ _).alloc (Nat.le_refl _) _ | skip⟩
set_option maxHeartbeats 4000000 in
set_option maxRecDepth 100000 in
theorem seg_Since.ixcalls (A0 : Option Addr) (c0 : Nat) (l0 : List S25) (q : Int) (g : Nat) (w : World) (hr0 : Kd.C k25 w A0 l0.length l0) (hc0 : l0.length ≤ c0) (hg : g < w.heap.size) (hc : w.cell? ⟨g, 0, none⟩ = some (.int .i64 q)) :
 Calls Try.prog 84 #[.slice A0 l0.length c0, .func (.func 74) #[] #[.pointer (some ⟨g, 0, none⟩)]] w fun e w' => e = .returned (.int .i64 (seg_Since.ix q l0 0)) ∧ Below w.heap.size w w' := by
 have hm := hr0.2.1
 have HR0 := Aside0.mk hr0
 have HC0 := Aside0.mk hc0
 have HG := Aside0.mk hg
 have HCl := Aside0.mk hc
 have HB := Aside0.mk (Below.refl w.heap.size w)
 clear hr0 hc0 hg hc
 go_enter Try.func84, Try.ntmps84
 go_wp2
 go_loopw [8] (fun v8 w' => ∃ i : Nat, i ≤ l0.length ∧ v8 = .int .i64 i ∧ Aside0 (seg_Since.ix q (l0.drop i) i = seg_Since.ix q l0 0) ∧ Aside0 (Below w.heap.size w w')) (fun v8 _ => l0.length - (intOf v8).toNat)
 case atStart => exact ⟨0, Nat.zero_le _, rfl, ⟨by simp⟩, HB⟩
 case round =>
  clear HB
  obtain ⟨i, hi, rfl, HX, HB⟩ := hrel
  by_cases hlt : i < l0.length
  ·have hs := seg_Since.ix_step q l0 i hlt
   have HS := Aside0.mk hs
   clear hs
   obtain ⟨ad, ead, hx0, hx1, hx2, hx3, hx4, hx5⟩ := at_T25 HR0.out (i : Int) (by omega) (by omega)
   cases ead
   simp only [Int.toNat_natCast] at hx0 hx1 hx2 hx3 hx4 hx5
   replace hx0 := cx HB.out hx0
   replace hx1 := cx HB.out hx1
   replace hx2 := cx HB.out hx2
   replace hx3 := cx HB.out hx3
   replace hx4 := cx HB.out hx4
   replace hx5 := cx HB.out hx5
   by_cases ht : (rd_T25 l0 (i : Int)).f1 ≥ q
   ·have hd : decide ((rd_T25 l0 (i : Int)).f1 ≥ q) = true := decide_eq_true ht
    have HD := Aside0.mk hd
    clear hd
    go_wp2_with (first | (go_at_call 74; (with_reducible refine (seg_Since.cl g q (rd_T25 l0 (i : Int)) _ (Nat.lt_of_lt_of_le HG.out HB.out.size) ((HB.out.cell (p := ⟨g, 0, none⟩) HG.out).trans HCl.out) true HD.out).mono ?_); rintro e w31 ⟨rfl, hb⟩; replace HB := Aside0.mk (below_step HB.out hb); clear hb))
    go_ret
    refine ⟨?_, HB.out⟩
    have e1 := HX.out
    rw [HS.out, if_pos ht] at e1
    rw [← e1]; rfl
   ·have hd : decide ((rd_T25 l0 (i : Int)).f1 ≥ q) = false := decide_eq_false ht
    have HD := Aside0.mk hd
    clear hd
    go_wp2_with (first | (go_at_call 74; (with_reducible refine (seg_Since.cl g q (rd_T25 l0 (i : Int)) _ (Nat.lt_of_lt_of_le HG.out HB.out.size) ((HB.out.cell (p := ⟨g, 0, none⟩) HG.out).trans HCl.out) false HD.out).mono ?_); rintro e w31 ⟨rfl, hb⟩; replace HB := Aside0.mk (below_step HB.out hb); clear hb))
    go_roundw
    case rel => exact ⟨i + 1, by omega, by go_num, ⟨by have e1 := HX.out; rw [HS.out, if_neg (by omega)] at e1; exact e1⟩, HB⟩
    case measure => simp [intOf]; omega
  ·have hi2 : i = l0.length := by omega
   have e1 := HX.out
   rw [List.drop_eq_nil_of_le (by omega)] at e1
   have E1 := Aside0.mk e1
   clear e1
   subst hi2
   go_wp2
   go_ret
   exact ⟨by rw [← E1.out]; rfl, HB.out⟩
set_option maxHeartbeats 4000000 in
set_option maxRecDepth 100000 in
theorem seg_Since.fst (k : Nat) (a0_0 : Int) (A0_1 : Option Addr) (c0_1 : Nat) (l0_1 : List S25) (q : Int) (g : Nat) (r1 : Int) (r2 : Int) (r3 : ByteArray) (r4 : ByteArray) (r5 : Int) (r6 : Bool) (r7 : Int) (w : World) (hr0_1 : Kd.C k25 w A0_1 l0_1.length l0_1) (hc0_1 : l0_1.length ≤ c0_1) (hg : g < w.heap.size) (hc : w.cell? ⟨g, 0, none⟩ = some (.int .i64 q))
 (h : seg_Since.f k a0_0 l0_1 q = some (r1, r2, r3, r4, r5, r6, r7)) :
 Calls Try.prog 72 #[.agg #[.int .i64 a0_0, .slice A0_1 l0_1.length c0_1], .func (.func 74) #[] #[.pointer (some ⟨g, 0, none⟩)]] w fun e w' => e = .returned (.tuple #[.agg #[.int .i64 r1, .int .i64 r2, .string r3, .string r4, .int .i64 r5, .bool r6], .int .i64 r7]) ∧ Below w.heap.size w w' := by
 have hu53 := Try.underlying53
 have hu25 := Try.underlying25
 unfold seg_Since.f at h
 obtain ⟨t, ht, h⟩ := Option.bind_eq_some_iff.1 h
 have HT := Aside0.mk ht
 have HR0 := Aside0.mk hr0_1
 have HC0 := Aside0.mk hc0_1
 have HG := Aside0.mk hg
 have HCl := Aside0.mk hc
 have HB := Aside0.mk (Below.refl w.heap.size w)
 clear hr0_1 hc0_1 hg hc ht
 by_cases h0 : t = 0
 ·subst h0
  rw [if_pos rfl] at h
  have hin := seg_Since.ix_in q l0_1 0
  by_cases hx : seg_Since.ix q l0_1 0 < 0
  ·rw [if_pos hx] at h
   simp only [Option.some.injEq, Prod.mk.injEq] at h
   obtain ⟨rfl, rfl, rfl, rfl, rfl, rfl, rfl⟩ := h
   have b0 : decide (seg_Since.ix q l0_1 0 < 0) = true := decide_eq_true hx
   clear hin hx
   go_enter Try.func72, Try.ntmps72
   go_wp2_with (first | (go_at_call 46; (with_reducible refine (seg_Check.calls k a0_0 _ _ l0_1 _ _ (Kd.C_alloc (Kd.C_alloc HR0.out _) _) HC0.out HT.out).mono ?_); rintro e w2 ⟨rfl, hb⟩; obtain ⟨hc2, hf2⟩ := seg_Since.below_cells hb; have hz2 : w.heap.size + 1 < w2.heap.size := (by have := hb.size; simp at this; omega); replace HB := Aside0.mk (below_step ((((Below.refl w.heap.size w).alloc (Nat.le_refl _) _).alloc (by simp) _)) hb); have HX := Aside0.mk hb; have hz2b : w.heap.size < w2.heap.size := (by omega); clear hb) | (go_at_call 84; (with_reducible refine (seg_Since.ixcalls _ _ l0_1 q g _ (Kd.C_below HR0.out HB.out) HC0.out (Nat.lt_of_lt_of_le HG.out HB.out.size) ((HB.out.cell (p := ⟨g, 0, none⟩) HG.out).trans HCl.out)).mono ?_); rintro e w3 ⟨rfl, hb⟩; obtain ⟨hc3, hf3⟩ := seg_Since.below_cells hb; have hz3 : w.heap.size + 1 < w3.heap.size := (Nat.lt_of_lt_of_le hz2 hb.size); replace HB := Aside0.mk (below_step HB.out hb); clear hb; skip))
   refine bodyPost_ret (v := .tuple #[.agg #[.int .i64 0, .int .i64 0, .string ⟨#[]⟩, .string ⟨#[]⟩, .int .i64 0, .bool false], .int .i64 3]) (by simp [results, Try.results72, go_sem, hc2, hz2, hc3, hz3]) rfl ⟨rfl, ?_⟩
   (repeat (refine Below.setCell ?_ (by first | omega | (simp; done) | (simp; omega)) _)); exact HB.out
  ·rw [if_neg hx] at h
   simp only [Option.some.injEq, Prod.mk.injEq] at h
   obtain ⟨rfl, rfl, rfl, rfl, rfl, rfl, rfl⟩ := h
   have b0 : decide (seg_Since.ix q l0_1 0 < 0) = false := decide_eq_false hx
   obtain ⟨i, hi⟩ : ∃ i : Nat, seg_Since.ix q l0_1 0 = (i : Int) := ⟨(seg_Since.ix q l0_1 0).toNat, by omega⟩
   have hil : i < l0_1.length := by omega
   simp only [hi] at b0 ⊢
   have HI := Aside0.mk hi
   obtain ⟨ad, ead, hx0, hx1, hx2, hx3, hx4, hx5⟩ := at_T25 HR0.out (i : Int) (by omega) (by omega)
   cases ead
   simp only [Int.toNat_natCast] at hx0 hx1 hx2 hx3 hx4 hx5
   have H0 := Aside0.mk hx0
   have H1 := Aside0.mk hx1
   have H2 := Aside0.mk hx2
   have H3 := Aside0.mk hx3
   have H4 := Aside0.mk hx4
   have H5 := Aside0.mk hx5
   clear hin hx hi hx0 hx1 hx2 hx3 hx4 hx5
   go_enter Try.func72, Try.ntmps72
   go_wp2_with (first | (go_at_call 46; (with_reducible refine (seg_Check.calls k a0_0 _ _ l0_1 _ _ (Kd.C_alloc (Kd.C_alloc HR0.out _) _) HC0.out HT.out).mono ?_); rintro e w2 ⟨rfl, hb⟩; obtain ⟨hc2, hf2⟩ := seg_Since.below_cells hb; have hz2 : w.heap.size + 1 < w2.heap.size := (by have := hb.size; simp at this; omega); replace HB := Aside0.mk (below_step ((((Below.refl w.heap.size w).alloc (Nat.le_refl _) _).alloc (by simp) _)) hb); have HX := Aside0.mk hb; have hz2b : w.heap.size < w2.heap.size := (by omega); clear hb) | (go_at_call 84; (with_reducible refine (seg_Since.ixcalls _ _ l0_1 q g _ (Kd.C_below HR0.out HB.out) HC0.out (Nat.lt_of_lt_of_le HG.out HB.out.size) ((HB.out.cell (p := ⟨g, 0, none⟩) HG.out).trans HCl.out)).mono ?_); rintro e w3 ⟨rfl, hb⟩; obtain ⟨hc3, hf3⟩ := seg_Since.below_cells hb; have hz3 : w.heap.size + 1 < w3.heap.size := (Nat.lt_of_lt_of_le hz2 hb.size); replace HB := Aside0.mk (below_step HB.out hb); clear hb; rw [HI.out]; have hy0 := cx HB.out H0.out; have hy1 := cx HB.out H1.out; have hy2 := cx HB.out H2.out; have hy3 := cx HB.out H3.out; have hy4 := cx HB.out H4.out; have hy5 := cx HB.out H5.out))
   refine bodyPost_ret (v := .tuple #[.agg #[.int .i64 (rd_T25 l0_1 (i : Int)).f0, .int .i64 (rd_T25 l0_1 (i : Int)).f1, .string (rd_T25 l0_1 (i : Int)).f2, .string (rd_T25 l0_1 (i : Int)).f3, .int .i64 (rd_T25 l0_1 (i : Int)).f4, .bool (rd_T25 l0_1 (i : Int)).f5], .int .i64 0]) (by simp [results, Try.results72, go_sem, hc2, hz2, hc3, hz3]) rfl ⟨rfl, ?_⟩
   (repeat (refine Below.setCell ?_ (by first | omega | (simp; done) | (simp; omega)) _)); exact HB.out
 ·rw [if_neg h0] at h
  simp only [Option.some.injEq, Prod.mk.injEq] at h
  obtain ⟨rfl, rfl, rfl, rfl, rfl, rfl, rfl⟩ := h
  have b0 : (t == 0) = false := beq_eq_false_iff_ne.mpr h0
  have b1 : (t != 0) = true := bne_iff_ne.mpr h0
  go_enter Try.func72, Try.ntmps72
  go_wp2_with (first | (go_at_call 46; (with_reducible refine (seg_Check.calls k a0_0 _ _ l0_1 _ _ (Kd.C_alloc (Kd.C_alloc HR0.out _) _) HC0.out HT.out).mono ?_); rintro e w2 ⟨rfl, hb⟩; obtain ⟨hc2, hf2⟩ := seg_Since.below_cells hb; have hz2 : w.heap.size + 1 < w2.heap.size := (by have := hb.size; simp at this; omega); replace HB := Aside0.mk (below_step ((((Below.refl w.heap.size w).alloc (Nat.le_refl _) _).alloc (by simp) _)) hb); have HX := Aside0.mk hb; have hz2b : w.heap.size < w2.heap.size := (by omega); clear hb))
  refine bodyPost_ret (v := .tuple #[.agg #[.int .i64 0, .int .i64 0, .string ⟨#[]⟩, .string ⟨#[]⟩, .int .i64 0, .bool false], .int .i64 t]) (by simp [results, Try.results72, go_sem, hc2, hz2]) rfl ⟨rfl, ?_⟩
  (repeat (refine Below.setCell ?_ (by first | omega | (simp; done) | (simp; omega)) _)); exact HB.out
set_option maxHeartbeats 4000000 in
set_option maxRecDepth 100000 in
theorem seg_Since.calls (k : Nat) (a0_0 : Int) (A0_1 : Option Addr) (c0_1 : Nat) (l0_1 : List S25) (a1 : Int) (r1 : Int) (r2 : Int) (r3 : ByteArray) (r4 : ByteArray) (r5 : Int) (r6 : Bool) (r7 : Int) (w : World) (hr0_1 : Kd.C k25 w A0_1 l0_1.length l0_1) (hc0_1 : l0_1.length ≤ c0_1)
 (h : seg_Since.f k a0_0 l0_1 a1 = some (r1, r2, r3, r4, r5, r6, r7)) :
 Calls Try.prog 33 #[.agg #[.int .i64 a0_0, .slice A0_1 l0_1.length c0_1], .int .i64 a1] w fun e w' => e = .returned (.tuple #[.agg #[.int .i64 r1, .int .i64 r2, .string r3, .string r4, .int .i64 r5, .bool r6], .int .i64 r7]) ∧ Below w.heap.size w w' := by
 have hu53 := Try.underlying53
 have hu25 := Try.underlying25
 have HT := Aside0.mk h
 have HR0 := Aside0.mk hr0_1
 have HC0 := Aside0.mk hc0_1
 have HB := Aside0.mk (Below.refl w.heap.size w)
 clear hr0_1 hc0_1 h
 go_enter Try.func33, Try.ntmps33
 go_wp2_with (first | (go_at_call 72; (with_reducible refine (seg_Since.fst k a0_0 _ _ l0_1 a1 _ r1 r2 r3 r4 r5 r6 r7 _ (Kd.C_alloc (Kd.C_alloc (Kd.C_alloc HR0.out _) _) _) HC0.out ?hg ?hc HT.out).mono ?_); (case hg => simp); (case hc => go_simp); rintro e w2 ⟨rfl, hb⟩; obtain ⟨hc2, hf2⟩ := seg_Since.below_cells hb; have hz2 : w.heap.size + 2 < w2.heap.size := (by have := hb.size; simp at this; omega); replace HB := Aside0.mk (below_step (((((Below.refl w.heap.size w).alloc (Nat.le_refl _) _).alloc (by simp) _).alloc (by simp; omega) _)) hb); clear hb))
 refine bodyPost_ret (v := .tuple #[.agg #[.int .i64 r1, .int .i64 r2, .string r3, .string r4, .int .i64 r5, .bool r6], .int .i64 r7]) (by simp [results, Try.results33, go_sem, hc2, hz2]) rfl ⟨rfl, ?_⟩
 (repeat (refine Below.setCell ?_ (by first | omega | (simp; done) | (simp; omega)) _)); exact HB.out

end Go.Proofs.Ytmabdfdmccbfnaa.P

-- written by a program of the proving session, out of the translation; Lean checks it
namespace Go.Proofs.Ytmabdfdmccbfnaa.P
open Go.RowKit Go.Proofs.Ytmabdfdmccbfnaa.Sq Go.Proofs.YtmabdfdmccbfnaaW.PrintWords Go.Proofs.YtmabdfdmccbfnaaW.PrintLast Go.Proofs.YtmabdfdmccbfnaaW.PrintMore
attribute [local go_sem] max2_int min2_int max_two min_two max_three min_three max_four min_four   -- for this text's walks alone
set_option linter.unusedVariables false
set_option linter.unusedSimpArgs false

/-! ### fairwayref10_Since: function 35 -/
def fairwayref10_Since.l0 : Nat → List (S25) → Int → Int → Option (Int)
 | 0, _, _, _ => none
 | k + 1, x0, x1, x5 => if x5 < (x0.length : Int) then (if 0 ≤ x5 then (if ((rd_T25 x0 x5).f1) ≥ x1 then (some x5) else (fairwayref10_Since.l0 k x0 x1 (wrap64 (x5 + 1)))) else (none)) else (some (-1))
def fairwayref10_Since.f (k : Nat) (l0 : List (S25)) (a1 : Int) : Option (Int) := fairwayref10_Since.l0 k l0 a1 0
theorem fairwayref10_Since.mono_l : ∀ k, (∀ y0 y1 y2, LeO (fairwayref10_Since.l0 k y0 y1 y2) (fairwayref10_Since.l0 (k + 1) y0 y1 y2))
 | 0 => fun _ _ _ r h => by simp [fairwayref10_Since.l0] at h
 | k + 1 => by
  have ih0 := fairwayref10_Since.mono_l k
  ·intro y0 y1 y2
   unfold fairwayref10_Since.l0
   repeat' first
   | (with_reducible exact ih0 _ _ _)
   | (with_reducible exact LeO.refl _)
   | (with_reducible exact LeO.none _)
   | (with_reducible refine LeO.ite ?_ ?_)
   | (with_reducible refine LeO.bind ?_ (fun _ => ?_))
   | exact ih0 _ _ _
   | exact LeO.none _
   | refine LeO.ite ?_ ?_
   | refine LeO.bind ?_ (fun _ => ?_)
theorem fairwayref10_Since.mono : ∀ a0 a1 k, LeO (fairwayref10_Since.f k a0 a1) (fairwayref10_Since.f (k + 1) a0 a1) := by
 intro a0 a1 k
 have ih0 := fairwayref10_Since.mono_l k
 unfold fairwayref10_Since.f
 repeat' first
  | (with_reducible exact ih0 _ _ _)
  | (with_reducible exact LeO.refl _)
  | (with_reducible exact LeO.none _)
  | (with_reducible refine LeO.ite ?_ ?_)
  | (with_reducible refine LeO.bind ?_ (fun _ => ?_))
  | exact ih0 _ _ _
  | exact LeO.none _
  | refine LeO.ite ?_ ?_
  | refine LeO.bind ?_ (fun _ => ?_)
set_option maxHeartbeats 8000000 in
set_option maxRecDepth 100000 in
theorem fairwayref10_Since.calls (k : Nat) (A0 : Option Addr) (c0 : Nat) (l0 : List (S25)) (a1 : Int) (r : Int) (w : World) (hr0 : Kd.C k25 w A0 l0.length l0) (hc0 : l0.length ≤ c0) (h : fairwayref10_Since.f k l0 a1 = some r) :
 Calls Try.prog 35 #[.slice A0 l0.length c0, .int .i64 a1] w fun e w' => e = .returned (.int .i64 r) ∧ Drawn0 w w' := by
 have HR0 := Aside0.mk hr0
 have HC0 := Aside0.mk hc0
 clear hr0 hc0
 have H : (fairwayref10_Since.l0 k l0 a1 0) = some r := h
 clear h
 have H' := Aside0.mk H
 clear H
 go_enter Try.func35, Try.ntmps35
 go_wp2
 go_loopg [5] k (fun kq v5 w' => ∃ (x5_1 : Int), v5 = .int .i64 x5_1 ∧ Aside0 (fairwayref10_Since.l0 kq l0 a1 x5_1 = some r) ∧ Aside0 (kq ≤ k) ∧ Drawn0 w w')
 case atStart => exact ⟨(0), ap, H', ⟨Nat.le_refl _⟩, dr⟩
 case round =>
  clear H'
  try clear p2
  obtain ⟨x5_1, rfl, HA, HK1, ⟨m1, rfl⟩⟩ := hrel
  cases gk with
  | zero => exact absurd HA.out (by simp [fairwayref10_Since.l0])
  | succ k1 =>
   have H := HA.out
   clear HA
   simp only [fairwayref10_Since.l0] at H
   by_cases c3 : x5_1 < (l0.length : Int)
   ·rw [if_pos c3] at H
    have c3b0 : decide (x5_1 < (l0.length : Int)) = true := decide_eq_true c3
    clear c3
    by_cases c4 : 0 ≤ x5_1
    ·rw [if_pos c4] at H
     have c4b0 : decide (0 ≤ x5_1) = true := decide_eq_true c4
     clear c4
     by_cases c5 : ((rd_T25 l0 x5_1).f1) ≥ a1
     ·rw [if_pos c5] at H
      have c5b0 : decide (a1 ≤ ((rd_T25 l0 x5_1).f1)) = true := decide_eq_true c5
      clear c5
      obtain rfl := Option.some.inj H
      have p372 : 0 ≤ (x5_1 : Int) := od
      have q372 : x5_1 < (l0.length : Int) := od
      obtain ⟨ad372, e372, hx372_0, hx372_1, hx372_2, hx372_3, hx372_4, hx372_5⟩ := at_T25 HR0.out x5_1 p372 q372
      cases e372
      replace p372 := eq_true p372
      replace q372 := eq_true q372
      go_wp2
      go_ret
      exact ⟨ap, dr⟩
     ·rw [if_neg c5] at H
      have c5b0 : decide (a1 ≤ ((rd_T25 l0 x5_1).f1)) = false := decide_eq_false c5
      clear c5
      have H' := Aside0.mk H
      clear H
      have p372 : 0 ≤ (x5_1 : Int) := od
      have q372 : x5_1 < (l0.length : Int) := od
      obtain ⟨ad372, e372, hx372_0, hx372_1, hx372_2, hx372_3, hx372_4, hx372_5⟩ := at_T25 HR0.out x5_1 p372 q372
      cases e372
      replace p372 := eq_true p372
      replace q372 := eq_true q372
      go_wp2
      go_roundg k1
      case measure => have := HK1.out; omega
      case rel => exact ⟨(wrap64 (x5_1 + 1)), ap, H', ⟨by have := HK1.out; omega⟩, dr⟩
    ·rw [if_neg c4] at H
     exact absurd H (by simp)
   ·rw [if_neg c3] at H
    have c3b0 : decide (x5_1 < (l0.length : Int)) = false := decide_eq_false c3
    clear c3
    obtain rfl := Option.some.inj H
    go_wp2
    go_ret
    exact ⟨ap, dr⟩

end Go.Proofs.Ytmabdfdmccbfnaa.P

/- The first record from an offset on, and from a time on: the program's and the page's. -/
namespace Go.Proofs.Ytmabdfdmccbfnaa.UFind
open Go Go.RowKit Go.Proofs.Ytmabdfdmccbfnaa.P Go.Proofs.Ytmabdfdmccbfnaa.URec Go.Proofs.Ytmabdfdmccbfnaa.USeg Go.Proofs.YtmabdfdmccbfnaaW.PrintWords Go.Proofs.YtmabdfdmccbfnaaW.PrintLast
set_option linter.unusedVariables false
set_option linter.unusedSimpArgs false
def z0 : R := ⟨0, 0, ⟨#[]⟩, ⟨#[]⟩, 0, false⟩
theorem find_none (base q : Int) (l : List R) (h : segOk base l) (hx : seg_Find.ix q l 0 < 0) : Ev (fun k => seg_Find.f k base l q) (0, 0, (⟨#[]⟩ : ByteArray), (⟨#[]⟩ : ByteArray), 0, false, 3) :=
  Ev.bind (segcheck_yes base l h) (Ev.congr (fun k => by rw [if_pos rfl, if_pos hx]) (Ev.now _))
theorem find_some (base q : Int) (l : List R) (h : segOk base l) (hx : ¬ seg_Find.ix q l 0 < 0) :
    Ev (fun k => seg_Find.f k base l q) ((rd_T25 l (seg_Find.ix q l 0)).f0, (rd_T25 l (seg_Find.ix q l 0)).f1, (rd_T25 l (seg_Find.ix q l 0)).f2, (rd_T25 l (seg_Find.ix q l 0)).f3, (rd_T25 l (seg_Find.ix q l 0)).f4, (rd_T25 l (seg_Find.ix q l 0)).f5, 0) :=
  Ev.bind (segcheck_yes base l h) (Ev.congr (fun k => by rw [if_pos rfl, if_neg hx]) (Ev.now _))
theorem find_no (base q : Int) (l : List R) (h : ¬ segOk base l) : Ev (fun k => seg_Find.f k base l q) (0, 0, (⟨#[]⟩ : ByteArray), (⟨#[]⟩ : ByteArray), 0, false, 1) :=
  Ev.bind (segcheck_no base l h) (Ev.congr (fun k => if_neg (by decide)) (Ev.now _))
theorem since_none (base q : Int) (l : List R) (h : segOk base l) (hx : seg_Since.ix q l 0 < 0) : Ev (fun k => seg_Since.f k base l q) (0, 0, (⟨#[]⟩ : ByteArray), (⟨#[]⟩ : ByteArray), 0, false, 3) :=
  Ev.bind (segcheck_yes base l h) (Ev.congr (fun k => by rw [if_pos rfl, if_pos hx]) (Ev.now _))
theorem since_some (base q : Int) (l : List R) (h : segOk base l) (hx : ¬ seg_Since.ix q l 0 < 0) :
    Ev (fun k => seg_Since.f k base l q) ((rd_T25 l (seg_Since.ix q l 0)).f0, (rd_T25 l (seg_Since.ix q l 0)).f1, (rd_T25 l (seg_Since.ix q l 0)).f2, (rd_T25 l (seg_Since.ix q l 0)).f3, (rd_T25 l (seg_Since.ix q l 0)).f4, (rd_T25 l (seg_Since.ix q l 0)).f5, 0) :=
  Ev.bind (segcheck_yes base l h) (Ev.congr (fun k => by rw [if_pos rfl, if_neg hx]) (Ev.now _))
theorem since_no (base q : Int) (l : List R) (h : ¬ segOk base l) : Ev (fun k => seg_Since.f k base l q) (0, 0, (⟨#[]⟩ : ByteArray), (⟨#[]⟩ : ByteArray), 0, false, 1) :=
  Ev.bind (segcheck_no base l h) (Ev.congr (fun k => if_neg (by decide)) (Ev.now _))
theorem ref_find_loop (q : Int) (l : List R) (hm : l.length ≤ 9223372036854775806) : ∀ (d i : Nat), l.length = i + d → Ev (fun k => fairwayref10_Find.l0 k l q i) (seg_Find.ix q (l.drop i) i)
  | 0, i, h => by
    refine Ev.step (f := fun _ => some _) (fun k => ?_) (Ev.now _)
    simp only [fairwayref10_Find.l0]
    rw [if_neg (by omega), List.drop_eq_nil_of_le (by omega)]; rfl
  | d + 1, i, h => by
    have hi : i < l.length := by omega
    have ih := ref_find_loop q l hm d (i + 1) (by omega)
    rw [seg_Find.ix_step q l i hi]
    by_cases ht : (rd_T25 l i).f0 ≥ q
    · rw [if_pos ht]
      refine Ev.step (f := fun _ => some _) (fun k => ?_) (Ev.now _)
      simp only [fairwayref10_Find.l0]
      rw [if_pos (by omega), if_pos (by omega), if_pos ht]
    · rw [if_neg ht]
      refine Ev.step (fun k => ?_) ih
      simp only [fairwayref10_Find.l0]
      rw [if_pos (by omega), if_pos (by omega), if_neg ht, wrap_in (by omega) (by omega)]; rfl
theorem ref_since_loop (q : Int) (l : List R) (hm : l.length ≤ 9223372036854775806) : ∀ (d i : Nat), l.length = i + d → Ev (fun k => fairwayref10_Since.l0 k l q i) (seg_Since.ix q (l.drop i) i)
  | 0, i, h => by
    refine Ev.step (f := fun _ => some _) (fun k => ?_) (Ev.now _)
    simp only [fairwayref10_Since.l0]
    rw [if_neg (by omega), List.drop_eq_nil_of_le (by omega)]; rfl
  | d + 1, i, h => by
    have hi : i < l.length := by omega
    have ih := ref_since_loop q l hm d (i + 1) (by omega)
    rw [seg_Since.ix_step q l i hi]
    by_cases ht : (rd_T25 l i).f1 ≥ q
    · rw [if_pos ht]
      refine Ev.step (f := fun _ => some _) (fun k => ?_) (Ev.now _)
      simp only [fairwayref10_Since.l0]
      rw [if_pos (by omega), if_pos (by omega), if_pos ht]
    · rw [if_neg ht]
      refine Ev.step (fun k => ?_) ih
      simp only [fairwayref10_Since.l0]
      rw [if_pos (by omega), if_pos (by omega), if_neg ht, wrap_in (by omega) (by omega)]; rfl
theorem ref_find (q : Int) (l : List R) (hm : l.length ≤ 9223372036854775806) : Ev (fun k => fairwayref10_Find.f k l q) (seg_Find.ix q l 0) := by
  have h := ref_find_loop q l hm l.length 0 (by omega)
  unfold fairwayref10_Find.f
  simpa using h
theorem ref_since (q : Int) (l : List R) (hm : l.length ≤ 9223372036854775806) : Ev (fun k => fairwayref10_Since.f k l q) (seg_Since.ix q l 0) := by
  have h := ref_since_loop q l hm l.length 0 (by omega)
  unfold fairwayref10_Since.f
  simpa using h
end Go.Proofs.Ytmabdfdmccbfnaa.UFind

/- The pure law IndexLooks: by its marks the record from any offset on is found as without them, with no more passed than there are to a mark. -/
namespace Go.Proofs.Ytmabdfdmccbfnaa.Pure
open Go Go.RowKit Go.Proofs.Ytmabdfdmccbfnaa.P Go.Proofs.Ytmabdfdmccbfnaa.URec Go.Proofs.Ytmabdfdmccbfnaa.USeg Go.Proofs.Ytmabdfdmccbfnaa.UMarks Go.Proofs.Ytmabdfdmccbfnaa.UFrom Go.Proofs.Ytmabdfdmccbfnaa.UFind Go.Proofs.Ytmabdfdmccbfnaa.UHeavy Go.Proofs.YtmabdfdmccbfnaaW.PrintWords Go.Proofs.YtmabdfdmccbfnaaW.PrintLast
set_option linter.unusedVariables false
set_option linter.unusedSimpArgs false

theorem wakes12_ev : Ev (fun k => fairwaylaw12_wakes.f k) true := Ev.of fairwaylaw12_wakes.mono (k := 60) (by decide +kernel)
theorem num12 (a : Int) : fairwaylaw12_num.f a = some a := rfl
theorem within32 : fairwaylaw0_Within.f 3 2 = some 1 := by decide +kernel

/-! ### the marks of records -/
theorem mk_mem : ∀ (l : List R) (i : Nat) (n : Int) (y : M), y ∈ mk l i n → (∃ r ∈ l, y.f0 = r.f0) ∧ n ≤ y.f1
  | [], _, _, y, h => by simp [mk] at h
  | r :: l, i, n, y, h => by
    simp only [mk, List.mem_append] at h
    rcases h with h | h
    · by_cases h4 : i % 4 = 0
      · rw [if_pos h4, List.mem_singleton] at h
        subst h
        exact ⟨⟨r, by simp, rfl⟩, Int.le_refl _⟩
      · rw [if_neg h4] at h; simp at h
    · obtain ⟨⟨s, hs, e⟩, h2⟩ := mk_mem l (i + 1) (n + recLen r) y h
      exact ⟨⟨s, by simp [hs], e⟩, by omega⟩
theorem mk_pw : ∀ (l : List R) (i : Nat) (n : Int), l.Pairwise (fun r s => r.f0 < s.f0) → (mk l i n).Pairwise (fun x y => x.f0 < y.f0 ∧ x.f1 ≤ y.f1)
  | [], _, _, _ => by simp [mk]
  | r :: l, i, n, h => by
    rw [List.pairwise_cons] at h
    have ih := mk_pw l (i + 1) (n + recLen r) h.2
    simp only [mk]
    by_cases h4 : i % 4 = 0
    · rw [if_pos h4, List.singleton_append, List.pairwise_cons]
      refine ⟨fun y hy => ?_, ih⟩
      obtain ⟨⟨s, hs, e⟩, h2⟩ := mk_mem l (i + 1) (n + recLen r) y hy
      exact ⟨by rw [e]; exact h.1 s hs, by show n ≤ y.f1; omega⟩
    · rw [if_neg h4]; simpa using ih
theorem mk_len : ∀ (l : List R) (i : Nat) (n : Int), (mk l i n).length = (i + l.length + 3) / 4 - (i + 3) / 4
  | [], i, _ => by simp [mk]
  | r :: l, i, n => by
    have := mk_len l (i + 1) (n + recLen r)
    simp only [mk, List.length_append, List.length_cons, this]
    by_cases h4 : i % 4 = 0
    · rw [if_pos h4]; simp only [List.length_singleton]; omega
    · rw [if_neg h4]; simp only [List.length_nil]; omega
theorem mk_get : ∀ (l : List R) (i : Nat) (n : Int) (j : Nat) (hj : j < l.length), (i + j) % 4 = 0 → ((mk l i n)[(i + j) / 4 - (i + 3) / 4]?).map (·.f0) = some (l[j].f0)
  | r :: l, i, n, 0, hj, h => by
    have h4 : i % 4 = 0 := by omega
    have e : (i + 0) / 4 - (i + 3) / 4 = 0 := by omega
    rw [e]
    simp [mk, h4]
  | r :: l, i, n, j + 1, hj, h => by
    have ih := mk_get l (i + 1) (n + recLen r) j (by simpa using hj) (by omega)
    simp only [mk, List.getElem_cons_succ]
    by_cases h4 : i % 4 = 0
    · have e : (i + (j + 1)) / 4 - (i + 3) / 4 = (i + 1 + j) / 4 - (i + 1 + 3) / 4 + 1 := by omega
      rw [if_pos h4, List.singleton_append, e, List.getElem?_cons_succ]
      exact ih
    · have e : (i + (j + 1)) / 4 - (i + 3) / 4 = (i + 1 + j) / 4 - (i + 1 + 3) / 4 := by omega
      rw [if_neg h4, List.nil_append, e]
      exact ih
theorem off_lt (base : Int) (l : List R) (h : segOk base l) (i : Nat) : ∀ j, i < j → j < l.length → (rd_T25 l i).f0 < (rd_T25 l j).f0
  | 0, h0, _ => by omega
  | j + 1, h0, hj => by
    have := ((h.2.2.2 (j + 1) hj).2.2 (by omega)).1
    rw [show j + 1 - 1 = j from rfl] at this
    by_cases e : i = j
    · subst e; exact this
    · exact Int.lt_trans (off_lt base l h i j (by omega) (by omega)) this
theorem off_pw (base : Int) (l : List R) (h : segOk base l) : l.Pairwise (fun r s => r.f0 < s.f0) := by
  rw [List.pairwise_iff_getElem]
  intro i j hi hj hij
  have := off_lt base l h i j hij hj
  rwa [rd_get hi, rd_get hj] at this
theorem mk_rises (base : Int) (l : List R) (h : segOk base l) : rises (mk l 0 0) := by
  intro i hi h0
  have hp := mk_pw l 0 0 (off_pw base l h)
  rw [List.pairwise_iff_getElem] at hp
  have := hp (i - 1) i (by omega) hi (by omega)
  rwa [m_rd (l := mk l 0 0) (i := i - 1) (by omega), m_rd hi]
theorem mk_off (l : List R) (j : Nat) (hj : j < (mk l 0 0).length) : 4 * j < l.length ∧ (rd_T77 (mk l 0 0) j).f0 = (rd_T25 l (4 * j : Nat)).f0 := by
  have hl := mk_len l 0 0
  have h4 : 4 * j < l.length := by omega
  have := mk_get l 0 0 (4 * j) h4 (by omega)
  rw [show (0 + 4 * j) / 4 - (0 + 3) / 4 = j by omega, List.getElem?_eq_getElem hj] at this
  rw [m_rd hj, rd_get h4]
  exact ⟨h4, by simpa using this⟩

/-! ### which mark, which record -/
theorem from_char (q : Int) (l : List M) : ∀ (d i : Nat) (a : Int), l.length = i + d → a < i →
    (fromAt q (l.drop i) i a = a ∨ ∃ j : Nat, i ≤ j ∧ j < l.length ∧ fromAt q (l.drop i) i a = (j : Int) ∧ (j = 0 ∨ (rd_T77 l j).f0 ≤ q)) ∧
    ∀ j : Nat, i ≤ j → j < l.length → fromAt q (l.drop i) i a < (j : Int) → ¬ (j = 0 ∨ (rd_T77 l j).f0 ≤ q)
  | 0, i, a, h, ha => by
    rw [List.drop_eq_nil_of_le (by omega), fromAt]
    exact ⟨Or.inl rfl, fun j h1 h2 => by omega⟩
  | d + 1, i, a, h, ha => by
    have hi : i < l.length := by omega
    rw [from_step q l i a hi]
    by_cases hc : i = 0 ∨ (rd_T77 l i).f0 ≤ q
    · rw [if_pos hc]
      obtain ⟨h1, h2⟩ := from_char q l d (i + 1) i (by omega) (by omega)
      refine ⟨Or.inr ?_, fun j hj1 hj2 hj3 => ?_⟩
      · rcases h1 with h1 | ⟨j, j1, j2, j3, j4⟩
        · exact ⟨i, Nat.le_refl _, hi, h1, hc⟩
        · exact ⟨j, by omega, j2, j3, j4⟩
      · by_cases e : j = i
        · subst e
          rcases h1 with h1 | ⟨j', j1, j2, j3, j4⟩ <;> omega
        · exact h2 j (by omega) hj2 hj3
    · rw [if_neg hc]
      obtain ⟨h1, h2⟩ := from_char q l d (i + 1) a (by omega) (by omega)
      refine ⟨h1.imp id fun ⟨j, j1, j2, j3, j4⟩ => ⟨j, by omega, j2, j3, j4⟩, fun j hj1 hj2 hj3 => ?_⟩
      by_cases e : j = i
      · subst e; exact hc
      · exact h2 j (by omega) hj2 hj3
theorem ix_char (q : Int) (l : List R) : ∀ (d i : Nat), l.length = i + d →
    (seg_Find.ix q (l.drop i) i = -1 ∧ ∀ j : Nat, i ≤ j → j < l.length → (rd_T25 l j).f0 < q) ∨
    ∃ j : Nat, i ≤ j ∧ j < l.length ∧ seg_Find.ix q (l.drop i) i = (j : Int) ∧ q ≤ (rd_T25 l j).f0 ∧ ∀ m : Nat, i ≤ m → m < j → (rd_T25 l m).f0 < q
  | 0, i, h => by
    rw [List.drop_eq_nil_of_le (by omega)]
    exact Or.inl ⟨rfl, fun j h1 h2 => by omega⟩
  | d + 1, i, h => by
    have hi : i < l.length := by omega
    rw [seg_Find.ix_step q l i hi]
    by_cases hq : (rd_T25 l i).f0 ≥ q
    · rw [if_pos hq]
      exact Or.inr ⟨i, Nat.le_refl _, hi, rfl, hq, fun m h1 h2 => by omega⟩
    · rw [if_neg hq]
      rcases ix_char q l d (i + 1) (by omega) with ⟨h1, h2⟩ | ⟨j, j1, j2, j3, j4, j5⟩
      · refine Or.inl ⟨h1, fun j hj1 hj2 => ?_⟩
        by_cases e : j = i
        · subst e; omega
        · exact h2 j (by omega) hj2
      · refine Or.inr ⟨j, by omega, j2, j3, j4, fun m hm1 hm2 => ?_⟩
        by_cases e : m = i
        · subst e; omega
        · exact j5 m (by omega) hm2

/-! ### the look -/
theorem look_none (q m0 m1 : Int) (l : List R) (hl : l.length ≤ 200) (hq : ∀ j : Nat, j < l.length → (rd_T25 l j).f0 < q) : ∀ (d i : Nat) (p : Nat), l.length = i + d → p ≤ i →
    Ev (fun k => index_Look.l0 k q p l (l.length : Int) i m0 m1) (0, 0, (⟨#[]⟩ : ByteArray), (⟨#[]⟩ : ByteArray), 0, false, 0, 3)
  | 0, i, p, h, hp => Ev.step (fun k => by rw [index_Look.l0, if_neg (by omega)]) (Ev.now _)
  | d + 1, i, p, h, hp => by
    have hw := ar_n l.length i (by omega) (by omega)
    have hx := hq i (by omega)
    have hwp : wrap64 ((p : Int) + 1) = ((p + 1 : Nat) : Int) := by rw [wrap_in (by omega) (by omega)]; omega
    by_cases hm : (rd_T25 l i).f0 < m0
    · exact Ev.step (fun k => by rw [index_Look.l0, if_pos (by omega), if_pos (by omega), if_pos (by omega), if_pos hm, hw]) (look_none q m0 m1 l hl hq d (i + 1) p (by omega) (by omega))
    · exact Ev.step (fun k => by rw [index_Look.l0, if_pos (by omega), if_pos (by omega), if_pos (by omega), if_neg hm, if_pos hx, hw, hwp]) (look_none q m0 m1 l hl hq d (i + 1) (p + 1) (by omega) (by omega))
theorem look_some (q m0 m1 : Int) (l : List R) (hl : l.length ≤ 200) (s t : Nat) (hst : s ≤ t) (ht : t < l.length) (hq : ∀ j : Nat, j < t → (rd_T25 l j).f0 < q) (hqt : q ≤ (rd_T25 l t).f0)
    (hs1 : ∀ j : Nat, j < s → (rd_T25 l j).f0 < m0) (hs2 : ∀ j : Nat, s ≤ j → j < l.length → ¬ (rd_T25 l j).f0 < m0) : ∀ (d i : Nat), t = i + d →
    Ev (fun k => index_Look.l0 k q ((i - s : Nat) : Int) l (l.length : Int) i m0 m1) ((rd_T25 l t).f0, (rd_T25 l t).f1, (rd_T25 l t).f2, (rd_T25 l t).f3, (rd_T25 l t).f4, (rd_T25 l t).f5, ((t - s : Nat) : Int), 0)
  | 0, i, h => by
    obtain rfl : t = i := by omega
    exact Ev.step (fun k => by rw [index_Look.l0, if_pos (by omega), if_pos (by omega), if_pos (by omega), if_neg (hs2 t hst ht), if_neg (by omega)]) (Ev.now _)
  | d + 1, i, h => by
    have hw := ar_n l.length i (by omega) (by omega)
    have ih := look_some q m0 m1 l hl s t hst ht hq hqt hs1 hs2 d (i + 1) (by omega)
    have hx := hq i (by omega)
    by_cases hm : i < s
    · have e : i + 1 - s = i - s := by omega
      rw [e] at ih
      exact Ev.step (fun k => by rw [index_Look.l0, if_pos (by omega), if_pos (by omega), if_pos (by omega), if_pos (hs1 i hm), hw]) ih
    · have hwp : wrap64 (((i - s : Nat) : Int) + 1) = ((i + 1 - s : Nat) : Int) := by rw [wrap_in (by omega) (by omega)]; omega
      exact Ev.step (fun k => by rw [index_Look.l0, if_pos (by omega), if_pos (by omega), if_pos (by omega), if_neg (hs2 i (by omega) (by omega)), if_pos hx, hw, hwp]) ih
theorem look_no (base : Int) (l : List R) (m : List M) (q : Int) (h : (segOk base l ∧ m ≠ mk l 0 0 ∧ m.length ≤ 9223372036854775806) ∨ ¬ segOk base l) : Ev (fun k => index_Look.f k base l m q) (0, 0, (⟨#[]⟩ : ByteArray), (⟨#[]⟩ : ByteArray), 0, false, 0, 1) := by
  have hj : Ev (fun k => index_Look.j0 k m q 0 true base l 0 0 (⟨#[]⟩ : ByteArray) (⟨#[]⟩ : ByteArray) 0 false) (0, 0, (⟨#[]⟩ : ByteArray), (⟨#[]⟩ : ByteArray), 0, false, 0, 1) := Ev.step (fun k => by rw [index_Look.j0, if_pos rfl]) (Ev.now _)
  rcases h with ⟨h1, h2, h3⟩ | h
  · exact Ev.bind (icheck_other base l h1 m h3 h2) (Ev.congr (fun k => by rw [if_pos rfl]; rfl) hj)
  · exact Ev.bind (icheck_no base l h m) (Ev.congr (fun k => if_neg (by decide)) hj)
/-- Which record is found, and how many were passed. -/
theorem look_yes (base : Int) (l : List R) (h : segOk base l) (q : Int) :
    (seg_Find.ix q l 0 = -1 ∧ Ev (fun k => index_Look.f k base l (mk l 0 0) q) (0, 0, (⟨#[]⟩ : ByteArray), (⟨#[]⟩ : ByteArray), 0, false, 0, 3)) ∨
    ∃ t j : Nat, t < l.length ∧ seg_Find.ix q l 0 = (t : Int) ∧ fromAt q (mk l 0 0) 0 (-1) = (j : Int) ∧ 4 * j ≤ t ∧ t ≤ 4 * j + 4 ∧
      Ev (fun k => index_Look.f k base l (mk l 0 0) q) ((rd_T25 l t).f0, (rd_T25 l t).f1, (rd_T25 l t).f2, (rd_T25 l t).f3, (rd_T25 l t).f4, (rd_T25 l t).f5, ((t - 4 * j : Nat) : Int), 0) := by
  have hml := mk_length l 0 0
  have hl := h.2.2.1
  have hmk := mk_len l 0 0
  have start : ∀ {r}, Ev (fun k => index_Look.l0 k q 0 l (l.length : Int) 0 (mAt (mk l 0 0) (fromAt q (mk l 0 0) 0 (-1))).f0 (mAt (mk l 0 0) (fromAt q (mk l 0 0) 0 (-1))).f1) r → Ev (fun k => index_Look.f k base l (mk l 0 0) q) r := by
    intro r hr
    refine Ev.bind (icheck_yes base l h) (Ev.congr (fun k => by rw [if_pos rfl]) ?_)
    exact Ev.step (fun k => by rw [index_Look.j0, if_neg (by decide)]) (Ev.bind (from_yes q (mk l 0 0) (by omega) (mk_rises base l h)) hr)
  have hix := ix_char q l l.length 0 (by omega)
  rw [List.drop_zero] at hix
  rcases hix with ⟨h1, h2⟩ | ⟨t, _, t2, t3, t4, t5⟩
  · exact Or.inl ⟨h1, start (look_none q _ _ l hl (fun j hj => h2 j (by omega) hj) l.length 0 0 (by omega) (by omega))⟩
  · right
    obtain ⟨c1, c2⟩ := from_char q (mk l 0 0) (mk l 0 0).length 0 (-1) (by omega) (by omega)
    rw [List.drop_zero] at c1 c2
    have hne : 0 < (mk l 0 0).length := by omega
    obtain ⟨j, _, j2, j3, j4⟩ : ∃ j : Nat, 0 ≤ j ∧ j < (mk l 0 0).length ∧ fromAt q (mk l 0 0) 0 (-1) = (j : Int) ∧ (j = 0 ∨ (rd_T77 (mk l 0 0) j).f0 ≤ q) := by
      rcases c1 with c1 | c1
      · exact absurd (Or.inl rfl) (c2 0 (by omega) hne (by omega))
      · exact c1
    clear c1
    obtain ⟨o1, o2⟩ := mk_off l j j2
    have hst : 4 * j ≤ t := by
      rcases j4 with j4 | j4
      · omega
      · by_cases e : 4 * j ≤ t
        · exact e
        · have := off_lt base l h t (4 * j) (by omega) o1
          omega
    have hend : t ≤ 4 * j + 4 := by
      by_cases hj1 : j + 1 < (mk l 0 0).length
      · have n1 := c2 (j + 1) (by omega) hj1 (by omega)
        obtain ⟨p1, p2⟩ := mk_off l (j + 1) hj1
        by_cases e : t ≤ 4 * j + 4
        · exact e
        · have := t5 (4 * (j + 1)) (by omega) (by omega)
          exact absurd (Or.inr (by omega)) n1
      · omega
    refine ⟨t, j, t2, t3, j3, hst, hend, start ?_⟩
    rw [j3, mAt_nat]
    have := look_some q (rd_T77 (mk l 0 0) j).f0 (rd_T77 (mk l 0 0) j).f1 l hl (4 * j) t hst t2 (fun i hi => t5 i (by omega) hi) t4
      (fun i hi => by rw [o2]; exact off_lt base l h i (4 * j) hi o1) (fun i hi hil => by
        rw [o2]
        by_cases e : i = 4 * j
        · subst e; omega
        · have := off_lt base l h (4 * j) i (by omega) hil
          omega) t 0 (by omega)
    simpa using this

/-! ### the law -/
theorem r_same2 (a : R) : (!(a.f0 == a.f0) || (!(a.f1 == a.f1) || (!(a.f2.toList == a.f2.toList) || (!(a.f3.toList == a.f3.toList) || (!(a.f4 == a.f4) || (!(a.f5 == a.f5))))))) = false := by simp
theorem il_bad (p : S55) (m : List M) (q : Int) (hm : m.length ≤ 200) (h : segOk p.f0.f0 p.f0.f1 → m = mk p.f0.f1 0 0) : Ev (fun k => index_Look.f k p.f0.f0 p.f0.f1 (m ++ [(⟨(-1), 0⟩ : M)]) q) (0, 0, (⟨#[]⟩ : ByteArray), (⟨#[]⟩ : ByteArray), 0, false, 0, 1) := by
  refine look_no _ _ _ _ ?_
  by_cases hs : segOk p.f0.f0 p.f0.f1
  · refine Or.inl ⟨hs, fun e => ?_, by rw [List.length_append, List.length_singleton]; omega⟩
    rw [h hs] at e
    have := congrArg List.length e
    rw [List.length_append, List.length_singleton] at this
    omega
  · exact Or.inr hs
theorem il_j4 (p : S55) (hm : p.f2.length ≤ 9223372036854775806) (hr : p.f0.f1.length ≤ 9223372036854775806) (b : Bool) (m : List M) (hb : (b = true ∧ segOk p.f0.f0 p.f0.f1 ∧ m = mk p.f0.f1 0 0) ∨ (b = false ∧ ¬ segOk p.f0.f0 p.f0.f1 ∧ m = [])) (i : Nat) (hi : i < p.f2.length)
    (h : Ev (fun k => fairwaylaw12_IndexLooks.l0 k b m ((i + 1 : Nat) : Int) p.f0.f0 p.f0.f1 p.f1 p.f2 p.f3) true) : Ev (fun k => fairwaylaw12_IndexLooks.j4 k b m i p.f0.f0 p.f0.f1 p.f1 p.f2 p.f3) true := by
  have hw := ar_n p.f2.length i hm hi
  have p1 : 0 ≤ (i : Int) := by omega
  have p2 : (i : Int) < (p.f2.length : Int) := by omega
  have hml : m.length ≤ 200 := by
    rcases hb with ⟨_, hs, rfl⟩ | ⟨_, _, rfl⟩
    · have := mk_length p.f0.f1 0 0; have := hs.2.2.1; omega
    · simp
  have hbad := il_bad p m (rd p.f2 i) hml (fun hs => hb.elim (fun x => x.2.2) (fun x => absurd hs x.2.1))
  refine Ev.step (fun k => by rw [fairwaylaw12_IndexLooks.j4, if_pos p1, if_pos p2]) ?_
  rcases hb with ⟨rfl, hs, rfl⟩ | ⟨rfl, hs, rfl⟩
  · rcases look_yes p.f0.f0 p.f0.f1 hs (rd p.f2 i) with ⟨x1, x2⟩ | ⟨t, j, t1, t2, t3, t4, t5, t6⟩
    · refine Ev.bind x2 (Ev.bind (copymarks_ev _ (by omega)) (Ev.bind (Ev.now _) (Ev.congr (fun k => if_pos (by simp; omega)) (Ev.bind hbad ?_))))
      simp only [num12, Option.bind_some]
      refine Ev.congr (fun k => if_pos trivial) (Ev.step (fun k => by rw [fairwaylaw12_IndexLooks.j5, if_pos rfl]) (Ev.step (fun k => by rw [fairwaylaw12_IndexLooks.j6, if_pos p1, if_pos p2]) (Ev.bind (ref_find _ _ hr) ?_)))
      rw [x1]
      simp only [num12, Option.bind_some]
      exact Ev.congr (fun k => by rw [if_pos (by decide), if_pos trivial, if_pos trivial, hw]) h
    · refine Ev.bind t6 (Ev.bind (copymarks_ev _ (by omega)) (Ev.bind (Ev.now _) (Ev.congr (fun k => if_pos (by simp; omega)) (Ev.bind hbad ?_))))
      simp only [num12, Option.bind_some]
      refine Ev.congr (fun k => if_pos trivial) (Ev.step (fun k => by rw [fairwaylaw12_IndexLooks.j5, if_pos rfl]) (Ev.step (fun k => by rw [fairwaylaw12_IndexLooks.j6, if_pos p1, if_pos p2]) (Ev.bind (ref_find _ _ hr) ?_)))
      rw [t2]
      refine Ev.congr (fun k => if_neg (by omega)) (Ev.step (fun k => by rw [fairwaylaw12_IndexLooks.j7, if_pos p1, if_pos p2]) (Ev.bind (reffrom_ev _ _ (by omega)) ?_))
      rw [t3]
      have hlen := hs.2.2.1
      have j8 : Ev (fun k => fairwaylaw12_IndexLooks.j8 k true (mk p.f0.f1 0 0) i ((t - 4 * j : Nat) : Int) 0 t ((4 * j : Nat) : Int) p.f0.f0 p.f0.f1 p.f1 p.f2 p.f3 (rd_T25 p.f0.f1 t).f0 (rd_T25 p.f0.f1 t).f1 (rd_T25 p.f0.f1 t).f2 (rd_T25 p.f0.f1 t).f3 (rd_T25 p.f0.f1 t).f4 (rd_T25 p.f0.f1 t).f5) true := by
        have e1 : wrap64 ((t : Int) - ((4 * j : Nat) : Int)) = ((t - 4 * j : Nat) : Int) := by rw [wrap_in (by omega) (by omega)]; omega
        refine Ev.step (fun k => by rw [fairwaylaw12_IndexLooks.j8]) ?_
        simp only [num12, Option.bind_some]
        refine Ev.congr (fun k => by rw [if_pos trivial, if_pos (by omega), if_pos (by omega), r_same2, if_neg Bool.false_ne_true, e1, if_pos rfl, if_neg (by omega), decide_eq_false (by omega)]) ?_
        exact Ev.step (fun k => by rw [fairwaylaw12_IndexLooks.j9, if_neg Bool.false_ne_true, hw]) h
      by_cases hj : (j : Int) > 0
      · have e2 : wrap64 ((j : Int) * 4) = ((4 * j : Nat) : Int) := by rw [wrap_in (by omega) (by omega)]; omega
        exact Ev.congr (fun k => by rw [if_pos hj, e2]) j8
      · have e2 : ((4 * j : Nat) : Int) = 0 := by omega
        rw [e2] at j8
        exact Ev.congr (fun k => if_neg hj) j8
  · refine Ev.bind (look_no _ _ _ _ (Or.inr hs)) (Ev.bind (copymarks_ev _ (by simp)) (Ev.bind (Ev.now _) (Ev.congr (fun k => if_pos (by simp)) (Ev.bind hbad ?_))))
    simp only [num12, Option.bind_some]
    refine Ev.congr (fun k => if_pos trivial) (Ev.step (fun k => by rw [fairwaylaw12_IndexLooks.j5, if_neg Bool.false_ne_true]) ?_)
    simp only [num12, Option.bind_some]
    exact Ev.congr (fun k => by rw [if_pos trivial, if_pos trivial, hw]) h
theorem il_loop (p : S55) (hm : p.f2.length ≤ 9223372036854775806) (hr : p.f0.f1.length ≤ 9223372036854775806) (b : Bool) (m : List M) (hb : (b = true ∧ segOk p.f0.f0 p.f0.f1 ∧ m = mk p.f0.f1 0 0) ∨ (b = false ∧ ¬ segOk p.f0.f0 p.f0.f1 ∧ m = [])) : ∀ (d i : Nat), 20 = i + d →
    Ev (fun k => fairwaylaw12_IndexLooks.l0 k b m i p.f0.f0 p.f0.f1 p.f1 p.f2 p.f3) true
  | d, i, hd => by
    have stop : ∀ i : Int, Ev (fun k => fairwaylaw12_IndexLooks.j3 k b m i false p.f0.f0 p.f0.f1 p.f1 p.f2 p.f3) true := fun i => by
      refine Ev.step (f := fun k => fairwaylaw12_IndexLooks.j10 k) (fun k => by rw [fairwaylaw12_IndexLooks.j3, if_neg Bool.false_ne_true]) (Ev.step (fun k => by rw [fairwaylaw12_IndexLooks.j10, within32]) ?_)
      simp only [Option.bind_some]
      exact Ev.congr (fun k => if_pos trivial) (Ev.bind wakes12_ev (Ev.now _))
    by_cases hil : i < p.f2.length
    · match d with
      | 0 => exact Ev.step (fun k => by rw [fairwaylaw12_IndexLooks.l0, if_pos (by omega), decide_eq_false (by omega)]) (stop i)
      | d + 1 =>
        refine Ev.step (fun k => by rw [fairwaylaw12_IndexLooks.l0, if_pos (by omega), decide_eq_true (by omega)]) (Ev.step (fun k => by rw [fairwaylaw12_IndexLooks.j3, if_pos rfl]) ?_)
        exact il_j4 p hm hr b m hb i hil (il_loop p hm hr b m hb d (i + 1) (by omega))
    · exact Ev.step (fun k => by rw [fairwaylaw12_IndexLooks.l0, if_neg (by omega)]) (stop i)
theorem IndexLooks (p : S55) (hg : good55 p) : ∃ k, fairwaylaw12_IndexLooks.f k p.f0.f0 p.f0.f1 p.f1 p.f2 p.f3 = some true := by
  obtain ⟨⟨g0, g1, g2⟩, ⟨g3, g4⟩, ⟨g5, g6⟩, g7⟩ := hg
  obtain ⟨b, hb, _⟩ := heavy_ev p.f0.f0 p.f0.f1 p.f1 p.f2 p.f3 g1 g2 g3 g4
  refine Ev.rounds (r := true) ?_
  refine Ev.bind hb ?_
  cases b with
  | true => exact Ev.congr (fun k => if_pos rfl) (Ev.now _)
  | false =>
    refine Ev.congr (fun k => if_neg (by decide)) (Ev.step (fun k => by rw [fairwaylaw12_IndexLooks.j0]) ?_)
    have go : ∀ (b : Bool) (m : List M), ((b = true ∧ segOk p.f0.f0 p.f0.f1 ∧ m = mk p.f0.f1 0 0) ∨ (b = false ∧ ¬ segOk p.f0.f0 p.f0.f1 ∧ m = [])) → Ev (fun k => fairwaylaw12_IndexLooks.j1 k b m p.f0.f0 p.f0.f1 p.f1 p.f2 p.f3) true := fun b m hb =>
      Ev.step (f := fun k => fairwaylaw12_IndexLooks.l0 k b m ((0 : Nat) : Int) p.f0.f0 p.f0.f1 p.f1 p.f2 p.f3) (fun k => by rw [fairwaylaw12_IndexLooks.j1]; rfl) (il_loop p (by omega) (by omega) b m hb 20 0 (by omega))
    by_cases h : segOk p.f0.f0 p.f0.f1
    · exact Ev.bind (refseg_yes _ _ h) (Ev.congr (fun k => if_pos rfl) (Ev.bind (refmarks_ev _ _ h) (go true _ (Or.inl ⟨rfl, h, rfl⟩))))
    · exact Ev.bind (refseg_no _ _ (by omega) h) (Ev.congr (fun k => if_neg Bool.false_ne_true) (go false _ (Or.inr ⟨rfl, h, rfl⟩)))
end Go.Proofs.Ytmabdfdmccbfnaa.Pure

/- IndexLooks: for every input of the row the law returns true, and the input reads afterwards as before. Conditions: none beside the row's own. -/
namespace Go.Proofs.Ytmabdfdmccbfnaa.indexLooks
open Go.ChangeShapes Go.WideShapes Go.ChangeAt Go.RowKit Go.Proofs.YtmabdfdmccbfnaaW.PrintWords Go.Proofs.Ytmabdfdmccbfnaa.Open Go.Proofs.Ytmabdfdmccbfnaa.P
set_option linter.unusedVariables false
theorem own : ownKnob Try.prog.godebug = none := by kernel_rfl
theorem laidOut : laidOutB Try.prog = true := by kernel_rfl
theorem openK55 {w : World} {x : S55} {cs : List Value} (h : k55.K w x cs) : ∃ (A1 : Option Addr) (c1 : Nat) (A2 : Option Addr) (c2 : Nat) (A3 : Option Addr) (c3 : Nat), cs = [.int .i64 x.f0.f0, .slice A1 x.f0.f1.length c1, .slice A2 x.f1.length c2, .slice A3 x.f2.length c3, .string x.f3] ∧ Kd.C k25 w A1 x.f0.f1.length x.f0.f1 ∧ x.f0.f1.length ≤ c1 ∧ Kd.C k25 w A2 x.f1.length x.f1 ∧ x.f1.length ≤ c2 ∧ Kd.C (Kd.int .i64) w A3 x.f2.length x.f2 ∧ x.f2.length ≤ c3 := by
  obtain ⟨_, _, rfl, ⟨_, _, rfl, rfl, ⟨A1, c1, rfl, hc1, hr1⟩⟩, ⟨_, _, rfl, ⟨A2, c2, rfl, hc2, hr2⟩, ⟨_, _, rfl, ⟨A3, c3, rfl, hc3, hr3⟩, rfl⟩⟩⟩ := h
  exact ⟨A1, c1, A2, c2, A3, c3, rfl, hr1, hc1, hr2, hc2, hr3, hc3⟩
theorem purely (p : S55) (hg : good55 p) : ∃ k, fairwaylaw12_IndexLooks.f k p.f0.f0 p.f0.f1 p.f1 p.f2 p.f3 = some true := Pure.IndexLooks p hg
set_option maxRecDepth 100000 in
theorem lifted (os : Os) (started : os.Started) (H : Type) (enc : TypeId × Value → H) :
    ReturnsInHanded {} Try.checked os 13 .any (Rows.indexLooksSpec.pre6 enc Try.prog Try.f13 Rows.indexLooksRow.domain false) (Rows.indexLooksSpec.post enc Try.prog Try.f13 false true false false) := by
  refine returnsInHanded_of_change_sized (C := Try.checked) own started (by kernel_rfl) Try.func13
    (ChangeSpec.witness6 (enc := enc) (C := Try.checked) false ⟨#[], #[.agg #[.int .i64 0, .slice none 0 0, .slice none 0 0, .slice none 0 0, .string ByteArray.empty]], []⟩ 8 (by kernel_rfl) (by kernel_rfl) (by kernel_rfl) (by kernel_rfl)) ?_
  intro W base args ds gs before hval0 hW hcnd hsz0 _
  have hsz : (DataW.weightsEach Try.prog (Try.f13.params.toList ++ Rows.indexLooksSpec.plain.varTypes Try.prog) (ds ++ gs)).all (· ≤ reachBytes) = true := hsz0
  have hval : ∀ (j : Nat) t v, Try.f13.params[j]? = some t → args[j]? = some v → Value.okWide Try.prog W .any base t v := hval0
  have hW' := hW
  obtain ⟨p_, q_, hA0, hV, rfl, hfz, hnd⟩ := hW
  have hA : DataW.TrodAll enc Try.prog W 0 (fun _ => true) true Try.f13.params.toList args.toList ds p_ := hA0
  rw [Try.params13] at hA hval hsz
  obtain ⟨v0, vs0, d0, ds0, p0, q0, hargs, rfl, rfl, h0, r0⟩ := trodAll_cons hA
  obtain ⟨rfl, rfl, rfl⟩ := trodAll_nil r0
  obtain rfl : args = #[v0] := by cases args; simp_all
  obtain ⟨rfl, rfl⟩ := trodVars_none hV
  obtain ⟨cs0, rfl, hsz0_⟩ := okWide_struct Try.underlying55 (hval 0 55 v0 rfl rfl)
  have k0 := h0
  have lt0 : ∀ x ∈ p0, x.block < W.heap.size := by obtain ⟨m, hm⟩ := k0; exact DataW.trod_lt m _ _ _ hm
  obtain ⟨p, hg0, A1, c1, A2, c2, A3, c3, rfl, hr1, hc1, hr2, hc2, hr3, hc3⟩ : ∃ p : S55, good55 p ∧ ∃ (A1 : Option Addr) (c1 : Nat) (A2 : Option Addr) (c2 : Nat) (A3 : Option Addr) (c3 : Nat), cs0 = #[.int .i64 p.f0.f0, .slice A1 p.f0.f1.length c1, .slice A2 p.f1.length c2, .slice A3 p.f2.length c3, .string p.f3] ∧ Kd.C k25 W A1 p.f0.f1.length p.f0.f1 ∧ p.f0.f1.length ≤ c1 ∧ Kd.C k25 W A2 p.f1.length p.f1 ∧ p.f1.length ≤ c2 ∧ Kd.C (Kd.int .i64) W A3 p.f2.length p.f2 ∧ p.f2.length ≤ c3 := by
    obtain ⟨fuel, hf⟩ := h0
    obtain ⟨x, hK, hg⟩ := rd55.rd enc W fuel _ _ _ hf (fun m hm => of_decide_eq_true (List.all_eq_true.1 hsz m (DataW.weights_mem_each (j := 0) rfl rfl m hm)))
    obtain ⟨A1, c1, A2, c2, A3, c3, hcs, hr1, hc1, hr2, hc2, hr3, hc3⟩ := openK55 hK
    refine ⟨x, hg, A1, c1, A2, c2, A3, c3, ?_, hr1, hc1, hr2, hc2, hr3, hc3⟩
    have e_ := congrArg List.toArray hcs
    simpa [Value.cells] using e_
  clear hA0 hval0 hsz0 hsz
  obtain ⟨k, h⟩ := purely p hg0
  refine (fairwaylaw12_IndexLooks.calls k p.f0.f0 A1 c1 p.f0.f1 A2 c2 p.f1 A3 c3 p.f2 p.f3 true W hr1 hc1 hr2 hc2 hr3 hc3 h).mono fun e W' ⟨he, bel0⟩ => ?_
  have bel : Below W.heap.size W W' := bel0
  subst he
  exact ⟨_, rfl, _, _, _, [], _, [], hW', trodAll_mk1 (shut_bool Try.underlying4 _), (trodAll_cons_mk (Below.trod laidOut (by kernel_rfl) (of_decide_eq_true (by kernel_rfl)) k0 bel lt0) trodAll_mk0), rfl, bel.frame _, fun h => by cases h⟩
theorem over : Rows.indexLooksRow.holds Try.pinned (OpenSpec.ofChange Rows.indexLooksSpec) :=
  OpenClaim.holds_of_wide 13 Try.f13 rfl rfl rfl rfl rfl rfl rfl ⟨rfl, rfl, rfl, rfl, rfl⟩ rfl rfl rfl rfl rfl (by kernel_rfl) Try.func13 (by kernel_rfl)
    (of_decide_eq_true (by kernel_rfl)) (by unfold Func.isWrapper; first | (rw [if_pos (by decide +kernel)]; kernel_rfl) | (rw [if_neg (by decide +kernel)]; exact ⟨rfl, rfl⟩))
    (fun os started H enc _ => lifted os started H enc)
theorem proved : Rows.IndexLooksSaid := over
#print axioms proved
end Go.Proofs.Ytmabdfdmccbfnaa.indexLooks
namespace Go.Proofs.Ytmabdfdmccbfnaa
theorem indexLooks_holds : Rows.IndexLooksSaid := indexLooks.proved
end Go.Proofs.Ytmabdfdmccbfnaa

