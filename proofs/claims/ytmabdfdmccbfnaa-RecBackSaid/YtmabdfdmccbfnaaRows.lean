/-
  No cell of these rows narrows 'for every input' (looked for: loops, veiled, ifaces, maps, wideKeys, modest, calm, conditions, laid).
  DERIVED. THE GIVEN ROWS OF THIS SEAT. 11 by the template 'for every input the law returns true; each argument reads behind the call as it read before'; 0 by the template 'total and deterministic' (their statements: YtmabdfdmccbfnaaTotals.lean).
  GIVEN WITH THE SEED: the statements are not yours to turn. If you find one false, say at which input.
  Laid BY PROGRAM, IN A SANDBOX (cutbox-rows.mjs): the forced cells as the released guide's own fill.sh prints them over the translation bc0bea9bfd613490… (all of the seat's roots in one cut). By AI agents, Wed Nov 11 2026. No macro, syntax, notation, axiom, sorry.
-/
import Derived.Test.YtmabdfdmccbfnaaChecked
import GoSem.Claim
import GoSem.ClaimJoined
import GoSem.ClaimMapViews
import Derived.JoinedTies
import Derived.KernelRfl
namespace Go.Proofs.Ytmabdfdmccbfnaa
/- THE CELL 'sum', in the pinned program and in every row, IS THE sha256 OF THE DUMP (.gsa) THAT YtmabdfdmccbfnaaProg.lean LOADS. Nothing in Lean hashes anything: it is a label: what it is worth is what the hold of that sum in a sandbox is worth. -/
noncomputable def Try.pinned : Pinned := { name := "ytmabdfdmccbfnaa", sum := "bc0bea9bfd6134905c85a6333c396971e0053972783f468a99ef1813777c9fe9", checked := Try.checked }
namespace Rows
def none {H : Type} : Left H := { results := [], args := [] }

/-- 'fairwaylaw10.RecEdges': WHATEVER THE INPUT: true; the input reads as it did. -/
def recEdgesSpec : ChangeSpec := { name := "recEdges", fn := fun _ => fun
  | [d] => { results := [.lit (.bool true)], args := [d] }
  | _ => none }
def recEdgesRow : OpenClaim := { program := "ytmabdfdmccbfnaa", sum := "bc0bea9bfd6134905c85a6333c396971e0053972783f468a99ef1813777c9fe9", func := "fairway/fairwaylaw10.RecEdges", spec := "recEdges", apart := false }
def RecEdgesSaid : Prop := recEdgesRow.holds Try.pinned (OpenSpec.ofChange recEdgesSpec)

/-- ITS FALSE NEIGHBOUR: 'it returns false'. Refute it at one input. -/
def recEdgesWrong : ChangeSpec := { name := "recEdges", fn := fun _ => fun
  | [d] => { results := [.lit (.bool false)], args := [d] }
  | _ => none }
def RecEdgesWrongFalsely : Prop := recEdgesRow.holds Try.pinned (OpenSpec.ofChange recEdgesWrong)

/-- 'fairwaylaw10.RecBytes': WHATEVER THE INPUT: true; the input reads as it did. -/
def recBytesSpec : ChangeSpec := { name := "recBytes", fn := fun _ => fun
  | [d] => { results := [.lit (.bool true)], args := [d] }
  | _ => none }
def recBytesRow : OpenClaim := { program := "ytmabdfdmccbfnaa", sum := "bc0bea9bfd6134905c85a6333c396971e0053972783f468a99ef1813777c9fe9", func := "fairway/fairwaylaw10.RecBytes", spec := "recBytes", apart := false }
def RecBytesSaid : Prop := recBytesRow.holds Try.pinned (OpenSpec.ofChange recBytesSpec)

/-- ITS FALSE NEIGHBOUR: 'it returns false'. Refute it at one input. -/
def recBytesWrong : ChangeSpec := { name := "recBytes", fn := fun _ => fun
  | [d] => { results := [.lit (.bool false)], args := [d] }
  | _ => none }
def RecBytesWrongFalsely : Prop := recBytesRow.holds Try.pinned (OpenSpec.ofChange recBytesWrong)

/-- 'fairwaylaw10.RecTakes': WHATEVER THE INPUT: true; the input reads as it did. -/
def recTakesSpec : ChangeSpec := { name := "recTakes", fn := fun _ => fun
  | [d] => { results := [.lit (.bool true)], args := [d] }
  | _ => none }
def recTakesRow : OpenClaim := { program := "ytmabdfdmccbfnaa", sum := "bc0bea9bfd6134905c85a6333c396971e0053972783f468a99ef1813777c9fe9", func := "fairway/fairwaylaw10.RecTakes", spec := "recTakes", apart := false }
def RecTakesSaid : Prop := recTakesRow.holds Try.pinned (OpenSpec.ofChange recTakesSpec)

/-- ITS FALSE NEIGHBOUR: 'it returns false'. Refute it at one input. -/
def recTakesWrong : ChangeSpec := { name := "recTakes", fn := fun _ => fun
  | [d] => { results := [.lit (.bool false)], args := [d] }
  | _ => none }
def RecTakesWrongFalsely : Prop := recTakesRow.holds Try.pinned (OpenSpec.ofChange recTakesWrong)

/-- 'fairwaylaw10.RecBack': WHATEVER THE INPUT: true; the input reads as it did. -/
def recBackSpec : ChangeSpec := { name := "recBack", fn := fun _ => fun
  | [d] => { results := [.lit (.bool true)], args := [d] }
  | _ => none }
def recBackRow : OpenClaim := { program := "ytmabdfdmccbfnaa", sum := "bc0bea9bfd6134905c85a6333c396971e0053972783f468a99ef1813777c9fe9", func := "fairway/fairwaylaw10.RecBack", spec := "recBack", apart := false }
def RecBackSaid : Prop := recBackRow.holds Try.pinned (OpenSpec.ofChange recBackSpec)

/-- ITS FALSE NEIGHBOUR: 'it returns false'. Refute it at one input. -/
def recBackWrong : ChangeSpec := { name := "recBack", fn := fun _ => fun
  | [d] => { results := [.lit (.bool false)], args := [d] }
  | _ => none }
def RecBackWrongFalsely : Prop := recBackRow.holds Try.pinned (OpenSpec.ofChange recBackWrong)

/-- 'fairwaylaw11.SegFinds': WHATEVER THE INPUT: true; the input reads as it did. -/
def segFindsSpec : ChangeSpec := { name := "segFinds", fn := fun _ => fun
  | [d] => { results := [.lit (.bool true)], args := [d] }
  | _ => none }
def segFindsRow : OpenClaim := { program := "ytmabdfdmccbfnaa", sum := "bc0bea9bfd6134905c85a6333c396971e0053972783f468a99ef1813777c9fe9", func := "fairway/fairwaylaw11.SegFinds", spec := "segFinds", unfollowed := true, recurses := true, apart := false }
def SegFindsSaid : Prop := segFindsRow.holds Try.pinned (OpenSpec.ofChange segFindsSpec)

/-- ITS FALSE NEIGHBOUR: 'it returns false'. Refute it at one input. -/
def segFindsWrong : ChangeSpec := { name := "segFinds", fn := fun _ => fun
  | [d] => { results := [.lit (.bool false)], args := [d] }
  | _ => none }
def SegFindsWrongFalsely : Prop := segFindsRow.holds Try.pinned (OpenSpec.ofChange segFindsWrong)

/-- 'fairwaylaw11.SegParses': WHATEVER THE INPUT: true; the input reads as it did. -/
def segParsesSpec : ChangeSpec := { name := "segParses", fn := fun _ => fun
  | [d] => { results := [.lit (.bool true)], args := [d] }
  | _ => none }
def segParsesRow : OpenClaim := { program := "ytmabdfdmccbfnaa", sum := "bc0bea9bfd6134905c85a6333c396971e0053972783f468a99ef1813777c9fe9", func := "fairway/fairwaylaw11.SegParses", spec := "segParses", unfollowed := true, recurses := true, apart := false }
def SegParsesSaid : Prop := segParsesRow.holds Try.pinned (OpenSpec.ofChange segParsesSpec)

/-- ITS FALSE NEIGHBOUR: 'it returns false'. Refute it at one input. -/
def segParsesWrong : ChangeSpec := { name := "segParses", fn := fun _ => fun
  | [d] => { results := [.lit (.bool false)], args := [d] }
  | _ => none }
def SegParsesWrongFalsely : Prop := segParsesRow.holds Try.pinned (OpenSpec.ofChange segParsesWrong)

/-- 'fairwaylaw11.SegAdds': WHATEVER THE INPUT: true; the input reads as it did. -/
def segAddsSpec : ChangeSpec := { name := "segAdds", fn := fun _ => fun
  | [d] => { results := [.lit (.bool true)], args := [d] }
  | _ => none }
def segAddsRow : OpenClaim := { program := "ytmabdfdmccbfnaa", sum := "bc0bea9bfd6134905c85a6333c396971e0053972783f468a99ef1813777c9fe9", func := "fairway/fairwaylaw11.SegAdds", spec := "segAdds", inPlace := ["internal/abi.NoEscape"], unfollowed := true, recurses := true, apart := false }
def SegAddsSaid : Prop := segAddsRow.holds Try.pinned (OpenSpec.ofChange segAddsSpec)

/-- ITS FALSE NEIGHBOUR: 'it returns false'. Refute it at one input. -/
def segAddsWrong : ChangeSpec := { name := "segAdds", fn := fun _ => fun
  | [d] => { results := [.lit (.bool false)], args := [d] }
  | _ => none }
def SegAddsWrongFalsely : Prop := segAddsRow.holds Try.pinned (OpenSpec.ofChange segAddsWrong)

/-- 'fairwaylaw11.SegBack': WHATEVER THE INPUT: true; the input reads as it did. -/
def segBackSpec : ChangeSpec := { name := "segBack", fn := fun _ => fun
  | [d] => { results := [.lit (.bool true)], args := [d] }
  | _ => none }
def segBackRow : OpenClaim := { program := "ytmabdfdmccbfnaa", sum := "bc0bea9bfd6134905c85a6333c396971e0053972783f468a99ef1813777c9fe9", func := "fairway/fairwaylaw11.SegBack", spec := "segBack", inPlace := ["internal/abi.NoEscape"], unfollowed := true, recurses := true, apart := false }
def SegBackSaid : Prop := segBackRow.holds Try.pinned (OpenSpec.ofChange segBackSpec)

/-- ITS FALSE NEIGHBOUR: 'it returns false'. Refute it at one input. -/
def segBackWrong : ChangeSpec := { name := "segBack", fn := fun _ => fun
  | [d] => { results := [.lit (.bool false)], args := [d] }
  | _ => none }
def SegBackWrongFalsely : Prop := segBackRow.holds Try.pinned (OpenSpec.ofChange segBackWrong)

/-- 'fairwaylaw12.IndexFroms': WHATEVER THE INPUT: true; the input reads as it did. -/
def indexFromsSpec : ChangeSpec := { name := "indexFroms", fn := fun _ => fun
  | [d] => { results := [.lit (.bool true)], args := [d] }
  | _ => none }
def indexFromsRow : OpenClaim := { program := "ytmabdfdmccbfnaa", sum := "bc0bea9bfd6134905c85a6333c396971e0053972783f468a99ef1813777c9fe9", func := "fairway/fairwaylaw12.IndexFroms", spec := "indexFroms", apart := false }
def IndexFromsSaid : Prop := indexFromsRow.holds Try.pinned (OpenSpec.ofChange indexFromsSpec)

/-- ITS FALSE NEIGHBOUR: 'it returns false'. Refute it at one input. -/
def indexFromsWrong : ChangeSpec := { name := "indexFroms", fn := fun _ => fun
  | [d] => { results := [.lit (.bool false)], args := [d] }
  | _ => none }
def IndexFromsWrongFalsely : Prop := indexFromsRow.holds Try.pinned (OpenSpec.ofChange indexFromsWrong)

/-- 'fairwaylaw12.IndexMarks': WHATEVER THE INPUT: true; the input reads as it did. -/
def indexMarksSpec : ChangeSpec := { name := "indexMarks", fn := fun _ => fun
  | [d] => { results := [.lit (.bool true)], args := [d] }
  | _ => none }
def indexMarksRow : OpenClaim := { program := "ytmabdfdmccbfnaa", sum := "bc0bea9bfd6134905c85a6333c396971e0053972783f468a99ef1813777c9fe9", func := "fairway/fairwaylaw12.IndexMarks", spec := "indexMarks", apart := false }
def IndexMarksSaid : Prop := indexMarksRow.holds Try.pinned (OpenSpec.ofChange indexMarksSpec)

/-- ITS FALSE NEIGHBOUR: 'it returns false'. Refute it at one input. -/
def indexMarksWrong : ChangeSpec := { name := "indexMarks", fn := fun _ => fun
  | [d] => { results := [.lit (.bool false)], args := [d] }
  | _ => none }
def IndexMarksWrongFalsely : Prop := indexMarksRow.holds Try.pinned (OpenSpec.ofChange indexMarksWrong)

/-- 'fairwaylaw12.IndexLooks': WHATEVER THE INPUT: true; the input reads as it did. -/
def indexLooksSpec : ChangeSpec := { name := "indexLooks", fn := fun _ => fun
  | [d] => { results := [.lit (.bool true)], args := [d] }
  | _ => none }
def indexLooksRow : OpenClaim := { program := "ytmabdfdmccbfnaa", sum := "bc0bea9bfd6134905c85a6333c396971e0053972783f468a99ef1813777c9fe9", func := "fairway/fairwaylaw12.IndexLooks", spec := "indexLooks", apart := false }
def IndexLooksSaid : Prop := indexLooksRow.holds Try.pinned (OpenSpec.ofChange indexLooksSpec)

/-- ITS FALSE NEIGHBOUR: 'it returns false'. Refute it at one input. -/
def indexLooksWrong : ChangeSpec := { name := "indexLooks", fn := fun _ => fun
  | [d] => { results := [.lit (.bool false)], args := [d] }
  | _ => none }
def IndexLooksWrongFalsely : Prop := indexLooksRow.holds Try.pinned (OpenSpec.ofChange indexLooksWrong)

/- THE SECOND FORM. 'bulk': how many values and letters a reading holds, each counted each time it is reached (what is shared counts as often as it is met; a slice's spare places count too). A statement '..UptoSaid' is the law's where the arguments, and the package variables that the reading takes, are together of bulk at most 1048576: NARROWER than '..Said'. Prove '..Said' where nothing that the law and all that it calls make is longer than what came in: it says more and counts as full. Else prove '..UptoSaid'. A law counts once. -/
mutual
def uptoBulk {H : Type} : DataW H → Nat
  | .lit (.string bytes) => bytes.length + 1
  | .lit _ => 1
  | .nil => 1
  | .ptr d => uptoBulk d + 1
  | .slice elems spare => uptoBulkAll elems + uptoBulkAll spare + 1
  | .agg parts => uptoBulkAll parts + 1
  | .iface _ d => uptoBulk d + 1
  | .map entries => uptoBulkEntries entries + 1
  | .held _ => 1
def uptoBulkAll {H : Type} : List (DataW H) → Nat
  | [] => 0
  | d :: r => uptoBulk d + uptoBulkAll r
def uptoBulkEntries {H : Type} : List (Lit × DataW H) → Nat
  | [] => 0
  | x :: r => uptoBulkEntry x + uptoBulkEntries r
def uptoBulkEntry {H : Type} : Lit × DataW H → Nat
  | (.string bytes, d) => bytes.length + uptoBulk d + 1
  | (_, d) => uptoBulk d + 1
 end
def uptoSmall : (H : Type) → List (DataW H) → Bool := fun _ ds => decide (uptoBulkAll ds ≤ 1048576)
def OpenSpec.upto (s : _root_.Go.ChangeSpec) : _root_.Go.OpenSpec := { _root_.Go.OpenSpec.ofChange s with cond := some uptoSmall }

/-- 'fairwaylaw10.RecEdges', WHERE WHAT IT READS IS OF BULK AT MOST 1048576: true; the input reads as it did. -/
def recEdgesUptoRow : OpenClaim := { program := "ytmabdfdmccbfnaa", sum := "bc0bea9bfd6134905c85a6333c396971e0053972783f468a99ef1813777c9fe9", func := "fairway/fairwaylaw10.RecEdges", spec := "recEdges", apart := false, narrowed := true }
def RecEdgesUptoSaid : Prop := recEdgesUptoRow.holds Try.pinned (OpenSpec.upto recEdgesSpec)

/-- 'fairwaylaw10.RecBytes', WHERE WHAT IT READS IS OF BULK AT MOST 1048576: true; the input reads as it did. -/
def recBytesUptoRow : OpenClaim := { program := "ytmabdfdmccbfnaa", sum := "bc0bea9bfd6134905c85a6333c396971e0053972783f468a99ef1813777c9fe9", func := "fairway/fairwaylaw10.RecBytes", spec := "recBytes", apart := false, narrowed := true }
def RecBytesUptoSaid : Prop := recBytesUptoRow.holds Try.pinned (OpenSpec.upto recBytesSpec)

/-- 'fairwaylaw10.RecTakes', WHERE WHAT IT READS IS OF BULK AT MOST 1048576: true; the input reads as it did. -/
def recTakesUptoRow : OpenClaim := { program := "ytmabdfdmccbfnaa", sum := "bc0bea9bfd6134905c85a6333c396971e0053972783f468a99ef1813777c9fe9", func := "fairway/fairwaylaw10.RecTakes", spec := "recTakes", apart := false, narrowed := true }
def RecTakesUptoSaid : Prop := recTakesUptoRow.holds Try.pinned (OpenSpec.upto recTakesSpec)

/-- 'fairwaylaw10.RecBack', WHERE WHAT IT READS IS OF BULK AT MOST 1048576: true; the input reads as it did. -/
def recBackUptoRow : OpenClaim := { program := "ytmabdfdmccbfnaa", sum := "bc0bea9bfd6134905c85a6333c396971e0053972783f468a99ef1813777c9fe9", func := "fairway/fairwaylaw10.RecBack", spec := "recBack", apart := false, narrowed := true }
def RecBackUptoSaid : Prop := recBackUptoRow.holds Try.pinned (OpenSpec.upto recBackSpec)

/-- 'fairwaylaw11.SegFinds', WHERE WHAT IT READS IS OF BULK AT MOST 1048576: true; the input reads as it did. -/
def segFindsUptoRow : OpenClaim := { program := "ytmabdfdmccbfnaa", sum := "bc0bea9bfd6134905c85a6333c396971e0053972783f468a99ef1813777c9fe9", func := "fairway/fairwaylaw11.SegFinds", spec := "segFinds", unfollowed := true, recurses := true, apart := false, narrowed := true }
def SegFindsUptoSaid : Prop := segFindsUptoRow.holds Try.pinned (OpenSpec.upto segFindsSpec)

/-- 'fairwaylaw11.SegParses', WHERE WHAT IT READS IS OF BULK AT MOST 1048576: true; the input reads as it did. -/
def segParsesUptoRow : OpenClaim := { program := "ytmabdfdmccbfnaa", sum := "bc0bea9bfd6134905c85a6333c396971e0053972783f468a99ef1813777c9fe9", func := "fairway/fairwaylaw11.SegParses", spec := "segParses", unfollowed := true, recurses := true, apart := false, narrowed := true }
def SegParsesUptoSaid : Prop := segParsesUptoRow.holds Try.pinned (OpenSpec.upto segParsesSpec)

/-- 'fairwaylaw11.SegAdds', WHERE WHAT IT READS IS OF BULK AT MOST 1048576: true; the input reads as it did. -/
def segAddsUptoRow : OpenClaim := { program := "ytmabdfdmccbfnaa", sum := "bc0bea9bfd6134905c85a6333c396971e0053972783f468a99ef1813777c9fe9", func := "fairway/fairwaylaw11.SegAdds", spec := "segAdds", inPlace := ["internal/abi.NoEscape"], unfollowed := true, recurses := true, apart := false, narrowed := true }
def SegAddsUptoSaid : Prop := segAddsUptoRow.holds Try.pinned (OpenSpec.upto segAddsSpec)

/-- 'fairwaylaw11.SegBack', WHERE WHAT IT READS IS OF BULK AT MOST 1048576: true; the input reads as it did. -/
def segBackUptoRow : OpenClaim := { program := "ytmabdfdmccbfnaa", sum := "bc0bea9bfd6134905c85a6333c396971e0053972783f468a99ef1813777c9fe9", func := "fairway/fairwaylaw11.SegBack", spec := "segBack", inPlace := ["internal/abi.NoEscape"], unfollowed := true, recurses := true, apart := false, narrowed := true }
def SegBackUptoSaid : Prop := segBackUptoRow.holds Try.pinned (OpenSpec.upto segBackSpec)

/-- 'fairwaylaw12.IndexFroms', WHERE WHAT IT READS IS OF BULK AT MOST 1048576: true; the input reads as it did. -/
def indexFromsUptoRow : OpenClaim := { program := "ytmabdfdmccbfnaa", sum := "bc0bea9bfd6134905c85a6333c396971e0053972783f468a99ef1813777c9fe9", func := "fairway/fairwaylaw12.IndexFroms", spec := "indexFroms", apart := false, narrowed := true }
def IndexFromsUptoSaid : Prop := indexFromsUptoRow.holds Try.pinned (OpenSpec.upto indexFromsSpec)

/-- 'fairwaylaw12.IndexMarks', WHERE WHAT IT READS IS OF BULK AT MOST 1048576: true; the input reads as it did. -/
def indexMarksUptoRow : OpenClaim := { program := "ytmabdfdmccbfnaa", sum := "bc0bea9bfd6134905c85a6333c396971e0053972783f468a99ef1813777c9fe9", func := "fairway/fairwaylaw12.IndexMarks", spec := "indexMarks", apart := false, narrowed := true }
def IndexMarksUptoSaid : Prop := indexMarksUptoRow.holds Try.pinned (OpenSpec.upto indexMarksSpec)

/-- 'fairwaylaw12.IndexLooks', WHERE WHAT IT READS IS OF BULK AT MOST 1048576: true; the input reads as it did. -/
def indexLooksUptoRow : OpenClaim := { program := "ytmabdfdmccbfnaa", sum := "bc0bea9bfd6134905c85a6333c396971e0053972783f468a99ef1813777c9fe9", func := "fairway/fairwaylaw12.IndexLooks", spec := "indexLooks", apart := false, narrowed := true }
def IndexLooksUptoSaid : Prop := indexLooksUptoRow.holds Try.pinned (OpenSpec.upto indexLooksSpec)

end Rows
end Go.Proofs.Ytmabdfdmccbfnaa
