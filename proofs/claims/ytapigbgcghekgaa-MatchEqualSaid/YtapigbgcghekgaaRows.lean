/-
  No cell of these rows narrows 'for every input' (looked for: loops, veiled, ifaces, maps, wideKeys, modest, calm, conditions, laid).
  DERIVED. THE GIVEN ROWS OF THIS SEAT. 5 by the template 'for every input the law returns true; each argument reads behind the call as it read before'; 0 by the template 'total and deterministic' (their statements: YtapigbgcghekgaaTotals.lean).
  GIVEN WITH THE SEED: the statements are not yours to turn. If you find one false, say at which input.
  Laid BY PROGRAM, IN A SANDBOX (cutbox-rows.mjs): the forced cells as the released guide's own fill.sh prints them over the translation e4d00ec6f0dcf71a… (all of the seat's roots in one cut). By AI agents, Wed Nov 11 2026. No macro, syntax, notation, axiom, sorry.
-/
import Derived.Test.YtapigbgcghekgaaChecked
import GoSem.Claim
import GoSem.ClaimJoined
import GoSem.ClaimMapViews
import Derived.JoinedTies
import Derived.KernelRfl
namespace Go.Proofs.Ytapigbgcghekgaa
/- THE CELL 'sum', in the pinned program and in every row, IS THE sha256 OF THE DUMP (.gsa) THAT YtapigbgcghekgaaProg.lean LOADS. Nothing in Lean hashes anything: it is a label: what it is worth is what the hold of that sum in a sandbox is worth. -/
noncomputable def Try.pinned : Pinned := { name := "ytapigbgcghekgaa", sum := "e4d00ec6f0dcf71aef77bda7de37fe22b44788dada1d6142acecf60524b251eb", checked := Try.checked }
namespace Rows
def none {H : Type} : Left H := { results := [], args := [] }

/-- 'sobriquetlaw24.MatchEqual': WHATEVER THE INPUT: true; the input reads as it did. -/
def matchEqualSpec : ChangeSpec := { name := "matchEqual", fn := fun _ => fun
  | [d1, d2, d3] => { results := [.lit (.bool true)], args := [d1, d2, d3] }
  | _ => none }
def matchEqualRow : OpenClaim := { program := "ytapigbgcghekgaa", sum := "e4d00ec6f0dcf71aef77bda7de37fe22b44788dada1d6142acecf60524b251eb", func := "sobriquet/sobriquetlaw24.MatchEqual", spec := "matchEqual", unfollowed := true, recurses := true, apart := false }
def MatchEqualSaid : Prop := matchEqualRow.holds Try.pinned (OpenSpec.ofChange matchEqualSpec)

/-- ITS FALSE NEIGHBOUR: 'it returns false'. Refute it at one input. -/
def matchEqualWrong : ChangeSpec := { name := "matchEqual", fn := fun _ => fun
  | [d1, d2, d3] => { results := [.lit (.bool false)], args := [d1, d2, d3] }
  | _ => none }
def MatchEqualWrongFalsely : Prop := matchEqualRow.holds Try.pinned (OpenSpec.ofChange matchEqualWrong)

/-- 'sobriquetlaw24.MatchKinds': WHATEVER THE INPUT: true; the input reads as it did. -/
def matchKindsSpec : ChangeSpec := { name := "matchKinds", fn := fun _ => fun
  | [d1, d2, d3, d4, d5] => { results := [.lit (.bool true)], args := [d1, d2, d3, d4, d5] }
  | _ => none }
def matchKindsRow : OpenClaim := { program := "ytapigbgcghekgaa", sum := "e4d00ec6f0dcf71aef77bda7de37fe22b44788dada1d6142acecf60524b251eb", func := "sobriquet/sobriquetlaw24.MatchKinds", spec := "matchKinds", unfollowed := true, recurses := true, apart := false }
def MatchKindsSaid : Prop := matchKindsRow.holds Try.pinned (OpenSpec.ofChange matchKindsSpec)

/-- ITS FALSE NEIGHBOUR: 'it returns false'. Refute it at one input. -/
def matchKindsWrong : ChangeSpec := { name := "matchKinds", fn := fun _ => fun
  | [d1, d2, d3, d4, d5] => { results := [.lit (.bool false)], args := [d1, d2, d3, d4, d5] }
  | _ => none }
def MatchKindsWrongFalsely : Prop := matchKindsRow.holds Try.pinned (OpenSpec.ofChange matchKindsWrong)

/-- 'sobriquetlaw24.MatchUnder': WHATEVER THE INPUT: true; the input reads as it did. -/
def matchUnderSpec : ChangeSpec := { name := "matchUnder", fn := fun _ => fun
  | [d1, d2, d3] => { results := [.lit (.bool true)], args := [d1, d2, d3] }
  | _ => none }
def matchUnderRow : OpenClaim := { program := "ytapigbgcghekgaa", sum := "e4d00ec6f0dcf71aef77bda7de37fe22b44788dada1d6142acecf60524b251eb", func := "sobriquet/sobriquetlaw24.MatchUnder", spec := "matchUnder", unfollowed := true, recurses := true, apart := false }
def MatchUnderSaid : Prop := matchUnderRow.holds Try.pinned (OpenSpec.ofChange matchUnderSpec)

/-- ITS FALSE NEIGHBOUR: 'it returns false'. Refute it at one input. -/
def matchUnderWrong : ChangeSpec := { name := "matchUnder", fn := fun _ => fun
  | [d1, d2, d3] => { results := [.lit (.bool false)], args := [d1, d2, d3] }
  | _ => none }
def MatchUnderWrongFalsely : Prop := matchUnderRow.holds Try.pinned (OpenSpec.ofChange matchUnderWrong)

/-- 'sobriquetlaw24.MatchOrder': WHATEVER THE INPUT: true; the input reads as it did. -/
def matchOrderSpec : ChangeSpec := { name := "matchOrder", fn := fun _ => fun
  | [d1, d2, d3] => { results := [.lit (.bool true)], args := [d1, d2, d3] }
  | _ => none }
def matchOrderRow : OpenClaim := { program := "ytapigbgcghekgaa", sum := "e4d00ec6f0dcf71aef77bda7de37fe22b44788dada1d6142acecf60524b251eb", func := "sobriquet/sobriquetlaw24.MatchOrder", spec := "matchOrder", unfollowed := true, recurses := true, apart := false }
def MatchOrderSaid : Prop := matchOrderRow.holds Try.pinned (OpenSpec.ofChange matchOrderSpec)

/-- ITS FALSE NEIGHBOUR: 'it returns false'. Refute it at one input. -/
def matchOrderWrong : ChangeSpec := { name := "matchOrder", fn := fun _ => fun
  | [d1, d2, d3] => { results := [.lit (.bool false)], args := [d1, d2, d3] }
  | _ => none }
def MatchOrderWrongFalsely : Prop := matchOrderRow.holds Try.pinned (OpenSpec.ofChange matchOrderWrong)

/-- 'sobriquetlaw24.MatchKeys': WHATEVER THE INPUT: true; the input reads as it did. -/
def matchKeysSpec : ChangeSpec := { name := "matchKeys", fn := fun _ => fun
  | [d1, d2, d3] => { results := [.lit (.bool true)], args := [d1, d2, d3] }
  | _ => none }
def matchKeysRow : OpenClaim := { program := "ytapigbgcghekgaa", sum := "e4d00ec6f0dcf71aef77bda7de37fe22b44788dada1d6142acecf60524b251eb", func := "sobriquet/sobriquetlaw24.MatchKeys", spec := "matchKeys", unfollowed := true, recurses := true, apart := false }
def MatchKeysSaid : Prop := matchKeysRow.holds Try.pinned (OpenSpec.ofChange matchKeysSpec)

/-- ITS FALSE NEIGHBOUR: 'it returns false'. Refute it at one input. -/
def matchKeysWrong : ChangeSpec := { name := "matchKeys", fn := fun _ => fun
  | [d1, d2, d3] => { results := [.lit (.bool false)], args := [d1, d2, d3] }
  | _ => none }
def MatchKeysWrongFalsely : Prop := matchKeysRow.holds Try.pinned (OpenSpec.ofChange matchKeysWrong)

/- THE SECOND FORM. 'bulk': how many values and letters a reading holds, each counted each time it is reached (what is shared counts as often as it is met; a slice's spare places count too). A statement '..UptoSaid' is the law's where the arguments, and the package variables that the reading takes, are together of bulk at most 1048576: NARROWER than '..Said'. Prove '..Said' where nothing that the law and all that it calls make is longer than what came in: it says more and counts as full. Else prove '..UptoSaid'. A law counts once. -/
mutual
def uptoBulk {H : Type} : DataW H → Nat
  | .lit (.string bytes) => bytes.length + 1
  | .lit _ => 1
  | .nil => 1
  | .ptr d => uptoBulk d + 1
  | .slice elems spare => uptoBulkAll elems + uptoBulkAll spare + 1
  | .agg parts => uptoBulkAll parts + 1
  | .iface _ d => uptoBulk d + 1
  | .map entries => uptoBulkEntries entries + 1
  | .held _ => 1
def uptoBulkAll {H : Type} : List (DataW H) → Nat
  | [] => 0
  | d :: r => uptoBulk d + uptoBulkAll r
def uptoBulkEntries {H : Type} : List (Lit × DataW H) → Nat
  | [] => 0
  | x :: r => uptoBulkEntry x + uptoBulkEntries r
def uptoBulkEntry {H : Type} : Lit × DataW H → Nat
  | (.string bytes, d) => bytes.length + uptoBulk d + 1
  | (_, d) => uptoBulk d + 1
 end
def uptoSmall : (H : Type) → List (DataW H) → Bool := fun _ ds => decide (uptoBulkAll ds ≤ 1048576)
def OpenSpec.upto (s : _root_.Go.ChangeSpec) : _root_.Go.OpenSpec := { _root_.Go.OpenSpec.ofChange s with cond := some uptoSmall }

/-- 'sobriquetlaw24.MatchEqual', WHERE WHAT IT READS IS OF BULK AT MOST 1048576: true; the input reads as it did. -/
def matchEqualUptoRow : OpenClaim := { program := "ytapigbgcghekgaa", sum := "e4d00ec6f0dcf71aef77bda7de37fe22b44788dada1d6142acecf60524b251eb", func := "sobriquet/sobriquetlaw24.MatchEqual", spec := "matchEqual", unfollowed := true, recurses := true, apart := false, narrowed := true }
def MatchEqualUptoSaid : Prop := matchEqualUptoRow.holds Try.pinned (OpenSpec.upto matchEqualSpec)

/-- 'sobriquetlaw24.MatchKinds', WHERE WHAT IT READS IS OF BULK AT MOST 1048576: true; the input reads as it did. -/
def matchKindsUptoRow : OpenClaim := { program := "ytapigbgcghekgaa", sum := "e4d00ec6f0dcf71aef77bda7de37fe22b44788dada1d6142acecf60524b251eb", func := "sobriquet/sobriquetlaw24.MatchKinds", spec := "matchKinds", unfollowed := true, recurses := true, apart := false, narrowed := true }
def MatchKindsUptoSaid : Prop := matchKindsUptoRow.holds Try.pinned (OpenSpec.upto matchKindsSpec)

/-- 'sobriquetlaw24.MatchUnder', WHERE WHAT IT READS IS OF BULK AT MOST 1048576: true; the input reads as it did. -/
def matchUnderUptoRow : OpenClaim := { program := "ytapigbgcghekgaa", sum := "e4d00ec6f0dcf71aef77bda7de37fe22b44788dada1d6142acecf60524b251eb", func := "sobriquet/sobriquetlaw24.MatchUnder", spec := "matchUnder", unfollowed := true, recurses := true, apart := false, narrowed := true }
def MatchUnderUptoSaid : Prop := matchUnderUptoRow.holds Try.pinned (OpenSpec.upto matchUnderSpec)

/-- 'sobriquetlaw24.MatchOrder', WHERE WHAT IT READS IS OF BULK AT MOST 1048576: true; the input reads as it did. -/
def matchOrderUptoRow : OpenClaim := { program := "ytapigbgcghekgaa", sum := "e4d00ec6f0dcf71aef77bda7de37fe22b44788dada1d6142acecf60524b251eb", func := "sobriquet/sobriquetlaw24.MatchOrder", spec := "matchOrder", unfollowed := true, recurses := true, apart := false, narrowed := true }
def MatchOrderUptoSaid : Prop := matchOrderUptoRow.holds Try.pinned (OpenSpec.upto matchOrderSpec)

/-- 'sobriquetlaw24.MatchKeys', WHERE WHAT IT READS IS OF BULK AT MOST 1048576: true; the input reads as it did. -/
def matchKeysUptoRow : OpenClaim := { program := "ytapigbgcghekgaa", sum := "e4d00ec6f0dcf71aef77bda7de37fe22b44788dada1d6142acecf60524b251eb", func := "sobriquet/sobriquetlaw24.MatchKeys", spec := "matchKeys", unfollowed := true, recurses := true, apart := false, narrowed := true }
def MatchKeysUptoSaid : Prop := matchKeysUptoRow.holds Try.pinned (OpenSpec.upto matchKeysSpec)

end Rows
end Go.Proofs.Ytapigbgcghekgaa
