/-
  No cell of these rows narrows 'for every input' (looked for: loops, veiled, ifaces, maps, wideKeys, modest, calm, conditions, laid).
  DERIVED. THE GIVEN ROWS OF THIS SEAT. 6 by the template 'for every input the law returns true; each argument reads behind the call as it read before'; 0 by the template 'total and deterministic' (their statements: YtmjdgcgmlgbfjaaTotals.lean).
  GIVEN WITH THE SEED: the statements are not yours to turn. If you find one false, say at which input.
  Laid BY PROGRAM, IN A SANDBOX (cutbox-rows.mjs): the forced cells as the released guide's own fill.sh prints them over the translation 19160aa5512778a9… (all of the seat's roots in one cut). By AI agents, Wed Nov 11 2026. No macro, syntax, notation, axiom, sorry.
-/
import Derived.Test.YtmjdgcgmlgbfjaaChecked
import GoSem.Claim
import GoSem.ClaimJoined
import GoSem.ClaimMapViews
import Derived.JoinedTies
import Derived.KernelRfl
namespace Go.Proofs.Ytmjdgcgmlgbfjaa
/- THE CELL 'sum', in the pinned program and in every row, IS THE sha256 OF THE DUMP (.gsa) THAT YtmjdgcgmlgbfjaaProg.lean LOADS. Nothing in Lean hashes anything: it is a label: what it is worth is what the hold of that sum in a sandbox is worth. -/
noncomputable def Try.pinned : Pinned := { name := "ytmjdgcgmlgbfjaa", sum := "19160aa5512778a974e576e91aa492820a1749e6999b3b106927060d43ea705f", checked := Try.checked }
namespace Rows
def none {H : Type} : Left H := { results := [], args := [] }

/-- 'haywainlaw.SpanSays': WHATEVER THE INPUT: true; the input reads as it did. -/
def spanSaysSpec : ChangeSpec := { name := "spanSays", fn := fun _ => fun
  | [d1, d2, d3, d4] => { results := [.lit (.bool true)], args := [d1, d2, d3, d4] }
  | _ => none }
def spanSaysRow : OpenClaim := { program := "ytmjdgcgmlgbfjaa", sum := "19160aa5512778a974e576e91aa492820a1749e6999b3b106927060d43ea705f", func := "haywain/haywainlaw.SpanSays", spec := "spanSays", unfollowed := true, recurses := true, apart := false }
def SpanSaysSaid : Prop := spanSaysRow.holds Try.pinned (OpenSpec.ofChange spanSaysSpec)

/-- ITS FALSE NEIGHBOUR: 'it returns false'. Refute it at one input. -/
def spanSaysWrong : ChangeSpec := { name := "spanSays", fn := fun _ => fun
  | [d1, d2, d3, d4] => { results := [.lit (.bool false)], args := [d1, d2, d3, d4] }
  | _ => none }
def SpanSaysWrongFalsely : Prop := spanSaysRow.holds Try.pinned (OpenSpec.ofChange spanSaysWrong)

/-- 'haywainlaw.CertifySays': WHATEVER THE INPUT: true; the input reads as it did. -/
def certifySaysSpec : ChangeSpec := { name := "certifySays", fn := fun _ => fun
  | [d] => { results := [.lit (.bool true)], args := [d] }
  | _ => none }
def certifySaysRow : OpenClaim := { program := "ytmjdgcgmlgbfjaa", sum := "19160aa5512778a974e576e91aa492820a1749e6999b3b106927060d43ea705f", func := "haywain/haywainlaw.CertifySays", spec := "certifySays", unfollowed := true, recurses := true, apart := false }
def CertifySaysSaid : Prop := certifySaysRow.holds Try.pinned (OpenSpec.ofChange certifySaysSpec)

/-- ITS FALSE NEIGHBOUR: 'it returns false'. Refute it at one input. -/
def certifySaysWrong : ChangeSpec := { name := "certifySays", fn := fun _ => fun
  | [d] => { results := [.lit (.bool false)], args := [d] }
  | _ => none }
def CertifySaysWrongFalsely : Prop := certifySaysRow.holds Try.pinned (OpenSpec.ofChange certifySaysWrong)

/-- 'haywainlaw.DiskSays': WHATEVER THE INPUT: true; the input reads as it did. -/
def diskSaysSpec : ChangeSpec := { name := "diskSays", fn := fun _ => fun
  | [d1, d2] => { results := [.lit (.bool true)], args := [d1, d2] }
  | _ => none }
def diskSaysRow : OpenClaim := { program := "ytmjdgcgmlgbfjaa", sum := "19160aa5512778a974e576e91aa492820a1749e6999b3b106927060d43ea705f", func := "haywain/haywainlaw.DiskSays", spec := "diskSays", apart := false }
def DiskSaysSaid : Prop := diskSaysRow.holds Try.pinned (OpenSpec.ofChange diskSaysSpec)

/-- ITS FALSE NEIGHBOUR: 'it returns false'. Refute it at one input. -/
def diskSaysWrong : ChangeSpec := { name := "diskSays", fn := fun _ => fun
  | [d1, d2] => { results := [.lit (.bool false)], args := [d1, d2] }
  | _ => none }
def DiskSaysWrongFalsely : Prop := diskSaysRow.holds Try.pinned (OpenSpec.ofChange diskSaysWrong)

/-- 'haywaintop.TopSpan': WHATEVER THE INPUT: true; the input reads as it did. -/
def topSpanSpec : ChangeSpec := { name := "topSpan", fn := fun _ => fun
  | [d1, d2, d3, d4] => { results := [.lit (.bool true)], args := [d1, d2, d3, d4] }
  | _ => none }
def topSpanRow : OpenClaim := { program := "ytmjdgcgmlgbfjaa", sum := "19160aa5512778a974e576e91aa492820a1749e6999b3b106927060d43ea705f", func := "haywain/haywaintop.TopSpan", spec := "topSpan", apart := false }
def TopSpanSaid : Prop := topSpanRow.holds Try.pinned (OpenSpec.ofChange topSpanSpec)

/-- ITS FALSE NEIGHBOUR: 'it returns false'. Refute it at one input. -/
def topSpanWrong : ChangeSpec := { name := "topSpan", fn := fun _ => fun
  | [d1, d2, d3, d4] => { results := [.lit (.bool false)], args := [d1, d2, d3, d4] }
  | _ => none }
def TopSpanWrongFalsely : Prop := topSpanRow.holds Try.pinned (OpenSpec.ofChange topSpanWrong)

/-- 'haywaintop.TopClear': WHATEVER THE INPUT: true; the input reads as it did. -/
def topClearSpec : ChangeSpec := { name := "topClear", fn := fun _ => fun
  | [d1, d2, d3, d4] => { results := [.lit (.bool true)], args := [d1, d2, d3, d4] }
  | _ => none }
def topClearRow : OpenClaim := { program := "ytmjdgcgmlgbfjaa", sum := "19160aa5512778a974e576e91aa492820a1749e6999b3b106927060d43ea705f", func := "haywain/haywaintop.TopClear", spec := "topClear", unfollowed := true, recurses := true, apart := false }
def TopClearSaid : Prop := topClearRow.holds Try.pinned (OpenSpec.ofChange topClearSpec)

/-- ITS FALSE NEIGHBOUR: 'it returns false'. Refute it at one input. -/
def topClearWrong : ChangeSpec := { name := "topClear", fn := fun _ => fun
  | [d1, d2, d3, d4] => { results := [.lit (.bool false)], args := [d1, d2, d3, d4] }
  | _ => none }
def TopClearWrongFalsely : Prop := topClearRow.holds Try.pinned (OpenSpec.ofChange topClearWrong)

/-- 'haywaintop.TopDisk': WHATEVER THE INPUT: true; the input reads as it did. -/
def topDiskSpec : ChangeSpec := { name := "topDisk", fn := fun _ => fun
  | [d1, d2, d3] => { results := [.lit (.bool true)], args := [d1, d2, d3] }
  | _ => none }
def topDiskRow : OpenClaim := { program := "ytmjdgcgmlgbfjaa", sum := "19160aa5512778a974e576e91aa492820a1749e6999b3b106927060d43ea705f", func := "haywain/haywaintop.TopDisk", spec := "topDisk", apart := false }
def TopDiskSaid : Prop := topDiskRow.holds Try.pinned (OpenSpec.ofChange topDiskSpec)

/-- ITS FALSE NEIGHBOUR: 'it returns false'. Refute it at one input. -/
def topDiskWrong : ChangeSpec := { name := "topDisk", fn := fun _ => fun
  | [d1, d2, d3] => { results := [.lit (.bool false)], args := [d1, d2, d3] }
  | _ => none }
def TopDiskWrongFalsely : Prop := topDiskRow.holds Try.pinned (OpenSpec.ofChange topDiskWrong)

/- THE SECOND FORM. 'bulk': how many values and letters a reading holds, each counted each time it is reached (what is shared counts as often as it is met; a slice's spare places count too). A statement '..UptoSaid' is the law's where the arguments, and the package variables that the reading takes, are together of bulk at most 1048576: NARROWER than '..Said'. Prove '..Said' where nothing that the law and all that it calls make is longer than what came in: it says more and counts as full. Else prove '..UptoSaid'. A law counts once. -/
mutual
def uptoBulk {H : Type} : DataW H → Nat
  | .lit (.string bytes) => bytes.length + 1
  | .lit _ => 1
  | .nil => 1
  | .ptr d => uptoBulk d + 1
  | .slice elems spare => uptoBulkAll elems + uptoBulkAll spare + 1
  | .agg parts => uptoBulkAll parts + 1
  | .iface _ d => uptoBulk d + 1
  | .map entries => uptoBulkEntries entries + 1
  | .held _ => 1
def uptoBulkAll {H : Type} : List (DataW H) → Nat
  | [] => 0
  | d :: r => uptoBulk d + uptoBulkAll r
def uptoBulkEntries {H : Type} : List (Lit × DataW H) → Nat
  | [] => 0
  | x :: r => uptoBulkEntry x + uptoBulkEntries r
def uptoBulkEntry {H : Type} : Lit × DataW H → Nat
  | (.string bytes, d) => bytes.length + uptoBulk d + 1
  | (_, d) => uptoBulk d + 1
 end
def uptoSmall : (H : Type) → List (DataW H) → Bool := fun _ ds => decide (uptoBulkAll ds ≤ 1048576)
def OpenSpec.upto (s : _root_.Go.ChangeSpec) : _root_.Go.OpenSpec := { _root_.Go.OpenSpec.ofChange s with cond := some uptoSmall }

/-- 'haywainlaw.SpanSays', WHERE WHAT IT READS IS OF BULK AT MOST 1048576: true; the input reads as it did. -/
def spanSaysUptoRow : OpenClaim := { program := "ytmjdgcgmlgbfjaa", sum := "19160aa5512778a974e576e91aa492820a1749e6999b3b106927060d43ea705f", func := "haywain/haywainlaw.SpanSays", spec := "spanSays", unfollowed := true, recurses := true, apart := false, narrowed := true }
def SpanSaysUptoSaid : Prop := spanSaysUptoRow.holds Try.pinned (OpenSpec.upto spanSaysSpec)

/-- 'haywainlaw.CertifySays', WHERE WHAT IT READS IS OF BULK AT MOST 1048576: true; the input reads as it did. -/
def certifySaysUptoRow : OpenClaim := { program := "ytmjdgcgmlgbfjaa", sum := "19160aa5512778a974e576e91aa492820a1749e6999b3b106927060d43ea705f", func := "haywain/haywainlaw.CertifySays", spec := "certifySays", unfollowed := true, recurses := true, apart := false, narrowed := true }
def CertifySaysUptoSaid : Prop := certifySaysUptoRow.holds Try.pinned (OpenSpec.upto certifySaysSpec)

/-- 'haywainlaw.DiskSays', WHERE WHAT IT READS IS OF BULK AT MOST 1048576: true; the input reads as it did. -/
def diskSaysUptoRow : OpenClaim := { program := "ytmjdgcgmlgbfjaa", sum := "19160aa5512778a974e576e91aa492820a1749e6999b3b106927060d43ea705f", func := "haywain/haywainlaw.DiskSays", spec := "diskSays", apart := false, narrowed := true }
def DiskSaysUptoSaid : Prop := diskSaysUptoRow.holds Try.pinned (OpenSpec.upto diskSaysSpec)

/-- 'haywaintop.TopSpan', WHERE WHAT IT READS IS OF BULK AT MOST 1048576: true; the input reads as it did. -/
def topSpanUptoRow : OpenClaim := { program := "ytmjdgcgmlgbfjaa", sum := "19160aa5512778a974e576e91aa492820a1749e6999b3b106927060d43ea705f", func := "haywain/haywaintop.TopSpan", spec := "topSpan", apart := false, narrowed := true }
def TopSpanUptoSaid : Prop := topSpanUptoRow.holds Try.pinned (OpenSpec.upto topSpanSpec)

/-- 'haywaintop.TopClear', WHERE WHAT IT READS IS OF BULK AT MOST 1048576: true; the input reads as it did. -/
def topClearUptoRow : OpenClaim := { program := "ytmjdgcgmlgbfjaa", sum := "19160aa5512778a974e576e91aa492820a1749e6999b3b106927060d43ea705f", func := "haywain/haywaintop.TopClear", spec := "topClear", unfollowed := true, recurses := true, apart := false, narrowed := true }
def TopClearUptoSaid : Prop := topClearUptoRow.holds Try.pinned (OpenSpec.upto topClearSpec)

/-- 'haywaintop.TopDisk', WHERE WHAT IT READS IS OF BULK AT MOST 1048576: true; the input reads as it did. -/
def topDiskUptoRow : OpenClaim := { program := "ytmjdgcgmlgbfjaa", sum := "19160aa5512778a974e576e91aa492820a1749e6999b3b106927060d43ea705f", func := "haywain/haywaintop.TopDisk", spec := "topDisk", apart := false, narrowed := true }
def TopDiskUptoSaid : Prop := topDiskUptoRow.holds Try.pinned (OpenSpec.upto topDiskSpec)

end Rows
end Go.Proofs.Ytmjdgcgmlgbfjaa
