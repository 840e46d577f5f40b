/-
  No cell of these rows narrows 'for every input' (looked for: loops, veiled, ifaces, maps, wideKeys, modest, calm, conditions, laid).
  DERIVED. THE GIVEN ROWS OF THIS SEAT. 5 by the template 'for every input the law returns true; each argument reads behind the call as it read before'; 0 by the template 'total and deterministic' (their statements: YtcadkfaaogclfaaTotals.lean).
  GIVEN WITH THE SEED: the statements are not yours to turn. If you find one false, say at which input.
  Laid BY PROGRAM, IN A SANDBOX (cutbox-rows.mjs): the forced cells as the released guide's own fill.sh prints them over the translation 6ba2d2ac5a639533… (all of the seat's roots in one cut). By AI agents, Wed Nov 11 2026. No macro, syntax, notation, axiom, sorry.
-/
import Derived.Test.YtcadkfaaogclfaaChecked
import GoSem.Claim
import GoSem.ClaimJoined
import GoSem.ClaimMapViews
import Derived.JoinedTies
import Derived.KernelRfl
namespace Go.Proofs.Ytcadkfaaogclfaa
/- THE CELL 'sum', in the pinned program and in every row, IS THE sha256 OF THE DUMP (.gsa) THAT YtcadkfaaogclfaaProg.lean LOADS. Nothing in Lean hashes anything: it is a label: what it is worth is what the hold of that sum in a sandbox is worth. -/
noncomputable def Try.pinned : Pinned := { name := "ytcadkfaaogclfaa", sum := "6ba2d2ac5a639533a70d5483e8c48f6547029c6cc8b7307927d3ff7278a32fc7", checked := Try.checked }
namespace Rows
def none {H : Type} : Left H := { results := [], args := [] }

/-- 'frankinglaw46.CustodySpec': WHATEVER THE INPUT: true; the input reads as it did. -/
def custodySpecSpec : ChangeSpec := { name := "custodySpec", fn := fun _ => fun
  | [d1, d2, d3] => { results := [.lit (.bool true)], args := [d1, d2, d3] }
  | _ => none }
def custodySpecRow : OpenClaim := { program := "ytcadkfaaogclfaa", sum := "6ba2d2ac5a639533a70d5483e8c48f6547029c6cc8b7307927d3ff7278a32fc7", func := "franking/frankinglaw46.CustodySpec", spec := "custodySpec", unfollowed := true, recurses := true, apart := false }
def CustodySpecSaid : Prop := custodySpecRow.holds Try.pinned (OpenSpec.ofChange custodySpecSpec)

/-- ITS FALSE NEIGHBOUR: 'it returns false'. Refute it at one input. -/
def custodySpecWrong : ChangeSpec := { name := "custodySpec", fn := fun _ => fun
  | [d1, d2, d3] => { results := [.lit (.bool false)], args := [d1, d2, d3] }
  | _ => none }
def CustodySpecWrongFalsely : Prop := custodySpecRow.holds Try.pinned (OpenSpec.ofChange custodySpecWrong)

/-- 'frankinglaw46.CustodyOnce': WHATEVER THE INPUT: true; the input reads as it did. -/
def custodyOnceSpec : ChangeSpec := { name := "custodyOnce", fn := fun _ => fun
  | [d] => { results := [.lit (.bool true)], args := [d] }
  | _ => none }
def custodyOnceRow : OpenClaim := { program := "ytcadkfaaogclfaa", sum := "6ba2d2ac5a639533a70d5483e8c48f6547029c6cc8b7307927d3ff7278a32fc7", func := "franking/frankinglaw46.CustodyOnce", spec := "custodyOnce", unfollowed := true, recurses := true, apart := false }
def CustodyOnceSaid : Prop := custodyOnceRow.holds Try.pinned (OpenSpec.ofChange custodyOnceSpec)

/-- ITS FALSE NEIGHBOUR: 'it returns false'. Refute it at one input. -/
def custodyOnceWrong : ChangeSpec := { name := "custodyOnce", fn := fun _ => fun
  | [d] => { results := [.lit (.bool false)], args := [d] }
  | _ => none }
def CustodyOnceWrongFalsely : Prop := custodyOnceRow.holds Try.pinned (OpenSpec.ofChange custodyOnceWrong)

/-- 'frankinglaw46.CustodyFollows': WHATEVER THE INPUT: true; the input reads as it did. -/
def custodyFollowsSpec : ChangeSpec := { name := "custodyFollows", fn := fun _ => fun
  | [d1, d2] => { results := [.lit (.bool true)], args := [d1, d2] }
  | _ => none }
def custodyFollowsRow : OpenClaim := { program := "ytcadkfaaogclfaa", sum := "6ba2d2ac5a639533a70d5483e8c48f6547029c6cc8b7307927d3ff7278a32fc7", func := "franking/frankinglaw46.CustodyFollows", spec := "custodyFollows", unfollowed := true, recurses := true, apart := false }
def CustodyFollowsSaid : Prop := custodyFollowsRow.holds Try.pinned (OpenSpec.ofChange custodyFollowsSpec)

/-- ITS FALSE NEIGHBOUR: 'it returns false'. Refute it at one input. -/
def custodyFollowsWrong : ChangeSpec := { name := "custodyFollows", fn := fun _ => fun
  | [d1, d2] => { results := [.lit (.bool false)], args := [d1, d2] }
  | _ => none }
def CustodyFollowsWrongFalsely : Prop := custodyFollowsRow.holds Try.pinned (OpenSpec.ofChange custodyFollowsWrong)

/-- 'frankinglaw46.CustodyApart': WHATEVER THE INPUT: true; the input reads as it did. -/
def custodyApartSpec : ChangeSpec := { name := "custodyApart", fn := fun _ => fun
  | [d] => { results := [.lit (.bool true)], args := [d] }
  | _ => none }
def custodyApartRow : OpenClaim := { program := "ytcadkfaaogclfaa", sum := "6ba2d2ac5a639533a70d5483e8c48f6547029c6cc8b7307927d3ff7278a32fc7", func := "franking/frankinglaw46.CustodyApart", spec := "custodyApart", unfollowed := true, recurses := true, apart := false }
def CustodyApartSaid : Prop := custodyApartRow.holds Try.pinned (OpenSpec.ofChange custodyApartSpec)

/-- ITS FALSE NEIGHBOUR: 'it returns false'. Refute it at one input. -/
def custodyApartWrong : ChangeSpec := { name := "custodyApart", fn := fun _ => fun
  | [d] => { results := [.lit (.bool false)], args := [d] }
  | _ => none }
def CustodyApartWrongFalsely : Prop := custodyApartRow.holds Try.pinned (OpenSpec.ofChange custodyApartWrong)

/-- 'frankinglaw46.CustodyLate': WHATEVER THE INPUT: true; the input reads as it did. -/
def custodyLateSpec : ChangeSpec := { name := "custodyLate", fn := fun _ => fun
  | [d1, d2, d3, d4] => { results := [.lit (.bool true)], args := [d1, d2, d3, d4] }
  | _ => none }
def custodyLateRow : OpenClaim := { program := "ytcadkfaaogclfaa", sum := "6ba2d2ac5a639533a70d5483e8c48f6547029c6cc8b7307927d3ff7278a32fc7", func := "franking/frankinglaw46.CustodyLate", spec := "custodyLate", unfollowed := true, recurses := true, apart := false }
def CustodyLateSaid : Prop := custodyLateRow.holds Try.pinned (OpenSpec.ofChange custodyLateSpec)

/-- ITS FALSE NEIGHBOUR: 'it returns false'. Refute it at one input. -/
def custodyLateWrong : ChangeSpec := { name := "custodyLate", fn := fun _ => fun
  | [d1, d2, d3, d4] => { results := [.lit (.bool false)], args := [d1, d2, d3, d4] }
  | _ => none }
def CustodyLateWrongFalsely : Prop := custodyLateRow.holds Try.pinned (OpenSpec.ofChange custodyLateWrong)

/- THE SECOND FORM. 'bulk': how many values and letters a reading holds, each counted each time it is reached (what is shared counts as often as it is met; a slice's spare places count too). A statement '..UptoSaid' is the law's where the arguments, and the package variables that the reading takes, are together of bulk at most 1048576: NARROWER than '..Said'. Prove '..Said' where nothing that the law and all that it calls make is longer than what came in: it says more and counts as full. Else prove '..UptoSaid'. A law counts once. -/
mutual
def uptoBulk {H : Type} : DataW H → Nat
  | .lit (.string bytes) => bytes.length + 1
  | .lit _ => 1
  | .nil => 1
  | .ptr d => uptoBulk d + 1
  | .slice elems spare => uptoBulkAll elems + uptoBulkAll spare + 1
  | .agg parts => uptoBulkAll parts + 1
  | .iface _ d => uptoBulk d + 1
  | .map entries => uptoBulkEntries entries + 1
  | .held _ => 1
def uptoBulkAll {H : Type} : List (DataW H) → Nat
  | [] => 0
  | d :: r => uptoBulk d + uptoBulkAll r
def uptoBulkEntries {H : Type} : List (Lit × DataW H) → Nat
  | [] => 0
  | x :: r => uptoBulkEntry x + uptoBulkEntries r
def uptoBulkEntry {H : Type} : Lit × DataW H → Nat
  | (.string bytes, d) => bytes.length + uptoBulk d + 1
  | (_, d) => uptoBulk d + 1
 end
def uptoSmall : (H : Type) → List (DataW H) → Bool := fun _ ds => decide (uptoBulkAll ds ≤ 1048576)
def OpenSpec.upto (s : _root_.Go.ChangeSpec) : _root_.Go.OpenSpec := { _root_.Go.OpenSpec.ofChange s with cond := some uptoSmall }

/-- 'frankinglaw46.CustodySpec', WHERE WHAT IT READS IS OF BULK AT MOST 1048576: true; the input reads as it did. -/
def custodySpecUptoRow : OpenClaim := { program := "ytcadkfaaogclfaa", sum := "6ba2d2ac5a639533a70d5483e8c48f6547029c6cc8b7307927d3ff7278a32fc7", func := "franking/frankinglaw46.CustodySpec", spec := "custodySpec", unfollowed := true, recurses := true, apart := false, narrowed := true }
def CustodySpecUptoSaid : Prop := custodySpecUptoRow.holds Try.pinned (OpenSpec.upto custodySpecSpec)

/-- 'frankinglaw46.CustodyOnce', WHERE WHAT IT READS IS OF BULK AT MOST 1048576: true; the input reads as it did. -/
def custodyOnceUptoRow : OpenClaim := { program := "ytcadkfaaogclfaa", sum := "6ba2d2ac5a639533a70d5483e8c48f6547029c6cc8b7307927d3ff7278a32fc7", func := "franking/frankinglaw46.CustodyOnce", spec := "custodyOnce", unfollowed := true, recurses := true, apart := false, narrowed := true }
def CustodyOnceUptoSaid : Prop := custodyOnceUptoRow.holds Try.pinned (OpenSpec.upto custodyOnceSpec)

/-- 'frankinglaw46.CustodyFollows', WHERE WHAT IT READS IS OF BULK AT MOST 1048576: true; the input reads as it did. -/
def custodyFollowsUptoRow : OpenClaim := { program := "ytcadkfaaogclfaa", sum := "6ba2d2ac5a639533a70d5483e8c48f6547029c6cc8b7307927d3ff7278a32fc7", func := "franking/frankinglaw46.CustodyFollows", spec := "custodyFollows", unfollowed := true, recurses := true, apart := false, narrowed := true }
def CustodyFollowsUptoSaid : Prop := custodyFollowsUptoRow.holds Try.pinned (OpenSpec.upto custodyFollowsSpec)

/-- 'frankinglaw46.CustodyApart', WHERE WHAT IT READS IS OF BULK AT MOST 1048576: true; the input reads as it did. -/
def custodyApartUptoRow : OpenClaim := { program := "ytcadkfaaogclfaa", sum := "6ba2d2ac5a639533a70d5483e8c48f6547029c6cc8b7307927d3ff7278a32fc7", func := "franking/frankinglaw46.CustodyApart", spec := "custodyApart", unfollowed := true, recurses := true, apart := false, narrowed := true }
def CustodyApartUptoSaid : Prop := custodyApartUptoRow.holds Try.pinned (OpenSpec.upto custodyApartSpec)

/-- 'frankinglaw46.CustodyLate', WHERE WHAT IT READS IS OF BULK AT MOST 1048576: true; the input reads as it did. -/
def custodyLateUptoRow : OpenClaim := { program := "ytcadkfaaogclfaa", sum := "6ba2d2ac5a639533a70d5483e8c48f6547029c6cc8b7307927d3ff7278a32fc7", func := "franking/frankinglaw46.CustodyLate", spec := "custodyLate", unfollowed := true, recurses := true, apart := false, narrowed := true }
def CustodyLateUptoSaid : Prop := custodyLateUptoRow.holds Try.pinned (OpenSpec.upto custodyLateSpec)

end Rows
end Go.Proofs.Ytcadkfaaogclfaa
