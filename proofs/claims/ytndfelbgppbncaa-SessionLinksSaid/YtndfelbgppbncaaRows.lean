/-
  No cell of these rows narrows 'for every input' (looked for: loops, veiled, ifaces, maps, wideKeys, modest, calm, conditions, laid).
  DERIVED. THE GIVEN ROWS OF THIS SEAT. 7 by the template 'for every input the law returns true; each argument reads behind the call as it read before'; 0 by the template 'total and deterministic' (their statements: YtndfelbgppbncaaTotals.lean).
  GIVEN WITH THE SEED: the statements are not yours to turn. If you find one false, say at which input.
  Laid BY PROGRAM, IN A SANDBOX (cutbox-rows.mjs): the forced cells as the released guide's own fill.sh prints them over the translation 0f51166ccf039be5… (all of the seat's roots in one cut). By AI agents, Wed Nov 11 2026. No macro, syntax, notation, axiom, sorry.
-/
import Derived.Test.YtndfelbgppbncaaChecked
import GoSem.Claim
import GoSem.ClaimJoined
import GoSem.ClaimMapViews
import Derived.JoinedTies
import Derived.KernelRfl
namespace Go.Proofs.Ytndfelbgppbncaa
/- THE CELL 'sum', in the pinned program and in every row, IS THE sha256 OF THE DUMP (.gsa) THAT YtndfelbgppbncaaProg.lean LOADS. Nothing in Lean hashes anything: it is a label: what it is worth is what the hold of that sum in a sandbox is worth. -/
noncomputable def Try.pinned : Pinned := { name := "ytndfelbgppbncaa", sum := "0f51166ccf039be5499e1b148e668305e14cd91d627820b24c9e67598e83da4e", checked := Try.checked }
namespace Rows
def none {H : Type} : Left H := { results := [], args := [] }

/-- 'droverlaw07.SessionNumbers': WHATEVER THE INPUT: true; the input reads as it did. -/
def sessionNumbersSpec : ChangeSpec := { name := "sessionNumbers", fn := fun _ => fun
  | [] => { results := [.lit (.bool true)], args := [] }
  | _ => none }
def sessionNumbersRow : OpenClaim := { program := "ytndfelbgppbncaa", sum := "0f51166ccf039be5499e1b148e668305e14cd91d627820b24c9e67598e83da4e", func := "drover/droverlaw07.SessionNumbers", spec := "sessionNumbers", unfollowed := true, recurses := true, apart := false }
def SessionNumbersSaid : Prop := sessionNumbersRow.holds Try.pinned (OpenSpec.ofChange sessionNumbersSpec)

/-- ITS FALSE NEIGHBOUR: 'it returns false'. Refute it at one input. -/
def sessionNumbersWrong : ChangeSpec := { name := "sessionNumbers", fn := fun _ => fun
  | [] => { results := [.lit (.bool false)], args := [] }
  | _ => none }
def SessionNumbersWrongFalsely : Prop := sessionNumbersRow.holds Try.pinned (OpenSpec.ofChange sessionNumbersWrong)

/-- 'droverlaw07.SessionNone': WHATEVER THE INPUT: true; the input reads as it did. -/
def sessionNoneSpec : ChangeSpec := { name := "sessionNone", fn := fun _ => fun
  | [d1, d2] => { results := [.lit (.bool true)], args := [d1, d2] }
  | _ => none }
def sessionNoneRow : OpenClaim := { program := "ytndfelbgppbncaa", sum := "0f51166ccf039be5499e1b148e668305e14cd91d627820b24c9e67598e83da4e", func := "drover/droverlaw07.SessionNone", spec := "sessionNone", unfollowed := true, recurses := true, apart := false }
def SessionNoneSaid : Prop := sessionNoneRow.holds Try.pinned (OpenSpec.ofChange sessionNoneSpec)

/-- ITS FALSE NEIGHBOUR: 'it returns false'. Refute it at one input. -/
def sessionNoneWrong : ChangeSpec := { name := "sessionNone", fn := fun _ => fun
  | [d1, d2] => { results := [.lit (.bool false)], args := [d1, d2] }
  | _ => none }
def SessionNoneWrongFalsely : Prop := sessionNoneRow.holds Try.pinned (OpenSpec.ofChange sessionNoneWrong)

/-- 'droverlaw07.SessionWindow': WHATEVER THE INPUT: true; the input reads as it did. -/
def sessionWindowSpec : ChangeSpec := { name := "sessionWindow", fn := fun _ => fun
  | [d1, d2] => { results := [.lit (.bool true)], args := [d1, d2] }
  | _ => none }
def sessionWindowRow : OpenClaim := { program := "ytndfelbgppbncaa", sum := "0f51166ccf039be5499e1b148e668305e14cd91d627820b24c9e67598e83da4e", func := "drover/droverlaw07.SessionWindow", spec := "sessionWindow", unfollowed := true, recurses := true, apart := false }
def SessionWindowSaid : Prop := sessionWindowRow.holds Try.pinned (OpenSpec.ofChange sessionWindowSpec)

/-- ITS FALSE NEIGHBOUR: 'it returns false'. Refute it at one input. -/
def sessionWindowWrong : ChangeSpec := { name := "sessionWindow", fn := fun _ => fun
  | [d1, d2] => { results := [.lit (.bool false)], args := [d1, d2] }
  | _ => none }
def SessionWindowWrongFalsely : Prop := sessionWindowRow.holds Try.pinned (OpenSpec.ofChange sessionWindowWrong)

/-- 'droverlaw07.SessionAgain': WHATEVER THE INPUT: true; the input reads as it did. -/
def sessionAgainSpec : ChangeSpec := { name := "sessionAgain", fn := fun _ => fun
  | [d1, d2] => { results := [.lit (.bool true)], args := [d1, d2] }
  | _ => none }
def sessionAgainRow : OpenClaim := { program := "ytndfelbgppbncaa", sum := "0f51166ccf039be5499e1b148e668305e14cd91d627820b24c9e67598e83da4e", func := "drover/droverlaw07.SessionAgain", spec := "sessionAgain", unfollowed := true, recurses := true, apart := false }
def SessionAgainSaid : Prop := sessionAgainRow.holds Try.pinned (OpenSpec.ofChange sessionAgainSpec)

/-- ITS FALSE NEIGHBOUR: 'it returns false'. Refute it at one input. -/
def sessionAgainWrong : ChangeSpec := { name := "sessionAgain", fn := fun _ => fun
  | [d1, d2] => { results := [.lit (.bool false)], args := [d1, d2] }
  | _ => none }
def SessionAgainWrongFalsely : Prop := sessionAgainRow.holds Try.pinned (OpenSpec.ofChange sessionAgainWrong)

/-- 'droverlaw07.SessionLate': WHATEVER THE INPUT: true; the input reads as it did. -/
def sessionLateSpec : ChangeSpec := { name := "sessionLate", fn := fun _ => fun
  | [d1, d2, d3, d4, d5, d6] => { results := [.lit (.bool true)], args := [d1, d2, d3, d4, d5, d6] }
  | _ => none }
def sessionLateRow : OpenClaim := { program := "ytndfelbgppbncaa", sum := "0f51166ccf039be5499e1b148e668305e14cd91d627820b24c9e67598e83da4e", func := "drover/droverlaw07.SessionLate", spec := "sessionLate", unfollowed := true, recurses := true, apart := false }
def SessionLateSaid : Prop := sessionLateRow.holds Try.pinned (OpenSpec.ofChange sessionLateSpec)

/-- ITS FALSE NEIGHBOUR: 'it returns false'. Refute it at one input. -/
def sessionLateWrong : ChangeSpec := { name := "sessionLate", fn := fun _ => fun
  | [d1, d2, d3, d4, d5, d6] => { results := [.lit (.bool false)], args := [d1, d2, d3, d4, d5, d6] }
  | _ => none }
def SessionLateWrongFalsely : Prop := sessionLateRow.holds Try.pinned (OpenSpec.ofChange sessionLateWrong)

/-- 'droverlaw07.SessionLinks': WHATEVER THE INPUT: true; the input reads as it did. -/
def sessionLinksSpec : ChangeSpec := { name := "sessionLinks", fn := fun _ => fun
  | [d1, d2, d3] => { results := [.lit (.bool true)], args := [d1, d2, d3] }
  | _ => none }
def sessionLinksRow : OpenClaim := { program := "ytndfelbgppbncaa", sum := "0f51166ccf039be5499e1b148e668305e14cd91d627820b24c9e67598e83da4e", func := "drover/droverlaw07.SessionLinks", spec := "sessionLinks", unfollowed := true, recurses := true, apart := false }
def SessionLinksSaid : Prop := sessionLinksRow.holds Try.pinned (OpenSpec.ofChange sessionLinksSpec)

/-- ITS FALSE NEIGHBOUR: 'it returns false'. Refute it at one input. -/
def sessionLinksWrong : ChangeSpec := { name := "sessionLinks", fn := fun _ => fun
  | [d1, d2, d3] => { results := [.lit (.bool false)], args := [d1, d2, d3] }
  | _ => none }
def SessionLinksWrongFalsely : Prop := sessionLinksRow.holds Try.pinned (OpenSpec.ofChange sessionLinksWrong)

/-- 'droverlaw07.SessionOnce': WHATEVER THE INPUT: true; the input reads as it did. -/
def sessionOnceSpec : ChangeSpec := { name := "sessionOnce", fn := fun _ => fun
  | [d1, d2] => { results := [.lit (.bool true)], args := [d1, d2] }
  | _ => none }
def sessionOnceRow : OpenClaim := { program := "ytndfelbgppbncaa", sum := "0f51166ccf039be5499e1b148e668305e14cd91d627820b24c9e67598e83da4e", func := "drover/droverlaw07.SessionOnce", spec := "sessionOnce", unfollowed := true, recurses := true, apart := false }
def SessionOnceSaid : Prop := sessionOnceRow.holds Try.pinned (OpenSpec.ofChange sessionOnceSpec)

/-- ITS FALSE NEIGHBOUR: 'it returns false'. Refute it at one input. -/
def sessionOnceWrong : ChangeSpec := { name := "sessionOnce", fn := fun _ => fun
  | [d1, d2] => { results := [.lit (.bool false)], args := [d1, d2] }
  | _ => none }
def SessionOnceWrongFalsely : Prop := sessionOnceRow.holds Try.pinned (OpenSpec.ofChange sessionOnceWrong)

/- THE SECOND FORM. 'bulk': how many values and letters a reading holds, each counted each time it is reached (what is shared counts as often as it is met; a slice's spare places count too). A statement '..UptoSaid' is the law's where the arguments, and the package variables that the reading takes, are together of bulk at most 1048576: NARROWER than '..Said'. Prove '..Said' where nothing that the law and all that it calls make is longer than what came in: it says more and counts as full. Else prove '..UptoSaid'. A law counts once. -/
mutual
def uptoBulk {H : Type} : DataW H → Nat
  | .lit (.string bytes) => bytes.length + 1
  | .lit _ => 1
  | .nil => 1
  | .ptr d => uptoBulk d + 1
  | .slice elems spare => uptoBulkAll elems + uptoBulkAll spare + 1
  | .agg parts => uptoBulkAll parts + 1
  | .iface _ d => uptoBulk d + 1
  | .map entries => uptoBulkEntries entries + 1
  | .held _ => 1
def uptoBulkAll {H : Type} : List (DataW H) → Nat
  | [] => 0
  | d :: r => uptoBulk d + uptoBulkAll r
def uptoBulkEntries {H : Type} : List (Lit × DataW H) → Nat
  | [] => 0
  | x :: r => uptoBulkEntry x + uptoBulkEntries r
def uptoBulkEntry {H : Type} : Lit × DataW H → Nat
  | (.string bytes, d) => bytes.length + uptoBulk d + 1
  | (_, d) => uptoBulk d + 1
 end
def uptoSmall : (H : Type) → List (DataW H) → Bool := fun _ ds => decide (uptoBulkAll ds ≤ 1048576)
def OpenSpec.upto (s : _root_.Go.ChangeSpec) : _root_.Go.OpenSpec := { _root_.Go.OpenSpec.ofChange s with cond := some uptoSmall }

/-- 'droverlaw07.SessionNumbers', WHERE WHAT IT READS IS OF BULK AT MOST 1048576: true; the input reads as it did. -/
def sessionNumbersUptoRow : OpenClaim := { program := "ytndfelbgppbncaa", sum := "0f51166ccf039be5499e1b148e668305e14cd91d627820b24c9e67598e83da4e", func := "drover/droverlaw07.SessionNumbers", spec := "sessionNumbers", unfollowed := true, recurses := true, apart := false, narrowed := true }
def SessionNumbersUptoSaid : Prop := sessionNumbersUptoRow.holds Try.pinned (OpenSpec.upto sessionNumbersSpec)

/-- 'droverlaw07.SessionNone', WHERE WHAT IT READS IS OF BULK AT MOST 1048576: true; the input reads as it did. -/
def sessionNoneUptoRow : OpenClaim := { program := "ytndfelbgppbncaa", sum := "0f51166ccf039be5499e1b148e668305e14cd91d627820b24c9e67598e83da4e", func := "drover/droverlaw07.SessionNone", spec := "sessionNone", unfollowed := true, recurses := true, apart := false, narrowed := true }
def SessionNoneUptoSaid : Prop := sessionNoneUptoRow.holds Try.pinned (OpenSpec.upto sessionNoneSpec)

/-- 'droverlaw07.SessionWindow', WHERE WHAT IT READS IS OF BULK AT MOST 1048576: true; the input reads as it did. -/
def sessionWindowUptoRow : OpenClaim := { program := "ytndfelbgppbncaa", sum := "0f51166ccf039be5499e1b148e668305e14cd91d627820b24c9e67598e83da4e", func := "drover/droverlaw07.SessionWindow", spec := "sessionWindow", unfollowed := true, recurses := true, apart := false, narrowed := true }
def SessionWindowUptoSaid : Prop := sessionWindowUptoRow.holds Try.pinned (OpenSpec.upto sessionWindowSpec)

/-- 'droverlaw07.SessionAgain', WHERE WHAT IT READS IS OF BULK AT MOST 1048576: true; the input reads as it did. -/
def sessionAgainUptoRow : OpenClaim := { program := "ytndfelbgppbncaa", sum := "0f51166ccf039be5499e1b148e668305e14cd91d627820b24c9e67598e83da4e", func := "drover/droverlaw07.SessionAgain", spec := "sessionAgain", unfollowed := true, recurses := true, apart := false, narrowed := true }
def SessionAgainUptoSaid : Prop := sessionAgainUptoRow.holds Try.pinned (OpenSpec.upto sessionAgainSpec)

/-- 'droverlaw07.SessionLate', WHERE WHAT IT READS IS OF BULK AT MOST 1048576: true; the input reads as it did. -/
def sessionLateUptoRow : OpenClaim := { program := "ytndfelbgppbncaa", sum := "0f51166ccf039be5499e1b148e668305e14cd91d627820b24c9e67598e83da4e", func := "drover/droverlaw07.SessionLate", spec := "sessionLate", unfollowed := true, recurses := true, apart := false, narrowed := true }
def SessionLateUptoSaid : Prop := sessionLateUptoRow.holds Try.pinned (OpenSpec.upto sessionLateSpec)

/-- 'droverlaw07.SessionLinks', WHERE WHAT IT READS IS OF BULK AT MOST 1048576: true; the input reads as it did. -/
def sessionLinksUptoRow : OpenClaim := { program := "ytndfelbgppbncaa", sum := "0f51166ccf039be5499e1b148e668305e14cd91d627820b24c9e67598e83da4e", func := "drover/droverlaw07.SessionLinks", spec := "sessionLinks", unfollowed := true, recurses := true, apart := false, narrowed := true }
def SessionLinksUptoSaid : Prop := sessionLinksUptoRow.holds Try.pinned (OpenSpec.upto sessionLinksSpec)

/-- 'droverlaw07.SessionOnce', WHERE WHAT IT READS IS OF BULK AT MOST 1048576: true; the input reads as it did. -/
def sessionOnceUptoRow : OpenClaim := { program := "ytndfelbgppbncaa", sum := "0f51166ccf039be5499e1b148e668305e14cd91d627820b24c9e67598e83da4e", func := "drover/droverlaw07.SessionOnce", spec := "sessionOnce", unfollowed := true, recurses := true, apart := false, narrowed := true }
def SessionOnceUptoSaid : Prop := sessionOnceUptoRow.holds Try.pinned (OpenSpec.upto sessionOnceSpec)

end Rows
end Go.Proofs.Ytndfelbgppbncaa
