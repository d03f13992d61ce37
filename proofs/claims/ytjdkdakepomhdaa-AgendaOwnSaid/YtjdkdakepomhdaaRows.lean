/-
  No cell of these rows narrows 'for every input' (looked for: loops, veiled, ifaces, maps, wideKeys, modest, calm, conditions, laid).
  DERIVED. THE GIVEN ROWS OF THIS SEAT. 4 by the template 'for every input the law returns true; each argument reads behind the call as it read before'; 0 by the template 'total and deterministic' (their statements: YtjdkdakepomhdaaTotals.lean).
  GIVEN WITH THE SEED: the statements are not yours to turn. If you find one false, say at which input.
  Laid BY PROGRAM, IN A SANDBOX (cutbox-rows.mjs): the forced cells as the released guide's own fill.sh prints them over the translation 2259962125e6252c… (all of the seat's roots in one cut). By AI agents, Wed Nov 11 2026. No macro, syntax, notation, axiom, sorry.
-/
import Derived.Test.YtjdkdakepomhdaaChecked
import GoSem.Claim
import GoSem.ClaimJoined
import GoSem.ClaimMapViews
import Derived.JoinedTies
import Derived.KernelRfl
namespace Go.Proofs.Ytjdkdakepomhdaa
/- THE CELL 'sum', in the pinned program and in every row, IS THE sha256 OF THE DUMP (.gsa) THAT YtjdkdakepomhdaaProg.lean LOADS. Nothing in Lean hashes anything: it is a label: what it is worth is what the hold of that sum in a sandbox is worth. -/
noncomputable def Try.pinned : Pinned := { name := "ytjdkdakepomhdaa", sum := "2259962125e6252c15d45b256f73234a3b8db0ddfc8a14266faf8cf93d5917f9", checked := Try.checked }
namespace Rows
def none {H : Type} : Left H := { results := [], args := [] }

/-- 'provostlaw04.AgendaExact': WHATEVER THE INPUT: true; the input reads as it did. -/
def agendaExactSpec : ChangeSpec := { name := "agendaExact", fn := fun _ => fun
  | [d] => { results := [.lit (.bool true)], args := [d] }
  | _ => none }
def agendaExactRow : OpenClaim := { program := "ytjdkdakepomhdaa", sum := "2259962125e6252c15d45b256f73234a3b8db0ddfc8a14266faf8cf93d5917f9", func := "provost/provostlaw04.AgendaExact", spec := "agendaExact", unfollowed := true, recurses := true, apart := false }
def AgendaExactSaid : Prop := agendaExactRow.holds Try.pinned (OpenSpec.ofChange agendaExactSpec)

/-- ITS FALSE NEIGHBOUR: 'it returns false'. Refute it at one input. -/
def agendaExactWrong : ChangeSpec := { name := "agendaExact", fn := fun _ => fun
  | [d] => { results := [.lit (.bool false)], args := [d] }
  | _ => none }
def AgendaExactWrongFalsely : Prop := agendaExactRow.holds Try.pinned (OpenSpec.ofChange agendaExactWrong)

/-- 'provostlaw04.AgendaSorts': WHATEVER THE INPUT: true; the input reads as it did. -/
def agendaSortsSpec : ChangeSpec := { name := "agendaSorts", fn := fun _ => fun
  | [d] => { results := [.lit (.bool true)], args := [d] }
  | _ => none }
def agendaSortsRow : OpenClaim := { program := "ytjdkdakepomhdaa", sum := "2259962125e6252c15d45b256f73234a3b8db0ddfc8a14266faf8cf93d5917f9", func := "provost/provostlaw04.AgendaSorts", spec := "agendaSorts", unfollowed := true, recurses := true, apart := false }
def AgendaSortsSaid : Prop := agendaSortsRow.holds Try.pinned (OpenSpec.ofChange agendaSortsSpec)

/-- ITS FALSE NEIGHBOUR: 'it returns false'. Refute it at one input. -/
def agendaSortsWrong : ChangeSpec := { name := "agendaSorts", fn := fun _ => fun
  | [d] => { results := [.lit (.bool false)], args := [d] }
  | _ => none }
def AgendaSortsWrongFalsely : Prop := agendaSortsRow.holds Try.pinned (OpenSpec.ofChange agendaSortsWrong)

/-- 'provostlaw04.AgendaOwn': WHATEVER THE INPUT: true; the input reads as it did. -/
def agendaOwnSpec : ChangeSpec := { name := "agendaOwn", fn := fun _ => fun
  | [d] => { results := [.lit (.bool true)], args := [d] }
  | _ => none }
def agendaOwnRow : OpenClaim := { program := "ytjdkdakepomhdaa", sum := "2259962125e6252c15d45b256f73234a3b8db0ddfc8a14266faf8cf93d5917f9", func := "provost/provostlaw04.AgendaOwn", spec := "agendaOwn", unfollowed := true, recurses := true, apart := false }
def AgendaOwnSaid : Prop := agendaOwnRow.holds Try.pinned (OpenSpec.ofChange agendaOwnSpec)

/-- ITS FALSE NEIGHBOUR: 'it returns false'. Refute it at one input. -/
def agendaOwnWrong : ChangeSpec := { name := "agendaOwn", fn := fun _ => fun
  | [d] => { results := [.lit (.bool false)], args := [d] }
  | _ => none }
def AgendaOwnWrongFalsely : Prop := agendaOwnRow.holds Try.pinned (OpenSpec.ofChange agendaOwnWrong)

/-- 'provostlaw04.AgendaAll': WHATEVER THE INPUT: true; the input reads as it did. -/
def agendaAllSpec : ChangeSpec := { name := "agendaAll", fn := fun _ => fun
  | [d1, d2, d3] => { results := [.lit (.bool true)], args := [d1, d2, d3] }
  | _ => none }
def agendaAllRow : OpenClaim := { program := "ytjdkdakepomhdaa", sum := "2259962125e6252c15d45b256f73234a3b8db0ddfc8a14266faf8cf93d5917f9", func := "provost/provostlaw04.AgendaAll", spec := "agendaAll", unfollowed := true, recurses := true, apart := false }
def AgendaAllSaid : Prop := agendaAllRow.holds Try.pinned (OpenSpec.ofChange agendaAllSpec)

/-- ITS FALSE NEIGHBOUR: 'it returns false'. Refute it at one input. -/
def agendaAllWrong : ChangeSpec := { name := "agendaAll", fn := fun _ => fun
  | [d1, d2, d3] => { results := [.lit (.bool false)], args := [d1, d2, d3] }
  | _ => none }
def AgendaAllWrongFalsely : Prop := agendaAllRow.holds Try.pinned (OpenSpec.ofChange agendaAllWrong)

/- THE SECOND FORM. 'bulk': how many values and letters a reading holds, each counted each time it is reached (what is shared counts as often as it is met; a slice's spare places count too). A statement '..UptoSaid' is the law's where the arguments, and the package variables that the reading takes, are together of bulk at most 1048576: NARROWER than '..Said'. Prove '..Said' where nothing that the law and all that it calls make is longer than what came in: it says more and counts as full. Else prove '..UptoSaid'. A law counts once. -/
mutual
def uptoBulk {H : Type} : DataW H → Nat
  | .lit (.string bytes) => bytes.length + 1
  | .lit _ => 1
  | .nil => 1
  | .ptr d => uptoBulk d + 1
  | .slice elems spare => uptoBulkAll elems + uptoBulkAll spare + 1
  | .agg parts => uptoBulkAll parts + 1
  | .iface _ d => uptoBulk d + 1
  | .map entries => uptoBulkEntries entries + 1
  | .held _ => 1
def uptoBulkAll {H : Type} : List (DataW H) → Nat
  | [] => 0
  | d :: r => uptoBulk d + uptoBulkAll r
def uptoBulkEntries {H : Type} : List (Lit × DataW H) → Nat
  | [] => 0
  | x :: r => uptoBulkEntry x + uptoBulkEntries r
def uptoBulkEntry {H : Type} : Lit × DataW H → Nat
  | (.string bytes, d) => bytes.length + uptoBulk d + 1
  | (_, d) => uptoBulk d + 1
 end
def uptoSmall : (H : Type) → List (DataW H) → Bool := fun _ ds => decide (uptoBulkAll ds ≤ 1048576)
def OpenSpec.upto (s : _root_.Go.ChangeSpec) : _root_.Go.OpenSpec := { _root_.Go.OpenSpec.ofChange s with cond := some uptoSmall }

/-- 'provostlaw04.AgendaExact', WHERE WHAT IT READS IS OF BULK AT MOST 1048576: true; the input reads as it did. -/
def agendaExactUptoRow : OpenClaim := { program := "ytjdkdakepomhdaa", sum := "2259962125e6252c15d45b256f73234a3b8db0ddfc8a14266faf8cf93d5917f9", func := "provost/provostlaw04.AgendaExact", spec := "agendaExact", unfollowed := true, recurses := true, apart := false, narrowed := true }
def AgendaExactUptoSaid : Prop := agendaExactUptoRow.holds Try.pinned (OpenSpec.upto agendaExactSpec)

/-- 'provostlaw04.AgendaSorts', WHERE WHAT IT READS IS OF BULK AT MOST 1048576: true; the input reads as it did. -/
def agendaSortsUptoRow : OpenClaim := { program := "ytjdkdakepomhdaa", sum := "2259962125e6252c15d45b256f73234a3b8db0ddfc8a14266faf8cf93d5917f9", func := "provost/provostlaw04.AgendaSorts", spec := "agendaSorts", unfollowed := true, recurses := true, apart := false, narrowed := true }
def AgendaSortsUptoSaid : Prop := agendaSortsUptoRow.holds Try.pinned (OpenSpec.upto agendaSortsSpec)

/-- 'provostlaw04.AgendaOwn', WHERE WHAT IT READS IS OF BULK AT MOST 1048576: true; the input reads as it did. -/
def agendaOwnUptoRow : OpenClaim := { program := "ytjdkdakepomhdaa", sum := "2259962125e6252c15d45b256f73234a3b8db0ddfc8a14266faf8cf93d5917f9", func := "provost/provostlaw04.AgendaOwn", spec := "agendaOwn", unfollowed := true, recurses := true, apart := false, narrowed := true }
def AgendaOwnUptoSaid : Prop := agendaOwnUptoRow.holds Try.pinned (OpenSpec.upto agendaOwnSpec)

/-- 'provostlaw04.AgendaAll', WHERE WHAT IT READS IS OF BULK AT MOST 1048576: true; the input reads as it did. -/
def agendaAllUptoRow : OpenClaim := { program := "ytjdkdakepomhdaa", sum := "2259962125e6252c15d45b256f73234a3b8db0ddfc8a14266faf8cf93d5917f9", func := "provost/provostlaw04.AgendaAll", spec := "agendaAll", unfollowed := true, recurses := true, apart := false, narrowed := true }
def AgendaAllUptoSaid : Prop := agendaAllUptoRow.holds Try.pinned (OpenSpec.upto agendaAllSpec)

end Rows
end Go.Proofs.Ytjdkdakepomhdaa
