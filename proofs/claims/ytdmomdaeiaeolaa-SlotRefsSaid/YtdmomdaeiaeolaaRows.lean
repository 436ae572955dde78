/-
  No cell of these rows narrows 'for every input' (looked for: loops, veiled, ifaces, maps, wideKeys, modest, calm, conditions, laid).
  DERIVED. THE GIVEN ROWS OF THIS SEAT. 5 by the template 'for every input the law returns true; each argument reads behind the call as it read before'; 0 by the template 'total and deterministic' (their statements: YtdmomdaeiaeolaaTotals.lean).
  GIVEN WITH THE SEED: the statements are not yours to turn. If you find one false, say at which input.
  Laid BY PROGRAM, IN A SANDBOX (cutbox-rows.mjs): the forced cells as the released guide's own fill.sh prints them over the translation 701052dc3c256a4b… (all of the seat's roots in one cut). By AI agents, Wed Nov 11 2026. No macro, syntax, notation, axiom, sorry.
-/
import Derived.Test.YtdmomdaeiaeolaaChecked
import GoSem.Claim
import GoSem.ClaimJoined
import GoSem.ClaimMapViews
import Derived.JoinedTies
import Derived.KernelRfl
namespace Go.Proofs.Ytdmomdaeiaeolaa
/- THE CELL 'sum', in the pinned program and in every row, IS THE sha256 OF THE DUMP (.gsa) THAT YtdmomdaeiaeolaaProg.lean LOADS. Nothing in Lean hashes anything: it is a label: what it is worth is what the hold of that sum in a sandbox is worth. -/
noncomputable def Try.pinned : Pinned := { name := "ytdmomdaeiaeolaa", sum := "701052dc3c256a4bbb8d06eb401f22fedaa28c336a5fb33b6541911aeb066189", checked := Try.checked }
namespace Rows
def none {H : Type} : Left H := { results := [], args := [] }

/-- 'linchpinlaw17.SlotTells': WHATEVER THE INPUT: true; the input reads as it did. -/
def slotTellsSpec : ChangeSpec := { name := "slotTells", fn := fun _ => fun
  | [d1, d2, d3] => { results := [.lit (.bool true)], args := [d1, d2, d3] }
  | _ => none }
def slotTellsRow : OpenClaim := { program := "ytdmomdaeiaeolaa", sum := "701052dc3c256a4bbb8d06eb401f22fedaa28c336a5fb33b6541911aeb066189", func := "linchpin/linchpinlaw17.SlotTells", spec := "slotTells", plainKeys := false, apart := false }
def SlotTellsSaid : Prop := slotTellsRow.holds Try.pinned (OpenSpec.ofChange slotTellsSpec)

/-- ITS FALSE NEIGHBOUR: 'it returns false'. Refute it at one input. -/
def slotTellsWrong : ChangeSpec := { name := "slotTells", fn := fun _ => fun
  | [d1, d2, d3] => { results := [.lit (.bool false)], args := [d1, d2, d3] }
  | _ => none }
def SlotTellsWrongFalsely : Prop := slotTellsRow.holds Try.pinned (OpenSpec.ofChange slotTellsWrong)

/-- 'linchpinlaw17.SlotNeeds': WHATEVER THE INPUT: true; the input reads as it did. -/
def slotNeedsSpec : ChangeSpec := { name := "slotNeeds", fn := fun _ => fun
  | [d] => { results := [.lit (.bool true)], args := [d] }
  | _ => none }
def slotNeedsRow : OpenClaim := { program := "ytdmomdaeiaeolaa", sum := "701052dc3c256a4bbb8d06eb401f22fedaa28c336a5fb33b6541911aeb066189", func := "linchpin/linchpinlaw17.SlotNeeds", spec := "slotNeeds", plainKeys := false, apart := false }
def SlotNeedsSaid : Prop := slotNeedsRow.holds Try.pinned (OpenSpec.ofChange slotNeedsSpec)

/-- ITS FALSE NEIGHBOUR: 'it returns false'. Refute it at one input. -/
def slotNeedsWrong : ChangeSpec := { name := "slotNeeds", fn := fun _ => fun
  | [d] => { results := [.lit (.bool false)], args := [d] }
  | _ => none }
def SlotNeedsWrongFalsely : Prop := slotNeedsRow.holds Try.pinned (OpenSpec.ofChange slotNeedsWrong)

/-- 'linchpinlaw17.SlotKeeps': WHATEVER THE INPUT: true; the input reads as it did. -/
def slotKeepsSpec : ChangeSpec := { name := "slotKeeps", fn := fun _ => fun
  | [d1, d2, d3] => { results := [.lit (.bool true)], args := [d1, d2, d3] }
  | _ => none }
def slotKeepsRow : OpenClaim := { program := "ytdmomdaeiaeolaa", sum := "701052dc3c256a4bbb8d06eb401f22fedaa28c336a5fb33b6541911aeb066189", func := "linchpin/linchpinlaw17.SlotKeeps", spec := "slotKeeps", plainKeys := false, apart := false }
def SlotKeepsSaid : Prop := slotKeepsRow.holds Try.pinned (OpenSpec.ofChange slotKeepsSpec)

/-- ITS FALSE NEIGHBOUR: 'it returns false'. Refute it at one input. -/
def slotKeepsWrong : ChangeSpec := { name := "slotKeeps", fn := fun _ => fun
  | [d1, d2, d3] => { results := [.lit (.bool false)], args := [d1, d2, d3] }
  | _ => none }
def SlotKeepsWrongFalsely : Prop := slotKeepsRow.holds Try.pinned (OpenSpec.ofChange slotKeepsWrong)

/-- 'linchpinlaw17.SlotAgain': WHATEVER THE INPUT: true; the input reads as it did. -/
def slotAgainSpec : ChangeSpec := { name := "slotAgain", fn := fun _ => fun
  | [d1, d2] => { results := [.lit (.bool true)], args := [d1, d2] }
  | _ => none }
def slotAgainRow : OpenClaim := { program := "ytdmomdaeiaeolaa", sum := "701052dc3c256a4bbb8d06eb401f22fedaa28c336a5fb33b6541911aeb066189", func := "linchpin/linchpinlaw17.SlotAgain", spec := "slotAgain", plainKeys := false, apart := false }
def SlotAgainSaid : Prop := slotAgainRow.holds Try.pinned (OpenSpec.ofChange slotAgainSpec)

/-- ITS FALSE NEIGHBOUR: 'it returns false'. Refute it at one input. -/
def slotAgainWrong : ChangeSpec := { name := "slotAgain", fn := fun _ => fun
  | [d1, d2] => { results := [.lit (.bool false)], args := [d1, d2] }
  | _ => none }
def SlotAgainWrongFalsely : Prop := slotAgainRow.holds Try.pinned (OpenSpec.ofChange slotAgainWrong)

/-- 'linchpinlaw17.SlotRefs': WHATEVER THE INPUT: true; the input reads as it did. -/
def slotRefsSpec : ChangeSpec := { name := "slotRefs", fn := fun _ => fun
  | [d1, d2, d3] => { results := [.lit (.bool true)], args := [d1, d2, d3] }
  | _ => none }
def slotRefsRow : OpenClaim := { program := "ytdmomdaeiaeolaa", sum := "701052dc3c256a4bbb8d06eb401f22fedaa28c336a5fb33b6541911aeb066189", func := "linchpin/linchpinlaw17.SlotRefs", spec := "slotRefs", plainKeys := false, apart := false }
def SlotRefsSaid : Prop := slotRefsRow.holds Try.pinned (OpenSpec.ofChange slotRefsSpec)

/-- ITS FALSE NEIGHBOUR: 'it returns false'. Refute it at one input. -/
def slotRefsWrong : ChangeSpec := { name := "slotRefs", fn := fun _ => fun
  | [d1, d2, d3] => { results := [.lit (.bool false)], args := [d1, d2, d3] }
  | _ => none }
def SlotRefsWrongFalsely : Prop := slotRefsRow.holds Try.pinned (OpenSpec.ofChange slotRefsWrong)

/- THE SECOND FORM. 'bulk': how many values and letters a reading holds, each counted each time it is reached (what is shared counts as often as it is met; a slice's spare places count too). A statement '..UptoSaid' is the law's where the arguments, and the package variables that the reading takes, are together of bulk at most 1048576: NARROWER than '..Said'. Prove '..Said' where nothing that the law and all that it calls make is longer than what came in: it says more and counts as full. Else prove '..UptoSaid'. A law counts once. -/
mutual
def uptoBulk {H : Type} : DataW H → Nat
  | .lit (.string bytes) => bytes.length + 1
  | .lit _ => 1
  | .nil => 1
  | .ptr d => uptoBulk d + 1
  | .slice elems spare => uptoBulkAll elems + uptoBulkAll spare + 1
  | .agg parts => uptoBulkAll parts + 1
  | .iface _ d => uptoBulk d + 1
  | .map entries => uptoBulkEntries entries + 1
  | .held _ => 1
def uptoBulkAll {H : Type} : List (DataW H) → Nat
  | [] => 0
  | d :: r => uptoBulk d + uptoBulkAll r
def uptoBulkEntries {H : Type} : List (Lit × DataW H) → Nat
  | [] => 0
  | x :: r => uptoBulkEntry x + uptoBulkEntries r
def uptoBulkEntry {H : Type} : Lit × DataW H → Nat
  | (.string bytes, d) => bytes.length + uptoBulk d + 1
  | (_, d) => uptoBulk d + 1
 end
def uptoSmall : (H : Type) → List (DataW H) → Bool := fun _ ds => decide (uptoBulkAll ds ≤ 1048576)
def OpenSpec.upto (s : _root_.Go.ChangeSpec) : _root_.Go.OpenSpec := { _root_.Go.OpenSpec.ofChange s with cond := some uptoSmall }

/-- 'linchpinlaw17.SlotTells', WHERE WHAT IT READS IS OF BULK AT MOST 1048576: true; the input reads as it did. -/
def slotTellsUptoRow : OpenClaim := { program := "ytdmomdaeiaeolaa", sum := "701052dc3c256a4bbb8d06eb401f22fedaa28c336a5fb33b6541911aeb066189", func := "linchpin/linchpinlaw17.SlotTells", spec := "slotTells", plainKeys := false, apart := false, narrowed := true }
def SlotTellsUptoSaid : Prop := slotTellsUptoRow.holds Try.pinned (OpenSpec.upto slotTellsSpec)

/-- 'linchpinlaw17.SlotNeeds', WHERE WHAT IT READS IS OF BULK AT MOST 1048576: true; the input reads as it did. -/
def slotNeedsUptoRow : OpenClaim := { program := "ytdmomdaeiaeolaa", sum := "701052dc3c256a4bbb8d06eb401f22fedaa28c336a5fb33b6541911aeb066189", func := "linchpin/linchpinlaw17.SlotNeeds", spec := "slotNeeds", plainKeys := false, apart := false, narrowed := true }
def SlotNeedsUptoSaid : Prop := slotNeedsUptoRow.holds Try.pinned (OpenSpec.upto slotNeedsSpec)

/-- 'linchpinlaw17.SlotKeeps', WHERE WHAT IT READS IS OF BULK AT MOST 1048576: true; the input reads as it did. -/
def slotKeepsUptoRow : OpenClaim := { program := "ytdmomdaeiaeolaa", sum := "701052dc3c256a4bbb8d06eb401f22fedaa28c336a5fb33b6541911aeb066189", func := "linchpin/linchpinlaw17.SlotKeeps", spec := "slotKeeps", plainKeys := false, apart := false, narrowed := true }
def SlotKeepsUptoSaid : Prop := slotKeepsUptoRow.holds Try.pinned (OpenSpec.upto slotKeepsSpec)

/-- 'linchpinlaw17.SlotAgain', WHERE WHAT IT READS IS OF BULK AT MOST 1048576: true; the input reads as it did. -/
def slotAgainUptoRow : OpenClaim := { program := "ytdmomdaeiaeolaa", sum := "701052dc3c256a4bbb8d06eb401f22fedaa28c336a5fb33b6541911aeb066189", func := "linchpin/linchpinlaw17.SlotAgain", spec := "slotAgain", plainKeys := false, apart := false, narrowed := true }
def SlotAgainUptoSaid : Prop := slotAgainUptoRow.holds Try.pinned (OpenSpec.upto slotAgainSpec)

/-- 'linchpinlaw17.SlotRefs', WHERE WHAT IT READS IS OF BULK AT MOST 1048576: true; the input reads as it did. -/
def slotRefsUptoRow : OpenClaim := { program := "ytdmomdaeiaeolaa", sum := "701052dc3c256a4bbb8d06eb401f22fedaa28c336a5fb33b6541911aeb066189", func := "linchpin/linchpinlaw17.SlotRefs", spec := "slotRefs", plainKeys := false, apart := false, narrowed := true }
def SlotRefsUptoSaid : Prop := slotRefsUptoRow.holds Try.pinned (OpenSpec.upto slotRefsSpec)

end Rows
end Go.Proofs.Ytdmomdaeiaeolaa
