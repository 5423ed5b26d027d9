/-
  NARROWER THAN 'FOR EVERY INPUT', by the rows' own cells (each row's printed sentence says how): NoiseAnswers: loops.
  DERIVED. THE GIVEN ROWS OF THIS SEAT. 10 by the template 'for every input the law returns true; each argument reads behind the call as it read before'; 0 by the template 'total and deterministic' (their statements: YtnlpdjklbjclpaaTotals.lean).
  GIVEN WITH THE SEED: the statements are not yours to turn. If you find one false, say at which input.
  Laid BY PROGRAM, IN A SANDBOX (cutbox-rows.mjs): the forced cells as the released guide's own fill.sh prints them over the translation ae07c745bafd924d… (all of the seat's roots in one cut). By AI agents, Wed Nov 11 2026. No macro, syntax, notation, axiom, sorry.
-/
import Derived.Test.YtnlpdjklbjclpaaChecked
import GoSem.Claim
import GoSem.ClaimJoined
import GoSem.ClaimMapViews
import Derived.JoinedTies
import Derived.KernelRfl
namespace Go.Proofs.Ytnlpdjklbjclpaa
/- THE CELL 'sum', in the pinned program and in every row, IS THE sha256 OF THE DUMP (.gsa) THAT YtnlpdjklbjclpaaProg.lean LOADS. Nothing in Lean hashes anything: it is a label: what it is worth is what the hold of that sum in a sandbox is worth. -/
noncomputable def Try.pinned : Pinned := { name := "ytnlpdjklbjclpaa", sum := "ae07c745bafd924d38006a88f7cad79d25283d40a59c4ce14e0a5a389f00e5cd", checked := Try.checked }
namespace Rows
def none {H : Type} : Left H := { results := [], args := [] }

/-- 'hushlaw6.NoiseSays': WHATEVER THE INPUT: true; the input reads as it did. -/
def noiseSaysSpec : ChangeSpec := { name := "noiseSays", fn := fun _ => fun
  | [d1, d2, d3, d4] => { results := [.lit (.bool true)], args := [d1, d2, d3, d4] }
  | _ => none }
def noiseSaysRow : OpenClaim := { program := "ytnlpdjklbjclpaa", sum := "ae07c745bafd924d38006a88f7cad79d25283d40a59c4ce14e0a5a389f00e5cd", func := "hushhouse/hushlaw6.NoiseSays", spec := "noiseSays", unfollowed := true, recurses := true, apart := false }
def NoiseSaysSaid : Prop := noiseSaysRow.holds Try.pinned (OpenSpec.ofChange noiseSaysSpec)

/-- ITS FALSE NEIGHBOUR: 'it returns false'. Refute it at one input. -/
def noiseSaysWrong : ChangeSpec := { name := "noiseSays", fn := fun _ => fun
  | [d1, d2, d3, d4] => { results := [.lit (.bool false)], args := [d1, d2, d3, d4] }
  | _ => none }
def NoiseSaysWrongFalsely : Prop := noiseSaysRow.holds Try.pinned (OpenSpec.ofChange noiseSaysWrong)

/-- 'hushlaw7.ChoiceBetter': WHATEVER THE INPUT: true; the input reads as it did. -/
def choiceBetterSpec : ChangeSpec := { name := "choiceBetter", fn := fun _ => fun
  | [d1, d2] => { results := [.lit (.bool true)], args := [d1, d2] }
  | _ => none }
def choiceBetterRow : OpenClaim := { program := "ytnlpdjklbjclpaa", sum := "ae07c745bafd924d38006a88f7cad79d25283d40a59c4ce14e0a5a389f00e5cd", func := "hushhouse/hushlaw7.ChoiceBetter", spec := "choiceBetter", unfollowed := true, recurses := true, apart := false }
def ChoiceBetterSaid : Prop := choiceBetterRow.holds Try.pinned (OpenSpec.ofChange choiceBetterSpec)

/-- ITS FALSE NEIGHBOUR: 'it returns false'. Refute it at one input. -/
def choiceBetterWrong : ChangeSpec := { name := "choiceBetter", fn := fun _ => fun
  | [d1, d2] => { results := [.lit (.bool false)], args := [d1, d2] }
  | _ => none }
def ChoiceBetterWrongFalsely : Prop := choiceBetterRow.holds Try.pinned (OpenSpec.ofChange choiceBetterWrong)

/-- 'hushlaw13.CrowdKeeps': WHATEVER THE INPUT: true; the input reads as it did. -/
def crowdKeepsSpec : ChangeSpec := { name := "crowdKeeps", fn := fun _ => fun
  | [d1, d2, d3, d4, d5] => { results := [.lit (.bool true)], args := [d1, d2, d3, d4, d5] }
  | _ => none }
def crowdKeepsRow : OpenClaim := { program := "ytnlpdjklbjclpaa", sum := "ae07c745bafd924d38006a88f7cad79d25283d40a59c4ce14e0a5a389f00e5cd", func := "hushhouse/hushlaw13.CrowdKeeps", spec := "crowdKeeps", unfollowed := true, recurses := true, apart := false }
def CrowdKeepsSaid : Prop := crowdKeepsRow.holds Try.pinned (OpenSpec.ofChange crowdKeepsSpec)

/-- ITS FALSE NEIGHBOUR: 'it returns false'. Refute it at one input. -/
def crowdKeepsWrong : ChangeSpec := { name := "crowdKeeps", fn := fun _ => fun
  | [d1, d2, d3, d4, d5] => { results := [.lit (.bool false)], args := [d1, d2, d3, d4, d5] }
  | _ => none }
def CrowdKeepsWrongFalsely : Prop := crowdKeepsRow.holds Try.pinned (OpenSpec.ofChange crowdKeepsWrong)

/-- 'hushlaw7.ChoiceWeighs': WHATEVER THE INPUT: true; the input reads as it did. -/
def choiceWeighsSpec : ChangeSpec := { name := "choiceWeighs", fn := fun _ => fun
  | [d1, d2, d3, d4] => { results := [.lit (.bool true)], args := [d1, d2, d3, d4] }
  | _ => none }
def choiceWeighsRow : OpenClaim := { program := "ytnlpdjklbjclpaa", sum := "ae07c745bafd924d38006a88f7cad79d25283d40a59c4ce14e0a5a389f00e5cd", func := "hushhouse/hushlaw7.ChoiceWeighs", spec := "choiceWeighs", unfollowed := true, recurses := true, apart := false }
def ChoiceWeighsSaid : Prop := choiceWeighsRow.holds Try.pinned (OpenSpec.ofChange choiceWeighsSpec)

/-- ITS FALSE NEIGHBOUR: 'it returns false'. Refute it at one input. -/
def choiceWeighsWrong : ChangeSpec := { name := "choiceWeighs", fn := fun _ => fun
  | [d1, d2, d3, d4] => { results := [.lit (.bool false)], args := [d1, d2, d3, d4] }
  | _ => none }
def ChoiceWeighsWrongFalsely : Prop := choiceWeighsRow.holds Try.pinned (OpenSpec.ofChange choiceWeighsWrong)

/-- 'hushlaw7.ChoiceKeeps': WHATEVER THE INPUT: true; the input reads as it did. -/
def choiceKeepsSpec : ChangeSpec := { name := "choiceKeeps", fn := fun _ => fun
  | [d1, d2, d3] => { results := [.lit (.bool true)], args := [d1, d2, d3] }
  | _ => none }
def choiceKeepsRow : OpenClaim := { program := "ytnlpdjklbjclpaa", sum := "ae07c745bafd924d38006a88f7cad79d25283d40a59c4ce14e0a5a389f00e5cd", func := "hushhouse/hushlaw7.ChoiceKeeps", spec := "choiceKeeps", unfollowed := true, recurses := true, apart := false }
def ChoiceKeepsSaid : Prop := choiceKeepsRow.holds Try.pinned (OpenSpec.ofChange choiceKeepsSpec)

/-- ITS FALSE NEIGHBOUR: 'it returns false'. Refute it at one input. -/
def choiceKeepsWrong : ChangeSpec := { name := "choiceKeeps", fn := fun _ => fun
  | [d1, d2, d3] => { results := [.lit (.bool false)], args := [d1, d2, d3] }
  | _ => none }
def ChoiceKeepsWrongFalsely : Prop := choiceKeepsRow.holds Try.pinned (OpenSpec.ofChange choiceKeepsWrong)

/-- 'hushlaw9.TreePrivate': WHATEVER THE INPUT: true; the input reads as it did. -/
def treePrivateSpec : ChangeSpec := { name := "treePrivate", fn := fun _ => fun
  | [d1, d2, d3, d4, d5, d6] => { results := [.lit (.bool true)], args := [d1, d2, d3, d4, d5, d6] }
  | _ => none }
def treePrivateRow : OpenClaim := { program := "ytnlpdjklbjclpaa", sum := "ae07c745bafd924d38006a88f7cad79d25283d40a59c4ce14e0a5a389f00e5cd", func := "hushhouse/hushlaw9.TreePrivate", spec := "treePrivate", unfollowed := true, recurses := true, apart := false }
def TreePrivateSaid : Prop := treePrivateRow.holds Try.pinned (OpenSpec.ofChange treePrivateSpec)

/-- ITS FALSE NEIGHBOUR: 'it returns false'. Refute it at one input. -/
def treePrivateWrong : ChangeSpec := { name := "treePrivate", fn := fun _ => fun
  | [d1, d2, d3, d4, d5, d6] => { results := [.lit (.bool false)], args := [d1, d2, d3, d4, d5, d6] }
  | _ => none }
def TreePrivateWrongFalsely : Prop := treePrivateRow.holds Try.pinned (OpenSpec.ofChange treePrivateWrong)

/-- 'hushlaw8.PurseBooks': WHATEVER THE INPUT: true; the input reads as it did. -/
def purseBooksSpec : ChangeSpec := { name := "purseBooks", fn := fun _ => fun
  | [d] => { results := [.lit (.bool true)], args := [d] }
  | _ => none }
def purseBooksRow : OpenClaim := { program := "ytnlpdjklbjclpaa", sum := "ae07c745bafd924d38006a88f7cad79d25283d40a59c4ce14e0a5a389f00e5cd", func := "hushhouse/hushlaw8.PurseBooks", spec := "purseBooks", inPlace := ["maps.clone"], unfollowed := true, recurses := true, apart := false }
def PurseBooksSaid : Prop := purseBooksRow.holds Try.pinned (OpenSpec.ofChange purseBooksSpec)

/-- ITS FALSE NEIGHBOUR: 'it returns false'. Refute it at one input. -/
def purseBooksWrong : ChangeSpec := { name := "purseBooks", fn := fun _ => fun
  | [d] => { results := [.lit (.bool false)], args := [d] }
  | _ => none }
def PurseBooksWrongFalsely : Prop := purseBooksRow.holds Try.pinned (OpenSpec.ofChange purseBooksWrong)

/-- 'hushlaw8.PurseNever': WHATEVER THE INPUT: true; the input reads as it did. -/
def purseNeverSpec : ChangeSpec := { name := "purseNever", fn := fun _ => fun
  | [d] => { results := [.lit (.bool true)], args := [d] }
  | _ => none }
def purseNeverRow : OpenClaim := { program := "ytnlpdjklbjclpaa", sum := "ae07c745bafd924d38006a88f7cad79d25283d40a59c4ce14e0a5a389f00e5cd", func := "hushhouse/hushlaw8.PurseNever", spec := "purseNever", inPlace := ["maps.clone"], unfollowed := true, recurses := true, apart := false }
def PurseNeverSaid : Prop := purseNeverRow.holds Try.pinned (OpenSpec.ofChange purseNeverSpec)

/-- ITS FALSE NEIGHBOUR: 'it returns false'. Refute it at one input. -/
def purseNeverWrong : ChangeSpec := { name := "purseNever", fn := fun _ => fun
  | [d] => { results := [.lit (.bool false)], args := [d] }
  | _ => none }
def PurseNeverWrongFalsely : Prop := purseNeverRow.holds Try.pinned (OpenSpec.ofChange purseNeverWrong)

/-- 'hushlaw8.PurseAgain': WHATEVER THE INPUT: true; the input reads as it did. -/
def purseAgainSpec : ChangeSpec := { name := "purseAgain", fn := fun _ => fun
  | [d] => { results := [.lit (.bool true)], args := [d] }
  | _ => none }
def purseAgainRow : OpenClaim := { program := "ytnlpdjklbjclpaa", sum := "ae07c745bafd924d38006a88f7cad79d25283d40a59c4ce14e0a5a389f00e5cd", func := "hushhouse/hushlaw8.PurseAgain", spec := "purseAgain", inPlace := ["maps.clone"], unfollowed := true, recurses := true, apart := false }
def PurseAgainSaid : Prop := purseAgainRow.holds Try.pinned (OpenSpec.ofChange purseAgainSpec)

/-- ITS FALSE NEIGHBOUR: 'it returns false'. Refute it at one input. -/
def purseAgainWrong : ChangeSpec := { name := "purseAgain", fn := fun _ => fun
  | [d] => { results := [.lit (.bool false)], args := [d] }
  | _ => none }
def PurseAgainWrongFalsely : Prop := purseAgainRow.holds Try.pinned (OpenSpec.ofChange purseAgainWrong)

/-- 'hushlaw6.NoiseAnswers': WHATEVER THE INPUT: true; the input reads as it did. -/
def noiseAnswersSpec : ChangeSpec := { name := "noiseAnswers", fn := fun _ => fun
  | [d1, d2, d3, d4, d5] => { results := [.lit (.bool true)], args := [d1, d2, d3, d4, d5] }
  | _ => none }
def noiseAnswersRow : OpenClaim := { program := "ytnlpdjklbjclpaa", sum := "ae07c745bafd924d38006a88f7cad79d25283d40a59c4ce14e0a5a389f00e5cd", func := "hushhouse/hushlaw6.NoiseAnswers", spec := "noiseAnswers", unfollowed := true, recurses := true, loops := true, apart := false }
def NoiseAnswersSaid : Prop := noiseAnswersRow.holds Try.pinned (OpenSpec.ofChange noiseAnswersSpec)

/-- ITS FALSE NEIGHBOUR: 'it returns false'. Refute it at one input. -/
def noiseAnswersWrong : ChangeSpec := { name := "noiseAnswers", fn := fun _ => fun
  | [d1, d2, d3, d4, d5] => { results := [.lit (.bool false)], args := [d1, d2, d3, d4, d5] }
  | _ => none }
def NoiseAnswersWrongFalsely : Prop := noiseAnswersRow.holds Try.pinned (OpenSpec.ofChange noiseAnswersWrong)

/- THE SECOND FORM. 'bulk': how many values and letters a reading holds, each counted each time it is reached (what is shared counts as often as it is met; a slice's spare places count too). A statement '..UptoSaid' is the law's where the arguments, and the package variables that the reading takes, are together of bulk at most 1048576: NARROWER than '..Said'. Prove '..Said' where nothing that the law and all that it calls make is longer than what came in: it says more and counts as full. Else prove '..UptoSaid'. A law counts once. -/
mutual
def uptoBulk {H : Type} : DataW H → Nat
  | .lit (.string bytes) => bytes.length + 1
  | .lit _ => 1
  | .nil => 1
  | .ptr d => uptoBulk d + 1
  | .slice elems spare => uptoBulkAll elems + uptoBulkAll spare + 1
  | .agg parts => uptoBulkAll parts + 1
  | .iface _ d => uptoBulk d + 1
  | .map entries => uptoBulkEntries entries + 1
  | .held _ => 1
def uptoBulkAll {H : Type} : List (DataW H) → Nat
  | [] => 0
  | d :: r => uptoBulk d + uptoBulkAll r
def uptoBulkEntries {H : Type} : List (Lit × DataW H) → Nat
  | [] => 0
  | x :: r => uptoBulkEntry x + uptoBulkEntries r
def uptoBulkEntry {H : Type} : Lit × DataW H → Nat
  | (.string bytes, d) => bytes.length + uptoBulk d + 1
  | (_, d) => uptoBulk d + 1
 end
def uptoSmall : (H : Type) → List (DataW H) → Bool := fun _ ds => decide (uptoBulkAll ds ≤ 1048576)
def OpenSpec.upto (s : _root_.Go.ChangeSpec) : _root_.Go.OpenSpec := { _root_.Go.OpenSpec.ofChange s with cond := some uptoSmall }

/-- 'hushlaw6.NoiseSays', WHERE WHAT IT READS IS OF BULK AT MOST 1048576: true; the input reads as it did. -/
def noiseSaysUptoRow : OpenClaim := { program := "ytnlpdjklbjclpaa", sum := "ae07c745bafd924d38006a88f7cad79d25283d40a59c4ce14e0a5a389f00e5cd", func := "hushhouse/hushlaw6.NoiseSays", spec := "noiseSays", unfollowed := true, recurses := true, apart := false, narrowed := true }
def NoiseSaysUptoSaid : Prop := noiseSaysUptoRow.holds Try.pinned (OpenSpec.upto noiseSaysSpec)

/-- 'hushlaw7.ChoiceBetter', WHERE WHAT IT READS IS OF BULK AT MOST 1048576: true; the input reads as it did. -/
def choiceBetterUptoRow : OpenClaim := { program := "ytnlpdjklbjclpaa", sum := "ae07c745bafd924d38006a88f7cad79d25283d40a59c4ce14e0a5a389f00e5cd", func := "hushhouse/hushlaw7.ChoiceBetter", spec := "choiceBetter", unfollowed := true, recurses := true, apart := false, narrowed := true }
def ChoiceBetterUptoSaid : Prop := choiceBetterUptoRow.holds Try.pinned (OpenSpec.upto choiceBetterSpec)

/-- 'hushlaw13.CrowdKeeps', WHERE WHAT IT READS IS OF BULK AT MOST 1048576: true; the input reads as it did. -/
def crowdKeepsUptoRow : OpenClaim := { program := "ytnlpdjklbjclpaa", sum := "ae07c745bafd924d38006a88f7cad79d25283d40a59c4ce14e0a5a389f00e5cd", func := "hushhouse/hushlaw13.CrowdKeeps", spec := "crowdKeeps", unfollowed := true, recurses := true, apart := false, narrowed := true }
def CrowdKeepsUptoSaid : Prop := crowdKeepsUptoRow.holds Try.pinned (OpenSpec.upto crowdKeepsSpec)

/-- 'hushlaw7.ChoiceWeighs', WHERE WHAT IT READS IS OF BULK AT MOST 1048576: true; the input reads as it did. -/
def choiceWeighsUptoRow : OpenClaim := { program := "ytnlpdjklbjclpaa", sum := "ae07c745bafd924d38006a88f7cad79d25283d40a59c4ce14e0a5a389f00e5cd", func := "hushhouse/hushlaw7.ChoiceWeighs", spec := "choiceWeighs", unfollowed := true, recurses := true, apart := false, narrowed := true }
def ChoiceWeighsUptoSaid : Prop := choiceWeighsUptoRow.holds Try.pinned (OpenSpec.upto choiceWeighsSpec)

/-- 'hushlaw7.ChoiceKeeps', WHERE WHAT IT READS IS OF BULK AT MOST 1048576: true; the input reads as it did. -/
def choiceKeepsUptoRow : OpenClaim := { program := "ytnlpdjklbjclpaa", sum := "ae07c745bafd924d38006a88f7cad79d25283d40a59c4ce14e0a5a389f00e5cd", func := "hushhouse/hushlaw7.ChoiceKeeps", spec := "choiceKeeps", unfollowed := true, recurses := true, apart := false, narrowed := true }
def ChoiceKeepsUptoSaid : Prop := choiceKeepsUptoRow.holds Try.pinned (OpenSpec.upto choiceKeepsSpec)

/-- 'hushlaw9.TreePrivate', WHERE WHAT IT READS IS OF BULK AT MOST 1048576: true; the input reads as it did. -/
def treePrivateUptoRow : OpenClaim := { program := "ytnlpdjklbjclpaa", sum := "ae07c745bafd924d38006a88f7cad79d25283d40a59c4ce14e0a5a389f00e5cd", func := "hushhouse/hushlaw9.TreePrivate", spec := "treePrivate", unfollowed := true, recurses := true, apart := false, narrowed := true }
def TreePrivateUptoSaid : Prop := treePrivateUptoRow.holds Try.pinned (OpenSpec.upto treePrivateSpec)

/-- 'hushlaw8.PurseBooks', WHERE WHAT IT READS IS OF BULK AT MOST 1048576: true; the input reads as it did. -/
def purseBooksUptoRow : OpenClaim := { program := "ytnlpdjklbjclpaa", sum := "ae07c745bafd924d38006a88f7cad79d25283d40a59c4ce14e0a5a389f00e5cd", func := "hushhouse/hushlaw8.PurseBooks", spec := "purseBooks", inPlace := ["maps.clone"], unfollowed := true, recurses := true, apart := false, narrowed := true }
def PurseBooksUptoSaid : Prop := purseBooksUptoRow.holds Try.pinned (OpenSpec.upto purseBooksSpec)

/-- 'hushlaw8.PurseNever', WHERE WHAT IT READS IS OF BULK AT MOST 1048576: true; the input reads as it did. -/
def purseNeverUptoRow : OpenClaim := { program := "ytnlpdjklbjclpaa", sum := "ae07c745bafd924d38006a88f7cad79d25283d40a59c4ce14e0a5a389f00e5cd", func := "hushhouse/hushlaw8.PurseNever", spec := "purseNever", inPlace := ["maps.clone"], unfollowed := true, recurses := true, apart := false, narrowed := true }
def PurseNeverUptoSaid : Prop := purseNeverUptoRow.holds Try.pinned (OpenSpec.upto purseNeverSpec)

/-- 'hushlaw8.PurseAgain', WHERE WHAT IT READS IS OF BULK AT MOST 1048576: true; the input reads as it did. -/
def purseAgainUptoRow : OpenClaim := { program := "ytnlpdjklbjclpaa", sum := "ae07c745bafd924d38006a88f7cad79d25283d40a59c4ce14e0a5a389f00e5cd", func := "hushhouse/hushlaw8.PurseAgain", spec := "purseAgain", inPlace := ["maps.clone"], unfollowed := true, recurses := true, apart := false, narrowed := true }
def PurseAgainUptoSaid : Prop := purseAgainUptoRow.holds Try.pinned (OpenSpec.upto purseAgainSpec)

/-- 'hushlaw6.NoiseAnswers', WHERE WHAT IT READS IS OF BULK AT MOST 1048576: true; the input reads as it did. -/
def noiseAnswersUptoRow : OpenClaim := { program := "ytnlpdjklbjclpaa", sum := "ae07c745bafd924d38006a88f7cad79d25283d40a59c4ce14e0a5a389f00e5cd", func := "hushhouse/hushlaw6.NoiseAnswers", spec := "noiseAnswers", unfollowed := true, recurses := true, loops := true, apart := false, narrowed := true }
def NoiseAnswersUptoSaid : Prop := noiseAnswersUptoRow.holds Try.pinned (OpenSpec.upto noiseAnswersSpec)

end Rows
end Go.Proofs.Ytnlpdjklbjclpaa
