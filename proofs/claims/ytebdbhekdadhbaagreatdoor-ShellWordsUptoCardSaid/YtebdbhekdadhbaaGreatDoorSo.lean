/- ShellWords: what its row says of the program, fact by fact. No conditions. -/
import Derived.Test.YtebdbhekdadhbaaGreatDoorSl
namespace Go.Proofs.YtebdbhekdadhbaaGreatDoor
open Go Go.W Go.Proofs Go.ChangeShapes Go.WideShapes Go.ChangeAt Go.RowKit
set_option maxRecDepth 100000
theorem words_ip : (Rows.shellWordsUptoRow.inPlace == Tryz.prog.inPlace 3) = true := by kernel_rfl
theorem words_uf : (Rows.shellWordsUptoRow.unfollowed == Tryz.prog.unfollowed 3) = true := by kernel_rfl
theorem words_rc : (Rows.shellWordsUptoRow.recurses == Tryz.prog.recurses 3) = true := by kernel_rfl
theorem words_vn : (Rows.shellWordsUptoRow.named == Tryz.prog.varsNamed 3) = true := by kernel_rfl
theorem words_facts : joinedFacts Tryz.prog 3 Tryz.f3 (Rows.OpenSpec.upto Rows.shellWordsSpec).bare Rows.shellWordsUptoRow = true := by
  unfold joinedFacts
  rw [words_ip, words_uf, words_rc, words_vn]
  kernel_rfl
end Go.Proofs.YtebdbhekdadhbaaGreatDoor
