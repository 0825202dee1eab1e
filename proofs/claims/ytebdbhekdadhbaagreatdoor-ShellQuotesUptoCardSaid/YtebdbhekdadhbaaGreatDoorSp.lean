/- ShellQuotes: what its row says of the program, fact by fact. No conditions. -/
import Derived.Test.YtebdbhekdadhbaaGreatDoorSl
namespace Go.Proofs.YtebdbhekdadhbaaGreatDoor
open Go Go.W Go.Proofs Go.ChangeShapes Go.WideShapes Go.ChangeAt Go.RowKit
set_option maxRecDepth 100000
theorem quotes_ip : (Rows.shellQuotesUptoRow.inPlace == Tryz.prog.inPlace 4) = true := by kernel_rfl
theorem quotes_uf : (Rows.shellQuotesUptoRow.unfollowed == Tryz.prog.unfollowed 4) = true := by kernel_rfl
theorem quotes_rc : (Rows.shellQuotesUptoRow.recurses == Tryz.prog.recurses 4) = true := by kernel_rfl
theorem quotes_vn : (Rows.shellQuotesUptoRow.named == Tryz.prog.varsNamed 4) = true := by kernel_rfl
theorem quotes_facts : joinedFacts Tryz.prog 4 Tryz.f4 (Rows.OpenSpec.upto Rows.shellQuotesSpec).bare Rows.shellQuotesUptoRow = true := by
  unfold joinedFacts
  rw [quotes_ip, quotes_uf, quotes_rc, quotes_vn]
  kernel_rfl
end Go.Proofs.YtebdbhekdadhbaaGreatDoor
