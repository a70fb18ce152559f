/-
  DERIVED. GIVEN WITH THE SEED: THE PROGRAM's TIES (one call each: nine closed facts by the kernel) AND EACH ROW's TIE, after the 31st guide's Derived/Test/Toyas{Tie, Card}.lean. No idea stands in it: it is a product of the set-up. Laid BY PROGRAM, IN A SANDBOX (cutbox-door.mjs). By AI agents, Wed Nov 11 2026. No macro, syntax, notation, axiom, sorry.
-/
import Derived.Test.YtelnnlfbfbbnaaaDoorRows
import Derived.LaidByTextLater
import Derived.SevenTiedAt
import Derived.LaidSub
import Derived.LaidOnce
namespace Go.Proofs.YtelnnlfbfbbnaaaDoor
open Go
set_option maxRecDepth 100000
theorem seatTie1 : Tryd.prog.laidByTextLater [("almoner/api.ErrNumber", Rows.laid_almoner_api_ErrNumber), ("almoner/api.ErrOver", Rows.laid_almoner_api_ErrOver), ("almoner/api.ErrBytes", Rows.laid_almoner_api_ErrBytes), ("almoner/api.ErrSum", Rows.laid_almoner_api_ErrSum), ("almoner/api.ErrGone", Rows.laid_almoner_api_ErrGone), ("almoner/api.ErrThere", Rows.laid_almoner_api_ErrThere), ("almoner/api.ErrFull", Rows.laid_almoner_api_ErrFull), ("almoner/api.ErrLarge", Rows.laid_almoner_api_ErrLarge), ("almoner/api.ErrLost", Rows.laid_almoner_api_ErrLost), ("almoner/api.ErrServer", Rows.laid_almoner_api_ErrServer), ("almoner/api.ErrTask", Rows.laid_almoner_api_ErrTask), ("almoner/api.ErrTight", Rows.laid_almoner_api_ErrTight), ("almoner/api.ErrDeep", Rows.laid_almoner_api_ErrDeep), ("almoner/api.ErrBusy", Rows.laid_almoner_api_ErrBusy), ("almoner/api.ErrBallot", Rows.laid_almoner_api_ErrBallot), ("almoner/api.ErrState", Rows.laid_almoner_api_ErrState)] [.sentinel, .sentinel, .sentinel, .sentinel, .sentinel, .sentinel, .sentinel, .sentinel, .sentinel, .sentinel, .sentinel, .sentinel, .sentinel, .sentinel, .sentinel, .sentinel] true :=
  Program.laidByTextLater_by_one 313 8 2 (by kernel_rfl) (by kernel_rfl) (by kernel_rfl) (by kernel_rfl) (by kernel_rfl) (by kernel_rfl) (fun _ _ => by kernel_rfl)
theorem noOwnUnsafe : Tryd.pinned.checked.prog.headLifts.contains "ownunsafe" = false := by kernel_rfl
theorem tie : Tryd.prog.laidByTextLater [("almoner/api.ErrNumber", Rows.laid_almoner_api_ErrNumber)] [.sentinel] true :=
  Program.laidByTextLater.sub seatTie1 ["almoner/api.ErrNumber"] (by kernel_rfl) (by kernel_rfl)
theorem wireNumbers_row_tie : Rows.wireNumbersRow.laidByTextAt .later Tryd.pinned [.sentinel] true :=
  OpenClaim.laidByTextAt_later rfl rfl tie noOwnUnsafe
theorem wireWrites_row_tie : Rows.wireWritesRow.laidByTextAt .later Tryd.pinned [.sentinel] true :=
  OpenClaim.laidByTextAt_later rfl rfl tie noOwnUnsafe
theorem wireSpoilt_row_tie : Rows.wireSpoiltRow.laidByTextAt .later Tryd.pinned [.sentinel] true :=
  OpenClaim.laidByTextAt_later rfl rfl tie noOwnUnsafe
theorem tie2 : Tryd.prog.laidByTextLater [("almoner/api.ErrNumber", Rows.laid_almoner_api_ErrNumber), ("almoner/api.ErrOver", Rows.laid_almoner_api_ErrOver), ("almoner/api.ErrBytes", Rows.laid_almoner_api_ErrBytes), ("almoner/api.ErrSum", Rows.laid_almoner_api_ErrSum), ("almoner/api.ErrGone", Rows.laid_almoner_api_ErrGone), ("almoner/api.ErrThere", Rows.laid_almoner_api_ErrThere), ("almoner/api.ErrFull", Rows.laid_almoner_api_ErrFull), ("almoner/api.ErrLarge", Rows.laid_almoner_api_ErrLarge), ("almoner/api.ErrLost", Rows.laid_almoner_api_ErrLost), ("almoner/api.ErrServer", Rows.laid_almoner_api_ErrServer), ("almoner/api.ErrTask", Rows.laid_almoner_api_ErrTask), ("almoner/api.ErrTight", Rows.laid_almoner_api_ErrTight), ("almoner/api.ErrDeep", Rows.laid_almoner_api_ErrDeep), ("almoner/api.ErrBusy", Rows.laid_almoner_api_ErrBusy), ("almoner/api.ErrBallot", Rows.laid_almoner_api_ErrBallot), ("almoner/api.ErrState", Rows.laid_almoner_api_ErrState)] [.sentinel, .sentinel, .sentinel, .sentinel, .sentinel, .sentinel, .sentinel, .sentinel, .sentinel, .sentinel, .sentinel, .sentinel, .sentinel, .sentinel, .sentinel, .sentinel] true :=
  Program.laidByTextLater.sub seatTie1 ["almoner/api.ErrNumber", "almoner/api.ErrOver", "almoner/api.ErrBytes", "almoner/api.ErrSum", "almoner/api.ErrGone", "almoner/api.ErrThere", "almoner/api.ErrFull", "almoner/api.ErrLarge", "almoner/api.ErrLost", "almoner/api.ErrServer", "almoner/api.ErrTask", "almoner/api.ErrTight", "almoner/api.ErrDeep", "almoner/api.ErrBusy", "almoner/api.ErrBallot", "almoner/api.ErrState"] (by kernel_rfl) (by kernel_rfl)
theorem wireReads_row_tie : Rows.wireReadsRow.laidByTextAt .later Tryd.pinned [.sentinel, .sentinel, .sentinel, .sentinel, .sentinel, .sentinel, .sentinel, .sentinel, .sentinel, .sentinel, .sentinel, .sentinel, .sentinel, .sentinel, .sentinel, .sentinel] true :=
  OpenClaim.laidByTextAt_later rfl rfl tie2 noOwnUnsafe
theorem wireSums_row_tie : Rows.wireSumsRow.laidByTextAt .later Tryd.pinned [.sentinel, .sentinel, .sentinel, .sentinel, .sentinel, .sentinel, .sentinel, .sentinel, .sentinel, .sentinel, .sentinel, .sentinel, .sentinel, .sentinel, .sentinel, .sentinel] true :=
  OpenClaim.laidByTextAt_later rfl rfl tie2 noOwnUnsafe
theorem tie3 : Tryd.prog.laidByTextLater [("almoner/api.ErrNumber", Rows.laid_almoner_api_ErrNumber), ("almoner/api.ErrBytes", Rows.laid_almoner_api_ErrBytes)] [.sentinel, .sentinel] true :=
  Program.laidByTextLater.sub seatTie1 ["almoner/api.ErrNumber", "almoner/api.ErrBytes"] (by kernel_rfl) (by kernel_rfl)
theorem wireBack_row_tie : Rows.wireBackRow.laidByTextAt .later Tryd.pinned [.sentinel, .sentinel] true :=
  OpenClaim.laidByTextAt_later rfl rfl tie3 noOwnUnsafe
theorem tie4 : Tryd.prog.laidByTextLater [("almoner/api.ErrNumber", Rows.laid_almoner_api_ErrNumber), ("almoner/api.ErrBytes", Rows.laid_almoner_api_ErrBytes), ("almoner/api.ErrSum", Rows.laid_almoner_api_ErrSum)] [.sentinel, .sentinel, .sentinel] true :=
  Program.laidByTextLater.sub seatTie1 ["almoner/api.ErrNumber", "almoner/api.ErrBytes", "almoner/api.ErrSum"] (by kernel_rfl) (by kernel_rfl)
theorem wireSlips_row_tie : Rows.wireSlipsRow.laidByTextAt .later Tryd.pinned [.sentinel, .sentinel, .sentinel] true :=
  OpenClaim.laidByTextAt_later rfl rfl tie4 noOwnUnsafe
theorem wireNumbersUpto_row_tie : Rows.wireNumbersUptoRow.laidByTextAt .later Tryd.pinned [.sentinel] true :=
  OpenClaim.laidByTextAt_later rfl rfl tie noOwnUnsafe
theorem wireWritesUpto_row_tie : Rows.wireWritesUptoRow.laidByTextAt .later Tryd.pinned [.sentinel] true :=
  OpenClaim.laidByTextAt_later rfl rfl tie noOwnUnsafe
theorem wireSpoiltUpto_row_tie : Rows.wireSpoiltUptoRow.laidByTextAt .later Tryd.pinned [.sentinel] true :=
  OpenClaim.laidByTextAt_later rfl rfl tie noOwnUnsafe
theorem wireReadsUpto_row_tie : Rows.wireReadsUptoRow.laidByTextAt .later Tryd.pinned [.sentinel, .sentinel, .sentinel, .sentinel, .sentinel, .sentinel, .sentinel, .sentinel, .sentinel, .sentinel, .sentinel, .sentinel, .sentinel, .sentinel, .sentinel, .sentinel] true :=
  OpenClaim.laidByTextAt_later rfl rfl tie2 noOwnUnsafe
theorem wireBackUpto_row_tie : Rows.wireBackUptoRow.laidByTextAt .later Tryd.pinned [.sentinel, .sentinel] true :=
  OpenClaim.laidByTextAt_later rfl rfl tie3 noOwnUnsafe
theorem wireSumsUpto_row_tie : Rows.wireSumsUptoRow.laidByTextAt .later Tryd.pinned [.sentinel, .sentinel, .sentinel, .sentinel, .sentinel, .sentinel, .sentinel, .sentinel, .sentinel, .sentinel, .sentinel, .sentinel, .sentinel, .sentinel, .sentinel, .sentinel] true :=
  OpenClaim.laidByTextAt_later rfl rfl tie2 noOwnUnsafe
theorem wireSlipsUpto_row_tie : Rows.wireSlipsUptoRow.laidByTextAt .later Tryd.pinned [.sentinel, .sentinel, .sentinel] true :=
  OpenClaim.laidByTextAt_later rfl rfl tie4 noOwnUnsafe
end Go.Proofs.YtelnnlfbfbbnaaaDoor
