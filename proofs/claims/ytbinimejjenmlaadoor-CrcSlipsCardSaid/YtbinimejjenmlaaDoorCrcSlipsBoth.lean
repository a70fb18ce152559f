/-
  The statement CrcSlips: a frame with one bit turned is refused; a payload too large has no frame.
-/
import Derived.Test.YtbinimejjenmlaaDoorCrcSlips
namespace Go.Proofs.YtbinimejjenmlaaDoor
open Go.RowKit
theorem slips_any (A : Option Addr) (n c : Nat) (l : List Nat) (bit : Int) (w : World) (hn : n ≤ 140737488351232) (hr : Rd w 1 A n (u8s l)) (hl : ∀ x ∈ l, x < 256) (E : Nat → Addr) (hE : Errs w E) :
    Calls Tryd.prog 4 #[.slice A n c, .int .i64 bit] w fun e w' => e = .returned (.bool true) ∧ Ext w w' := by
  by_cases h : n ≤ 32768
  · exact slips_ok A n c l bit w h hr hl E hE
  · exact slips_no A n c bit w (by omega) hn (hE.sen 0 (by decide))
end Go.Proofs.YtbinimejjenmlaaDoor
