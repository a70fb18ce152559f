/-
  play, walked: any call.
-/
import Derived.Test.YteaainepnelehaaDoorNpBytes
import Derived.Test.YteaainepnelehaaDoorNpSend
import Derived.Test.YteaainepnelehaaDoorNpDlv
import Derived.Test.YteaainepnelehaaDoorNpRest
import Derived.BigRegion
namespace Go.Proofs.YteaainepnelehaaDoor
set_option maxRecDepth 100000
open Go.RowKit
set_option linter.unusedVariables false
section
variable {W w : World} {g q last : Nat} {U : Nat → Prop} {ls : List LetV}
set_option maxHeartbeats 6400000 in
theorem play_any (E : Nat → Addr) (h : Pair w g q U ls last) (hlast : last < 4611686018427387904) (hW : Ext W w) (hU : ∀ b, U b → W.heap.size ≤ b) (hE : Errs W E) (Q F T N : Int) (B : Option Addr) (k d : Nat) (l : List Nat) (hr : Rd w 1 B k (u8s l)) (hb : ∀ y ∈ l, y < 256) (hk : k ≤ 140737488351232) (hB : 0 < k → ∀ b, B = some b → ¬ U b.block) (K : Int)
    {Post : Ending → World → Prop} (hPost : Hid (∀ w', PNxt w w' g q U (last + 1) → Post (.returned (.bool true)) w')) :
    Calls Tryd.prog 6 #[.pointer (some ⟨g, 0, none⟩), .pointer (some ⟨q, 0, none⟩), .agg #[.int .i64 K, .int .i64 Q, .int .i64 F, .int .i64 T, .int .i64 N, .slice B k d]] w Post := by
  by_cases h1 : K = 1
  · subst h1; exact play_send E h hlast hW hU hE Q F T N B k d l hr hb hk hB hPost
  by_cases h2 : K = 2
  · subst h2
    rcases find_case ls N with ⟨i, x, hi, hy⟩ | hy
    · exact play_dlv E h hlast hW hU hE Q F T N B k d l hr hb hk hB hi hy hPost
    · exact play_dlv_gone E h hlast hW hU hE Q F T N B k d l hr hb hk hB hy hPost
  by_cases h3 : K = 3
  · subst h3
    rcases find_case ls N with ⟨i, x, hi, hy⟩ | hy
    · exact play_drop E h hlast hW hU hE Q F T N B k d l hr hb hk hB hi hy hPost
    · exact play_drop_gone E h hlast hW hU hE Q F T N B k d l hr hb hk hB hy hPost
  by_cases h4 : K = 4
  · subst h4; exact play_copy E h hlast hW hU hE Q F T N B k d l hr hb hk hB hPost
  by_cases h5 : K = 5
  · subst h5
    rcases Nat.eq_zero_or_pos ls.length with h0 | h0
    · exact play_nth0 E h hlast hW hU hE Q F T N B k d l hr hb hk hB (List.eq_nil_of_length_eq_zero h0) hPost
    · exact play_nth E h hlast hW hU hE Q F T N B k d l hr hb hk hB h0 hPost
  by_cases h6 : K = 6
  · subst h6; exact play_lose E h hlast hW hU hE Q F T N B k d l hr hb hk hB hPost
  exact play_else E h hlast hW hU hE Q F T N B k d l hr hb hk hB K h1 h2 h3 h4 h5 h6 hPost
end
end Go.Proofs.YteaainepnelehaaDoor
