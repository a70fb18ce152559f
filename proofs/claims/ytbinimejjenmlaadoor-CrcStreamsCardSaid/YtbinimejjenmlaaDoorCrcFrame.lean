/-
  Package crc: Frame, walked.
-/
import Derived.Test.YtbinimejjenmlaaDoorCrcPut
import Derived.Test.YtbinimejjenmlaaDoorErr
import Derived.Test.YtbinimejjenmlaaDoorNum
namespace Go.Proofs.YtbinimejjenmlaaDoor
open Go.RowKit
set_option linter.unusedVariables false
/-- The frame of a row of bytes. -/
def frm (l : List Nat) : List Nat := (wb l.length ++ l) ++ wb (Crc.sum (wb l.length ++ l))
theorem frm_len (l : List Nat) : (frm l).length = l.length + 8 := by simp [frm, wb_len]; omega
theorem Own.fr_ext {a w w' : World} {base n c : Nat} {e : TypeId} {size : Nat} {A : Option Addr} {xs : List Value} (h : Own w base e size A n c xs) (hx : Ext a w) (hb : a.heap.size ≤ base) (hf : Fr w w' (fun b => A.map (·.block) = some b)) : Ext a w' :=
  Fr.ext hx hf (fun i hi => Nat.le_trans hb (h.base_le i hi))
set_option maxHeartbeats 3200000 in
theorem frame_ok (A : Option Addr) (n c : Nat) (l : List Nat) (w : World) (hr : Rd w 1 A n (u8s l)) (hl : ∀ x ∈ l, x < 256) (hn : n ≤ 32768) :
    Calls Tryd.prog 9 #[.slice A n c] w fun e w' => ∃ A' c', e = .returned (.tuple #[.slice A' (n + 8) c', .nilIface]) ∧ Own w' w.heap.size 5 1 A' (n + 8) c' (u8s (frm l)) ∧ Ext w w' := by
  have hlen : l.length = n := by have := hr.len; rw [u8s_len] at this; exact this
  have HR := Lib.hid hr
  have HL := Lib.hid hl
  have HN := Lib.hid hlen
  have w1 : IntKind.u32.wrap (n : Int) = (n : Int) := by rw [IntKind.wrap_u32]; omega
  clear hr hl hlen
  go_enter Tryd.func9, Tryd.ntmps9
  go_wp2_with fail
  refine (put_any n (by omega) w (base := w.heap.size) (A := none) (n := 0) (c := 0) (bs := []) Own.nil_ (by omega) (Nat.le_refl _)).mono ?_
  rintro e u1 ⟨A1, c1, rfl, o1, f1, hA1⟩
  have hx1 : Ext w u1 := Fr.ext (Ext.refl w) f1 (fun i hi => by cases hi)
  rw [List.nil_append] at o1
  have hs1 := hx1.size
  go_wp2_with (at_builtin; refine held ?_)
  refine Held.go (wp_app (m := n) (news := u8s l) eltU8 o1 (HR.out.ext hx1) (u8s_one _) (by omega) (.inr ⟨by omega, by omega⟩) (by omega) _ _ rfl rfl rfl rfl ?_)
  intro A2 c2 u2 o2 g2 hA2 _
  rw [← u8s_append] at o2
  have hx2 := o1.fr_ext hx1 (Nat.le_refl _) (Fr.grows g2)
  have hs2 := hx2.size
  have hall : ∀ x ∈ wb n ++ l, x < 256 := fun x hx => by
    rcases List.mem_append.1 hx with h | h
    · exact wb_lt (by omega) x h
    · exact HL.out x h
  have SU := Lib.hid (sum_any A2 (0 + 4 + n) c2 (wb n ++ l) u2 (by omega) o2.rd hall)
  have hsl := Crc.sum_lt (wb n ++ l) hall
  have PU := Lib.hid (put_any (Crc.sum (wb n ++ l)) hsl u2 (c := c2) o2 (by omega) hs2)
  have HO := Lib.hid o2
  have HX := Lib.hid hx2
  clear o1 f1 hA1 hx1 hs1 g2 hA2 hall hsl o2 hx2
  go_wp2_with fail
  refine SU.out.mono ?_
  rintro e u3 ⟨rfl, rfl⟩
  go_wp2_with fail
  refine PU.out.mono ?_
  rintro e u4 ⟨A4, c4, rfl, o4, f4, hA4⟩
  have hx4 := HO.out.fr_ext HX.out (Nat.le_refl _) f4
  go_wp2_with fail
  go_returns
  refine ⟨A4, c4, ?_, ?_, hx4⟩
  · show Ending.returned (.tuple #[.slice A4 (0 + 4 + n + 4) c4, .nilIface]) = _
    rw [show 0 + 4 + n + 4 = n + 8 by omega]
  · have e : 0 + 4 + n + 4 = n + 8 := by omega
    rw [e] at o4
    unfold frm
    rw [HN.out]
    exact o4
set_option maxHeartbeats 1600000 in
theorem frame_no (A : Option Addr) (n c : Nat) (w : World) {p : Addr} (hS : Sen w 0 p) (hn : 32768 < n) :
    Calls Tryd.prog 9 #[.slice A n c] w fun e w' => e = .returned (.tuple #[.slice none 0 0, .iface 53 (.pointer (some p))]) ∧ Ext w w' := by
  have cS := hS.2.1
  clear hS
  go_enter Tryd.func9, Tryd.ntmps9
  go_wp2_with fail
  go_quiet (fail)
  go_wp2_with fail
  go_returns
  exact ⟨rfl, (Ext.refl w).drewN _⟩
end Go.Proofs.YtbinimejjenmlaaDoor
