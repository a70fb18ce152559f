/-
  The statement CrcReads, walked.
-/
import Derived.Test.YtbinimejjenmlaaDoorCrcSplit
namespace Go.Proofs.YtbinimejjenmlaaDoor
open Go.RowKit
set_option linter.unusedVariables false
theorem rc_e (r : RC) : r.e ≤ 16 := by cases r <;> simp [RC.e]
set_option maxRecDepth 8000 in
set_option maxHeartbeats 3200000 in
theorem reads_any (A : Option Addr) (n c : Nat) (l : List Nat) (w : World) (hn : n ≤ 2000000) (hnc : n ≤ c) (hr : Rd w 1 A n (u8s l)) (hl : ∀ x ∈ l, x < 256) (E : Nat → Addr) (hE : Errs w E) :
    Calls Tryd.prog 5 #[.slice A n c] w fun e w' => e = .returned (.bool true) ∧ Ext w w' := by
  have hlen : l.length = n := by have := hr.len; rwa [u8s_len] at this
  have hpl := splP_len l
  have HP := Lib.hid (show (splP l).length ≤ 9223372036854775807 by omega)
  have HR := Lib.hid hr
  have HL := Lib.hid hl
  have HE := Lib.hid hE
  have S8 := Lib.hid (fun (w' : World) (hx : Ext w w') => (hE.ext hx).sen 0 (by decide))
  have S4 := Lib.hid (fun (w' : World) (hx : Ext w w') => (hE.ext hx).sen 4 (by decide))
  clear hr hl hE hpl hlen
  go_enter Tryd.func5, Tryd.ntmps5
  go_wp2_with fail
  refine (alive_any _).mono ?_
  rintro e u0 ⟨rfl, e0⟩
  go_wp2_with fail
  refine (bytes_any A n c l u0 (by omega) (HR.out.ext e0)).mono ?_
  rintro e u1 ⟨rfl, rb, e1⟩
  have x1 := e0.trans e1
  have HB := Lib.hid rb
  clear rb
  go_wp2_with fail
  refine (read_any0 _ n (n + 6) l u1 HB.out.unmark HL.out (by omega) (by omega) E (S8.out _ x1) (S4.out _ x1)).mono ?_
  rintro e u2 ⟨A2, c2, rfl, o2, e2⟩
  have x2 := x1.trans e2
  go_wp2_with fail
  refine (rread_any0 A n c l u2 (HR.out.ext x2) HL.out (by omega) hnc).mono ?_
  rintro e u3 ⟨A3, c3, rfl, o3, e3⟩
  have x3 := x2.trans e3
  go_wp2_with fail
  refine (split_any _ n (n + 6) l u3 (HB.out.unmark.ext (e2.trans e3)) HL.out (by omega) (by omega) E (S8.out _ x3) (S4.out _ x3)).mono ?_
  rintro e u4 ⟨A4, c4, v4, rfl, l4, e4⟩
  have x4 := x3.trans e4
  go_wp2_with fail
  refine (rsplit_any A n c l u4 (HR.out.ext x4) HL.out (by omega) hnc).mono ?_
  rintro e u5 ⟨A5, c5, v5, rfl, l5, e5⟩
  have x5 := x4.trans e5
  have y5 := e2.trans (e3.trans (e4.trans e5))
  have s1 := run_str (P := Tryd.prog) (w := u5) (s := 9) Tryd.underlying22 Tryd.underlying5 Tryd.underlying9 c2 (o2.ext (e3.trans (e4.trans e5))).rd
  have s2 := run_str (P := Tryd.prog) (w := u5) (s := 9) Tryd.underlying22 Tryd.underlying5 Tryd.underlying9 c3 (o3.ext (e4.trans e5)).rd
  have HI := Lib.hid (And.intro x5 (And.intro y5 (And.intro l4 (And.intro l5 e5))))
  clear x1 x2 x3 x4 x5 y5 e0 e1 e2 e3 e4 e5 o2 o3 l4 l5
  generalize str (rc l).p = sa at *
  go_wp2_with fail
  refine (num_errV E (rc l).e u5 (HE.out.ext HI.out.1) (rc_e _)).mono ?_
  rintro e u6 ⟨rfl, e6⟩
  clear s1 s2
  go_wp2_with fail
  refine (same_lists A4 A5 _ c4 c5 v4 v5 A4 A5 (splP l) u6 ((HI.out.2.2.1.own.ext (HI.out.2.2.2.2.trans e6)).rd) ((HI.out.2.2.2.1.own.ext e6).rd) (HI.out.2.2.1.at_.ext (HI.out.2.2.2.2.trans e6)) (HI.out.2.2.2.1.at_.ext e6) HP.out).mono ?_
  rintro e u7 ⟨rfl, e7⟩
  go_wp2_with fail
  refine (num_errV E (splE l) u7 (HE.out.ext (HI.out.1.trans (e6.trans e7))) (rc_e _)).mono ?_
  rintro e u8 ⟨rfl, e8⟩
  have z8 := e6.trans (e7.trans e8)
  go_wp2_with fail
  refine (kept_any _ n c A l u8 (by omega) (HB.out.ext (HI.out.2.1.trans z8)) (HR.out.ext (HI.out.1.trans z8))).mono ?_
  rintro e u9 ⟨rfl, k, rfl⟩
  go_wp2_with fail
  go_returns
  exact ⟨rfl, (HI.out.1.trans z8).drewN k⟩
end Go.Proofs.YtbinimejjenmlaaDoor
