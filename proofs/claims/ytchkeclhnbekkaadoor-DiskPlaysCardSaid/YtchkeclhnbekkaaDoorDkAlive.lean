/-
  Package almonerlaw05: alive, walked.
-/
import Derived.Test.YtchkeclhnbekkaaDoorDkLaw
import Derived.BigRegion
namespace Go.Proofs.YtchkeclhnbekkaaDoor
set_option maxRecDepth 100000
open Go.RowKit Go.Maps
set_option linter.unusedVariables false
theorem strRun {w : World} {sb : Nat} {s : List Nat} (h : Rd w 1 (some ⟨sb, 0, none⟩) 64 (u8s s)) : (convert 32 9 (.slice (some ⟨sb, 0, none⟩) 64 64)).run Tryd.prog w = .ok (.string (str s)) w :=
  run_str Tryd.underlying32 Tryd.underlying5 Tryd.underlying9 64 h
theorem sec_one {x : Nat} (h : x < 256) : IsSec (fillL [x]) := fillL_sec (fun y hy => by simp at hy; omega)
set_option maxHeartbeats 6400000 in
theorem dalive_any {pn pl pg : Addr} (w : World) (hE : DE w pn pl pg) : Calls Tryd.prog 7 #[] w fun e w' => e = .returned (.bool true) ∧ Ext w w' := by
  have NW := Lib.hid (DL.new w (Ext.refl w) 2 (by omega) (by omega))
  have HE := Lib.hid hE
  clear hE
  go_enter Tryd.func7, Tryd.ntmps7
  go_wp2_with fail
  refine NW.out.mono ?_
  rintro e w1 ⟨rfl, d1, x1⟩
  generalize w.heap.size + 1 = g at *
  have XA1 := (Ext.refl w1).alloc (.cells #[.int .u8 5] 5)
  have FI := Lib.hid (filled_any (some ⟨w1.heap.size, 0, none⟩) 1 1 [5] (w1.alloc (.cells #[.int .u8 5] 5)) (by omega) (Rd.new w1 #[.int .u8 5] 5 (0, 0)))
  have D1 := Lib.hid d1
  have X1 := Lib.hid x1
  clear NW d1 x1
  go_wp2_with fail
  refine FI.out.mono ?_
  rintro e w2 ⟨rfl, o2, x2⟩
  have D2 := Lib.hid (D1.out.add (XA1.trans x2) (q := (w1.alloc (.cells #[.int .u8 5] 5)).heap.size) (by have := XA1.size; exact this) o2.lt)
  have WR := Lib.hid (D2.out.write_in HE.out (by omega) 1 (by omega) _ (sec_one (x := 5) (by omega)) o2.rd (.inr rfl))
  clear FI o2 x2 XA1
  generalize (w1.alloc (.cells #[.int .u8 5] 5)).heap.size = fb1 at *
  go_wp2_with fail
  refine WR.out.mono ?_
  rintro e w3 ⟨rfl, n3⟩
  have D3 := Lib.hid (n3.dl.sub (Y := fun _ => False) (fun q hq => hq.elim))
  have FL := Lib.hid (D3.out.flush (by omega))
  clear WR n3
  go_wp2_with fail
  refine FL.out.mono ?_
  rintro e w4 ⟨rfl, n4⟩
  have d4 := n4.dl
  rw [flushW_snoc, flushW_nil] at d4
  have D4 := Lib.hid d4
  have XA4 := (Ext.refl w4).alloc (.cells #[.int .u8 6] 5)
  have FI := Lib.hid (filled_any (some ⟨w4.heap.size, 0, none⟩) 1 1 [6] (w4.alloc (.cells #[.int .u8 6] 5)) (by omega) (Rd.new w4 #[.int .u8 6] 5 (0, 0)))
  clear FL n4 d4
  go_wp2_with fail
  refine FI.out.mono ?_
  rintro e w5 ⟨rfl, o5, x5⟩
  have D5 := Lib.hid (D4.out.add (XA4.trans x5) (q := (w4.alloc (.cells #[.int .u8 6] 5)).heap.size) (by have := XA4.size; exact this) o5.lt)
  have WR := Lib.hid (D5.out.write_in HE.out (by omega) 1 (by omega) _ (sec_one (x := 6) (by omega)) o5.rd (.inr rfl))
  clear FI o5 x5 XA4
  generalize (w4.alloc (.cells #[.int .u8 6] 5)).heap.size = fb2 at *
  go_wp2_with fail
  refine WR.out.mono ?_
  rintro e w6 ⟨rfl, n6⟩
  have D6 := Lib.hid (n6.dl.sub (Y := fun _ => False) (fun q hq => hq.elim))
  have CR := Lib.hid (D6.out.crash (by omega) 0 (by omega) 9)
  clear WR n6
  go_wp2_with fail
  refine CR.out.mono ?_
  rintro e w7 ⟨rfl, n7⟩
  have D7 := Lib.hid n7.dl
  have RD := Lib.hid (D7.out.read HE.out (by omega) 1 (by omega) (by omega))
  clear CR n7
  go_wp2_with fail
  refine RD.out.mono ?_
  rintro e w8 ⟨sb, rfl, r8, hs8, hl8, x8⟩
  rw [alive_read (sec_one (x := 5) (by omega))] at r8
  have H8 := Lib.hid (And.intro r8 (D7.out.ex' x8).ext)
  clear RD r8 x8 hs8 hl8
  have HS1 : (convert 32 9 (.slice (some ⟨sb, 0, none⟩) 64 64)).run Tryd.prog w8.drew = .ok (.string (str (fillL [5]))) w8.drew := strRun (H8.out.1.ext (Ext.refl w8).drew)
  go_upto_region 8 with (fail)
  refine d_region (fun W : World => (convert 32 9 (.slice (some ⟨sb, 0, none⟩) 64 64)).run Tryd.prog W = .ok (.string (str (fillL [5]))) W) [] (by kernel_rfl) ?_
  refine d_take (i := 0) (v := ?_) [] (some 34) rfl (by rfl) (by kernel_rfl) (by kernel_rfl) (by kernel_rfl) (by kernel_rfl) (by kernel_rfl) (by kernel_rfl) (fun _ _ _ h => h) (.inl ⟨by rfl, ?_⟩) HS1 ?_
  rotate_left 1
  · (intro W hW; (try dsimp only at hW); go_simp; try with_reducible rfl)
  try simp only [Act.put, List.setIfInBounds_toArray, List.set_cons_zero, List.set_cons_succ]
  refine d_take (i := 1) (v := ?_) [] (some 35) rfl (by rfl) (by kernel_rfl) (by kernel_rfl) (by kernel_rfl) (by kernel_rfl) (by kernel_rfl) (by kernel_rfl) (fun _ _ _ h => h) (.inl ⟨by rfl, ?_⟩) HS1 ?_
  rotate_left 1
  · (intro W hW; (try dsimp only at hW); go_simp; try with_reducible rfl)
  try simp only [Act.put, List.setIfInBounds_toArray, List.set_cons_zero, List.set_cons_succ]
  refine d_take (i := 2) (v := ?_) [] (some 36) rfl (by rfl) (by kernel_rfl) (by kernel_rfl) (by kernel_rfl) (by kernel_rfl) (by kernel_rfl) (by kernel_rfl) (fun _ _ _ h => h) (.inl ⟨by rfl, ?_⟩) HS1 ?_
  rotate_left 1
  · (intro W hW; (try dsimp only at hW); go_simp; try with_reducible rfl)
  try simp only [Act.put, List.setIfInBounds_toArray, List.set_cons_zero, List.set_cons_succ]
  refine d_take (i := 3) (v := ?_) [] (some 37) rfl (by rfl) (by kernel_rfl) (by kernel_rfl) (by kernel_rfl) (by kernel_rfl) (by kernel_rfl) (by kernel_rfl) (fun _ _ _ h => h) (.inl ⟨by rfl, ?_⟩) HS1 ?_
  rotate_left 1
  · (intro W hW; (try dsimp only at hW); go_simp; try with_reducible rfl)
  try simp only [Act.put, List.setIfInBounds_toArray, List.set_cons_zero, List.set_cons_succ]
  refine d_take (i := 4) (v := ?_) [] (some 38) rfl (by rfl) (by kernel_rfl) (by kernel_rfl) (by kernel_rfl) (by kernel_rfl) (by kernel_rfl) (by kernel_rfl) (fun _ _ _ h => h) (.inl ⟨by rfl, ?_⟩) HS1 ?_
  rotate_left 1
  · (intro W hW; (try dsimp only at hW); go_simp; try with_reducible rfl)
  try simp only [Act.put, List.setIfInBounds_toArray, List.set_cons_zero, List.set_cons_succ]
  refine d_take (i := 5) (v := ?_) [] (some 39) rfl (by rfl) (by kernel_rfl) (by kernel_rfl) (by kernel_rfl) (by kernel_rfl) (by kernel_rfl) (by kernel_rfl) (fun _ _ _ h => h) (.inl ⟨by rfl, ?_⟩) HS1 ?_
  rotate_left 1
  · (intro W hW; (try dsimp only at hW); go_simp; try with_reducible rfl)
  try simp only [Act.put, List.setIfInBounds_toArray, List.set_cons_zero, List.set_cons_succ]
  refine d_take (i := 6) (v := ?_) [] (some 40) rfl (by rfl) (by kernel_rfl) (by kernel_rfl) (by kernel_rfl) (by kernel_rfl) (by kernel_rfl) (by kernel_rfl) (fun _ _ _ h => h) (.inl ⟨by rfl, ?_⟩) HS1 ?_
  rotate_left 1
  · (intro W hW; (try dsimp only at hW); go_simp; try with_reducible rfl)
  try simp only [Act.put, List.setIfInBounds_toArray, List.set_cons_zero, List.set_cons_succ]
  refine d_take (i := 7) (v := ?_) [] (some 41) rfl (by rfl) (by kernel_rfl) (by kernel_rfl) (by kernel_rfl) (by kernel_rfl) (by kernel_rfl) (by kernel_rfl) (fun _ _ _ h => h) (.inl ⟨by rfl, ?_⟩) HS1 ?_
  rotate_left 1
  · (intro W hW; (try dsimp only at hW); go_simp; try with_reducible rfl)
  try simp only [Act.put, List.setIfInBounds_toArray, List.set_cons_zero, List.set_cons_succ]
  refine d_take (i := 8) (v := ?_) [] (some 42) rfl (by rfl) (by kernel_rfl) (by kernel_rfl) (by kernel_rfl) (by kernel_rfl) (by kernel_rfl) (by kernel_rfl) (fun _ _ _ h => h) (.inl ⟨by rfl, ?_⟩) HS1 ?_
  rotate_left 1
  · (intro W hW; (try dsimp only at hW); go_simp; try with_reducible rfl)
  try simp only [Act.put, List.setIfInBounds_toArray, List.set_cons_zero, List.set_cons_succ]
  refine d_take (i := 9) (v := ?_) [] (some 43) rfl (by rfl) (by kernel_rfl) (by kernel_rfl) (by kernel_rfl) (by kernel_rfl) (by kernel_rfl) (by kernel_rfl) (fun _ _ _ h => h) (.inl ⟨by rfl, ?_⟩) HS1 ?_
  rotate_left 1
  · (intro W hW; (try dsimp only at hW); go_simp; try with_reducible rfl)
  try simp only [Act.put, List.setIfInBounds_toArray, List.set_cons_zero, List.set_cons_succ]
  refine d_take (i := 10) (v := ?_) [] (some 44) rfl (by rfl) (by kernel_rfl) (by kernel_rfl) (by kernel_rfl) (by kernel_rfl) (by kernel_rfl) (by kernel_rfl) (fun _ _ _ h => h) (.inl ⟨by rfl, ?_⟩) HS1 ?_
  rotate_left 1
  · (intro W hW; (try dsimp only at hW); go_simp; try with_reducible rfl)
  try simp only [Act.put, List.setIfInBounds_toArray, List.set_cons_zero, List.set_cons_succ]
  refine d_take (i := 11) (v := ?_) [] (some 45) rfl (by rfl) (by kernel_rfl) (by kernel_rfl) (by kernel_rfl) (by kernel_rfl) (by kernel_rfl) (by kernel_rfl) (fun _ _ _ h => h) (.inl ⟨by rfl, ?_⟩) HS1 ?_
  rotate_left 1
  · (intro W hW; (try dsimp only at hW); go_simp; try with_reducible rfl)
  try simp only [Act.put, List.setIfInBounds_toArray, List.set_cons_zero, List.set_cons_succ]
  refine d_take (i := 12) (v := ?_) [] (some 46) rfl (by rfl) (by kernel_rfl) (by kernel_rfl) (by kernel_rfl) (by kernel_rfl) (by kernel_rfl) (by kernel_rfl) (fun _ _ _ h => h) (.inl ⟨by rfl, ?_⟩) HS1 ?_
  rotate_left 1
  · (intro W hW; (try dsimp only at hW); go_simp; try with_reducible rfl)
  try simp only [Act.put, List.setIfInBounds_toArray, List.set_cons_zero, List.set_cons_succ]
  have XB := ((Ext.refl w8).alloc (.cells #[.int .u8 5] 5)).drew
  have FI := Lib.hid (filled_any (some ⟨w8.heap.size, 0, none⟩) 1 1 [5] (w8.alloc (.cells #[.int .u8 5] 5)).drew (by omega) (Rd.new w8 #[.int .u8 5] 5 (0, 0)))
  have HS2 : (convert 32 9 (.slice (some ⟨sb, 0, none⟩) 64 64)).run Tryd.prog (w8.alloc (.cells #[.int .u8 5] 5)).drew = .ok (.string (str (fillL [5]))) (w8.alloc (.cells #[.int .u8 5] 5)).drew := strRun (H8.out.1.ext XB)
  refine d_call (i := 13) (by kernel_rfl) rfl (by rfl) (fun K hK => ?_)
  simp only [List.getElem_toArray, List.getElem_cons_succ, List.getElem_cons_zero]
  go_simp
  refine hK.out _ _ (fun _ => HS2) ?_
  clear hK K
  have H9 := Lib.hid (And.intro (H8.out.1.ext XB) (H8.out.2.trans XB))
  clear XB
  generalize (w8.alloc (.cells #[.int .u8 5] 5)).drew = w9 at *
  generalize w8.heap.size = bx at *
  try simp only [Act.put, List.setIfInBounds_toArray, List.set_cons_zero, List.set_cons_succ]
  refine d_call (i := 14) (by kernel_rfl) rfl (by rfl) (fun K hK => ?_)
  simp only [List.getElem_toArray, List.getElem_cons_succ, List.getElem_cons_zero]
  go_simp
  refine FI.out.mono ?_
  rintro e w10 ⟨rfl, o10, x10⟩
  have HS3 : (convert 32 9 (.slice (some ⟨sb, 0, none⟩) 64 64)).run Tryd.prog w10 = .ok (.string (str (fillL [5]))) w10 := strRun (H9.out.1.ext x10)
  have cv := strRun o10.rd
  have H10 := Lib.hid (H9.out.2.trans x10)
  clear FI o10 x10
  go_simp
  refine hK.out _ _ (fun _ => HS3) ?_
  clear hK K
  try simp only [Act.put, List.setIfInBounds_toArray, List.set_cons_zero, List.set_cons_succ]
  refine d_call (i := 15) (by kernel_rfl) rfl (by rfl) (fun K hK => ?_)
  simp only [List.getElem_toArray, List.getElem_cons_succ, List.getElem_cons_zero]
  go_simp
  refine hK.out _ _ (fun _ => HS3) ?_
  clear hK K cv
  try simp only [Act.put, List.setIfInBounds_toArray, List.set_cons_zero, List.set_cons_succ]
  refine d_take (i := 16) (v := ?_) [] (some 50) rfl (by rfl) (by kernel_rfl) (by kernel_rfl) (by kernel_rfl) (by kernel_rfl) (by kernel_rfl) (by kernel_rfl) (fun _ _ _ h => h) (.inl ⟨by rfl, ?_⟩) HS3 ?_
  rotate_left 1
  · (intro W hW; (try dsimp only at hW); go_simp; try with_reducible rfl)
  try simp only [Act.put, List.setIfInBounds_toArray, List.set_cons_zero, List.set_cons_succ]
  refine d_take (i := 17) (v := ?_) [] (some 51) rfl (by rfl) (by kernel_rfl) (by kernel_rfl) (by kernel_rfl) (by kernel_rfl) (by kernel_rfl) (by kernel_rfl) (fun _ _ _ h => h) (.inl ⟨by rfl, ?_⟩) HS3 ?_
  rotate_left 1
  · (intro W hW; (try dsimp only at hW); go_simp; try with_reducible rfl)
  try simp only [Act.put, List.setIfInBounds_toArray, List.set_cons_zero, List.set_cons_succ]
  refine d_take (i := 18) (v := ?_) [] (some 0) rfl (by rfl) (by kernel_rfl) (by kernel_rfl) (by kernel_rfl) (by kernel_rfl) (by kernel_rfl) (by kernel_rfl) (fun _ _ _ h => h) (.inl ⟨by rfl, ?_⟩) HS3 ?_
  rotate_left 1
  · (intro W hW; (try dsimp only at hW); go_simp; try with_reducible rfl)
  try simp only [Act.put, List.setIfInBounds_toArray, List.set_cons_zero, List.set_cons_succ]
  refine d_done (by kernel_rfl) ?_ _
  clear HS1 HS2 HS3
  go_wp2_with fail
  go_returns
  exact ⟨rfl, H10.out⟩
end Go.Proofs.YtchkeclhnbekkaaDoor
