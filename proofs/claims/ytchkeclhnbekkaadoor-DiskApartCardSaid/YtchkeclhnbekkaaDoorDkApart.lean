/-
  The statement DiskApart, walked.
-/
import Derived.Test.YtchkeclhnbekkaaDoorDkAlive
import Derived.Test.YtchkeclhnbekkaaDoorDkScript
import Derived.BigRegion
namespace Go.Proofs.YtchkeclhnbekkaaDoor
set_option maxRecDepth 100000
open Go.RowKit Go.Maps
set_option linter.unusedVariables false
theorem add_lit (a : Addr) {k : Nat} (hk : k ≠ 0) : a.add k = ⟨a.block, a.off + k, none⟩ := by unfold Addr.add; rw [if_neg hk]
/-- Sector 5 is as it was, and no write of it waits. -/
def AP (w wr : World) (g : Nat) (X : Nat → Prop) (Zm : Nat) : Prop := ∃ f l nw, DL w wr g X 6 f l nw false Zm ∧ f 5 = fillL [1, 2] ∧ ∀ x ∈ l, x.i ≠ 5
section
variable {w wr w' : World} {g Zm : Nat} {X : Nat → Prop} {pn pl pg : Addr}
theorem AP.ex' (h : AP w wr g X Zm) (hx : Ext wr w') : AP w w' g X Zm := by
  obtain ⟨f, l, nw, h1, h2⟩ := h
  exact ⟨f, l, nw, h1.ex' hx, h2⟩
theorem AP.mono (h : AP w wr g X Zm) {Zn : Nat} (hz : Zm ≤ Zn) : AP w wr g X Zn := by
  obtain ⟨f, l, nw, h1, h2⟩ := h
  exact ⟨f, l, nw, h1.mono hz, h2⟩
theorem AP.sub (h : AP w wr g X Zm) {Y : Nat → Prop} (hY : ∀ q, Y q → X q) : AP w wr g Y Zm := by
  obtain ⟨f, l, nw, h1, h2⟩ := h
  exact ⟨f, l, nw, h1.sub hY, h2⟩
theorem AP.wext (h : AP w wr g X Zm) : Ext w wr := by
  obtain ⟨f, l, nw, h1, h2⟩ := h
  exact h1.ext
theorem AP.box (h : AP w wr g (fun _ => False) Zm) {o : Obj} : AP w (wr.alloc o) g (fun b => b = wr.heap.size) Zm := by
  obtain ⟨f, l, nw, h1, h2⟩ := h
  exact ⟨f, l, nw, (h1.add ((Ext.refl wr).alloc o) (q := wr.heap.size) (Nat.le_refl _) (by simp)).sub (fun q e => .inr e), h2⟩
theorem AP.flush (h : AP w wr g X Zm) (hZ : Zm < 2199023255552) : Calls Tryd.prog 11 #[.pointer (some ⟨g, 0, none⟩)] wr fun e w' => e = .returned .nilIface ∧ AP w w' g X Zm := by
  obtain ⟨f, l, nw, h1, h2, h3⟩ := h
  exact (h1.flush hZ).mono fun e w' ⟨he, hd⟩ => ⟨he, _, _, _, hd.dl, by rw [flushW_stays h3]; exact h2, fun x hx => by cases hx⟩
theorem AP.crash (h : AP w wr g X Zm) (hZ : Zm < 2199023255552) (kp : Nat) (hkp : kp < 18446744073709551616) (torn : Int) :
    Calls Tryd.prog 12 #[.pointer (some ⟨g, 0, none⟩), .int .u64 (kp : Int), .int .i64 torn] wr fun e w' => e = .returned (.tuple #[]) ∧ AP w w' g X Zm := by
  obtain ⟨f, l, nw, h1, h2, h3⟩ := h
  exact (h1.crash hZ kp hkp torn).mono fun e w' ⟨he, hd⟩ => ⟨he, _, _, _, hd.dl, by rw [crashW_stays h3]; exact h2, fun x hx => by cases hx⟩
theorem AP.read (h : AP w wr g X Zm) (hE : DE w pn pl pg) (hZ : Zm < 2199023255552) :
    Calls Tryd.prog 13 #[.pointer (some ⟨g, 0, none⟩), .int .i64 5] wr fun e w' => ∃ sb, e = .returned (.tuple #[.slice (some ⟨sb, 0, none⟩) 64 64, .nilIface]) ∧ Rd w' 1 (some ⟨sb, 0, none⟩) 64 (u8s (fillL [1, 2])) ∧ Ext wr w' := by
  obtain ⟨f, l, nw, h1, h2, h3⟩ := h
  exact (h1.read hE hZ 5 (by omega) (by omega)).mono fun e w' ⟨sb, he, hr, _, _, hx⟩ => ⟨sb, he, by rwa [readW_stays h3, h2] at hr, hx⟩
/-- A sector's bytes that were made just now are written elsewhere. -/
theorem AP.write (h : AP w wr g X Zm) (hE : DE w pn pl pg) (hZ : Zm < 2199023255552) {w3 : World} (hx : Ext wr w3) {s : List Nat} (ho : Own w3 wr.heap.size 5 1 (some ⟨wr.heap.size, 0, none⟩) 64 64 (u8s s)) (i : Int) (hi : i ≠ 5) (hs : IsSec s) :
    ∃ v, Calls Tryd.prog 10 #[.pointer (some ⟨g, 0, none⟩), .int .i64 i, .slice (some ⟨wr.heap.size, 0, none⟩) 64 64] w3 fun e w' => e = .returned v ∧ AP w w' g X (Zm + 1) ∧ ∀ q, X q → w'.heap[q]? = w3.heap[q]? := by
  obtain ⟨f, l, nw, h1, h2, h3⟩ := h
  obtain ⟨v, l', nw', hv, hc⟩ := (h1.add hx (q := wr.heap.size) (Nat.le_refl _) ho.lt).write hE hZ i _ hs ho.rd (.inr rfl)
  refine ⟨v, hc.mono fun e w' ⟨he, hd⟩ => ⟨he, ⟨f, l', nw', hd.dl.sub (fun q e => .inl e), h2, fun x hx => ?_⟩, fun q hq => hd.kp q (.inl hq)⟩⟩
  rcases hv with ⟨_, _, _, e, _⟩ | ⟨_, _, e, _⟩
  · rw [e] at hx
    rcases List.mem_append.1 hx with hx | hx
    · exact h3 x hx
    · simp at hx; subst hx; exact hi
  · rw [e] at hx
    exact h3 x hx
end
set_option maxHeartbeats 12800000 in
theorem dapart_any (A0 : Option Addr) (n c0 : Nat) (os : List O5) (w : World) (hr : Rd w 5 A0 n (o5rows os).flatten) (hol : os.length = n) (hok : ∀ o ∈ os, o.ok w) (hn : n * 56 ≤ 140737488351232) {pn pl pg : Addr} (hE : DE w pn pl pg) :
    Calls Tryd.prog 4 #[.slice A0 n c0] w fun e w' => e = .returned (.bool true) ∧ Ext w w' := by
  have HE := Lib.hid hE
  have HO := Lib.hid (And.intro hol (And.intro hr hok))
  have AL := Lib.hid (dalive_any w hE)
  clear hr hol hok hE
  go_enter Tryd.func4, Tryd.ntmps4
  go_wp2_with fail
  refine AL.out.mono ?_
  rintro e0 w1 ⟨rfl, x1⟩
  have NW := Lib.hid (DL.new w1 x1 6 (by omega) (by omega))
  clear AL x1
  go_wp2_with fail
  refine NW.out.mono ?_
  rintro e0 w2 ⟨rfl, d2, x2⟩
  generalize w1.heap.size + 1 = g at *
  have XA := (Ext.refl w2).alloc (.cells #[.int .u8 1, .int .u8 2] 5)
  have FI := Lib.hid (filled_any (some ⟨w2.heap.size, 0, none⟩) 2 2 [1, 2] (w2.alloc (.cells #[.int .u8 1, .int .u8 2] 5)) (by omega) (Rd.new w2 #[.int .u8 1, .int .u8 2] 5 (0, 0)))
  have D2 := Lib.hid (d2.ex' XA)
  clear NW d2 x2 XA
  go_wp2_with fail
  refine FI.out.mono ?_
  rintro e0 w3 ⟨rfl, o3, x3⟩
  have d3 := D2.out.add x3 (q := (w2.alloc (.cells #[.int .u8 1, .int .u8 2] 5)).heap.size) (Nat.le_refl _) o3.lt
  have hs12 : IsSec (fillL [1, 2]) := fillL_sec (fun y hy => by simp at hy; omega)
  have WR := Lib.hid (d3.write_in HE.out (by omega) 5 (by omega) _ hs12 o3.rd (.inr rfl))
  clear FI o3 x3 d3 D2
  generalize (w2.alloc (.cells #[.int .u8 1, .int .u8 2] 5)).heap.size = fb at *
  go_wp2_with fail
  refine WR.out.mono ?_
  rintro e0 w4 ⟨rfl, n4⟩
  have D4 := Lib.hid (n4.dl.sub (Y := fun _ => False) (fun q hq => hq.elim))
  have FL := Lib.hid (D4.out.flush (by omega))
  clear WR n4
  go_wp2_with fail
  refine FL.out.mono ?_
  rintro e0 w5 ⟨rfl, n5⟩
  have A5 := Lib.hid (show AP w w5 g (fun _ => False) (0 + 2) from ⟨_, _, _, n5.dl.mono (by omega), by
    rw [flushW_snoc, flushW_nil]
    exact keep64 (f := fun _ => z64) (x := ⟨5, fillL [1, 2]⟩) isSec_z64.1 hs12.1, fun x hx => by cases hx⟩)
  clear FL n5 D4 hs12
  go_wp2_with fail
  go_loopw [35] (fun v35 wr => ∃ i : Nat, v35 = .int .i64 (i : Int) ∧ i ≤ n ∧ i ≤ 301 ∧ Hid (AP w wr g (fun _ => False) (i + 2))) (fun v35 _ => n - (intOf v35).toNat)
  case atStart => exact ⟨0, rfl, by omega, by omega, A5.out⟩
  case round =>
    obtain ⟨i, rfl, hi, h301, HI⟩ := hrel
    obtain ⟨U2, hU2⟩ : ∃ V : World, V = wr := ⟨_, rfl⟩
    subst hU2
    by_cases hlt : i < n
    · obtain ⟨o, ho⟩ : ∃ o, os[i]? = some o := ⟨os[i]'(by rw [HO.out.1]; exact hlt), List.getElem?_eq_getElem _⟩
      obtain ⟨i5, hi5⟩ : ∃ i5, i * 5 = i5 := ⟨_, rfl⟩
      obtain ⟨ad, rfl, _, _⟩ := HO.out.2.1.2 (show 0 < n by omega)
      have hrr := HO.out.2.1.ext HI.out.wext
      have k0 := hrr.rowAt (o5_even os) (o5_at ho) hi5 (i := 0) rfl
      have k1 := hrr.rowAt (o5_even os) (o5_at ho) hi5 (i := 1) rfl
      have k2 := hrr.rowAt (o5_even os) (o5_at ho) hi5 (i := 2) rfl
      have k3 := hrr.rowAt (o5_even os) (o5_at ho) hi5 (i := 3) rfl
      have k4 := hrr.rowAt (o5_even os) (o5_at ho) hi5 (i := 4) rfl
      rw [Nat.add_zero] at k0
      rw [← add_add', add_lit _ (by omega)] at k1 k2 k3 k4
      have z0 : (0 : Int) ≤ i := by omega
      have z1 : (i : Int) < n := by omega
      have HOK := Lib.hid (HO.out.2.2 o (List.mem_of_getElem? ho))
      have HV := Lib.hid (And.intro (heap_alloc_new U2 (.cells #[.int .i64 o.K, .int .i64 o.I, .int .i64 o.T, .int .u64 (o.kp : Int), .slice o.A o.n o.c] 42)) (HI.out.box (o := (.cells #[.int .i64 o.K, .int .i64 o.I, .int .i64 o.T, .int .u64 (o.kp : Int), .slice o.A o.n o.c] 42))))
      clear hrr ho
      go_upto_region 9 with (fail)
      generalize U2.alloc (.cells #[.int .i64 o.K, .int .i64 o.I, .int .i64 o.T, .int .u64 (o.kp : Int), .slice o.A o.n o.c] 42) = V at *
      generalize U2.heap.size = ob at *
      have HB := HV
      have b0 : V.cell? ⟨ob, 0, none⟩ = some (.int .i64 o.K) := block_cell HV.out.1 0
      have b1 : V.cell? ⟨ob, 1, none⟩ = some (.int .i64 o.I) := block_cell HV.out.1 1
      clear HV k0 k1 k2 k3 k4 hi5
      by_cases h300 : (300 : Int) < (i : Int)
      · go_wp2_with fail
        go_returns
        exact ⟨rfl, HB.out.2.wext⟩
      · have i300 : i ≤ 300 := by omega
        by_cases h1 : o.K = 1
        · have e1 : (o.K == 1) = true := by simpa using h1
          clear h1
          by_cases h5 : o.I = 5
          · have h5e : (o.I == 5) = true := by simpa using h5
            have HA := Lib.hid (HB.out.2.mono (show i + 2 ≤ i + 3 from by omega))
            clear h5
            have RD := Lib.hid (HA.out.read HE.out (by omega))
            go_wp2_with fail
            refine RD.out.mono ?_
            rintro e0 w8 ⟨sb, rfl, r8, x8⟩
            have A8 := HA.out.ex' x8
            have HS1 : (convert 32 9 (.slice (some ⟨sb, 0, none⟩) 64 64)).run Tryd.prog w8.drew = .ok (.string (str (fillL [1, 2]))) w8.drew := strRun (r8.ext (Ext.refl w8).drew)
            have XB := ((Ext.refl w8).alloc (.cells #[.int .u8 1, .int .u8 2] 5)).drew
            have HS2 : (convert 32 9 (.slice (some ⟨sb, 0, none⟩) 64 64)).run Tryd.prog (w8.alloc (.cells #[.int .u8 1, .int .u8 2] 5)).drew = .ok (.string (str (fillL [1, 2]))) (w8.alloc (.cells #[.int .u8 1, .int .u8 2] 5)).drew := strRun (r8.ext XB)
            have FI := Lib.hid (filled_any (some ⟨w8.heap.size, 0, none⟩) 2 2 [1, 2] (w8.alloc (.cells #[.int .u8 1, .int .u8 2] 5)).drew (by omega) (Rd.new w8 #[.int .u8 1, .int .u8 2] 5 (0, 0)))
            have H8 := Lib.hid (And.intro (r8.ext XB) (A8.ex' XB))
            clear RD r8 x8 A8 XB
            go_upto_region 20 with (fail)
            refine d_region (fun W : World => (convert 32 9 (.slice (some ⟨sb, 0, none⟩) 64 64)).run Tryd.prog W = .ok (.string (str (fillL [1, 2]))) W) [] (by kernel_rfl) ?_
            refine d_take (i := 0) (v := ?_) [] (some 74) rfl (by rfl) (by kernel_rfl) (by kernel_rfl) (by kernel_rfl) (by kernel_rfl) (by kernel_rfl) (by kernel_rfl) (fun _ _ _ h => h) (.inl ⟨by rfl, ?_⟩) HS1 ?_
            rotate_left 1
            · (intro W hW; (try dsimp only at hW); go_simp; try with_reducible rfl)
            try simp only [Act.put, List.setIfInBounds_toArray, List.set_cons_zero, List.set_cons_succ]
            refine d_take (i := 1) (v := ?_) [] (some 75) rfl (by rfl) (by kernel_rfl) (by kernel_rfl) (by kernel_rfl) (by kernel_rfl) (by kernel_rfl) (by kernel_rfl) (fun _ _ _ h => h) (.inl ⟨by rfl, ?_⟩) HS1 ?_
            rotate_left 1
            · (intro W hW; (try dsimp only at hW); go_simp; try with_reducible rfl)
            try simp only [Act.put, List.setIfInBounds_toArray, List.set_cons_zero, List.set_cons_succ]
            refine d_take (i := 2) (v := ?_) [] (some 76) rfl (by rfl) (by kernel_rfl) (by kernel_rfl) (by kernel_rfl) (by kernel_rfl) (by kernel_rfl) (by kernel_rfl) (fun _ _ _ h => h) (.inl ⟨by rfl, ?_⟩) HS1 ?_
            rotate_left 1
            · (intro W hW; (try dsimp only at hW); go_simp; try with_reducible rfl)
            try simp only [Act.put, List.setIfInBounds_toArray, List.set_cons_zero, List.set_cons_succ]
            refine d_take (i := 3) (v := ?_) [] (some 77) rfl (by rfl) (by kernel_rfl) (by kernel_rfl) (by kernel_rfl) (by kernel_rfl) (by kernel_rfl) (by kernel_rfl) (fun _ _ _ h => h) (.inl ⟨by rfl, ?_⟩) HS1 ?_
            rotate_left 1
            · (intro W hW; (try dsimp only at hW); go_simp; try with_reducible rfl)
            try simp only [Act.put, List.setIfInBounds_toArray, List.set_cons_zero, List.set_cons_succ]
            refine d_take (i := 4) (v := ?_) [] (some 78) rfl (by rfl) (by kernel_rfl) (by kernel_rfl) (by kernel_rfl) (by kernel_rfl) (by kernel_rfl) (by kernel_rfl) (fun _ _ _ h => h) (.inl ⟨by rfl, ?_⟩) HS1 ?_
            rotate_left 1
            · (intro W hW; (try dsimp only at hW); go_simp; try with_reducible rfl)
            try simp only [Act.put, List.setIfInBounds_toArray, List.set_cons_zero, List.set_cons_succ]
            refine d_call (i := 5) (by kernel_rfl) rfl (by rfl) (fun K hK => ?_)
            simp only [List.getElem_toArray, List.getElem_cons_succ, List.getElem_cons_zero]
            go_simp
            refine hK.out _ _ (fun _ => HS2) ?_
            clear hK K
            generalize (w8.alloc (.cells #[.int .u8 1, .int .u8 2] 5)).drew = w9 at *
            generalize w8.heap.size = bx at *
            try simp only [Act.put, List.setIfInBounds_toArray, List.set_cons_zero, List.set_cons_succ]
            refine d_call (i := 6) (by kernel_rfl) rfl (by rfl) (fun K hK => ?_)
            simp only [List.getElem_toArray, List.getElem_cons_succ, List.getElem_cons_zero]
            go_simp
            refine FI.out.mono ?_
            rintro e0 w10 ⟨rfl, o10, x10⟩
            have HS3 : (convert 32 9 (.slice (some ⟨sb, 0, none⟩) 64 64)).run Tryd.prog w10 = .ok (.string (str (fillL [1, 2]))) w10 := strRun (H8.out.1.ext x10)
            have cv := strRun o10.rd
            have H10 := Lib.hid (((H8.out.2.ex' x10).sub (Y := fun _ => False) (fun q h => h.elim)).mono (show i + 3 ≤ i + 1 + 2 from by omega))
            clear FI o10 x10
            go_simp
            refine hK.out _ _ (fun _ => HS3) ?_
            clear hK K
            try simp only [Act.put, List.setIfInBounds_toArray, List.set_cons_zero, List.set_cons_succ]
            refine d_call (i := 7) (by kernel_rfl) rfl (by rfl) (fun K hK => ?_)
            simp only [List.getElem_toArray, List.getElem_cons_succ, List.getElem_cons_zero]
            go_simp
            refine hK.out _ _ (fun _ => HS3) ?_
            clear hK K cv
            try simp only [Act.put, List.setIfInBounds_toArray, List.set_cons_zero, List.set_cons_succ]
            refine d_take (i := 8) (v := ?_) [] (some 82) rfl (by rfl) (by kernel_rfl) (by kernel_rfl) (by kernel_rfl) (by kernel_rfl) (by kernel_rfl) (by kernel_rfl) (fun _ _ _ h => h) (.inl ⟨by rfl, ?_⟩) HS3 ?_
            rotate_left 1
            · (intro W hW; (try dsimp only at hW); go_simp; try with_reducible rfl)
            try simp only [Act.put, List.setIfInBounds_toArray, List.set_cons_zero, List.set_cons_succ]
            refine d_take (i := 9) (v := ?_) [] (some 83) rfl (by rfl) (by kernel_rfl) (by kernel_rfl) (by kernel_rfl) (by kernel_rfl) (by kernel_rfl) (by kernel_rfl) (fun _ _ _ h => h) (.inl ⟨by rfl, ?_⟩) HS3 ?_
            rotate_left 1
            · (intro W hW; (try dsimp only at hW); go_simp; try with_reducible rfl)
            try simp only [Act.put, List.setIfInBounds_toArray, List.set_cons_zero, List.set_cons_succ]
            refine d_done (by kernel_rfl) ?_ _
            clear HS1 HS2 HS3
            go_wp2_with fail
            go_roundw
            case rel => exact ⟨i + 1, by go_num, by omega, by omega, H10.out⟩
            case measure => simp [intOf]; omega
          · have h5e : (o.I == 5) = false := by simpa using h5
            have H5 := Lib.hid h5
            clear h5
            have HS1 : V.drew.cell? ⟨ob, 1, none⟩ = some (.int .i64 o.I) ∧ V.drew.cell? ⟨ob, 4, none⟩ = some (.slice o.A o.n o.c) := ⟨block_cell (w := V.drew) (show V.drew.heap[ob]? = _ from HB.out.1) 1, block_cell (w := V.drew) (show V.drew.heap[ob]? = _ from HB.out.1) 4⟩
            have AD := Lib.hid (And.intro (HB.out.2.ex' (Ext.refl V).drew) (show V.drew.heap[ob]? = some (.cells #[.int .i64 o.K, .int .i64 o.I, .int .i64 o.T, .int .u64 (o.kp : Int), .slice o.A o.n o.c] 42) from HB.out.1))
            have RO := Lib.hid (HOK.out.rd.ext (HB.out.2.wext.trans (Ext.refl V).drew))
            go_upto_region 14 with (fail)
            clear b0 b1
            refine d_region (fun W : World => W.cell? ⟨ob, 1, none⟩ = some (.int .i64 o.I) ∧ W.cell? ⟨ob, 4, none⟩ = some (.slice o.A o.n o.c)) [] (by kernel_rfl) ?_
            generalize V.drew = U at *
            have FI := Lib.hid (filled_any o.A o.n o.c o.l U (by have h1 := HOK.out.le; have h2 := HOK.out.small; omega) RO.out)
            refine d_take (i := 0) (v := ?_) [] (some 50) rfl (by rfl) (by kernel_rfl) (by kernel_rfl) (by kernel_rfl) (by kernel_rfl) (by kernel_rfl) (by kernel_rfl) (fun _ _ _ h => h) (.inl ⟨by rfl, ?_⟩) HS1 ?_
            rotate_left 1
            · (intro W hW; (try dsimp only at hW); go_simp; try with_reducible rfl)
            try simp only [Act.put, List.setIfInBounds_toArray, List.set_cons_zero, List.set_cons_succ]
            refine d_take (i := 1) (v := ?_) [] (some 51) rfl (by rfl) (by kernel_rfl) (by kernel_rfl) (by kernel_rfl) (by kernel_rfl) (by kernel_rfl) (by kernel_rfl) (fun _ _ _ h => h) (.inl ⟨by rfl, ?_⟩) HS1 ?_
            rotate_left 1
            · (intro W hW; (try dsimp only at hW); go_simp; try with_reducible rfl)
            try simp only [Act.put, List.setIfInBounds_toArray, List.set_cons_zero, List.set_cons_succ]
            refine d_take (i := 2) (v := ?_) [] (some 52) rfl (by rfl) (by kernel_rfl) (by kernel_rfl) (by kernel_rfl) (by kernel_rfl) (by kernel_rfl) (by kernel_rfl) (fun _ _ _ h => h) (.inl ⟨by rfl, ?_⟩) HS1 ?_
            rotate_left 1
            · (intro W hW; (try dsimp only at hW); go_simp; try with_reducible rfl)
            try simp only [Act.put, List.setIfInBounds_toArray, List.set_cons_zero, List.set_cons_succ]
            refine d_take (i := 3) (v := ?_) [] (some 53) rfl (by rfl) (by kernel_rfl) (by kernel_rfl) (by kernel_rfl) (by kernel_rfl) (by kernel_rfl) (by kernel_rfl) (fun _ _ _ h => h) (.inl ⟨by rfl, ?_⟩) HS1 ?_
            rotate_left 1
            · (intro W hW; (try dsimp only at hW); go_simp; try with_reducible rfl)
            try simp only [Act.put, List.setIfInBounds_toArray, List.set_cons_zero, List.set_cons_succ]
            refine d_take (i := 4) (v := ?_) [] (some 54) rfl (by rfl) (by kernel_rfl) (by kernel_rfl) (by kernel_rfl) (by kernel_rfl) (by kernel_rfl) (by kernel_rfl) (fun _ _ _ h => h) (.inl ⟨by rfl, ?_⟩) HS1 ?_
            rotate_left 1
            · (intro W hW; (try dsimp only at hW); go_simp; try with_reducible rfl)
            try simp only [Act.put, List.setIfInBounds_toArray, List.set_cons_zero, List.set_cons_succ]
            refine d_call (i := 5) (by kernel_rfl) rfl (by rfl) (fun K hK => ?_)
            simp only [List.getElem_toArray, List.getElem_cons_succ, List.getElem_cons_zero]
            go_simp
            refine FI.out.mono ?_
            rintro e0 w3 ⟨rfl, o3, x3⟩
            have ob3 := (x3.block ob (block_lt AD.out.2)).trans AD.out.2
            have HS2 : w3.cell? ⟨ob, 1, none⟩ = some (.int .i64 o.I) ∧ w3.cell? ⟨ob, 4, none⟩ = some (.slice o.A o.n o.c) := ⟨block_cell ob3 1, block_cell ob3 4⟩
            obtain ⟨v, WR⟩ := AD.out.1.write HE.out (by omega) x3 o3 o.I H5.out (fillL_sec HOK.out.byte)
            have WR := Lib.hid WR
            have OB3 := Lib.hid ob3
            clear FI o3 ob3 x3
            generalize U.heap.size = fb at *
            go_simp
            refine hK.out _ _ (fun _ => HS2) ?_
            clear hK K
            try simp only [Act.put, List.setIfInBounds_toArray, List.set_cons_zero, List.set_cons_succ]
            refine d_call (i := 6) (by kernel_rfl) rfl (by rfl) (fun K hK => ?_)
            simp only [List.getElem_toArray, List.getElem_cons_succ, List.getElem_cons_zero]
            go_simp
            refine WR.out.mono ?_
            rintro e0 w4 ⟨rfl, a4, kp4⟩
            have ob4 := (kp4 ob rfl).trans OB3.out
            have HS3 : w4.cell? ⟨ob, 1, none⟩ = some (.int .i64 o.I) ∧ w4.cell? ⟨ob, 4, none⟩ = some (.slice o.A o.n o.c) := ⟨block_cell ob4 1, block_cell ob4 4⟩
            have HA := Lib.hid a4
            clear WR a4 kp4 ob4
            go_simp
            refine hK.out _ _ (fun _ => HS3) ?_
            clear hK K
            try simp only [Act.put, List.setIfInBounds_toArray, List.set_cons_zero, List.set_cons_succ]
            refine d_done (by kernel_rfl) ?_ _
            clear HS1 HS2 HS3
            have RD := Lib.hid (HA.out.read HE.out (by omega))
            go_wp2_with fail
            refine RD.out.mono ?_
            rintro e0 w8 ⟨sb, rfl, r8, x8⟩
            have A8 := HA.out.ex' x8
            have HS1 : (convert 32 9 (.slice (some ⟨sb, 0, none⟩) 64 64)).run Tryd.prog w8.drew = .ok (.string (str (fillL [1, 2]))) w8.drew := strRun (r8.ext (Ext.refl w8).drew)
            have XB := ((Ext.refl w8).alloc (.cells #[.int .u8 1, .int .u8 2] 5)).drew
            have HS2 : (convert 32 9 (.slice (some ⟨sb, 0, none⟩) 64 64)).run Tryd.prog (w8.alloc (.cells #[.int .u8 1, .int .u8 2] 5)).drew = .ok (.string (str (fillL [1, 2]))) (w8.alloc (.cells #[.int .u8 1, .int .u8 2] 5)).drew := strRun (r8.ext XB)
            have FI := Lib.hid (filled_any (some ⟨w8.heap.size, 0, none⟩) 2 2 [1, 2] (w8.alloc (.cells #[.int .u8 1, .int .u8 2] 5)).drew (by omega) (Rd.new w8 #[.int .u8 1, .int .u8 2] 5 (0, 0)))
            have H8 := Lib.hid (And.intro (r8.ext XB) (A8.ex' XB))
            clear RD r8 x8 A8 XB
            go_upto_region 20 with (fail)
            refine d_region (fun W : World => (convert 32 9 (.slice (some ⟨sb, 0, none⟩) 64 64)).run Tryd.prog W = .ok (.string (str (fillL [1, 2]))) W) [] (by kernel_rfl) ?_
            refine d_take (i := 0) (v := ?_) [] (some 74) rfl (by rfl) (by kernel_rfl) (by kernel_rfl) (by kernel_rfl) (by kernel_rfl) (by kernel_rfl) (by kernel_rfl) (fun _ _ _ h => h) (.inl ⟨by rfl, ?_⟩) HS1 ?_
            rotate_left 1
            · (intro W hW; (try dsimp only at hW); go_simp; try with_reducible rfl)
            try simp only [Act.put, List.setIfInBounds_toArray, List.set_cons_zero, List.set_cons_succ]
            refine d_take (i := 1) (v := ?_) [] (some 75) rfl (by rfl) (by kernel_rfl) (by kernel_rfl) (by kernel_rfl) (by kernel_rfl) (by kernel_rfl) (by kernel_rfl) (fun _ _ _ h => h) (.inl ⟨by rfl, ?_⟩) HS1 ?_
            rotate_left 1
            · (intro W hW; (try dsimp only at hW); go_simp; try with_reducible rfl)
            try simp only [Act.put, List.setIfInBounds_toArray, List.set_cons_zero, List.set_cons_succ]
            refine d_take (i := 2) (v := ?_) [] (some 76) rfl (by rfl) (by kernel_rfl) (by kernel_rfl) (by kernel_rfl) (by kernel_rfl) (by kernel_rfl) (by kernel_rfl) (fun _ _ _ h => h) (.inl ⟨by rfl, ?_⟩) HS1 ?_
            rotate_left 1
            · (intro W hW; (try dsimp only at hW); go_simp; try with_reducible rfl)
            try simp only [Act.put, List.setIfInBounds_toArray, List.set_cons_zero, List.set_cons_succ]
            refine d_take (i := 3) (v := ?_) [] (some 77) rfl (by rfl) (by kernel_rfl) (by kernel_rfl) (by kernel_rfl) (by kernel_rfl) (by kernel_rfl) (by kernel_rfl) (fun _ _ _ h => h) (.inl ⟨by rfl, ?_⟩) HS1 ?_
            rotate_left 1
            · (intro W hW; (try dsimp only at hW); go_simp; try with_reducible rfl)
            try simp only [Act.put, List.setIfInBounds_toArray, List.set_cons_zero, List.set_cons_succ]
            refine d_take (i := 4) (v := ?_) [] (some 78) rfl (by rfl) (by kernel_rfl) (by kernel_rfl) (by kernel_rfl) (by kernel_rfl) (by kernel_rfl) (by kernel_rfl) (fun _ _ _ h => h) (.inl ⟨by rfl, ?_⟩) HS1 ?_
            rotate_left 1
            · (intro W hW; (try dsimp only at hW); go_simp; try with_reducible rfl)
            try simp only [Act.put, List.setIfInBounds_toArray, List.set_cons_zero, List.set_cons_succ]
            refine d_call (i := 5) (by kernel_rfl) rfl (by rfl) (fun K hK => ?_)
            simp only [List.getElem_toArray, List.getElem_cons_succ, List.getElem_cons_zero]
            go_simp
            refine hK.out _ _ (fun _ => HS2) ?_
            clear hK K
            generalize (w8.alloc (.cells #[.int .u8 1, .int .u8 2] 5)).drew = w9 at *
            generalize w8.heap.size = bx at *
            try simp only [Act.put, List.setIfInBounds_toArray, List.set_cons_zero, List.set_cons_succ]
            refine d_call (i := 6) (by kernel_rfl) rfl (by rfl) (fun K hK => ?_)
            simp only [List.getElem_toArray, List.getElem_cons_succ, List.getElem_cons_zero]
            go_simp
            refine FI.out.mono ?_
            rintro e0 w10 ⟨rfl, o10, x10⟩
            have HS3 : (convert 32 9 (.slice (some ⟨sb, 0, none⟩) 64 64)).run Tryd.prog w10 = .ok (.string (str (fillL [1, 2]))) w10 := strRun (H8.out.1.ext x10)
            have cv := strRun o10.rd
            have H10 := Lib.hid (((H8.out.2.ex' x10).sub (Y := fun _ => False) (fun q h => h.elim)).mono (show i + 3 ≤ i + 1 + 2 from by omega))
            clear FI o10 x10
            go_simp
            refine hK.out _ _ (fun _ => HS3) ?_
            clear hK K
            try simp only [Act.put, List.setIfInBounds_toArray, List.set_cons_zero, List.set_cons_succ]
            refine d_call (i := 7) (by kernel_rfl) rfl (by rfl) (fun K hK => ?_)
            simp only [List.getElem_toArray, List.getElem_cons_succ, List.getElem_cons_zero]
            go_simp
            refine hK.out _ _ (fun _ => HS3) ?_
            clear hK K cv
            try simp only [Act.put, List.setIfInBounds_toArray, List.set_cons_zero, List.set_cons_succ]
            refine d_take (i := 8) (v := ?_) [] (some 82) rfl (by rfl) (by kernel_rfl) (by kernel_rfl) (by kernel_rfl) (by kernel_rfl) (by kernel_rfl) (by kernel_rfl) (fun _ _ _ h => h) (.inl ⟨by rfl, ?_⟩) HS3 ?_
            rotate_left 1
            · (intro W hW; (try dsimp only at hW); go_simp; try with_reducible rfl)
            try simp only [Act.put, List.setIfInBounds_toArray, List.set_cons_zero, List.set_cons_succ]
            refine d_take (i := 9) (v := ?_) [] (some 83) rfl (by rfl) (by kernel_rfl) (by kernel_rfl) (by kernel_rfl) (by kernel_rfl) (by kernel_rfl) (by kernel_rfl) (fun _ _ _ h => h) (.inl ⟨by rfl, ?_⟩) HS3 ?_
            rotate_left 1
            · (intro W hW; (try dsimp only at hW); go_simp; try with_reducible rfl)
            try simp only [Act.put, List.setIfInBounds_toArray, List.set_cons_zero, List.set_cons_succ]
            refine d_done (by kernel_rfl) ?_ _
            clear HS1 HS2 HS3
            go_wp2_with fail
            go_roundw
            case rel => exact ⟨i + 1, by go_num, by omega, by omega, H10.out⟩
            case measure => simp [intOf]; omega
        · have e1 : (o.K == 1) = false := by simpa using h1
          by_cases h2 : o.K = 2
          · have e2 : (o.K == 2) = true := by simpa using h2
            clear h1 h2
            by_cases h5 : o.I = 5
            · have h5e : (o.I == 5) = true := by simpa using h5
              have HA := Lib.hid (HB.out.2.mono (show i + 2 ≤ i + 3 from by omega))
              clear h5
              have RD := Lib.hid (HA.out.read HE.out (by omega))
              go_wp2_with fail
              refine RD.out.mono ?_
              rintro e0 w8 ⟨sb, rfl, r8, x8⟩
              have A8 := HA.out.ex' x8
              have HS1 : (convert 32 9 (.slice (some ⟨sb, 0, none⟩) 64 64)).run Tryd.prog w8.drew = .ok (.string (str (fillL [1, 2]))) w8.drew := strRun (r8.ext (Ext.refl w8).drew)
              have XB := ((Ext.refl w8).alloc (.cells #[.int .u8 1, .int .u8 2] 5)).drew
              have HS2 : (convert 32 9 (.slice (some ⟨sb, 0, none⟩) 64 64)).run Tryd.prog (w8.alloc (.cells #[.int .u8 1, .int .u8 2] 5)).drew = .ok (.string (str (fillL [1, 2]))) (w8.alloc (.cells #[.int .u8 1, .int .u8 2] 5)).drew := strRun (r8.ext XB)
              have FI := Lib.hid (filled_any (some ⟨w8.heap.size, 0, none⟩) 2 2 [1, 2] (w8.alloc (.cells #[.int .u8 1, .int .u8 2] 5)).drew (by omega) (Rd.new w8 #[.int .u8 1, .int .u8 2] 5 (0, 0)))
              have H8 := Lib.hid (And.intro (r8.ext XB) (A8.ex' XB))
              clear RD r8 x8 A8 XB
              go_upto_region 20 with (fail)
              refine d_region (fun W : World => (convert 32 9 (.slice (some ⟨sb, 0, none⟩) 64 64)).run Tryd.prog W = .ok (.string (str (fillL [1, 2]))) W) [] (by kernel_rfl) ?_
              refine d_take (i := 0) (v := ?_) [] (some 74) rfl (by rfl) (by kernel_rfl) (by kernel_rfl) (by kernel_rfl) (by kernel_rfl) (by kernel_rfl) (by kernel_rfl) (fun _ _ _ h => h) (.inl ⟨by rfl, ?_⟩) HS1 ?_
              rotate_left 1
              · (intro W hW; (try dsimp only at hW); go_simp; try with_reducible rfl)
              try simp only [Act.put, List.setIfInBounds_toArray, List.set_cons_zero, List.set_cons_succ]
              refine d_take (i := 1) (v := ?_) [] (some 75) rfl (by rfl) (by kernel_rfl) (by kernel_rfl) (by kernel_rfl) (by kernel_rfl) (by kernel_rfl) (by kernel_rfl) (fun _ _ _ h => h) (.inl ⟨by rfl, ?_⟩) HS1 ?_
              rotate_left 1
              · (intro W hW; (try dsimp only at hW); go_simp; try with_reducible rfl)
              try simp only [Act.put, List.setIfInBounds_toArray, List.set_cons_zero, List.set_cons_succ]
              refine d_take (i := 2) (v := ?_) [] (some 76) rfl (by rfl) (by kernel_rfl) (by kernel_rfl) (by kernel_rfl) (by kernel_rfl) (by kernel_rfl) (by kernel_rfl) (fun _ _ _ h => h) (.inl ⟨by rfl, ?_⟩) HS1 ?_
              rotate_left 1
              · (intro W hW; (try dsimp only at hW); go_simp; try with_reducible rfl)
              try simp only [Act.put, List.setIfInBounds_toArray, List.set_cons_zero, List.set_cons_succ]
              refine d_take (i := 3) (v := ?_) [] (some 77) rfl (by rfl) (by kernel_rfl) (by kernel_rfl) (by kernel_rfl) (by kernel_rfl) (by kernel_rfl) (by kernel_rfl) (fun _ _ _ h => h) (.inl ⟨by rfl, ?_⟩) HS1 ?_
              rotate_left 1
              · (intro W hW; (try dsimp only at hW); go_simp; try with_reducible rfl)
              try simp only [Act.put, List.setIfInBounds_toArray, List.set_cons_zero, List.set_cons_succ]
              refine d_take (i := 4) (v := ?_) [] (some 78) rfl (by rfl) (by kernel_rfl) (by kernel_rfl) (by kernel_rfl) (by kernel_rfl) (by kernel_rfl) (by kernel_rfl) (fun _ _ _ h => h) (.inl ⟨by rfl, ?_⟩) HS1 ?_
              rotate_left 1
              · (intro W hW; (try dsimp only at hW); go_simp; try with_reducible rfl)
              try simp only [Act.put, List.setIfInBounds_toArray, List.set_cons_zero, List.set_cons_succ]
              refine d_call (i := 5) (by kernel_rfl) rfl (by rfl) (fun K hK => ?_)
              simp only [List.getElem_toArray, List.getElem_cons_succ, List.getElem_cons_zero]
              go_simp
              refine hK.out _ _ (fun _ => HS2) ?_
              clear hK K
              generalize (w8.alloc (.cells #[.int .u8 1, .int .u8 2] 5)).drew = w9 at *
              generalize w8.heap.size = bx at *
              try simp only [Act.put, List.setIfInBounds_toArray, List.set_cons_zero, List.set_cons_succ]
              refine d_call (i := 6) (by kernel_rfl) rfl (by rfl) (fun K hK => ?_)
              simp only [List.getElem_toArray, List.getElem_cons_succ, List.getElem_cons_zero]
              go_simp
              refine FI.out.mono ?_
              rintro e0 w10 ⟨rfl, o10, x10⟩
              have HS3 : (convert 32 9 (.slice (some ⟨sb, 0, none⟩) 64 64)).run Tryd.prog w10 = .ok (.string (str (fillL [1, 2]))) w10 := strRun (H8.out.1.ext x10)
              have cv := strRun o10.rd
              have H10 := Lib.hid (((H8.out.2.ex' x10).sub (Y := fun _ => False) (fun q h => h.elim)).mono (show i + 3 ≤ i + 1 + 2 from by omega))
              clear FI o10 x10
              go_simp
              refine hK.out _ _ (fun _ => HS3) ?_
              clear hK K
              try simp only [Act.put, List.setIfInBounds_toArray, List.set_cons_zero, List.set_cons_succ]
              refine d_call (i := 7) (by kernel_rfl) rfl (by rfl) (fun K hK => ?_)
              simp only [List.getElem_toArray, List.getElem_cons_succ, List.getElem_cons_zero]
              go_simp
              refine hK.out _ _ (fun _ => HS3) ?_
              clear hK K cv
              try simp only [Act.put, List.setIfInBounds_toArray, List.set_cons_zero, List.set_cons_succ]
              refine d_take (i := 8) (v := ?_) [] (some 82) rfl (by rfl) (by kernel_rfl) (by kernel_rfl) (by kernel_rfl) (by kernel_rfl) (by kernel_rfl) (by kernel_rfl) (fun _ _ _ h => h) (.inl ⟨by rfl, ?_⟩) HS3 ?_
              rotate_left 1
              · (intro W hW; (try dsimp only at hW); go_simp; try with_reducible rfl)
              try simp only [Act.put, List.setIfInBounds_toArray, List.set_cons_zero, List.set_cons_succ]
              refine d_take (i := 9) (v := ?_) [] (some 83) rfl (by rfl) (by kernel_rfl) (by kernel_rfl) (by kernel_rfl) (by kernel_rfl) (by kernel_rfl) (by kernel_rfl) (fun _ _ _ h => h) (.inl ⟨by rfl, ?_⟩) HS3 ?_
              rotate_left 1
              · (intro W hW; (try dsimp only at hW); go_simp; try with_reducible rfl)
              try simp only [Act.put, List.setIfInBounds_toArray, List.set_cons_zero, List.set_cons_succ]
              refine d_done (by kernel_rfl) ?_ _
              clear HS1 HS2 HS3
              go_wp2_with fail
              go_roundw
              case rel => exact ⟨i + 1, by go_num, by omega, by omega, H10.out⟩
              case measure => simp [intOf]; omega
            · have h5e : (o.I == 5) = false := by simpa using h5
              have H5 := Lib.hid h5
              clear h5
              have HS1 : V.drew.cell? ⟨ob, 1, none⟩ = some (.int .i64 o.I) ∧ V.drew.cell? ⟨ob, 4, none⟩ = some (.slice o.A o.n o.c) := ⟨block_cell (w := V.drew) (show V.drew.heap[ob]? = _ from HB.out.1) 1, block_cell (w := V.drew) (show V.drew.heap[ob]? = _ from HB.out.1) 4⟩
              have AD := Lib.hid (And.intro (HB.out.2.ex' (Ext.refl V).drew) (show V.drew.heap[ob]? = some (.cells #[.int .i64 o.K, .int .i64 o.I, .int .i64 o.T, .int .u64 (o.kp : Int), .slice o.A o.n o.c] 42) from HB.out.1))
              have RO := Lib.hid (HOK.out.rd.ext (HB.out.2.wext.trans (Ext.refl V).drew))
              go_upto_region 14 with (fail)
              clear b0 b1
              refine d_region (fun W : World => W.cell? ⟨ob, 1, none⟩ = some (.int .i64 o.I) ∧ W.cell? ⟨ob, 4, none⟩ = some (.slice o.A o.n o.c)) [] (by kernel_rfl) ?_
              generalize V.drew = U at *
              have FI := Lib.hid (filled_any o.A o.n o.c o.l U (by have h1 := HOK.out.le; have h2 := HOK.out.small; omega) RO.out)
              refine d_take (i := 0) (v := ?_) [] (some 50) rfl (by rfl) (by kernel_rfl) (by kernel_rfl) (by kernel_rfl) (by kernel_rfl) (by kernel_rfl) (by kernel_rfl) (fun _ _ _ h => h) (.inl ⟨by rfl, ?_⟩) HS1 ?_
              rotate_left 1
              · (intro W hW; (try dsimp only at hW); go_simp; try with_reducible rfl)
              try simp only [Act.put, List.setIfInBounds_toArray, List.set_cons_zero, List.set_cons_succ]
              refine d_take (i := 1) (v := ?_) [] (some 51) rfl (by rfl) (by kernel_rfl) (by kernel_rfl) (by kernel_rfl) (by kernel_rfl) (by kernel_rfl) (by kernel_rfl) (fun _ _ _ h => h) (.inl ⟨by rfl, ?_⟩) HS1 ?_
              rotate_left 1
              · (intro W hW; (try dsimp only at hW); go_simp; try with_reducible rfl)
              try simp only [Act.put, List.setIfInBounds_toArray, List.set_cons_zero, List.set_cons_succ]
              refine d_take (i := 2) (v := ?_) [] (some 52) rfl (by rfl) (by kernel_rfl) (by kernel_rfl) (by kernel_rfl) (by kernel_rfl) (by kernel_rfl) (by kernel_rfl) (fun _ _ _ h => h) (.inl ⟨by rfl, ?_⟩) HS1 ?_
              rotate_left 1
              · (intro W hW; (try dsimp only at hW); go_simp; try with_reducible rfl)
              try simp only [Act.put, List.setIfInBounds_toArray, List.set_cons_zero, List.set_cons_succ]
              refine d_take (i := 3) (v := ?_) [] (some 53) rfl (by rfl) (by kernel_rfl) (by kernel_rfl) (by kernel_rfl) (by kernel_rfl) (by kernel_rfl) (by kernel_rfl) (fun _ _ _ h => h) (.inl ⟨by rfl, ?_⟩) HS1 ?_
              rotate_left 1
              · (intro W hW; (try dsimp only at hW); go_simp; try with_reducible rfl)
              try simp only [Act.put, List.setIfInBounds_toArray, List.set_cons_zero, List.set_cons_succ]
              refine d_take (i := 4) (v := ?_) [] (some 54) rfl (by rfl) (by kernel_rfl) (by kernel_rfl) (by kernel_rfl) (by kernel_rfl) (by kernel_rfl) (by kernel_rfl) (fun _ _ _ h => h) (.inl ⟨by rfl, ?_⟩) HS1 ?_
              rotate_left 1
              · (intro W hW; (try dsimp only at hW); go_simp; try with_reducible rfl)
              try simp only [Act.put, List.setIfInBounds_toArray, List.set_cons_zero, List.set_cons_succ]
              refine d_call (i := 5) (by kernel_rfl) rfl (by rfl) (fun K hK => ?_)
              simp only [List.getElem_toArray, List.getElem_cons_succ, List.getElem_cons_zero]
              go_simp
              refine FI.out.mono ?_
              rintro e0 w3 ⟨rfl, o3, x3⟩
              have ob3 := (x3.block ob (block_lt AD.out.2)).trans AD.out.2
              have HS2 : w3.cell? ⟨ob, 1, none⟩ = some (.int .i64 o.I) ∧ w3.cell? ⟨ob, 4, none⟩ = some (.slice o.A o.n o.c) := ⟨block_cell ob3 1, block_cell ob3 4⟩
              obtain ⟨v, WR⟩ := AD.out.1.write HE.out (by omega) x3 o3 o.I H5.out (fillL_sec HOK.out.byte)
              have WR := Lib.hid WR
              have OB3 := Lib.hid ob3
              clear FI o3 ob3 x3
              generalize U.heap.size = fb at *
              go_simp
              refine hK.out _ _ (fun _ => HS2) ?_
              clear hK K
              try simp only [Act.put, List.setIfInBounds_toArray, List.set_cons_zero, List.set_cons_succ]
              refine d_call (i := 6) (by kernel_rfl) rfl (by rfl) (fun K hK => ?_)
              simp only [List.getElem_toArray, List.getElem_cons_succ, List.getElem_cons_zero]
              go_simp
              refine WR.out.mono ?_
              rintro e0 w4 ⟨rfl, a4, kp4⟩
              have ob4 := (kp4 ob rfl).trans OB3.out
              have HS3 : w4.cell? ⟨ob, 1, none⟩ = some (.int .i64 o.I) ∧ w4.cell? ⟨ob, 4, none⟩ = some (.slice o.A o.n o.c) := ⟨block_cell ob4 1, block_cell ob4 4⟩
              have HA := Lib.hid a4
              clear WR a4 kp4 ob4
              go_simp
              refine hK.out _ _ (fun _ => HS3) ?_
              clear hK K
              try simp only [Act.put, List.setIfInBounds_toArray, List.set_cons_zero, List.set_cons_succ]
              refine d_done (by kernel_rfl) ?_ _
              clear HS1 HS2 HS3
              have RD := Lib.hid (HA.out.read HE.out (by omega))
              go_wp2_with fail
              refine RD.out.mono ?_
              rintro e0 w8 ⟨sb, rfl, r8, x8⟩
              have A8 := HA.out.ex' x8
              have HS1 : (convert 32 9 (.slice (some ⟨sb, 0, none⟩) 64 64)).run Tryd.prog w8.drew = .ok (.string (str (fillL [1, 2]))) w8.drew := strRun (r8.ext (Ext.refl w8).drew)
              have XB := ((Ext.refl w8).alloc (.cells #[.int .u8 1, .int .u8 2] 5)).drew
              have HS2 : (convert 32 9 (.slice (some ⟨sb, 0, none⟩) 64 64)).run Tryd.prog (w8.alloc (.cells #[.int .u8 1, .int .u8 2] 5)).drew = .ok (.string (str (fillL [1, 2]))) (w8.alloc (.cells #[.int .u8 1, .int .u8 2] 5)).drew := strRun (r8.ext XB)
              have FI := Lib.hid (filled_any (some ⟨w8.heap.size, 0, none⟩) 2 2 [1, 2] (w8.alloc (.cells #[.int .u8 1, .int .u8 2] 5)).drew (by omega) (Rd.new w8 #[.int .u8 1, .int .u8 2] 5 (0, 0)))
              have H8 := Lib.hid (And.intro (r8.ext XB) (A8.ex' XB))
              clear RD r8 x8 A8 XB
              go_upto_region 20 with (fail)
              refine d_region (fun W : World => (convert 32 9 (.slice (some ⟨sb, 0, none⟩) 64 64)).run Tryd.prog W = .ok (.string (str (fillL [1, 2]))) W) [] (by kernel_rfl) ?_
              refine d_take (i := 0) (v := ?_) [] (some 74) rfl (by rfl) (by kernel_rfl) (by kernel_rfl) (by kernel_rfl) (by kernel_rfl) (by kernel_rfl) (by kernel_rfl) (fun _ _ _ h => h) (.inl ⟨by rfl, ?_⟩) HS1 ?_
              rotate_left 1
              · (intro W hW; (try dsimp only at hW); go_simp; try with_reducible rfl)
              try simp only [Act.put, List.setIfInBounds_toArray, List.set_cons_zero, List.set_cons_succ]
              refine d_take (i := 1) (v := ?_) [] (some 75) rfl (by rfl) (by kernel_rfl) (by kernel_rfl) (by kernel_rfl) (by kernel_rfl) (by kernel_rfl) (by kernel_rfl) (fun _ _ _ h => h) (.inl ⟨by rfl, ?_⟩) HS1 ?_
              rotate_left 1
              · (intro W hW; (try dsimp only at hW); go_simp; try with_reducible rfl)
              try simp only [Act.put, List.setIfInBounds_toArray, List.set_cons_zero, List.set_cons_succ]
              refine d_take (i := 2) (v := ?_) [] (some 76) rfl (by rfl) (by kernel_rfl) (by kernel_rfl) (by kernel_rfl) (by kernel_rfl) (by kernel_rfl) (by kernel_rfl) (fun _ _ _ h => h) (.inl ⟨by rfl, ?_⟩) HS1 ?_
              rotate_left 1
              · (intro W hW; (try dsimp only at hW); go_simp; try with_reducible rfl)
              try simp only [Act.put, List.setIfInBounds_toArray, List.set_cons_zero, List.set_cons_succ]
              refine d_take (i := 3) (v := ?_) [] (some 77) rfl (by rfl) (by kernel_rfl) (by kernel_rfl) (by kernel_rfl) (by kernel_rfl) (by kernel_rfl) (by kernel_rfl) (fun _ _ _ h => h) (.inl ⟨by rfl, ?_⟩) HS1 ?_
              rotate_left 1
              · (intro W hW; (try dsimp only at hW); go_simp; try with_reducible rfl)
              try simp only [Act.put, List.setIfInBounds_toArray, List.set_cons_zero, List.set_cons_succ]
              refine d_take (i := 4) (v := ?_) [] (some 78) rfl (by rfl) (by kernel_rfl) (by kernel_rfl) (by kernel_rfl) (by kernel_rfl) (by kernel_rfl) (by kernel_rfl) (fun _ _ _ h => h) (.inl ⟨by rfl, ?_⟩) HS1 ?_
              rotate_left 1
              · (intro W hW; (try dsimp only at hW); go_simp; try with_reducible rfl)
              try simp only [Act.put, List.setIfInBounds_toArray, List.set_cons_zero, List.set_cons_succ]
              refine d_call (i := 5) (by kernel_rfl) rfl (by rfl) (fun K hK => ?_)
              simp only [List.getElem_toArray, List.getElem_cons_succ, List.getElem_cons_zero]
              go_simp
              refine hK.out _ _ (fun _ => HS2) ?_
              clear hK K
              generalize (w8.alloc (.cells #[.int .u8 1, .int .u8 2] 5)).drew = w9 at *
              generalize w8.heap.size = bx at *
              try simp only [Act.put, List.setIfInBounds_toArray, List.set_cons_zero, List.set_cons_succ]
              refine d_call (i := 6) (by kernel_rfl) rfl (by rfl) (fun K hK => ?_)
              simp only [List.getElem_toArray, List.getElem_cons_succ, List.getElem_cons_zero]
              go_simp
              refine FI.out.mono ?_
              rintro e0 w10 ⟨rfl, o10, x10⟩
              have HS3 : (convert 32 9 (.slice (some ⟨sb, 0, none⟩) 64 64)).run Tryd.prog w10 = .ok (.string (str (fillL [1, 2]))) w10 := strRun (H8.out.1.ext x10)
              have cv := strRun o10.rd
              have H10 := Lib.hid (((H8.out.2.ex' x10).sub (Y := fun _ => False) (fun q h => h.elim)).mono (show i + 3 ≤ i + 1 + 2 from by omega))
              clear FI o10 x10
              go_simp
              refine hK.out _ _ (fun _ => HS3) ?_
              clear hK K
              try simp only [Act.put, List.setIfInBounds_toArray, List.set_cons_zero, List.set_cons_succ]
              refine d_call (i := 7) (by kernel_rfl) rfl (by rfl) (fun K hK => ?_)
              simp only [List.getElem_toArray, List.getElem_cons_succ, List.getElem_cons_zero]
              go_simp
              refine hK.out _ _ (fun _ => HS3) ?_
              clear hK K cv
              try simp only [Act.put, List.setIfInBounds_toArray, List.set_cons_zero, List.set_cons_succ]
              refine d_take (i := 8) (v := ?_) [] (some 82) rfl (by rfl) (by kernel_rfl) (by kernel_rfl) (by kernel_rfl) (by kernel_rfl) (by kernel_rfl) (by kernel_rfl) (fun _ _ _ h => h) (.inl ⟨by rfl, ?_⟩) HS3 ?_
              rotate_left 1
              · (intro W hW; (try dsimp only at hW); go_simp; try with_reducible rfl)
              try simp only [Act.put, List.setIfInBounds_toArray, List.set_cons_zero, List.set_cons_succ]
              refine d_take (i := 9) (v := ?_) [] (some 83) rfl (by rfl) (by kernel_rfl) (by kernel_rfl) (by kernel_rfl) (by kernel_rfl) (by kernel_rfl) (by kernel_rfl) (fun _ _ _ h => h) (.inl ⟨by rfl, ?_⟩) HS3 ?_
              rotate_left 1
              · (intro W hW; (try dsimp only at hW); go_simp; try with_reducible rfl)
              try simp only [Act.put, List.setIfInBounds_toArray, List.set_cons_zero, List.set_cons_succ]
              refine d_done (by kernel_rfl) ?_ _
              clear HS1 HS2 HS3
              go_wp2_with fail
              go_roundw
              case rel => exact ⟨i + 1, by go_num, by omega, by omega, H10.out⟩
              case measure => simp [intOf]; omega
          · have e2 : (o.K == 2) = false := by simpa using h2
            by_cases h4 : o.K = 4
            · have e4 : (o.K == 4) = true := by simpa using h4
              clear h1 h2 h4
              have FL := Lib.hid (HB.out.2.flush (by omega))
              go_wp2_with fail
              clear b0 b1
              refine FL.out.mono ?_
              rintro e0 w4 ⟨rfl, a4⟩
              have HA := Lib.hid (a4.mono (show i + 2 ≤ i + 3 from by omega))
              clear FL a4
              have RD := Lib.hid (HA.out.read HE.out (by omega))
              go_wp2_with fail
              refine RD.out.mono ?_
              rintro e0 w8 ⟨sb, rfl, r8, x8⟩
              have A8 := HA.out.ex' x8
              have HS1 : (convert 32 9 (.slice (some ⟨sb, 0, none⟩) 64 64)).run Tryd.prog w8.drew = .ok (.string (str (fillL [1, 2]))) w8.drew := strRun (r8.ext (Ext.refl w8).drew)
              have XB := ((Ext.refl w8).alloc (.cells #[.int .u8 1, .int .u8 2] 5)).drew
              have HS2 : (convert 32 9 (.slice (some ⟨sb, 0, none⟩) 64 64)).run Tryd.prog (w8.alloc (.cells #[.int .u8 1, .int .u8 2] 5)).drew = .ok (.string (str (fillL [1, 2]))) (w8.alloc (.cells #[.int .u8 1, .int .u8 2] 5)).drew := strRun (r8.ext XB)
              have FI := Lib.hid (filled_any (some ⟨w8.heap.size, 0, none⟩) 2 2 [1, 2] (w8.alloc (.cells #[.int .u8 1, .int .u8 2] 5)).drew (by omega) (Rd.new w8 #[.int .u8 1, .int .u8 2] 5 (0, 0)))
              have H8 := Lib.hid (And.intro (r8.ext XB) (A8.ex' XB))
              clear RD r8 x8 A8 XB
              go_upto_region 20 with (fail)
              refine d_region (fun W : World => (convert 32 9 (.slice (some ⟨sb, 0, none⟩) 64 64)).run Tryd.prog W = .ok (.string (str (fillL [1, 2]))) W) [] (by kernel_rfl) ?_
              refine d_take (i := 0) (v := ?_) [] (some 74) rfl (by rfl) (by kernel_rfl) (by kernel_rfl) (by kernel_rfl) (by kernel_rfl) (by kernel_rfl) (by kernel_rfl) (fun _ _ _ h => h) (.inl ⟨by rfl, ?_⟩) HS1 ?_
              rotate_left 1
              · (intro W hW; (try dsimp only at hW); go_simp; try with_reducible rfl)
              try simp only [Act.put, List.setIfInBounds_toArray, List.set_cons_zero, List.set_cons_succ]
              refine d_take (i := 1) (v := ?_) [] (some 75) rfl (by rfl) (by kernel_rfl) (by kernel_rfl) (by kernel_rfl) (by kernel_rfl) (by kernel_rfl) (by kernel_rfl) (fun _ _ _ h => h) (.inl ⟨by rfl, ?_⟩) HS1 ?_
              rotate_left 1
              · (intro W hW; (try dsimp only at hW); go_simp; try with_reducible rfl)
              try simp only [Act.put, List.setIfInBounds_toArray, List.set_cons_zero, List.set_cons_succ]
              refine d_take (i := 2) (v := ?_) [] (some 76) rfl (by rfl) (by kernel_rfl) (by kernel_rfl) (by kernel_rfl) (by kernel_rfl) (by kernel_rfl) (by kernel_rfl) (fun _ _ _ h => h) (.inl ⟨by rfl, ?_⟩) HS1 ?_
              rotate_left 1
              · (intro W hW; (try dsimp only at hW); go_simp; try with_reducible rfl)
              try simp only [Act.put, List.setIfInBounds_toArray, List.set_cons_zero, List.set_cons_succ]
              refine d_take (i := 3) (v := ?_) [] (some 77) rfl (by rfl) (by kernel_rfl) (by kernel_rfl) (by kernel_rfl) (by kernel_rfl) (by kernel_rfl) (by kernel_rfl) (fun _ _ _ h => h) (.inl ⟨by rfl, ?_⟩) HS1 ?_
              rotate_left 1
              · (intro W hW; (try dsimp only at hW); go_simp; try with_reducible rfl)
              try simp only [Act.put, List.setIfInBounds_toArray, List.set_cons_zero, List.set_cons_succ]
              refine d_take (i := 4) (v := ?_) [] (some 78) rfl (by rfl) (by kernel_rfl) (by kernel_rfl) (by kernel_rfl) (by kernel_rfl) (by kernel_rfl) (by kernel_rfl) (fun _ _ _ h => h) (.inl ⟨by rfl, ?_⟩) HS1 ?_
              rotate_left 1
              · (intro W hW; (try dsimp only at hW); go_simp; try with_reducible rfl)
              try simp only [Act.put, List.setIfInBounds_toArray, List.set_cons_zero, List.set_cons_succ]
              refine d_call (i := 5) (by kernel_rfl) rfl (by rfl) (fun K hK => ?_)
              simp only [List.getElem_toArray, List.getElem_cons_succ, List.getElem_cons_zero]
              go_simp
              refine hK.out _ _ (fun _ => HS2) ?_
              clear hK K
              generalize (w8.alloc (.cells #[.int .u8 1, .int .u8 2] 5)).drew = w9 at *
              generalize w8.heap.size = bx at *
              try simp only [Act.put, List.setIfInBounds_toArray, List.set_cons_zero, List.set_cons_succ]
              refine d_call (i := 6) (by kernel_rfl) rfl (by rfl) (fun K hK => ?_)
              simp only [List.getElem_toArray, List.getElem_cons_succ, List.getElem_cons_zero]
              go_simp
              refine FI.out.mono ?_
              rintro e0 w10 ⟨rfl, o10, x10⟩
              have HS3 : (convert 32 9 (.slice (some ⟨sb, 0, none⟩) 64 64)).run Tryd.prog w10 = .ok (.string (str (fillL [1, 2]))) w10 := strRun (H8.out.1.ext x10)
              have cv := strRun o10.rd
              have H10 := Lib.hid (((H8.out.2.ex' x10).sub (Y := fun _ => False) (fun q h => h.elim)).mono (show i + 3 ≤ i + 1 + 2 from by omega))
              clear FI o10 x10
              go_simp
              refine hK.out _ _ (fun _ => HS3) ?_
              clear hK K
              try simp only [Act.put, List.setIfInBounds_toArray, List.set_cons_zero, List.set_cons_succ]
              refine d_call (i := 7) (by kernel_rfl) rfl (by rfl) (fun K hK => ?_)
              simp only [List.getElem_toArray, List.getElem_cons_succ, List.getElem_cons_zero]
              go_simp
              refine hK.out _ _ (fun _ => HS3) ?_
              clear hK K cv
              try simp only [Act.put, List.setIfInBounds_toArray, List.set_cons_zero, List.set_cons_succ]
              refine d_take (i := 8) (v := ?_) [] (some 82) rfl (by rfl) (by kernel_rfl) (by kernel_rfl) (by kernel_rfl) (by kernel_rfl) (by kernel_rfl) (by kernel_rfl) (fun _ _ _ h => h) (.inl ⟨by rfl, ?_⟩) HS3 ?_
              rotate_left 1
              · (intro W hW; (try dsimp only at hW); go_simp; try with_reducible rfl)
              try simp only [Act.put, List.setIfInBounds_toArray, List.set_cons_zero, List.set_cons_succ]
              refine d_take (i := 9) (v := ?_) [] (some 83) rfl (by rfl) (by kernel_rfl) (by kernel_rfl) (by kernel_rfl) (by kernel_rfl) (by kernel_rfl) (by kernel_rfl) (fun _ _ _ h => h) (.inl ⟨by rfl, ?_⟩) HS3 ?_
              rotate_left 1
              · (intro W hW; (try dsimp only at hW); go_simp; try with_reducible rfl)
              try simp only [Act.put, List.setIfInBounds_toArray, List.set_cons_zero, List.set_cons_succ]
              refine d_done (by kernel_rfl) ?_ _
              clear HS1 HS2 HS3
              go_wp2_with fail
              go_roundw
              case rel => exact ⟨i + 1, by go_num, by omega, by omega, H10.out⟩
              case measure => simp [intOf]; omega
            · have e4 : (o.K == 4) = false := by simpa using h4
              by_cases h5 : o.K = 5
              · have e5 : (o.K == 5) = true := by simpa using h5
                clear h1 h2 h4 h5
                have b2 : V.cell? ⟨ob, 2, none⟩ = some (.int .i64 o.T) := block_cell HB.out.1 2
                have b3 : V.cell? ⟨ob, 3, none⟩ = some (.int .u64 (o.kp : Int)) := block_cell HB.out.1 3
                have CR := Lib.hid (HB.out.2.crash (by omega) o.kp HOK.out.ik o.T)
                go_wp2_with fail
                clear b0 b1 b2 b3
                refine CR.out.mono ?_
                rintro e0 w4 ⟨rfl, a4⟩
                have HA := Lib.hid (a4.mono (show i + 2 ≤ i + 3 from by omega))
                clear CR a4
                have RD := Lib.hid (HA.out.read HE.out (by omega))
                go_wp2_with fail
                refine RD.out.mono ?_
                rintro e0 w8 ⟨sb, rfl, r8, x8⟩
                have A8 := HA.out.ex' x8
                have HS1 : (convert 32 9 (.slice (some ⟨sb, 0, none⟩) 64 64)).run Tryd.prog w8.drew = .ok (.string (str (fillL [1, 2]))) w8.drew := strRun (r8.ext (Ext.refl w8).drew)
                have XB := ((Ext.refl w8).alloc (.cells #[.int .u8 1, .int .u8 2] 5)).drew
                have HS2 : (convert 32 9 (.slice (some ⟨sb, 0, none⟩) 64 64)).run Tryd.prog (w8.alloc (.cells #[.int .u8 1, .int .u8 2] 5)).drew = .ok (.string (str (fillL [1, 2]))) (w8.alloc (.cells #[.int .u8 1, .int .u8 2] 5)).drew := strRun (r8.ext XB)
                have FI := Lib.hid (filled_any (some ⟨w8.heap.size, 0, none⟩) 2 2 [1, 2] (w8.alloc (.cells #[.int .u8 1, .int .u8 2] 5)).drew (by omega) (Rd.new w8 #[.int .u8 1, .int .u8 2] 5 (0, 0)))
                have H8 := Lib.hid (And.intro (r8.ext XB) (A8.ex' XB))
                clear RD r8 x8 A8 XB
                go_upto_region 20 with (fail)
                refine d_region (fun W : World => (convert 32 9 (.slice (some ⟨sb, 0, none⟩) 64 64)).run Tryd.prog W = .ok (.string (str (fillL [1, 2]))) W) [] (by kernel_rfl) ?_
                refine d_take (i := 0) (v := ?_) [] (some 74) rfl (by rfl) (by kernel_rfl) (by kernel_rfl) (by kernel_rfl) (by kernel_rfl) (by kernel_rfl) (by kernel_rfl) (fun _ _ _ h => h) (.inl ⟨by rfl, ?_⟩) HS1 ?_
                rotate_left 1
                · (intro W hW; (try dsimp only at hW); go_simp; try with_reducible rfl)
                try simp only [Act.put, List.setIfInBounds_toArray, List.set_cons_zero, List.set_cons_succ]
                refine d_take (i := 1) (v := ?_) [] (some 75) rfl (by rfl) (by kernel_rfl) (by kernel_rfl) (by kernel_rfl) (by kernel_rfl) (by kernel_rfl) (by kernel_rfl) (fun _ _ _ h => h) (.inl ⟨by rfl, ?_⟩) HS1 ?_
                rotate_left 1
                · (intro W hW; (try dsimp only at hW); go_simp; try with_reducible rfl)
                try simp only [Act.put, List.setIfInBounds_toArray, List.set_cons_zero, List.set_cons_succ]
                refine d_take (i := 2) (v := ?_) [] (some 76) rfl (by rfl) (by kernel_rfl) (by kernel_rfl) (by kernel_rfl) (by kernel_rfl) (by kernel_rfl) (by kernel_rfl) (fun _ _ _ h => h) (.inl ⟨by rfl, ?_⟩) HS1 ?_
                rotate_left 1
                · (intro W hW; (try dsimp only at hW); go_simp; try with_reducible rfl)
                try simp only [Act.put, List.setIfInBounds_toArray, List.set_cons_zero, List.set_cons_succ]
                refine d_take (i := 3) (v := ?_) [] (some 77) rfl (by rfl) (by kernel_rfl) (by kernel_rfl) (by kernel_rfl) (by kernel_rfl) (by kernel_rfl) (by kernel_rfl) (fun _ _ _ h => h) (.inl ⟨by rfl, ?_⟩) HS1 ?_
                rotate_left 1
                · (intro W hW; (try dsimp only at hW); go_simp; try with_reducible rfl)
                try simp only [Act.put, List.setIfInBounds_toArray, List.set_cons_zero, List.set_cons_succ]
                refine d_take (i := 4) (v := ?_) [] (some 78) rfl (by rfl) (by kernel_rfl) (by kernel_rfl) (by kernel_rfl) (by kernel_rfl) (by kernel_rfl) (by kernel_rfl) (fun _ _ _ h => h) (.inl ⟨by rfl, ?_⟩) HS1 ?_
                rotate_left 1
                · (intro W hW; (try dsimp only at hW); go_simp; try with_reducible rfl)
                try simp only [Act.put, List.setIfInBounds_toArray, List.set_cons_zero, List.set_cons_succ]
                refine d_call (i := 5) (by kernel_rfl) rfl (by rfl) (fun K hK => ?_)
                simp only [List.getElem_toArray, List.getElem_cons_succ, List.getElem_cons_zero]
                go_simp
                refine hK.out _ _ (fun _ => HS2) ?_
                clear hK K
                generalize (w8.alloc (.cells #[.int .u8 1, .int .u8 2] 5)).drew = w9 at *
                generalize w8.heap.size = bx at *
                try simp only [Act.put, List.setIfInBounds_toArray, List.set_cons_zero, List.set_cons_succ]
                refine d_call (i := 6) (by kernel_rfl) rfl (by rfl) (fun K hK => ?_)
                simp only [List.getElem_toArray, List.getElem_cons_succ, List.getElem_cons_zero]
                go_simp
                refine FI.out.mono ?_
                rintro e0 w10 ⟨rfl, o10, x10⟩
                have HS3 : (convert 32 9 (.slice (some ⟨sb, 0, none⟩) 64 64)).run Tryd.prog w10 = .ok (.string (str (fillL [1, 2]))) w10 := strRun (H8.out.1.ext x10)
                have cv := strRun o10.rd
                have H10 := Lib.hid (((H8.out.2.ex' x10).sub (Y := fun _ => False) (fun q h => h.elim)).mono (show i + 3 ≤ i + 1 + 2 from by omega))
                clear FI o10 x10
                go_simp
                refine hK.out _ _ (fun _ => HS3) ?_
                clear hK K
                try simp only [Act.put, List.setIfInBounds_toArray, List.set_cons_zero, List.set_cons_succ]
                refine d_call (i := 7) (by kernel_rfl) rfl (by rfl) (fun K hK => ?_)
                simp only [List.getElem_toArray, List.getElem_cons_succ, List.getElem_cons_zero]
                go_simp
                refine hK.out _ _ (fun _ => HS3) ?_
                clear hK K cv
                try simp only [Act.put, List.setIfInBounds_toArray, List.set_cons_zero, List.set_cons_succ]
                refine d_take (i := 8) (v := ?_) [] (some 82) rfl (by rfl) (by kernel_rfl) (by kernel_rfl) (by kernel_rfl) (by kernel_rfl) (by kernel_rfl) (by kernel_rfl) (fun _ _ _ h => h) (.inl ⟨by rfl, ?_⟩) HS3 ?_
                rotate_left 1
                · (intro W hW; (try dsimp only at hW); go_simp; try with_reducible rfl)
                try simp only [Act.put, List.setIfInBounds_toArray, List.set_cons_zero, List.set_cons_succ]
                refine d_take (i := 9) (v := ?_) [] (some 83) rfl (by rfl) (by kernel_rfl) (by kernel_rfl) (by kernel_rfl) (by kernel_rfl) (by kernel_rfl) (by kernel_rfl) (fun _ _ _ h => h) (.inl ⟨by rfl, ?_⟩) HS3 ?_
                rotate_left 1
                · (intro W hW; (try dsimp only at hW); go_simp; try with_reducible rfl)
                try simp only [Act.put, List.setIfInBounds_toArray, List.set_cons_zero, List.set_cons_succ]
                refine d_done (by kernel_rfl) ?_ _
                clear HS1 HS2 HS3
                go_wp2_with fail
                go_roundw
                case rel => exact ⟨i + 1, by go_num, by omega, by omega, H10.out⟩
                case measure => simp [intOf]; omega
              · have e5 : (o.K == 5) = false := by simpa using h5
                clear h1 h2 h4 h5
                have HA := Lib.hid (HB.out.2.mono (show i + 2 ≤ i + 3 from by omega))
                have RD := Lib.hid (HA.out.read HE.out (by omega))
                go_wp2_with fail
                refine RD.out.mono ?_
                rintro e0 w8 ⟨sb, rfl, r8, x8⟩
                have A8 := HA.out.ex' x8
                have HS1 : (convert 32 9 (.slice (some ⟨sb, 0, none⟩) 64 64)).run Tryd.prog w8.drew = .ok (.string (str (fillL [1, 2]))) w8.drew := strRun (r8.ext (Ext.refl w8).drew)
                have XB := ((Ext.refl w8).alloc (.cells #[.int .u8 1, .int .u8 2] 5)).drew
                have HS2 : (convert 32 9 (.slice (some ⟨sb, 0, none⟩) 64 64)).run Tryd.prog (w8.alloc (.cells #[.int .u8 1, .int .u8 2] 5)).drew = .ok (.string (str (fillL [1, 2]))) (w8.alloc (.cells #[.int .u8 1, .int .u8 2] 5)).drew := strRun (r8.ext XB)
                have FI := Lib.hid (filled_any (some ⟨w8.heap.size, 0, none⟩) 2 2 [1, 2] (w8.alloc (.cells #[.int .u8 1, .int .u8 2] 5)).drew (by omega) (Rd.new w8 #[.int .u8 1, .int .u8 2] 5 (0, 0)))
                have H8 := Lib.hid (And.intro (r8.ext XB) (A8.ex' XB))
                clear RD r8 x8 A8 XB
                go_upto_region 20 with (fail)
                refine d_region (fun W : World => (convert 32 9 (.slice (some ⟨sb, 0, none⟩) 64 64)).run Tryd.prog W = .ok (.string (str (fillL [1, 2]))) W) [] (by kernel_rfl) ?_
                refine d_take (i := 0) (v := ?_) [] (some 74) rfl (by rfl) (by kernel_rfl) (by kernel_rfl) (by kernel_rfl) (by kernel_rfl) (by kernel_rfl) (by kernel_rfl) (fun _ _ _ h => h) (.inl ⟨by rfl, ?_⟩) HS1 ?_
                rotate_left 1
                · (intro W hW; (try dsimp only at hW); go_simp; try with_reducible rfl)
                try simp only [Act.put, List.setIfInBounds_toArray, List.set_cons_zero, List.set_cons_succ]
                refine d_take (i := 1) (v := ?_) [] (some 75) rfl (by rfl) (by kernel_rfl) (by kernel_rfl) (by kernel_rfl) (by kernel_rfl) (by kernel_rfl) (by kernel_rfl) (fun _ _ _ h => h) (.inl ⟨by rfl, ?_⟩) HS1 ?_
                rotate_left 1
                · (intro W hW; (try dsimp only at hW); go_simp; try with_reducible rfl)
                try simp only [Act.put, List.setIfInBounds_toArray, List.set_cons_zero, List.set_cons_succ]
                refine d_take (i := 2) (v := ?_) [] (some 76) rfl (by rfl) (by kernel_rfl) (by kernel_rfl) (by kernel_rfl) (by kernel_rfl) (by kernel_rfl) (by kernel_rfl) (fun _ _ _ h => h) (.inl ⟨by rfl, ?_⟩) HS1 ?_
                rotate_left 1
                · (intro W hW; (try dsimp only at hW); go_simp; try with_reducible rfl)
                try simp only [Act.put, List.setIfInBounds_toArray, List.set_cons_zero, List.set_cons_succ]
                refine d_take (i := 3) (v := ?_) [] (some 77) rfl (by rfl) (by kernel_rfl) (by kernel_rfl) (by kernel_rfl) (by kernel_rfl) (by kernel_rfl) (by kernel_rfl) (fun _ _ _ h => h) (.inl ⟨by rfl, ?_⟩) HS1 ?_
                rotate_left 1
                · (intro W hW; (try dsimp only at hW); go_simp; try with_reducible rfl)
                try simp only [Act.put, List.setIfInBounds_toArray, List.set_cons_zero, List.set_cons_succ]
                refine d_take (i := 4) (v := ?_) [] (some 78) rfl (by rfl) (by kernel_rfl) (by kernel_rfl) (by kernel_rfl) (by kernel_rfl) (by kernel_rfl) (by kernel_rfl) (fun _ _ _ h => h) (.inl ⟨by rfl, ?_⟩) HS1 ?_
                rotate_left 1
                · (intro W hW; (try dsimp only at hW); go_simp; try with_reducible rfl)
                try simp only [Act.put, List.setIfInBounds_toArray, List.set_cons_zero, List.set_cons_succ]
                refine d_call (i := 5) (by kernel_rfl) rfl (by rfl) (fun K hK => ?_)
                simp only [List.getElem_toArray, List.getElem_cons_succ, List.getElem_cons_zero]
                go_simp
                refine hK.out _ _ (fun _ => HS2) ?_
                clear hK K
                generalize (w8.alloc (.cells #[.int .u8 1, .int .u8 2] 5)).drew = w9 at *
                generalize w8.heap.size = bx at *
                try simp only [Act.put, List.setIfInBounds_toArray, List.set_cons_zero, List.set_cons_succ]
                refine d_call (i := 6) (by kernel_rfl) rfl (by rfl) (fun K hK => ?_)
                simp only [List.getElem_toArray, List.getElem_cons_succ, List.getElem_cons_zero]
                go_simp
                refine FI.out.mono ?_
                rintro e0 w10 ⟨rfl, o10, x10⟩
                have HS3 : (convert 32 9 (.slice (some ⟨sb, 0, none⟩) 64 64)).run Tryd.prog w10 = .ok (.string (str (fillL [1, 2]))) w10 := strRun (H8.out.1.ext x10)
                have cv := strRun o10.rd
                have H10 := Lib.hid (((H8.out.2.ex' x10).sub (Y := fun _ => False) (fun q h => h.elim)).mono (show i + 3 ≤ i + 1 + 2 from by omega))
                clear FI o10 x10
                go_simp
                refine hK.out _ _ (fun _ => HS3) ?_
                clear hK K
                try simp only [Act.put, List.setIfInBounds_toArray, List.set_cons_zero, List.set_cons_succ]
                refine d_call (i := 7) (by kernel_rfl) rfl (by rfl) (fun K hK => ?_)
                simp only [List.getElem_toArray, List.getElem_cons_succ, List.getElem_cons_zero]
                go_simp
                refine hK.out _ _ (fun _ => HS3) ?_
                clear hK K cv
                try simp only [Act.put, List.setIfInBounds_toArray, List.set_cons_zero, List.set_cons_succ]
                refine d_take (i := 8) (v := ?_) [] (some 82) rfl (by rfl) (by kernel_rfl) (by kernel_rfl) (by kernel_rfl) (by kernel_rfl) (by kernel_rfl) (by kernel_rfl) (fun _ _ _ h => h) (.inl ⟨by rfl, ?_⟩) HS3 ?_
                rotate_left 1
                · (intro W hW; (try dsimp only at hW); go_simp; try with_reducible rfl)
                try simp only [Act.put, List.setIfInBounds_toArray, List.set_cons_zero, List.set_cons_succ]
                refine d_take (i := 9) (v := ?_) [] (some 83) rfl (by rfl) (by kernel_rfl) (by kernel_rfl) (by kernel_rfl) (by kernel_rfl) (by kernel_rfl) (by kernel_rfl) (fun _ _ _ h => h) (.inl ⟨by rfl, ?_⟩) HS3 ?_
                rotate_left 1
                · (intro W hW; (try dsimp only at hW); go_simp; try with_reducible rfl)
                try simp only [Act.put, List.setIfInBounds_toArray, List.set_cons_zero, List.set_cons_succ]
                refine d_done (by kernel_rfl) ?_ _
                clear HS1 HS2 HS3
                go_wp2_with fail
                go_roundw
                case rel => exact ⟨i + 1, by go_num, by omega, by omega, H10.out⟩
                case measure => simp [intOf]; omega
    · obtain rfl : n = i := by omega
      go_wp2_with fail
      go_returns
      exact ⟨rfl, HI.out.wext⟩
end Go.Proofs.YtchkeclhnbekkaaDoor
