/-
  slices.Delete of one letter, walked.
-/
import Derived.Test.YteaainepnelehaaDoorNtPut
import Derived.StillTailTactics
namespace Go.Proofs.YteaainepnelehaaDoor
set_option maxRecDepth 100000
open Go.RowKit
set_option linter.unusedVariables false
theorem zeroLet : ∀ w, (zeroValue 46).run Tryd.prog w = .ok (.agg #[.int .i64 0, .int .i64 0, .int .i64 0, .slice none 0 0]) w := fun w => by kernel_rfl
theorem zeros1 : (Builtin.zeroCells (Value.agg #[.int .i64 0, .int .i64 0, .int .i64 0, .slice none 0 0]).cells 1).toList = [.int .i64 0, .int .i64 0, .int .i64 0, .slice none 0 0] := by kernel_rfl
theorem clear_one {w : World} {base S m c : Nat} {xs : List Value} (h : Own w base 46 4 (some ⟨S, 0, none⟩) m c xs) (hm : m < c) {ty : TypeId} {o d : Nat} (ho : m * 4 = o) :
    ∃ w', (Builtin.clear_ #[49] ty #[.slice (some ⟨S, o, none⟩) 1 d]).run Tryd.prog w = .ok (.tuple #[]) w' ∧ Own w' base 46 4 (some ⟨S, 0, none⟩) m c xs ∧ Fr w w' (· = S) := by
  refine ⟨_, run_clear_rows eltLet zeroLet ?_ (by omega) (fun j hj => h.roomCell (by omega)) (fun j hj => h.frozenAt (o + j)) ?_, h.behind _ o (by omega), Fr.setCells _ o w⟩
  · rw [zeros1]
    intro u hu
    simp only [List.mem_cons, List.not_mem_nil, or_false] at hu
    rcases hu with rfl | rfl | rfl | rfl <;> rfl
  · rw [zeros1]
    rfl
theorem erase_rows (ls : List LetV) (i : Nat) : (lrows ls).flatten.take (i * 4) ++ (lrows ls).flatten.drop ((i + 1) * 4) = (lrows (ls.eraseIdx i)).flatten := by
  rw [(lrows_even ls).take, (lrows_even ls).drop, ← List.flatten_append]
  congr 1
  simp only [lrows, ← List.map_take, ← List.map_drop, ← List.map_append]
  rw [List.eraseIdx_eq_take_drop_succ]
set_option maxHeartbeats 3200000 in
theorem delete_any {w : World} {base S m c i : Nat} {ls : List LetV} (h : Own w base 46 4 (some ⟨S, 0, none⟩) m c (lrows ls).flatten) (hi : i < m) (hm : m ≤ 4096) :
    Calls Tryd.prog 26 #[.slice (some ⟨S, 0, none⟩) m c, .int .i64 (i : Int), .int .i64 ((i : Int) + 1)] w fun e w' =>
      e = .returned (.slice (some ⟨S, 0, none⟩) (m - 1) c) ∧ Own w' base 46 4 (some ⟨S, 0, none⟩) (m - 1) c (lrows (ls.eraseIdx i)).flatten ∧ Fr w w' (· = S) := by
  have hmc := h.cap_le
  obtain ⟨j, hj⟩ : ∃ j, i + 1 = j := ⟨_, rfl⟩
  have hji : (i : Int) + 1 = (j : Int) := by omega
  rw [hji]
  have h1 := h.cutTo (k := i) (by omega) (.inl (by simp))
  have h2 := h.rd.cut (k := j) (cap := c) (by omega) hmc
  have HE := Lib.hid (show (lrows ls).flatten.take (i * 4) ++ (lrows ls).flatten.drop (j * 4) = (lrows (ls.eraseIdx i)).flatten by rw [← hj]; exact erase_rows ls i)
  have hlt := h.lt
  have hjm : j ≤ m := by omega
  have n1 : i + (m - j) = m - 1 := by omega
  have i0 : (0 : Int) ≤ i := by omega
  have i1 : (i : Int) ≤ (j : Int) := by omega
  have i2 : (j : Int) ≤ (m : Int) := by omega
  have i3 : (m : Int) ≤ (c : Int) := by omega
  have h3 := run_slice3 eltLet (some ⟨S, 0, none⟩) m c .i64 .i64 j m hjm hmc
  have hne : ((i : Int) == (j : Int)) = false := by simp; omega
  have HB := Lib.hid (And.intro h (And.intro h1 h2))
  clear h h1 h2
  go_enter Tryd.func26, Tryd.ntmps26
  go_wp2_with fail
  have H1 := Lib.hid HB.out.2.1
  have i4 : (i : Int) ≤ (c : Int) := by omega
  have hnz : ∀ u ∈ (lrows ls).flatten.drop (j * 4), u.oneCell' = true := fun u hu => lrows_one ls u (List.mem_of_mem_drop hu)
  have hbs : base ≤ w.drew.heap.size := Nat.le_trans (HB.out.1.base_le S rfl) (Nat.le_of_lt hlt)
  have HNZ := Lib.hid hnz
  have RT := HB.out.2.2
  clear h3
  by_cases hcj : c = j
  · rw [if_pos hcj] at RT
    subst hcj
    have r5 : c - c = 0 := by omega
    have r6 : m - c = 0 := by omega
    rw [r6] at RT n1
    go_still_tail 6, (by kernel_rfl)
    change wpList _ _ _ _ _ w.drew
    have OD : Own w.drew base 46 4 (some ⟨S, 0, none⟩) i c ((lrows ls).flatten.take (i * 4)) := H1.out
    have RD2 : Rd w.drew 4 (some ⟨S, 0, none⟩) (0) ((lrows ls).flatten.drop (c * 4)) := RT
    generalize hwd : w.drew = wd at *
    go_wp2_with (at_builtin; refine held ?_)
    refine Held.go (wp_app (m := 0) (news := (lrows ls).flatten.drop (c * 4)) eltLet OD RD2 hnz (by omega) (.inl (by omega)) hbs _ _ rfl rfl rfl rfl ?_)
    intro A3 c3 w3 o3 g3 _ hin
    obtain ⟨rfl, rfl⟩ := hin (by omega)
    rw [HE.out, n1] at o3
    rw [n1]
    obtain ⟨w4, hrun, o4, f4⟩ := clear_one (ty := 0) (d := c3 - (m - 1)) o3 (by omega) (o := (m - 1) * 4) rfl
    have H4 := Lib.hid (And.intro o4 (And.intro f4 (Fr.grows g3)))
    clear o3 o4 f4 g3 hin OD RD2
    have n2 : m - (m - 1) = 1 := by omega
    go_wp2_with fail
    go_returns
    exact ⟨rfl, H4.out.1, (Fr.of_ext (show Ext w wd by rw [← hwd]; exact (Ext.refl w).drew) (· = S)).trans ((H4.out.2.2.mono (fun x _ h => by injection h with h; exact h.symm)).trans H4.out.2.1 (fun _ _ h => h)) (fun _ _ h => h)⟩
  · rw [if_neg hcj] at RT
    have e0 : (Option.map (fun (x : Addr) => x.add (j * 4)) (some (⟨S, 0, none⟩ : Addr))) = some ⟨S, j * 4, none⟩ := by
      simp only [Option.map_some]
      congr 1
      unfold Addr.add
      rw [if_neg (by omega)]
      simp
    rw [e0] at RT
    clear e0
    go_still_tail 6, (by kernel_rfl)
    change wpList _ _ _ _ _ w.drew
    have OD : Own w.drew base 46 4 (some ⟨S, 0, none⟩) i c ((lrows ls).flatten.take (i * 4)) := H1.out
    have RD2 : Rd w.drew 4 (some ⟨S, j * 4, none⟩) (m - j) ((lrows ls).flatten.drop (j * 4)) := RT
    generalize hwd : w.drew = wd at *
    go_wp2_with (at_builtin; refine held ?_)
    refine Held.go (wp_app (m := m - j) (news := (lrows ls).flatten.drop (j * 4)) eltLet OD RD2 hnz (by omega) (.inl (by omega)) hbs _ _ rfl rfl rfl rfl ?_)
    intro A3 c3 w3 o3 g3 _ hin
    obtain ⟨rfl, rfl⟩ := hin (by omega)
    rw [HE.out, n1] at o3
    rw [n1]
    obtain ⟨w4, hrun, o4, f4⟩ := clear_one (ty := 0) (d := c3 - (m - 1)) o3 (by omega) (o := (m - 1) * 4) rfl
    have H4 := Lib.hid (And.intro o4 (And.intro f4 (Fr.grows g3)))
    clear o3 o4 f4 g3 hin OD RD2
    have n2 : m - (m - 1) = 1 := by omega
    go_wp2_with fail
    go_returns
    exact ⟨rfl, H4.out.1, (Fr.of_ext (show Ext w wd by rw [← hwd]; exact (Ext.refl w).drew) (· = S)).trans ((H4.out.2.2.mono (fun x _ h => by injection h with h; exact h.symm)).trans H4.out.2.1 (fun _ _ h => h)) (fun _ _ h => h)⟩
end Go.Proofs.YteaainepnelehaaDoor
