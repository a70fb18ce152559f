/-
  The statement WireSlips, walked.
-/
import Derived.Test.YtelnnlfbfbbnaaaDoorROpen
namespace Go.Proofs.YtelnnlfbfbbnaaaDoor
open Go.RowKit
set_option linter.unusedVariables false
set_option maxRecDepth 8000 in
set_option maxHeartbeats 3200000 in
theorem slips_any (A : Option Addr) (n c : Nat) (l : List Nat) (at_ : Int) (to_ : Int) (w : World) (hn : n ≤ 140737488351232) (hr : Rd w 1 A n (u8s l)) (hl : ∀ x ∈ l, x < 256) (ht0 : 0 ≤ to_) (ht1 : to_ < 256) {p : Addr} (hS : Sen w 2 p) :
    Calls Tryd.prog 9 #[.slice A n c, .int .i64 at_, .int .u8 to_] w fun e w' => e = .returned (.bool true) ∧ Ext w w' := by
  obtain ⟨y, rfl⟩ := Int.eq_ofNat_of_zero_le ht0
  obtain ⟨q, hq⟩ : ∃ q, at_.tmod ((n : Int) + 4) = q := ⟨_, rfl⟩
  have hq0 : -((n : Int) + 4) < q := by rw [← hq]; have := Int.lt_tmod_of_pos at_ (b := (n : Int) + 4) (by omega); omega
  have hq1 : q < (n : Int) + 4 := by rw [← hq]; exact Int.tmod_lt_of_pos at_ (b := (n : Int) + 4) (by omega)
  obtain ⟨k, hk⟩ : ∃ k : Nat, (q + ((n : Int) + 4)) % ((n : Int) + 4) = k := Int.eq_ofNat_of_zero_le (Int.emod_nonneg _ (by omega))
  have hkn : k < n + 4 := by have := Int.emod_lt_of_pos (q + ((n : Int) + 4)) (b := (n : Int) + 4) (by omega); omega
  have hll : l.length = n := by have := hr.len; rwa [u8s_len] at this
  have SL := Lib.hid (fun w' (hx : Ext w w') => seal_any A n c l w' hn (hr.ext hx) hl)
  have SE := Lib.hid (fun w' (hx : Ext w w') => hS.ext hx)
  have sb := sealed_byte hl
  have slen := sealed_len l
  rw [hll] at slen
  clear hr
  go_enter Tryd.func9, Tryd.ntmps9
  go_wp2_with fail
  refine (alive_any _).mono ?_
  rintro e u0 ⟨rfl, e0⟩
  go_wp2_with fail
  refine (SL.out u0 e0).mono ?_
  rintro e u1 ⟨B, cb, rfl, ho, e1⟩
  obtain ⟨g, rfl⟩ : ∃ g, B = some ⟨g, 0, none⟩ := by
    rcases ho.2 with ⟨h, h0⟩ | ⟨g, _, _, h, _⟩
    · omega
    · injection h with h; exact ⟨g, h⟩
  have hkl : k < (sealed l).length := by omega
  obtain ⟨x, hx⟩ : ∃ x, (sealed l)[k] = x := ⟨_, rfl⟩
  have hat : (u8s (sealed l))[k]? = some (.int .u8 (x : Int)) := by rw [u8s_at _ _ hkl, hx]
  have cc := ho.cellAt hkn hat
  have ff := ho.frozenAt k
  have hgb : u0.heap.size ≤ g := ho.base_le g rfl
  have k0 : (0 : Int) ≤ k := by omega
  have k1 : (k : Int) < (n : Int) + 4 := by omega
  have ES := err_same
  have hx8 := sb x (by rw [← hx]; exact List.getElem_mem _)
  by_cases hxy : x = y
  · subst hxy
    clear hx hat sb ho
    go_wp2_with fail
    rw [hk]
    go_wp2_with fail
    go_ret
    exact ⟨rfl, e0.trans e1⟩
  · have hne : ((x : Int) == (y : Int)) = false := by simp; omega
    have hbad := sealed_slip hl (show y < 256 by omega) hkl (by rw [hx]; exact hxy)
    rw [hll] at hbad
    have ho2 := ho.stored k (.int .u8 (y : Int))
    have hset : (u8s (sealed l)).set k (.int .u8 (y : Int)) = u8s ((sealed l).set k y) := by simp [u8s, List.map_set]
    rw [hset] at ho2
    have sb2 : ∀ z ∈ (sealed l).set k y, z < 256 := fun z hz => by
      rcases List.mem_or_eq_of_mem_set hz with h | rfl
      · exact sb z h
      · omega
    have e2 : Ext w (u1.setCell ⟨g, k, none⟩ (.int .u8 (y : Int))) := (e0.trans e1).setCell (by have := e0.size; show w.heap.size ≤ g; omega) _
    have OS := Lib.hid (open_slip (some ⟨g, 0, none⟩) n cb ((sealed l).set k y) _ hn ho.cap_le ho2.rd sb2 hbad (SE.out _ e2))
    clear hx hat sb ho ho2 hset sb2 hbad hxy
    go_wp2_with fail
    rw [hk]
    go_wp2_with fail
    refine OS.out.mono ?_
    rintro e u2 ⟨rfl, e3⟩
    have c3 := (SE.out _ (e2.trans e3)).2.1
    go_wp2_with fail
    go_ret
    exact ⟨rfl, e2.trans e3⟩
end Go.Proofs.YtelnnlfbfbbnaaaDoor
