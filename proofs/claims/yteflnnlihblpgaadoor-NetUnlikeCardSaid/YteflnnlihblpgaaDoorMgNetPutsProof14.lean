/-
  Package net: Put of a message, walked.
-/
import Derived.Test.YteflnnlihblpgaaDoorMgNetPutsProof13
import Derived.Lib.AppendZeros
import Derived.Deep.QuietTactic
import Derived.BigQuiet
namespace Go.Proofs.YteflnnlihblpgaaDoor
open Go.RowKit
set_option linter.unusedVariables false
/-- The sum of bytes. -/
def fs (s c : Nat) : Nat := (s ^^^ c) * 16777619 % 4294967296
def fnv (l : List Nat) : Nat := l.foldl fs 2166136261
theorem fnv_snoc (l : List Nat) (x : Nat) : fnv (l ++ [x]) = fs (fnv l) x := by
  unfold fnv
  rw [List.foldl_append, List.foldl_cons, List.foldl_nil]
theorem fs_lt (s c : Nat) : fs s c < 4294967296 := Nat.mod_lt _ (by omega)
theorem fnv_lt (l : List Nat) : fnv l < 4294967296 := by
  rcases List.eq_nil_or_concat l with rfl | ⟨m, x, rfl⟩
  · show (2166136261 : Nat) < 4294967296
    omega
  · rw [List.concat_eq_append, fnv_snoc]; exact fs_lt _ _
set_option maxHeartbeats 800000 in
theorem sum_any (A : Option Addr) (m c : Nat) (l : List Nat) (w : World) (hm : m ≤ 9223372036854775807) (hr : Rd w 1 A m (u8s l)) (hl : ∀ x ∈ l, x < 256) :
    Calls Tryd.prog 84 #[.slice A m c] w fun e w' => e = .returned (.int .u32 (fnv l : Nat)) ∧ w = w' := by
  go_enter Tryd.func84, Tryd.ntmps84
  go_wp2
  go_loop [3, 5, 8] (fun x _ i => ∃ k : Nat, k ≤ m ∧ i = .int .i64 k ∧ x = .int .u32 (fnv (l.take k) : Nat)) (fun _ _ i => m - (intOf i).toNat)
  case atStart => exact ⟨0, by omega, rfl, rfl⟩
  case round =>
    obtain ⟨k, hk, rfl, rfl⟩ := hrel
    by_cases hlt : k < m
    · obtain ⟨ad, x, rfl, hx, hc⟩ := hr.byte hlt
      have hu := fnv_lt (l.take k)
      have hx8 := hl x (mem_of_at hx.out)
      generalize hU : fnv (l.take k) = U at hu ⊢
      have HU := Lib.hid hU; clear hU
      have e2 : Go.bits .xor .u32 (U : Int) (x : Int) = ((U ^^^ x : Nat) : Int) := u32_xor_nat U x hu (by omega)
      obtain ⟨Y, hY⟩ : ∃ Y, U ^^^ x = Y := ⟨_, rfl⟩
      rw [hY] at e2
      have e3 : IntKind.u32.wrap ((Y : Int) * 16777619) = ((Y * 16777619 % 4294967296 : Nat) : Int) := by rw [IntKind.wrap_u32]; omega
      have HY := Lib.hid hY
      clear hY hl hr
      go_wp2
      go_round
      case rel => exact ⟨k + 1, by omega, by go_num, by rw [take_succ' hx.out, fnv_snoc, HU.out]; unfold fs; rw [HY.out]; congr 1⟩
      case measure => simp [intOf]; omega
    · have : k = m := by omega
      subst this
      go_wp2
      go_ret
      exact ⟨by rw [List.take_of_length_le (by have := hr.len; rw [u8s_len] at this; omega)]; rfl, rfl⟩
theorem infoU8 : (Tryd.prog.info? 5).map (fun i => (i.zero, i.size, i.bytes)) = some (some (.int .u8 0), 1, 1) := by kernel_rfl
end Go.Proofs.YteflnnlihblpgaaDoor
namespace Go.Proofs.YteflnnlihblpgaaDoor
theorem mul_inj {x y : Nat} (hx : x < 4294967296) (hy : y < 4294967296) (h : x * 16777619 % 4294967296 = y * 16777619 % 4294967296) : x = y := by
  have key : ∀ z : Nat, z < 4294967296 → z * 16777619 % 4294967296 * 899433627 % 4294967296 = z := by
    intro z hz
    rw [Nat.mul_mod, Nat.mod_mod, ← Nat.mul_mod, Nat.mul_assoc]
    have e : 16777619 * 899433627 = 4294967296 * 3513497 + 1 := by decide
    rw [e, Nat.mul_add, Nat.mul_one, Nat.mul_left_comm, Nat.mul_add_mod, Nat.mod_eq_of_lt hz]
  rw [← key x hx, ← key y hy, h]
theorem xor_cancel (x y z : Nat) (h : x ^^^ z = y ^^^ z) : x = y := by
  have h1 : (x ^^^ z) ^^^ z = (y ^^^ z) ^^^ z := by rw [h]
  rw [Nat.xor_assoc, Nat.xor_assoc, Nat.xor_self, Nat.xor_zero, Nat.xor_zero] at h1
  exact h1
theorem fs_inj_l {s t c : Nat} (hs : s < 4294967296) (ht : t < 4294967296) (hc : c < 256) (h : fs s c = fs t c) : s = t := by
  unfold fs at h
  exact xor_cancel s t c (mul_inj (Nat.xor_lt_two_pow (n := 32) hs (by omega)) (Nat.xor_lt_two_pow (n := 32) ht (by omega)) h)
theorem fs_inj_r {s c d : Nat} (hs : s < 4294967296) (hc : c < 256) (hd : d < 256) (h : fs s c = fs s d) : c = d := by
  unfold fs at h
  have := mul_inj (Nat.xor_lt_two_pow (n := 32) hs (by omega)) (Nat.xor_lt_two_pow (n := 32) hs (by omega)) h
  rw [Nat.xor_comm s, Nat.xor_comm s] at this
  exact xor_cancel c d s this
theorem fold_inj : ∀ (l : List Nat) (s t : Nat), s < 4294967296 → t < 4294967296 → (∀ x ∈ l, x < 256) → l.foldl fs s = l.foldl fs t → s = t
  | [], s, t, _, _, _, h => h
  | x :: l, s, t, hs, ht, hl, h => by
    rw [List.foldl_cons, List.foldl_cons] at h
    have := fold_inj l _ _ (fs_lt s x) (fs_lt t x) (fun y hy => hl y (by simp [hy])) h
    exact fs_inj_l hs ht (hl x (by simp)) this
theorem fnv_set {l : List Nat} {i y : Nat} (hl : ∀ x ∈ l, x < 256) (hy : y < 256) (hi : i < l.length) (hne : l[i] ≠ y) : fnv (l.set i y) ≠ fnv l := by
  intro h
  have e1 : l = l.take i ++ l[i] :: l.drop (i + 1) := by
    rw [← List.drop_eq_getElem_cons hi, List.take_append_drop]
  have e2 : l.set i y = l.take i ++ y :: l.drop (i + 1) := by
    rw [List.set_eq_take_append_cons_drop, if_pos hi]
  have h1 : fnv l = (l.drop (i + 1)).foldl fs (fs (fnv (l.take i)) l[i]) := by
    have h2 : fnv (l.take i ++ l[i] :: l.drop (i + 1)) = (l.drop (i + 1)).foldl fs (fs (fnv (l.take i)) l[i]) := by
      unfold fnv
      rw [List.foldl_append, List.foldl_cons]
    rwa [← e1] at h2
  rw [e2] at h
  have h3 : fnv (l.take i ++ y :: l.drop (i + 1)) = (l.drop (i + 1)).foldl fs (fs (fnv (l.take i)) y) := by
    unfold fnv
    rw [List.foldl_append, List.foldl_cons]
  rw [h1, h3] at h
  have h4 := fold_inj _ _ _ (fs_lt _ _) (fs_lt _ _) (fun x hx => hl x (List.mem_of_mem_drop hx)) h
  exact hne (fs_inj_r (fnv_lt _) hy (hl _ (List.getElem_mem _)) h4).symm
/-- The four bytes of a sum, highest first. -/
def four (s : Nat) : List Nat := [s / 16777216, s / 65536 % 256, s / 256 % 256, s % 256]
theorem four_byte (s : Nat) (h : s < 4294967296) : ∀ x ∈ four s, x < 256 := by
  intro x hx
  simp [four] at hx
  omega
theorem four_inj {s t : Nat} (h : four s = four t) : s = t := by
  simp only [four, List.cons.injEq, and_true] at h
  omega
/-- Bytes and their sum. -/
def sealed (l : List Nat) : List Nat := l ++ four (fnv l)
theorem sealed_len (l : List Nat) : (sealed l).length = l.length + 4 := by simp [sealed, four]
theorem sealed_byte {l : List Nat} (h : ∀ x ∈ l, x < 256) : ∀ x ∈ sealed l, x < 256 := by
  intro x hx
  rcases List.mem_append.1 hx with hx | hx
  · exact h x hx
  · exact four_byte _ (fnv_lt _) x hx
theorem sealed_slip {l : List Nat} {i y : Nat} (hl : ∀ x ∈ l, x < 256) (hy : y < 256) (hi : i < (sealed l).length) (hne : (sealed l)[i] ≠ y) : sealed (((sealed l).set i y).take l.length) ≠ (sealed l).set i y := by
  intro h
  by_cases h1 : i < l.length
  · have e1 : (sealed l).set i y = l.set i y ++ four (fnv l) := by unfold sealed; rw [List.set_append_left _ _ h1]
    rw [e1] at h
    rw [List.take_left' (by simp)] at h
    unfold sealed at h
    have h2 := List.append_cancel_left h
    have h3 : l[i] ≠ y := by
      have : (sealed l)[i] = l[i] := (List.getElem_append_left h1 : (l ++ four (fnv l))[i]'hi = l[i])
      rwa [this] at hne
    exact fnv_set hl hy h1 h3 (four_inj h2)
  · have e1 : (sealed l).set i y = l ++ (four (fnv l)).set (i - l.length) y := by unfold sealed; rw [List.set_append_right _ _ (by omega)]
    rw [e1, List.take_left' rfl] at h
    unfold sealed at h
    have h2 := List.append_cancel_left h
    have hj : i - l.length < (four (fnv l)).length := by rw [sealed_len] at hi; simp [four]; omega
    have h3 : (four (fnv l))[i - l.length] = y := by
      have h4 : (four (fnv l))[i - l.length]? = ((four (fnv l)).set (i - l.length) y)[i - l.length]? := by rw [← h2]
      rw [List.getElem?_set_self hj, List.getElem?_eq_getElem hj] at h4
      exact Option.some.inj h4
    have h5 : (sealed l)[i] = (four (fnv l))[i - l.length] := (List.getElem_append_right (by omega) : (l ++ four (fnv l))[i]'hi = (four (fnv l))[i - l.length])
    exact hne (h5.trans h3)
theorem sealed_take (l : List Nat) : sealed ((sealed l).take l.length) = sealed l := by
  have : (sealed l).take l.length = l := by unfold sealed; exact List.take_left' rfl
  rw [this]
end Go.Proofs.YteflnnlihblpgaaDoor
namespace Go.Proofs.YteflnnlihblpgaaDoor
open Go.RowKit
set_option linter.unusedVariables false
set_option maxHeartbeats 800000 in
theorem grow_any (n : Nat) (w : World) (h0 : 0 < n) (hn : n ≤ 140737488351236) :
    Calls Tryd.prog 89 #[.slice none 0 0, .int .i64 (n : Int)] w fun e w' => ∃ c', e = .returned (.slice (some ⟨w.heap.size, 0, none⟩) 0 c') ∧ n ≤ c' ∧ Own w' w.heap.size 5 1 (some ⟨w.heap.size, 0, none⟩) 0 c' [] ∧ Ext w w' := by
  obtain ⟨i0, hi0, hz0, hz1, hz2⟩ := info_parts infoU8
  have hr := Lib.run_append_nil_zeros (P := Tryd.prog) w 54 3 54 5 i0 _ .i64 .i64 Tryd.underlying54 Tryd.underlying3 hi0 hz0 n h0 (by omega) (by omega) (by rw [hz2]; omega)
  have hcg := grownCap_ge w n 0 5
  have hcm : grownCap w n 0 5 ≤ maxLen := grownCap_le_maxLen w n 0 5 (by simp [maxLen]; omega)
  generalize grownCap w n 0 5 = c at *
  have h0' : ¬ (n : Int) < 0 := by omega
  have h1' : (0 : Int) < n := by omega
  go_enter Tryd.func89, Tryd.ntmps89
  have HR := Lib.hid hr
  clear hr
  go_wp2_with (at_builtin; refine held ?_)
  refine Held.go (Lib.wpList_append_run w rfl (.tmp 20) (.tmp 21) 54 3 rfl (.slice none 0 0) (.int .i64 (n : Int)) rfl rfl _ _ HR.out ?_)
  go_wp2_with fail
  go_ret
  refine ⟨c, rfl, hcg, ?_, (Ext.refl w).drew.alloc _⟩
  refine ⟨by simp, .inr ⟨w.heap.size, c, _, rfl, Nat.le_refl _, heap_alloc_new w.drew _, Nat.zero_le _, hcm, ?_, ?_⟩⟩
  · simp [size_zeroCells]
    omega
  · simp
set_option maxHeartbeats 1600000 in
theorem concat_any (A B : Option Addr) (n m ca cb g : Nat) (la lb : List Nat) (w : World) (ha : Rd w 1 A n (u8s la)) (hb : Rd w 1 B m (u8s lb)) (h0 : w.cell? ⟨g, 0, none⟩ = some (.slice A n ca)) (h1 : w.cell? ⟨g, 1, none⟩ = some (.slice B m cb)) (hg : g < w.heap.size)
    (hp : 0 < n + m) (hn : n + m ≤ 140737488351236) :
    Calls Tryd.prog 85 #[.slice (some ⟨g, 0, none⟩) 2 2] w fun e w' => ∃ A' c', e = .returned (.slice A' (n + m) c') ∧ Own w' w.heap.size 5 1 A' (n + m) c' (u8s (la ++ lb)) ∧ Ext w w' := by
  obtain ⟨s, hs⟩ : ∃ s, n + m = s := ⟨_, rfl⟩
  rw [hs] at hp hn ⊢
  have G := Lib.hid (grow_any s w hp hn)
  have k1 : ¬ (n : Int) < 0 := by omega
  have k2 : ¬ (n : Int) + (m : Int) < 0 := by omega
  have e1 : (n : Int) + (m : Int) = (s : Int) := by omega
  have k3 : ¬ (s : Int) < 0 := by omega
  have HS := Lib.hid hs
  clear k2 hs
  go_enter Tryd.func85, Tryd.ntmps85
  go_wp2_with fail
  refine wp_loop_rounds 3 ?_
  rw [rounds_succ]
  go_wp2_with fail
  rw [rounds_succ]
  go_wp2_with fail
  rw [rounds_succ]
  go_wp2_with fail
  refine G.out.mono ?_
  rintro e w1 ⟨c1, rfl, hc1, ho, hx⟩
  have d0 := (hx.cell (p := ⟨g, 0, none⟩) hg).trans h0
  have d1 := (hx.cell (p := ⟨g, 1, none⟩) hg).trans h1
  have ha1 := ha.ext hx
  have hb1 := hb.ext hx
  clear h0 ha G
  go_wp2_with fail
  refine wp_loop_rounds 3 ?_
  rw [rounds_succ]
  go_wp2_with (at_builtin; refine held ?_)
  refine Held.go (wp_app (m := n) (news := u8s la) eltU8 ho ha1 (u8s_one _) (by omega) (.inl (by have := HS.out; omega)) (by have := hx.size; omega) _ _ rfl rfl rfl rfl ?_)
  intro A2 c2 w2 ho2 hg2 _ hfit
  simp only [Nat.zero_add, List.nil_append] at ho2 hfit
  obtain ⟨rfl, rfl⟩ := hfit (by have := HS.out; omega)
  have hx2 : Ext w w2 := hg2.ext hx (fun g hg => by cases hg; exact Nat.le_refl _)
  have d1 := (hx2.cell (p := ⟨g, 1, none⟩) hg).trans h1
  have hb2 := hb.ext hx2
  rw [Nat.zero_add]
  clear d0 ho hg2 hfit ha1 hb1
  go_wp2_with fail
  rw [rounds_succ]
  go_wp2_with (at_builtin; refine held ?_)
  refine Held.go (wp_app (m := m) (news := u8s lb) eltU8 ho2 hb2 (u8s_one _) (by omega) (.inl (by have := HS.out; omega)) (by have := hx2.size; omega) _ _ rfl rfl rfl rfl ?_)
  intro A3 c3 w3 ho3 hg3 _ hfit
  rw [← u8s_append] at ho3
  have hx3 : Ext w w3 := hg3.ext hx2 (fun g hg => by cases hg; exact Nat.le_refl _)
  rw [HS.out] at ho3
  clear ho2 hg3 hfit hb hb2
  go_wp2_with fail
  rw [rounds_succ]
  go_wp2_with fail
  go_ret
  exact ⟨A3, c3, by rw [HS.out]; rfl, ho3, hx3⟩
end Go.Proofs.YteflnnlihblpgaaDoor
namespace Go.Proofs.YteflnnlihblpgaaDoor
open Go.RowKit
set_option linter.unusedVariables false
theorem Own.low {w : World} {base base' n c : Nat} {e : TypeId} {size : Nat} {A : Option Addr} {xs : List Value} (h : Own w base e size A n c xs) (hb : base' ≤ base) : Own w base' e size A n c xs := by
  refine ⟨h.1, ?_⟩
  rcases h.2 with hn | ⟨g, cap, cur, h1, hb', rest⟩
  · exact .inl hn
  · exact .inr ⟨g, cap, cur, h1, Nat.le_trans hb hb', rest⟩
set_option maxHeartbeats 1600000 in
theorem seal_any (A : Option Addr) (n c : Nat) (l : List Nat) (w : World) (hn : n ≤ 140737488351232) (hr : Rd w 1 A n (u8s l)) (hl : ∀ x ∈ l, x < 256) :
    Calls Tryd.prog 71 #[.slice A n c] w fun e w' => ∃ A' c', e = .returned (.slice A' (n + 4) c') ∧ Own w' w.heap.size 5 1 A' (n + 4) c' (u8s (sealed l)) ∧ Ext w w' := by
  have S := Lib.hid (sum_any A n c l w (by omega) hr hl)
  have hs := fnv_lt l
  unfold sealed
  generalize fnv l = s at *
  obtain ⟨b3, h3⟩ : ∃ b : Nat, s / 16777216 = b := ⟨_, rfl⟩
  obtain ⟨b2, h2⟩ : ∃ b : Nat, s / 65536 % 256 = b := ⟨_, rfl⟩
  obtain ⟨b1, h1⟩ : ∃ b : Nat, s / 256 % 256 = b := ⟨_, rfl⟩
  obtain ⟨b0, h0⟩ : ∃ b : Nat, s % 256 = b := ⟨_, rfl⟩
  have e3 : (s : Int) / 16777216 % 256 = (b3 : Int) := by omega
  have e3' : (s : Int) / 16777216 = (b3 : Int) := by omega
  have e2 : (s : Int) / 65536 % 256 = (b2 : Int) := by omega
  have e1 : (s : Int) / 256 % 256 = (b1 : Int) := by omega
  have e0 : (s : Int) % 256 = (b0 : Int) := by omega
  have hb3 : b3 < 256 := by omega
  have hf : four s = [b3, b2, b1, b0] := by unfold four; rw [h3, h2, h1, h0]
  rw [hf]
  have C := Lib.hid (fun g w' (ha : Rd w' 1 A n (u8s l)) B (hb : Rd w' 1 B 4 (u8s [b3, b2, b1, b0])) cb h0 h1 hg => concat_any A B n 4 c cb g l [b3, b2, b1, b0] w' ha hb h0 h1 hg (by omega) (by omega))
  clear h0 h1 h2 h3 hf hl
  have HR := Lib.hid hr
  clear hr
  go_enter Tryd.func71, Tryd.ntmps71
  go_wp2_with fail
  refine S.out.mono ?_
  rintro e w1 ⟨rfl, rfl⟩
  go_wp2_with fail
  have q1 : Ext w (w.alloc (.cells #[.int .u8 (b3 : Int), .int .u8 (b2 : Int), .int .u8 (b1 : Int), .int .u8 (b0 : Int)] 5)) := (Ext.refl w).alloc _
  have q2 : Ext w ((w.alloc (.cells #[.int .u8 (b3 : Int), .int .u8 (b2 : Int), .int .u8 (b1 : Int), .int .u8 (b0 : Int)] 5)).alloc (.cells #[.slice A n c, .slice (some ⟨w.heap.size, 0, none⟩) 4 4] 54)) := q1.alloc _
  have hz : (w.alloc (.cells #[.int .u8 (b3 : Int), .int .u8 (b2 : Int), .int .u8 (b1 : Int), .int .u8 (b0 : Int)] 5)).heap.size = w.heap.size + 1 := by simp
  have hcell := heap_alloc_new (w.alloc (.cells #[.int .u8 (b3 : Int), .int .u8 (b2 : Int), .int .u8 (b1 : Int), .int .u8 (b0 : Int)] 5)) (.cells #[.slice A n c, .slice (some ⟨w.heap.size, 0, none⟩) 4 4] 54)
  rw [hz] at hcell
  have hb4 : Rd (w.alloc (.cells #[.int .u8 (b3 : Int), .int .u8 (b2 : Int), .int .u8 (b1 : Int), .int .u8 (b0 : Int)] 5)) 1 (some ⟨w.heap.size, 0, none⟩) 4 (u8s [b3, b2, b1, b0]) := Rd.new w #[.int .u8 (b3 : Int), .int .u8 (b2 : Int), .int .u8 (b1 : Int), .int .u8 (b0 : Int)] 5 (0, 0)
  refine (C.out (w.heap.size + 1) _ (HR.out.ext q2) _ (hb4.ext ((Ext.refl _).alloc _)) 4 (by rw [cell_of_row _ _ _ _ _ _ hcell]; rfl) (by rw [cell_of_row _ _ _ _ _ _ hcell]; rfl) (by simp)).mono ?_
  rintro e w2 ⟨A', c', rfl, ho, hx⟩
  have ho := ho.low (base' := w.heap.size) (by simp; omega)
  clear hcell hb4 hz q1 HR
  go_wp2_with fail
  go_ret
  exact ⟨A', c', rfl, ho, q2.trans hx⟩
set_option maxHeartbeats 1600000 in
theorem equal_any (A B : Option Addr) (n m ca cb : Nat) (la lb : List Nat) (w : World) (hn : n ≤ 140737488351240) (hm : m ≤ 140737488351240) (ha : Rd w 1 A n (u8s la)) (hb : Rd w 1 B m (u8s lb)) :
    Calls Tryd.prog 86 #[.slice A n ca, .slice B m cb] w fun e w' => e = .returned (.bool (decide (la = lb))) ∧ ∃ k, w' = w.drewN k := by
  have hal := ha.len
  have hbl := hb.len
  rw [u8s_len] at hal hbl
  by_cases hnm : n = m
  · subst hnm
    have HA := Lib.hid hal
    have HB := Lib.hid hbl
    clear hal hbl
    go_enter Tryd.func86, Tryd.ntmps86
    go_wp2_with fail
    go_loopw [5, 13] (fun _ vi wr => ∃ k j : Nat, vi = .int .i64 (k : Int) ∧ k ≤ n ∧ wr = w.drewN j ∧ Hid (la.take k = lb.take k)) (fun _ vi _ => n - (intOf vi).toNat)
    case atStart => exact ⟨0, 0, rfl, by omega, rfl, rfl⟩
    case round =>
      obtain ⟨k, j, rfl, hk, rfl, ht⟩ := hrel
      by_cases h1 : k < n
      · obtain ⟨ad1, x, rfl, hx, hc1⟩ := ha.byte h1
        obtain ⟨ad2, y, rfl, hy, hc2⟩ := hb.byte h1
        have i0 : (0 : Int) ≤ k := by omega
        have i1 : (k : Int) < n := by omega
        clear ha hb
        by_cases hxy : x = y
        · subst hxy
          go_wp2_with fail
          go_quiet (fail)
          go_wp2_with fail
          go_roundw
          case rel => exact ⟨k + 1, _, by go_num, by omega, rfl, by show la.take (k + 1) = lb.take (k + 1); rw [take_succ' hx.out, take_succ' hy.out, ht.out]⟩
          case measure => simp [intOf]; omega
        · have hne : ((x : Int) != (y : Int)) = true := by simp; omega
          have hno : Hid (decide (la = lb) = false) := by
            show decide (la = lb) = false
            rw [decide_eq_false_iff_not]
            intro h
            have h2 := hx.out
            rw [h, hy.out] at h2
            exact hxy (Option.some.inj h2).symm
          clear hxy
          go_wp2_with fail
          go_quiet (fail)
          go_wp2_with fail
          go_ret
          exact ⟨by rw [hno.out]; rfl, _, World.drewN_drewN _ _ _⟩
      · obtain rfl : k = n := by omega
        have hyes : Hid (decide (la = lb) = true) := by
          show decide (la = lb) = true
          have h := ht.out
          rw [List.take_of_length_le (by rw [HA.out]; omega), List.take_of_length_le (by rw [HB.out]; omega)] at h
          exact decide_eq_true h
        clear ha hb
        go_wp2_with fail
        go_ret
        exact ⟨by rw [hyes.out]; rfl, _, rfl⟩
  · have hne : ((n : Int) != (m : Int)) = true := by simp; omega
    have hno : decide (la = lb) = false := by
      rw [decide_eq_false_iff_not]
      intro h
      rw [h] at hal
      omega
    rw [hno]
    clear hno hal hbl ha hb hnm
    go_enter Tryd.func86, Tryd.ntmps86
    go_wp2_with fail
    go_ret
    exact ⟨rfl, 0, rfl⟩
/-- Open of fewer than four bytes. -/
theorem open_few (A : Option Addr) (n c : Nat) (w : World) (hn : n < 4) {p : Addr} (hS : Sen w 2 p) :
    Calls Tryd.prog 73 #[.slice A n c] w fun e w' => e = .returned (.tuple #[.slice none 0 0, .iface 149 (.pointer (some p))]) ∧ ∃ k, w' = w.drewN k := by
  have c3 := hS.2.1
  have h : (n : Int) - 4 < 0 := by omega
  clear hS
  go_enter Tryd.func73, Tryd.ntmps73
  go_wp2_with fail
  go_quiet (fail)
  go_wp2_with fail
  go_ret2
  exact ⟨rfl, _, rfl⟩
set_option maxHeartbeats 1600000 in
theorem open_slip (A : Option Addr) (n c : Nat) (l : List Nat) (w : World) (hn : n ≤ 140737488351232) (hc : n + 4 ≤ c) (hr : Rd w 1 A (n + 4) (u8s l)) (hl : ∀ x ∈ l, x < 256) (hbad : sealed (l.take n) ≠ l)
    {p : Addr} (hS : Sen w 3 p) :
    Calls Tryd.prog 73 #[.slice A (n + 4) c] w fun e w' => e = .returned (.tuple #[.slice none 0 0, .iface 149 (.pointer (some p))]) ∧ Ext w w' := by
  have r1 := hr.u8take (k := n) (by omega)
  have SL := Lib.hid (seal_any A n c (l.take n) w hn r1 (fun x hx => hl x (List.mem_of_mem_take hx)))
  have EQ := Lib.hid (fun B cb w' (hb : Rd w' 1 B (n + 4) (u8s (sealed (l.take n)))) (hx : Ext w w') => equal_any B A (n + 4) (n + 4) cb c _ l w' (by omega) (by omega) hb (hr.ext hx))
  have SE := Lib.hid (fun w' (hx : Ext w w') => (hS.ext hx).2.1)
  rw [decide_eq_false hbad] at EQ
  have h1 : (((n + 4 : Nat) : Int)) - 4 = (n : Int) := by omega
  have h2 : ¬ (n : Int) < 0 := by omega
  have h3 : (n : Int) ≤ c := by omega
  have h4 : (0 : Int) ≤ n := by omega
  clear hbad hr hl r1 hS
  go_enter Tryd.func73, Tryd.ntmps73
  go_wp2_with fail
  refine SL.out.mono ?_
  rintro e w1 ⟨B, cb, rfl, ho, hx⟩
  go_wp2_with fail
  refine (EQ.out B cb w1 ho.rd hx).mono ?_
  rintro e w2 ⟨rfl, k, rfl⟩
  have c3 := SE.out _ hx
  clear ho
  go_wp2_with fail
  go_quiet (fail)
  go_wp2_with fail
  go_ret2
  exact ⟨rfl, (hx.drewN k).drewN _⟩
set_option maxHeartbeats 1600000 in
theorem open_good (A : Option Addr) (n c : Nat) (l : List Nat) (w : World) (hn : n ≤ 140737488351232) (hc : n + 4 ≤ c) (hr : Rd w 1 A (n + 4) (u8s l)) (hl : ∀ x ∈ l, x < 256) (hgood : sealed (l.take n) = l) :
    Calls Tryd.prog 73 #[.slice A (n + 4) c] w fun e w' => ∃ A' c', e = .returned (.tuple #[.slice A' n c', .nilIface]) ∧ Own w' w.heap.size 5 1 A' n c' (u8s (l.take n)) ∧ Ext w w' := by
  have r1 := hr.u8take (k := n) (by omega)
  have SL := Lib.hid (seal_any A n c (l.take n) w hn r1 (fun x hx => hl x (List.mem_of_mem_take hx)))
  have EQ := Lib.hid (fun B cb w' (hb : Rd w' 1 B (n + 4) (u8s (sealed (l.take n)))) (hx : Ext w w') => equal_any B A (n + 4) (n + 4) cb c _ l w' (by omega) (by omega) hb (hr.ext hx))
  have CL := Lib.hid (fun w' (hx : Ext w w') => clone_any A n c (l.take n) w' (r1.ext hx) (by omega))
  rw [decide_eq_true hgood] at EQ
  have h1 : (((n + 4 : Nat) : Int)) - 4 = (n : Int) := by omega
  have h2 : ¬ (n : Int) < 0 := by omega
  have h3 : (n : Int) ≤ c := by omega
  have h4 : (0 : Int) ≤ n := by omega
  clear hgood hr hl r1
  go_enter Tryd.func73, Tryd.ntmps73
  go_wp2_with fail
  refine SL.out.mono ?_
  rintro e w1 ⟨B, cb, rfl, ho, hx⟩
  go_wp2_with fail
  refine (EQ.out B cb w1 ho.rd hx).mono ?_
  rintro e w2 ⟨rfl, k, rfl⟩
  clear ho
  go_wp2_with fail
  refine (CL.out _ (hx.drewN k)).mono ?_
  rintro e w3 ⟨A', c', rfl, ho, hy⟩
  go_wp2_with fail
  go_ret2
  exact ⟨A', c', rfl, ho.low (by have := hx.size; exact this), (hx.drewN k).trans hy⟩
end Go.Proofs.YteflnnlihblpgaaDoor
namespace Go.Proofs.YteflnnlihblpgaaDoor
set_option linter.unusedVariables false
theorem recE_split {e f : En} (he : e.form = true) (hf : f.form = true) {r s : List Nat} (h : recE e ++ r = recE f ++ s) : e = f ∧ r = s := by
  have h1 := put_len he
  have h2 := put_len hf
  unfold recE at h
  rw [List.append_assoc, List.append_assoc] at h
  have e1 := Wr.rd_num e.put.length (e.put ++ r) (by omega)
  rw [h, Wr.rd_num f.put.length (f.put ++ s) (by omega)] at e1
  simp only [Option.some.injEq, Prod.mk.injEq] at e1
  rw [e1.1] at h
  have h3 := List.append_cancel_left h
  obtain ⟨h4, h5⟩ := List.append_inj h3 e1.1.symm
  exact ⟨put_inj he hf h4, h5⟩
theorem recs_split : ∀ (es fs : List En) (r s : List Nat), (∀ e ∈ es, e.form = true) → (∀ e ∈ fs, e.form = true) → es.length ≤ fs.length → fs.flatMap recE ++ s = es.flatMap recE ++ r → fs.take es.length = es ∧ r = (fs.drop es.length).flatMap recE ++ s
  | [], fs, r, s, _, _, _, h => ⟨rfl, h.symm⟩
  | e :: es, [], r, s, _, _, hl, _ => by simp at hl
  | e :: es, f :: fs, r, s, h1, h2, hl, h => by
    rw [List.flatMap_cons, List.flatMap_cons, List.append_assoc, List.append_assoc] at h
    obtain ⟨rfl, h3⟩ := recE_split (h2 f (by simp)) (h1 e (by simp)) h
    obtain ⟨q1, q2⟩ := recs_split es fs r s (fun x hx => h1 x (by simp [hx])) (fun x hx => h2 x (by simp [hx])) (by simpa using hl) h3
    exact ⟨by rw [List.length_cons, List.take_succ_cons, q1], by rw [List.length_cons, List.drop_succ_cons]; exact q2⟩
structure PartL (l : List Nat) (at_ n : Nat) (es : List En) : Prop where
  eq : l = putK n es ++ l.drop at_
  len : at_ = (putK n es).length
  ok : ∀ e ∈ es, e.form = true
  n64 : n ≤ 64
/-- Ledgers that are written. -/
def GoodL (fs : List En) : Prop := fs.length ≤ 64 ∧ ∀ e ∈ fs, e.form = true
section
variable {l : List Nat} {at_ n : Nat} {es fs : List En}
theorem PartL.start (hb : ∀ c ∈ l, c < 256) {x k : Nat} (hr : Wr.rd (l.drop 0) = some (x, k)) (hx : x ≤ 64) : PartL l (0 + k) x [] := by
  obtain ⟨h1, h2⟩ := Wr.rd_inv (fun c hc => hb c (List.mem_of_mem_drop hc)) hr
  rw [List.drop_drop] at h2
  rw [List.drop_zero] at h2
  exact ⟨by simp only [putK, List.flatMap_nil, List.append_nil]; exact h2, by simp only [putK, List.flatMap_nil, List.append_nil]; omega, by simp, hx⟩
theorem no_start (hno : ∀ x k, Wr.rd (l.drop 0) = some (x, k) → (64 : Int) < (x : Int)) (hf : GoodL fs) : l ≠ putL fs := fun hle => by
  have h1 := Wr.rd_num fs.length (fs.flatMap recE) (by have := hf.1; omega)
  have h2 := hno fs.length _ (by rw [List.drop_zero, hle]; exact h1)
  have := hf.1
  omega
theorem PartL.begin (h : PartL l at_ n es) (hf : GoodL fs) (hle : l = putL fs) (hl : es.length ≤ n) : n = fs.length ∧ fs.take es.length = es ∧ l.drop at_ = (fs.drop es.length).flatMap recE := by
  have h1 := h.eq
  have h64 := h.n64
  have hf64 := hf.1
  have h2 : putL fs = putK n es ++ l.drop at_ := by rw [← hle]; exact h1
  unfold putK at h2
  rw [List.append_assoc] at h2
  have e1 := Wr.rd_num n (es.flatMap recE ++ l.drop at_) (by omega)
  rw [← h2, show putL fs = Wr.num fs.length ++ fs.flatMap recE from rfl, Wr.rd_num fs.length (fs.flatMap recE) (by omega)] at e1
  simp only [Option.some.injEq, Prod.mk.injEq] at e1
  rw [show putL fs = Wr.num fs.length ++ fs.flatMap recE from rfl, e1.1] at h2
  have h3 := List.append_cancel_left h2
  obtain ⟨h4, h5⟩ := recs_split es fs (l.drop at_) [] h.ok hf.2 (by omega) (by rw [List.append_nil]; exact h3)
  rw [List.append_nil] at h5
  exact ⟨e1.1.symm, h4, h5⟩
/-- What comes next, where it is a ledger that was written. -/
theorem PartL.next (h : PartL l at_ n es) (hf : GoodL fs) (hle : l = putL fs) (hl : es.length < n) : ∃ f ∈ fs, f.form = true ∧ Wr.rd (l.drop at_) = some (f.put.length, (Wr.num f.put.length).length) ∧ at_ + (Wr.num f.put.length).length + f.put.length ≤ l.length ∧ (l.drop (at_ + (Wr.num f.put.length).length)).take f.put.length = f.put := by
  obtain ⟨h1, _, h3⟩ := h.begin hf hle (by omega)
  have h4 : es.length < fs.length := by omega
  have hm := List.getElem_mem h4
  have hform := hf.2 _ hm
  rw [List.drop_eq_getElem_cons h4, List.flatMap_cons] at h3
  generalize fs[es.length] = f at *
  have h5 := put_len hform
  rw [show recE f = Wr.num f.put.length ++ f.put from rfl, List.append_assoc] at h3
  refine ⟨f, hm, hform, by rw [h3]; exact Wr.rd_num _ _ (by omega), ?_, ?_⟩
  · have h6 := congrArg List.length h3
    rw [List.length_drop, List.length_append, List.length_append] at h6
    have h7 := Wr.num_pos f.put.length
    omega
  · rw [← List.drop_drop, h3, List.drop_left' rfl, List.take_left' rfl]
theorem PartL.no_rec (h : PartL l at_ n es) (hl : es.length < n) (hno : ∀ x k, Wr.rd (l.drop at_) = some (x, k) → ((l.length : Nat) : Int) < (x : Int) ∨ l.length < at_ + k + x) (hf : GoodL fs) : l ≠ putL fs := fun hle => by
  obtain ⟨f, _, _, h1, h2, _⟩ := h.next hf hle hl
  have := hno _ _ h1
  omega
theorem PartL.no_get (h : PartL l at_ n es) (hl : es.length < n) {x k : Nat} (hr : Wr.rd (l.drop at_) = some (x, k)) (hno : ∀ e : En, e.form = true → (l.drop (at_ + k)).take x ≠ e.put) (hf : GoodL fs) : l ≠ putL fs := fun hle => by
  obtain ⟨f, _, hff, h1, _, h3⟩ := h.next hf hle hl
  rw [hr] at h1
  simp only [Option.some.injEq, Prod.mk.injEq] at h1
  obtain ⟨hx, hk⟩ := h1
  rw [← hk, ← hx] at h3
  exact hno f hff h3
theorem PartL.snoc (h : PartL l at_ n es) (hb : ∀ c ∈ l, c < 256) {x k : Nat} (hr : Wr.rd (l.drop at_) = some (x, k)) (hfit : at_ + k + x ≤ l.length) {e : En} (he : e.form = true) (hone : (l.drop (at_ + k)).take x = e.put) : PartL l (at_ + k + x) n (es ++ [e]) := by
  obtain ⟨h1, h2⟩ := Wr.rd_inv (fun c hc => hb c (List.mem_of_mem_drop hc)) hr
  rw [List.drop_drop] at h2
  have hx : x = e.put.length := by rw [← hone, List.length_take, List.length_drop]; omega
  have h3 : l.drop (at_ + k) = e.put ++ l.drop (at_ + k + x) := by
    have h5 := (List.take_append_drop x (l.drop (at_ + k))).symm
    rw [List.drop_drop, hone] at h5
    exact h5
  have h4 : recE e = Wr.num x ++ e.put := by rw [hx]; rfl
  refine ⟨?_, ?_, fun y hy => ?_, h.n64⟩
  · rw [putK_snoc, h4, List.append_assoc, List.append_assoc, ← h3, ← h2]
    exact h.eq
  · rw [putK_snoc, h4, List.length_append, List.length_append, ← h.len, ← h1, hx]
    omega
  · rcases List.mem_append.1 hy with hy | hy
    · exact h.ok y hy
    · rw [List.mem_singleton.1 hy]; exact he
theorem PartL.none_of (h : PartL l at_ n es) (hl : es.length = n) (hat : at_ < l.length) (hf : GoodL fs) : l ≠ putL fs := fun hle => by
  obtain ⟨h1, _, h3⟩ := h.begin hf hle (by omega)
  rw [show fs.drop es.length = [] from List.drop_eq_nil_of_le (by omega)] at h3
  have := congrArg List.length h3
  rw [List.length_drop] at this
  simp at this
  omega
theorem PartL.done (h : PartL l at_ n es) (hl : es.length = n) (hat : l.length ≤ at_) : l = putL es := by
  have h1 := h.eq
  rw [List.drop_eq_nil_of_le hat, List.append_nil, ← hl, putK_all] at h1
  exact h1
end
theorem putL_inj {es fs : List En} (he : GoodL es) (hf : GoodL fs) (h : putL es = putL fs) : es = fs := by
  have h64 := he.1
  have h1 : PartL (putL es) (putK es.length es).length es.length es := ⟨by rw [putK_all, List.drop_length, List.append_nil], rfl, he.2, he.1⟩
  obtain ⟨h2, h3, _⟩ := h1.begin hf h (Nat.le_refl _)
  rw [h2, List.take_length] at h3
  exact h3.symm
theorem putL_byte (l : List En) : ∀ x ∈ putL l, x < 256 := by
  intro x hx
  rcases List.mem_append.1 hx with hx | hx
  · exact Wr.num_byte _ x hx
  · obtain ⟨e, _, he⟩ := List.mem_flatMap.1 hx
    rcases List.mem_append.1 he with he | he
    · exact Wr.num_byte _ x he
    · exact e.put_byte x he
end Go.Proofs.YteflnnlihblpgaaDoor
namespace Go.Proofs.YteflnnlihblpgaaDoor
set_option maxRecDepth 100000
open Go.RowKit
set_option linter.unusedVariables false
def Ms.nums (m : Ms) : List Int := [m.kd, m.fr, m.tw, m.jb, m.br, m.bn, m.ar, m.an]
/-- A message's bytes, without their sum. -/
def Ms.raw (m : Ms) (es : List En) : List Nat := putN m.nums ++ (Wr.num (putL es).length ++ putL es)
def Ms.put (m : Ms) (es : List En) : List Nat := sealed (m.raw es)
theorem goodLB_iff {es : List En} : goodLB es = true ↔ GoodL es := by
  unfold goodLB GoodL
  rw [Bool.and_eq_true, decide_eq_true_eq, List.all_eq_true]
theorem form_good {m : Ms} {es : List En} (h : m.form es = true) : GoodL es := by
  unfold Ms.form Ms.body at h
  rw [Bool.and_eq_true] at h
  obtain ⟨_, h⟩ := h
  refine goodLB_iff.1 ?_
  split at h
  · rw [Bool.and_eq_true] at h; exact emp_good es h.2
  · split at h
    · rw [Bool.and_eq_true] at h; exact h.1
    · split at h
      · rw [Bool.and_eq_true] at h; exact h.1
      · split at h
        · rw [Bool.and_eq_true] at h; exact emp_good es h.2
        · cases h
theorem legB_iff {r n : Int} : legB r n = true ↔ (1 ≤ r ∧ r ≤ 1099511627776 ∧ 0 ≤ n ∧ n ≤ 6) := by unfold legB; exact decide_eq_true_iff
theorem form_nums {m : Ms} {es : List En} (h : m.form es = true) : ∀ x ∈ m.nums, 0 ≤ x ∧ x ≤ 1099511627776 := by
  unfold Ms.form Ms.head Ms.body nodB Ms.non at h
  simp only [Bool.and_eq_true, decide_eq_true_eq, legB_iff] at h
  obtain ⟨⟨h1, h2, h3, h4⟩, h5⟩ := h
  have ha : (m.kd = 1 ∨ m.kd = 4 ∨ m.kd = 2 ∨ m.kd = 3 ∨ m.kd = 5) ∧ (0 ≤ m.ar ∧ m.ar ≤ 1099511627776 ∧ 0 ≤ m.an ∧ m.an ≤ 6) := by
    split at h5
    · simp only [Bool.and_eq_true, decide_eq_true_eq] at h5; omega
    · split at h5
      · simp only [Bool.and_eq_true, Bool.or_eq_true, decide_eq_true_eq, legB_iff] at h5; omega
      · split at h5
        · simp only [Bool.and_eq_true, decide_eq_true_eq] at h5; omega
        · split at h5
          · simp only [Bool.and_eq_true, decide_eq_true_eq, legB_iff] at h5; omega
          · cases h5
  intro x hx
  simp only [Ms.nums, List.mem_cons, List.not_mem_nil, or_false] at hx
  rcases hx with rfl | rfl | rfl | rfl | rfl | rfl | rfl | rfl <;> omega
theorem WL.numI {w wr : World} {g : Nat} {bs : List Nat} (h : WL w wr g bs) (hl : bs.length ≤ 549755813888) (x : Int) (h0 : 0 ≤ x) (hx : x ≤ 1099511627776) :
    Calls Tryd.prog 54 #[.pointer (some ⟨g, 0, none⟩), .int .i64 x] wr fun r w' => r = .returned (.tuple #[]) ∧ WL w w' g (bs ++ putN [x]) := by
  obtain ⟨A', n', c', hw⟩ := h.ex
  have h2 := hw.len
  refine (wnumI x wr hw h0 (by omega) (by omega)).mono ?_
  rintro r w' ⟨rfl, A2, n2, c2, hw2, hf, _⟩
  exact ⟨rfl, ⟨A2, n2, c2, by rw [putN_one]; exact hw2⟩, wr_ext hw hf h.x h.lo, h.lo⟩
theorem putN_le {m : Ms} {es : List En} (h : m.form es = true) (k : Nat) : (putN (m.nums.take k)).length ≤ 72 := by
  have h1 := putN_len (m.nums.take k) (fun y hy => by have := form_nums h y (List.mem_of_mem_take hy); omega)
  have h2 : (m.nums.take k).length ≤ 8 := by rw [List.length_take]; exact Nat.min_le_right _ _
  omega
theorem putL_le {es : List En} (h : GoodL es) : (putL es).length ≤ 24777 := by
  have h1 := putK_len es.length (by have := h.1; omega) es h.2
  have h2 := h.1
  show (putK es.length es).length ≤ _
  omega
section
variable {m : Ms} {A : Option Addr} {n c : Nat} {ss : List EnS} {w : World}
set_option maxHeartbeats 3200000 in
theorem mput_no (hs : Led w A n ss) (hn : n ≤ 2000000000000) (hf : m.form (ents ss) = false) {ps : Addr} (hS : Sen w 1 ps) : Calls Tryd.prog 39 #[.agg #[.int .i64 m.kd, .int .i64 m.fr, .int .i64 m.tw, .int .i64 m.jb, .int .i64 m.br, .int .i64 m.bn, .int .i64 m.ar, .int .i64 m.an, .slice A n c]] w fun x w' => x = .returned (.tuple #[.slice none 0 0, .iface 149 (.pointer (some ps))]) ∧ Ext w w' := by
  have HC := Lib.hid (fun W (hx : Ext w W) => mcheck_any m A n c ss W (hs.ext hx) hn false (Lib.hid hf) (hS.ext hx))
  have XB := (Ext.refl w).alloc (.cells #[.int .i64 m.kd, .int .i64 m.fr, .int .i64 m.tw, .int .i64 m.jb, .int .i64 m.br, .int .i64 m.bn, .int .i64 m.ar, .int .i64 m.an, .slice A n c] 76)
  have HV := Lib.hid (And.intro (heap_alloc_new w (.cells #[.int .i64 m.kd, .int .i64 m.fr, .int .i64 m.tw, .int .i64 m.jb, .int .i64 m.br, .int .i64 m.bn, .int .i64 m.ar, .int .i64 m.an, .slice A n c] 76)) XB)
  clear XB
  clear hs hf hS
  go_enter Tryd.func39, Tryd.ntmps39
  go_upto_region 1 with (fail)
  generalize w.alloc (.cells #[.int .i64 m.kd, .int .i64 m.fr, .int .i64 m.tw, .int .i64 m.jb, .int .i64 m.br, .int .i64 m.bn, .int .i64 m.ar, .int .i64 m.an, .slice A n c] 76) = V at *
  generalize w.heap.size = ob at *
  have c0 : V.cell? ⟨ob, 0, none⟩ = some (.int .i64 m.kd) := block_cell (HV.out.1) 0
  have c1 : V.cell? ⟨ob, 1, none⟩ = some (.int .i64 m.fr) := block_cell (HV.out.1) 1
  have c2 : V.cell? ⟨ob, 2, none⟩ = some (.int .i64 m.tw) := block_cell (HV.out.1) 2
  have c3 : V.cell? ⟨ob, 3, none⟩ = some (.int .i64 m.jb) := block_cell (HV.out.1) 3
  have c4 : V.cell? ⟨ob, 4, none⟩ = some (.int .i64 m.br) := block_cell (HV.out.1) 4
  have c5 : V.cell? ⟨ob, 5, none⟩ = some (.int .i64 m.bn) := block_cell (HV.out.1) 5
  have c6 : V.cell? ⟨ob, 6, none⟩ = some (.int .i64 m.ar) := block_cell (HV.out.1) 6
  have c7 : V.cell? ⟨ob, 7, none⟩ = some (.int .i64 m.an) := block_cell (HV.out.1) 7
  have c8 : V.cell? ⟨ob, 8, none⟩ = some (.slice A n c) := block_cell (HV.out.1) 8
  have C1 := Lib.hid (HC.out V HV.out.2)
  go_wp2_with (go_at_call 38; refine C1.out.mono ?_; rintro x w1 ⟨rfl, x1⟩; rw [if_neg (by decide)])
  go_returns
  exact ⟨rfl, HV.out.2.trans x1⟩
set_option maxHeartbeats 6400000 in
theorem mput_ok (hs : Led w A n ss) (hn : n ≤ 2000000000000) (hf : m.form (ents ss) = true) {ps : Addr} (hS : Sen w 1 ps) : Calls Tryd.prog 39 #[.agg #[.int .i64 m.kd, .int .i64 m.fr, .int .i64 m.tw, .int .i64 m.jb, .int .i64 m.br, .int .i64 m.bn, .int .i64 m.ar, .int .i64 m.an, .slice A n c]] w fun x w' => ∃ B k d, x = .returned (.tuple #[.slice B k d, .nilIface]) ∧ Own w' w.heap.size 5 1 B k d (u8s (m.put (ents ss))) ∧ Ext w w' := by
  have hg := form_good hf
  have hsl := hs.len
  have h64 : n ≤ 64 := by have := hg.1; rw [ents_len] at this; omega
  have HC := Lib.hid (fun W (hx : Ext w W) => mcheck_any m A n c ss W (hs.ext hx) hn true (Lib.hid hf) (hS.ext hx))
  have HWr := Lib.hid (fun W (hx : Ext w W) => write_ok A n c ss W (hs.ext hx) h64 hg.2)
  have HF := Lib.hid (And.intro hf hg)
  have XB := (Ext.refl w).alloc (.cells #[.int .i64 m.kd, .int .i64 m.fr, .int .i64 m.tw, .int .i64 m.jb, .int .i64 m.br, .int .i64 m.bn, .int .i64 m.ar, .int .i64 m.an, .slice A n c] 76)
  have HV := Lib.hid (And.intro (heap_alloc_new w (.cells #[.int .i64 m.kd, .int .i64 m.fr, .int .i64 m.tw, .int .i64 m.jb, .int .i64 m.br, .int .i64 m.bn, .int .i64 m.ar, .int .i64 m.an, .slice A n c] 76)) XB)
  clear XB
  clear hs hf hS hg hsl
  go_enter Tryd.func39, Tryd.ntmps39
  go_upto_region 1 with (fail)
  generalize w.alloc (.cells #[.int .i64 m.kd, .int .i64 m.fr, .int .i64 m.tw, .int .i64 m.jb, .int .i64 m.br, .int .i64 m.bn, .int .i64 m.ar, .int .i64 m.an, .slice A n c] 76) = V at *
  generalize w.heap.size = ob at *
  have c0 : ∀ W, Ext V W → W.cell? ⟨ob, 0, none⟩ = some (.int .i64 m.kd) := fun W hx => block_cell ((hx.block _ (block_lt (HV.out.1))).trans (HV.out.1)) 0
  have c1 : ∀ W, Ext V W → W.cell? ⟨ob, 1, none⟩ = some (.int .i64 m.fr) := fun W hx => block_cell ((hx.block _ (block_lt (HV.out.1))).trans (HV.out.1)) 1
  have c2 : ∀ W, Ext V W → W.cell? ⟨ob, 2, none⟩ = some (.int .i64 m.tw) := fun W hx => block_cell ((hx.block _ (block_lt (HV.out.1))).trans (HV.out.1)) 2
  have c3 : ∀ W, Ext V W → W.cell? ⟨ob, 3, none⟩ = some (.int .i64 m.jb) := fun W hx => block_cell ((hx.block _ (block_lt (HV.out.1))).trans (HV.out.1)) 3
  have c4 : ∀ W, Ext V W → W.cell? ⟨ob, 4, none⟩ = some (.int .i64 m.br) := fun W hx => block_cell ((hx.block _ (block_lt (HV.out.1))).trans (HV.out.1)) 4
  have c5 : ∀ W, Ext V W → W.cell? ⟨ob, 5, none⟩ = some (.int .i64 m.bn) := fun W hx => block_cell ((hx.block _ (block_lt (HV.out.1))).trans (HV.out.1)) 5
  have c6 : ∀ W, Ext V W → W.cell? ⟨ob, 6, none⟩ = some (.int .i64 m.ar) := fun W hx => block_cell ((hx.block _ (block_lt (HV.out.1))).trans (HV.out.1)) 6
  have c7 : ∀ W, Ext V W → W.cell? ⟨ob, 7, none⟩ = some (.int .i64 m.an) := fun W hx => block_cell ((hx.block _ (block_lt (HV.out.1))).trans (HV.out.1)) 7
  have c8 : ∀ W, Ext V W → W.cell? ⟨ob, 8, none⟩ = some (.slice A n c) := fun W hx => block_cell ((hx.block _ (block_lt (HV.out.1))).trans (HV.out.1)) 8
  have XV := Ext.refl V
  have C1 := Lib.hid (HC.out V HV.out.2)
  go_upto_region 4 with (go_at_call 38; refine C1.out.mono ?_; rintro x w1 ⟨rfl, x1⟩; rw [if_pos (by rfl)])
  have X1 := XV.trans x1
  have C2 := Lib.hid (HWr.out w1 (HV.out.2.trans X1))
  go_upto_region 7 with (go_at_call 35; refine C2.out.mono ?_; rintro x w2 ⟨B, k, d, rfl, o2, x2⟩)
  have hk : k = (putL (ents ss)).length := by have h := o2.len; rw [u8s_len] at h; omega
  have hkl := putL_le HF.out.2
  have H2 := Lib.hid (And.intro o2 (X1.trans x2))
  have HK := Lib.hid hk
  have hkm : k ≤ 24777 := by omega
  clear o2 x2 x1 X1 C1 C2 hk hkl
  have CN := Lib.hid (new_any w2)
  go_upto_region 8 with (go_at_call 53; refine CN.out.mono ?_; rintro x w3 ⟨rfl, n3, x3⟩)
  have HP : Hid (WL w2 w3 w2.heap.size (putN (m.nums.take 0))) := Lib.hid ⟨⟨none, 0, 0, by simpa [putN] using n3⟩, x3, Nat.le_refl _⟩
  have X3 := H2.out.2.trans x3
  clear n3 x3 CN
  obtain ⟨g, hg⟩ : ∃ g, w2.heap.size = g := ⟨_, rfl⟩
  rw [hg] at HP
  simp only [hg]
  have HG := Lib.hid hg
  clear hg
  go_upto_region 9 with (fail)
  clear c0 c1 c2 c3 c4 c5 c6 c7 c8
  clear X3
  go_loopw [9, 47] (fun _ v47 wr => ∃ k : Nat, v47 = .int .i64 (k : Int) ∧ k ≤ 8 ∧ Hid (WL w2 wr g (putN (m.nums.take k)))) (fun _ v47 _ => 8 - (intOf v47).toNat)
  case atStart => exact ⟨0, rfl, by omega, HP.out⟩
  case round =>
    obtain ⟨j, rfl, hj, HI⟩ := hrel
    clear HP
    by_cases hlt : j < 8
    · have hh : j = 0 ∨ j = 1 ∨ j = 2 ∨ j = 3 ∨ j = 4 ∨ j = 5 ∨ j = 6 ∨ j = 7 := by omega
      rcases hh with rfl | rfl | rfl | rfl | rfl | rfl | rfl | rfl
      · have hx := form_nums HF.out.1 (m.kd) (by simp [Ms.nums])
        have CW := Lib.hid (HI.out.numI (by have := putN_le HF.out.1 0; omega) (m.kd) hx.1 hx.2)
        clear hx
        have ri : ∀ W, (Instr.index 126 (.agg #[.int .i64 m.kd, .int .i64 m.fr, .int .i64 m.tw, .int .i64 m.jb, .int .i64 m.br, .int .i64 m.bn, .int .i64 m.ar, .int .i64 m.an]) (.int .i64 0)).run Tryd.prog W = .ok (.int .i64 m.kd) W := fun W => by kernel_rfl
        go_wp2_with (refine CW.out.mono ?_; rintro x w4 ⟨rfl, p4⟩)
        clear ri
        have H4 : Hid (WL w2 w4 g (putN (m.nums.take (0 + 1)))) := Lib.hid (by have h := p4; rwa [← putN_app] at h)
        clear p4 CW
        go_roundw
        case rel => exact ⟨0 + 1, by go_num, by omega, H4.out⟩
        case measure => simp [intOf]
      · have hx := form_nums HF.out.1 (m.fr) (by simp [Ms.nums])
        have CW := Lib.hid (HI.out.numI (by have := putN_le HF.out.1 1; omega) (m.fr) hx.1 hx.2)
        clear hx
        have ri : ∀ W, (Instr.index 126 (.agg #[.int .i64 m.kd, .int .i64 m.fr, .int .i64 m.tw, .int .i64 m.jb, .int .i64 m.br, .int .i64 m.bn, .int .i64 m.ar, .int .i64 m.an]) (.int .i64 1)).run Tryd.prog W = .ok (.int .i64 m.fr) W := fun W => by kernel_rfl
        go_wp2_with (refine CW.out.mono ?_; rintro x w4 ⟨rfl, p4⟩)
        clear ri
        have H4 : Hid (WL w2 w4 g (putN (m.nums.take (1 + 1)))) := Lib.hid (by have h := p4; rwa [← putN_app] at h)
        clear p4 CW
        go_roundw
        case rel => exact ⟨1 + 1, by go_num, by omega, H4.out⟩
        case measure => simp [intOf]
      · have hx := form_nums HF.out.1 (m.tw) (by simp [Ms.nums])
        have CW := Lib.hid (HI.out.numI (by have := putN_le HF.out.1 2; omega) (m.tw) hx.1 hx.2)
        clear hx
        have ri : ∀ W, (Instr.index 126 (.agg #[.int .i64 m.kd, .int .i64 m.fr, .int .i64 m.tw, .int .i64 m.jb, .int .i64 m.br, .int .i64 m.bn, .int .i64 m.ar, .int .i64 m.an]) (.int .i64 2)).run Tryd.prog W = .ok (.int .i64 m.tw) W := fun W => by kernel_rfl
        go_wp2_with (refine CW.out.mono ?_; rintro x w4 ⟨rfl, p4⟩)
        clear ri
        have H4 : Hid (WL w2 w4 g (putN (m.nums.take (2 + 1)))) := Lib.hid (by have h := p4; rwa [← putN_app] at h)
        clear p4 CW
        go_roundw
        case rel => exact ⟨2 + 1, by go_num, by omega, H4.out⟩
        case measure => simp [intOf]
      · have hx := form_nums HF.out.1 (m.jb) (by simp [Ms.nums])
        have CW := Lib.hid (HI.out.numI (by have := putN_le HF.out.1 3; omega) (m.jb) hx.1 hx.2)
        clear hx
        have ri : ∀ W, (Instr.index 126 (.agg #[.int .i64 m.kd, .int .i64 m.fr, .int .i64 m.tw, .int .i64 m.jb, .int .i64 m.br, .int .i64 m.bn, .int .i64 m.ar, .int .i64 m.an]) (.int .i64 3)).run Tryd.prog W = .ok (.int .i64 m.jb) W := fun W => by kernel_rfl
        go_wp2_with (refine CW.out.mono ?_; rintro x w4 ⟨rfl, p4⟩)
        clear ri
        have H4 : Hid (WL w2 w4 g (putN (m.nums.take (3 + 1)))) := Lib.hid (by have h := p4; rwa [← putN_app] at h)
        clear p4 CW
        go_roundw
        case rel => exact ⟨3 + 1, by go_num, by omega, H4.out⟩
        case measure => simp [intOf]
      · have hx := form_nums HF.out.1 (m.br) (by simp [Ms.nums])
        have CW := Lib.hid (HI.out.numI (by have := putN_le HF.out.1 4; omega) (m.br) hx.1 hx.2)
        clear hx
        have ri : ∀ W, (Instr.index 126 (.agg #[.int .i64 m.kd, .int .i64 m.fr, .int .i64 m.tw, .int .i64 m.jb, .int .i64 m.br, .int .i64 m.bn, .int .i64 m.ar, .int .i64 m.an]) (.int .i64 4)).run Tryd.prog W = .ok (.int .i64 m.br) W := fun W => by kernel_rfl
        go_wp2_with (refine CW.out.mono ?_; rintro x w4 ⟨rfl, p4⟩)
        clear ri
        have H4 : Hid (WL w2 w4 g (putN (m.nums.take (4 + 1)))) := Lib.hid (by have h := p4; rwa [← putN_app] at h)
        clear p4 CW
        go_roundw
        case rel => exact ⟨4 + 1, by go_num, by omega, H4.out⟩
        case measure => simp [intOf]
      · have hx := form_nums HF.out.1 (m.bn) (by simp [Ms.nums])
        have CW := Lib.hid (HI.out.numI (by have := putN_le HF.out.1 5; omega) (m.bn) hx.1 hx.2)
        clear hx
        have ri : ∀ W, (Instr.index 126 (.agg #[.int .i64 m.kd, .int .i64 m.fr, .int .i64 m.tw, .int .i64 m.jb, .int .i64 m.br, .int .i64 m.bn, .int .i64 m.ar, .int .i64 m.an]) (.int .i64 5)).run Tryd.prog W = .ok (.int .i64 m.bn) W := fun W => by kernel_rfl
        go_wp2_with (refine CW.out.mono ?_; rintro x w4 ⟨rfl, p4⟩)
        clear ri
        have H4 : Hid (WL w2 w4 g (putN (m.nums.take (5 + 1)))) := Lib.hid (by have h := p4; rwa [← putN_app] at h)
        clear p4 CW
        go_roundw
        case rel => exact ⟨5 + 1, by go_num, by omega, H4.out⟩
        case measure => simp [intOf]
      · have hx := form_nums HF.out.1 (m.ar) (by simp [Ms.nums])
        have CW := Lib.hid (HI.out.numI (by have := putN_le HF.out.1 6; omega) (m.ar) hx.1 hx.2)
        clear hx
        have ri : ∀ W, (Instr.index 126 (.agg #[.int .i64 m.kd, .int .i64 m.fr, .int .i64 m.tw, .int .i64 m.jb, .int .i64 m.br, .int .i64 m.bn, .int .i64 m.ar, .int .i64 m.an]) (.int .i64 6)).run Tryd.prog W = .ok (.int .i64 m.ar) W := fun W => by kernel_rfl
        go_wp2_with (refine CW.out.mono ?_; rintro x w4 ⟨rfl, p4⟩)
        clear ri
        have H4 : Hid (WL w2 w4 g (putN (m.nums.take (6 + 1)))) := Lib.hid (by have h := p4; rwa [← putN_app] at h)
        clear p4 CW
        go_roundw
        case rel => exact ⟨6 + 1, by go_num, by omega, H4.out⟩
        case measure => simp [intOf]
      · have hx := form_nums HF.out.1 (m.an) (by simp [Ms.nums])
        have CW := Lib.hid (HI.out.numI (by have := putN_le HF.out.1 7; omega) (m.an) hx.1 hx.2)
        clear hx
        have ri : ∀ W, (Instr.index 126 (.agg #[.int .i64 m.kd, .int .i64 m.fr, .int .i64 m.tw, .int .i64 m.jb, .int .i64 m.br, .int .i64 m.bn, .int .i64 m.ar, .int .i64 m.an]) (.int .i64 7)).run Tryd.prog W = .ok (.int .i64 m.an) W := fun W => by kernel_rfl
        go_wp2_with (refine CW.out.mono ?_; rintro x w4 ⟨rfl, p4⟩)
        clear ri
        have H4 : Hid (WL w2 w4 g (putN (m.nums.take (7 + 1)))) := Lib.hid (by have h := p4; rwa [← putN_app] at h)
        clear p4 CW
        go_roundw
        case rel => exact ⟨7 + 1, by go_num, by omega, H4.out⟩
        case measure => simp [intOf]
    · obtain rfl : j = 8 := by omega
      have HJ : Hid (WL w2 wr g (putN m.nums)) := Lib.hid (by have h := HI.out; rwa [List.take_of_length_le (by simp [Ms.nums])] at h)
      have hl72 : (putN m.nums).length ≤ 72 := by have h := putN_le HF.out.1 8; rwa [List.take_of_length_le (by simp [Ms.nums])] at h
      have CB := Lib.hid (HJ.out.bytes (by omega) B k d (putL (ents ss)) (H2.out.1.ext HJ.out.x) (by omega) (fun A1 n1 c1 hw b hb => by
        have h1 : b.block < g := by have h := H2.out.1.lt_at hb; have := HG.out; omega
        refine ⟨by omega, fun a ha => ?_⟩
        have h2 := hw.own.base_le a.block (by rw [ha]; rfl)
        omega))
      clear HI
      go_upto_region 14 with (go_at_call 64; refine CB.out.mono ?_; rintro x w5 ⟨rfl, p5⟩)
      obtain ⟨A5, n5, c5, s5⟩ := p5.ex
      have h5 : n5 = (m.raw (ents ss)).length := by have h := s5.len; rw [← h]; unfold Ms.raw; rw [HK.out]
      have hrl : (m.raw (ents ss)).length ≤ 30000 := by unfold Ms.raw; have hn9 : (Wr.num (putL (ents ss)).length).length ≤ 9 := Wr.num_len 8 _ (by rw [show (128 : Nat) ^ (8 + 1) = 9223372036854775808 by decide]; have := HK.out; omega); simp only [List.length_append]; have := HK.out; omega
      have CD := Lib.hid (done_any w5 s5 (by omega))
      have H5 := Lib.hid (And.intro p5.x h5)
      have h5m : n5 ≤ 30000 := by omega
      clear p5 s5 CB h5 hrl hl72
      go_upto_region 15 with (go_at_call 55; refine CD.out.mono ?_; rintro x w6 ⟨A6, c6, rfl, o6, x6⟩)
      have hby : ∀ x ∈ m.raw (ents ss), x < 256 := by
        intro x hx
        unfold Ms.raw at hx
        rcases List.mem_append.1 hx with hx | hx
        · exact putN_byte _ x hx
        · rcases List.mem_append.1 hx with hx | hx
          · exact Wr.num_byte _ x hx
          · exact putL_byte _ x hx
      have CS := Lib.hid (seal_any A6 n5 c6 (m.raw (ents ss)) w6 (by omega) (by have h := o6.rd; have e : (putN m.nums ++ (Wr.num k ++ putL (ents ss))) = m.raw (ents ss) := (by unfold Ms.raw; rw [HK.out]); rwa [e] at h) hby)
      have X6 := Lib.hid (H2.out.2.trans (H5.out.1.trans x6))
      clear o6 x6 hby CD
      go_wp2_with (go_at_call 71; refine CS.out.mono ?_; rintro x w7 ⟨A7, c7, rfl, o7, x7⟩)
      go_returns
      exact ⟨A7, _, c7, rfl, o7.base_mono (Nat.le_trans HV.out.2.size X6.out.size), HV.out.2.trans (X6.out.trans x7)⟩
end
end Go.Proofs.YteflnnlihblpgaaDoor
