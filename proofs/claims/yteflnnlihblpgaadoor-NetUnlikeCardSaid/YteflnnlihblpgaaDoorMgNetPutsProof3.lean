/-
  Package order: Put, walked.
-/
import Derived.Test.YteflnnlihblpgaaDoorMgNetPutsProof2
import Derived.Deep.QuietTactic
import Derived.BigQuiet
import Derived.Laws.BitsAllLaws
import Derived.Laws.Bits64
import Derived.Handy
import Derived.Lib.AppendStr
namespace Go.Proofs.YteflnnlihblpgaaDoor
set_option maxRecDepth 100000
open Go.RowKit
set_option linter.unusedVariables false
/-- An entry's cells. -/
def ecells (e : En) (A : Option Addr) (n c : Nat) : Array Value := #[.int .i64 e.cl, .int .i64 e.nu, .int .i64 e.kd, .int .i64 e.id, .int .i64 e.sk, .int .i64 e.sq, .int .i64 e.st, .int .i64 e.pol, .slice A n c, .int .i64 e.at_]
section
variable {w : World} {A : Option Addr} {n c : Nat} {e : En}
set_option maxHeartbeats 3200000 in
theorem check_ok (hr : Rd w 4 A n (trows e.ts).flatten) (hn : n ≤ 1000000000000000) (hf : e.form = true) : Calls Tryd.prog 25 #[.agg #[.int .i64 e.cl, .int .i64 e.nu, .int .i64 e.kd, .int .i64 e.id, .int .i64 e.sk, .int .i64 e.sq, .int .i64 e.st, .int .i64 e.pol, .slice A n c, .int .i64 e.at_]] w fun x w' => x = .returned .nilIface ∧ Ext w w' := by
  unfold En.form at hf
  rw [Bool.and_eq_true, decide_eq_true_eq] at hf
  obtain ⟨⟨h0, h1, h2, h3⟩, ho⟩ := hf
  have X0 := (Ext.refl w).alloc (.cells #[.int .i64 e.cl, .int .i64 e.nu, .int .i64 e.kd, .int .i64 e.id, .int .i64 e.sk, .int .i64 e.sq, .int .i64 e.st, .int .i64 e.pol, .slice A n c, .int .i64 e.at_] 29)
  have hob := heap_alloc_new w (.cells #[.int .i64 e.cl, .int .i64 e.nu, .int .i64 e.kd, .int .i64 e.id, .int .i64 e.sk, .int .i64 e.sq, .int .i64 e.st, .int .i64 e.pol, .slice A n c, .int .i64 e.at_] 29)
  have C1 := Lib.hid (chko_any e A n c _ (hr.ext X0) hn true (Lib.hid ho))
  have HV := Lib.hid (And.intro hob X0)
  have g0 : ¬ e.cl < 0 := by omega
  have g1 : ¬ 16 ≤ e.cl := by omega
  have g2 : ¬ e.nu < 1 := by omega
  have g3 : ¬ 1099511627776 < e.nu := by omega
  clear hob X0 hr ho h0 h1 h2 h3
  go_enter Tryd.func25, Tryd.ntmps25
  go_upto_region 1 with (fail)
  generalize w.alloc (.cells #[.int .i64 e.cl, .int .i64 e.nu, .int .i64 e.kd, .int .i64 e.id, .int .i64 e.sk, .int .i64 e.sq, .int .i64 e.st, .int .i64 e.pol, .slice A n c, .int .i64 e.at_] 29) = V at *
  generalize w.heap.size = ob at *
  have c0 : V.cell? ⟨ob, 0, none⟩ = some (.int .i64 e.cl) := block_cell HV.out.1 0
  have c1 : V.cell? ⟨ob, 1, none⟩ = some (.int .i64 e.nu) := block_cell HV.out.1 1
  have c2 : V.cell? ⟨ob, 2, none⟩ = some (.int .i64 e.kd) := block_cell HV.out.1 2
  have c3 : V.cell? ⟨ob, 3, none⟩ = some (.int .i64 e.id) := block_cell HV.out.1 3
  have c4 : V.cell? ⟨ob, 4, none⟩ = some (.int .i64 e.sk) := block_cell HV.out.1 4
  have c5 : V.cell? ⟨ob, 5, none⟩ = some (.int .i64 e.sq) := block_cell HV.out.1 5
  have c6 : V.cell? ⟨ob, 6, none⟩ = some (.int .i64 e.st) := block_cell HV.out.1 6
  have c7 : V.cell? ⟨ob, 7, none⟩ = some (.int .i64 e.pol) := block_cell HV.out.1 7
  have c8 : V.cell? ⟨ob, 8, none⟩ = some (.slice A n c) := block_cell HV.out.1 8
  have c9 : V.cell? ⟨ob, 9, none⟩ = some (.int .i64 e.at_) := block_cell HV.out.1 9
  go_wp2_with (go_at_call 52; refine C1.out.mono ?_; rintro x w1 ⟨rfl, x1⟩)
  go_returns
  exact ⟨rfl, HV.out.2.trans x1⟩
set_option maxHeartbeats 3200000 in
theorem check_no (hr : Rd w 4 A n (trows e.ts).flatten) (hn : n ≤ 1000000000000000) (hf : e.form = false) {ps : Addr} (hS : Sen w 1 ps) : Calls Tryd.prog 25 #[.agg #[.int .i64 e.cl, .int .i64 e.nu, .int .i64 e.kd, .int .i64 e.id, .int .i64 e.sk, .int .i64 e.sq, .int .i64 e.st, .int .i64 e.pol, .slice A n c, .int .i64 e.at_]] w fun x w' => x = .returned (.iface 149 (.pointer (some ps))) ∧ Ext w w' := by
  have X0 := (Ext.refl w).alloc (.cells #[.int .i64 e.cl, .int .i64 e.nu, .int .i64 e.kd, .int .i64 e.id, .int .i64 e.sk, .int .i64 e.sq, .int .i64 e.st, .int .i64 e.pol, .slice A n c, .int .i64 e.at_] 29)
  have hob := heap_alloc_new w (.cells #[.int .i64 e.cl, .int .i64 e.nu, .int .i64 e.kd, .int .i64 e.id, .int .i64 e.sk, .int .i64 e.sq, .int .i64 e.st, .int .i64 e.pol, .slice A n c, .int .i64 e.at_] 29)
  have CO := Lib.hid (fun b hb => chko_any e A n c _ (hr.ext X0) hn b hb)
  have HS := Lib.hid (fun W (hx : Ext w W) => (hS.ext hx).2.1)
  have HV := Lib.hid (And.intro hob X0)
  have HF := Lib.hid hf
  clear hob X0 hr hS hf
  go_enter Tryd.func25, Tryd.ntmps25
  go_upto_region 1 with (fail)
  generalize w.alloc (.cells #[.int .i64 e.cl, .int .i64 e.nu, .int .i64 e.kd, .int .i64 e.id, .int .i64 e.sk, .int .i64 e.sq, .int .i64 e.st, .int .i64 e.pol, .slice A n c, .int .i64 e.at_] 29) = V at *
  generalize w.heap.size = ob at *
  have c0 : V.cell? ⟨ob, 0, none⟩ = some (.int .i64 e.cl) := block_cell HV.out.1 0
  have c1 : V.cell? ⟨ob, 1, none⟩ = some (.int .i64 e.nu) := block_cell HV.out.1 1
  have c2 : V.cell? ⟨ob, 2, none⟩ = some (.int .i64 e.kd) := block_cell HV.out.1 2
  have c3 : V.cell? ⟨ob, 3, none⟩ = some (.int .i64 e.id) := block_cell HV.out.1 3
  have c4 : V.cell? ⟨ob, 4, none⟩ = some (.int .i64 e.sk) := block_cell HV.out.1 4
  have c5 : V.cell? ⟨ob, 5, none⟩ = some (.int .i64 e.sq) := block_cell HV.out.1 5
  have c6 : V.cell? ⟨ob, 6, none⟩ = some (.int .i64 e.st) := block_cell HV.out.1 6
  have c7 : V.cell? ⟨ob, 7, none⟩ = some (.int .i64 e.pol) := block_cell HV.out.1 7
  have c8 : V.cell? ⟨ob, 8, none⟩ = some (.slice A n c) := block_cell HV.out.1 8
  have c9 : V.cell? ⟨ob, 9, none⟩ = some (.int .i64 e.at_) := block_cell HV.out.1 9
  have s0 := HS.out V HV.out.2
  by_cases g0 : e.cl < 0
  · go_wp2_with fail
    go_returns
    exact ⟨rfl, HV.out.2⟩
  by_cases g1 : 16 ≤ e.cl
  · go_wp2_with fail
    go_returns
    exact ⟨rfl, HV.out.2⟩
  by_cases g2 : e.nu < 1
  · go_wp2_with fail
    go_returns
    exact ⟨rfl, HV.out.2⟩
  by_cases g3 : 1099511627776 < e.nu
  · go_wp2_with fail
    go_returns
    exact ⟨rfl, HV.out.2⟩
  have ho : e.ord = false := by
    have h := HF.out
    unfold En.form at h
    rw [Bool.and_eq_false_iff] at h
    rcases h with h | h
    · exact absurd (of_decide_eq_false h) (fun h2 => h2 (by omega))
    · exact h
  have C1 := Lib.hid (CO.out false (Lib.hid ho))
  clear CO ho
  go_upto_region 2 with (go_at_call 52; refine C1.out.mono ?_; rintro x w1 ⟨rfl, x1⟩)
  have s1 := HS.out w1 (HV.out.2.trans x1)
  clear s0 c0 c1 c2 c3 c4 c5 c6 c7 c8 c9
  go_wp2_with fail
  go_returns
  exact ⟨rfl, HV.out.2.trans x1⟩
end
end Go.Proofs.YteflnnlihblpgaaDoor
namespace Go.Proofs.YteflnnlihblpgaaDoor
set_option maxRecDepth 100000
open Go.RowKit

theorem eltU8 : Elt Tryd.prog 54 5 1 1 (.int .u8 0) := ⟨Tryd.underlying54, by kernel_rfl, rfl, by omega⟩
theorem u8s_one (l : List Nat) : ∀ u ∈ u8s l, u.oneCell' = true := by
  intro u hu; simp [u8s] at hu; obtain ⟨n, _, rfl⟩ := hu; rfl
theorem u8s_append (l m : List Nat) : u8s (l ++ m) = u8s l ++ u8s m := by simp [u8s]
def marks6 : List Nat := [201, 202, 203, 204, 205, 206]

set_option maxHeartbeats 400000 in
theorem bytes_any (A : Option Addr) (n c : Nat) (l : List Nat) (w : World) (hn : n ≤ 140737488351232) (hr : Rd w 1 A n (u8s l)) :
    Calls Tryd.prog 30 #[.slice A n c] w fun e w' => e = .returned (.slice (some ⟨w.heap.size, 0, none⟩) n (n + 6)) ∧ Rd w' 1 (some ⟨w.heap.size, 0, none⟩) (n + 6) (u8s (l ++ marks6)) ∧ Ext w w' := by
  go_enter Tryd.func30, Tryd.ntmps30
  go_wp2_with fail
  obtain ⟨w1, hrun, hown, hx, hsz⟩ := run_mk (w := w) eltU8 w.heap.size .i64 .i64 ((n : Int) + 6) (by omega) (by omega) (by omega) (Nat.le_refl _)
  refine upon_ok hrun ?_
  clear hrun
  rw [show ((n : Int) + 6).toNat = n + 6 by omega] at hown ⊢
  go_wp2_with (at_builtin; refine held ?_)
  refine Held.go (wp_app eltU8 hown (hr.ext hx) (u8s_one l) (by omega) (.inl (by omega)) (by omega) _ _ rfl rfl rfl rfl ?_)
  intro A2 c2 w2 hown2 hg2 _ hfit
  simp only [Nat.zero_add, List.nil_append] at hown2 hfit
  obtain ⟨rfl, rfl⟩ := hfit (by omega)
  clear hfit
  go_wp2_with (at_builtin; refine held ?_)
  have hs2 : w.heap.size + 1 ≤ w2.heap.size := by have := hg2.size; omega
  refine Held.go (wp_app (m := 6) (news := u8s marks6) eltU8 (hown2.alloc _) (Rd.new _ _ _ _) (u8s_one marks6) (by omega) (.inl (by omega)) (by simp; omega) _ _ rfl rfl rfl rfl ?_)
  intro A3 c3 w3 hown3 hg3 _ hfit
  obtain ⟨rfl, rfl⟩ := hfit (by omega)
  clear hfit
  have hx2 : Ext w w2 := hg2.ext hx (by simp)
  have hx3 : Ext w w3 := hg3.ext (hx2.alloc _) (by simp)
  clear hown2 hg2 hown hg3
  go_wp2_with fail
  go_ret
  refine ⟨by simp, ?_, hx3⟩
  have h := hown3.rd
  rw [u8s_append]
  exact h

theorem u8s_take (l : List Nat) (k : Nat) : u8s (l.take k) = (u8s l).take k := by simp [u8s]
theorem u8s_drop (l : List Nat) (k : Nat) : u8s (l.drop k) = (u8s l).drop k := by simp [u8s]
theorem Rd.u8take {w : World} {A : Option Addr} {n : Nat} {l : List Nat} (h : Rd w 1 A n (u8s l)) {k : Nat} (hk : k ≤ n) : Rd w 1 A k (u8s (l.take k)) := by
  rw [u8s_take]; simpa using h.take_ hk
theorem Rd.u8cut {w : World} {A : Option Addr} {n : Nat} {l : List Nat} (h : Rd w 1 A n (u8s l)) {k cap : Nat} (hk : k ≤ n) (hc : n ≤ cap) :
    Rd w 1 (if cap = k then A else A.map (·.add k)) (n - k) (u8s (l.drop k)) := by
  rw [u8s_drop]; simpa using h.cut hk hc
theorem Rd.u8off {w : World} {g o n : Nat} {l : List Nat} (h : Rd w 1 (some ⟨g, o, none⟩) n (u8s l)) {k : Nat} (hk : k ≤ n) : Rd w 1 (some ⟨g, o + k, none⟩) (n - k) (u8s (l.drop k)) := by
  have h1 := h.u8cut (k := k) (cap := n + k + 1) hk (by omega)
  rw [if_neg (by omega)] at h1
  have : (⟨g, o, none⟩ : Addr).add k = ⟨g, o + k, none⟩ := by unfold Addr.add; split <;> simp_all
  simpa [this] using h1
theorem Rd.unmark {w : World} {A : Option Addr} {n : Nat} {l : List Nat} (h : Rd w 1 A (n + 6) (u8s (l ++ marks6))) : Rd w 1 A n (u8s l) := by
  have hl := h.len
  rw [u8s_append, List.length_append, u8s_len, u8s_len] at hl
  have h1 := h.u8take (k := n) (by omega)
  rw [List.take_left' (by simp [marks6] at hl; omega)] at h1
  exact h1

/-- Bytes as a text. -/
def str (l : List Nat) : ByteArray := ⟨(l.map UInt8.ofNat).toArray⟩
theorem str_fold (l : List Nat) (s : ByteArray) : (l.map fun (n : Nat) => (n : Int)).foldl (fun r n => r.push (UInt8.ofNat n.toNat)) s = ⟨s.data ++ (l.map UInt8.ofNat).toArray⟩ := by
  induction l generalizing s with
  | nil => simp
  | cons a l ih =>
    rw [List.map_cons, List.foldl_cons, ih]
    congr 1
    simp [ByteArray.push]
theorem run_str {P : Program} {w : World} {t s e : TypeId} (ht : P.underlying t = some (.slice e)) (he : P.underlying e = some (.int .u8)) (hs : P.underlying s = some .string) {A : Option Addr} {n : Nat} (c : Nat) {l : List Nat} (hr : Rd w 1 A n (u8s l)) :
    (convert t s (.slice A n c)).run P w = .ok (.string (str l)) w := by
  rw [run_convert_bytes_string w t s e A n c ht he hs]
  cases A with
  | none =>
    have hn : n = 0 := by
      rcases Nat.eq_zero_or_pos n with h | h
      · exact h
      · obtain ⟨_, h, _⟩ := hr.2 h; cases h
    have hl := hr.len
    rw [u8s_len, hn] at hl
    have hl' := List.eq_nil_of_length_eq_zero hl
    subst hl'
    rfl
  | some ad =>
    have hl := hr.len
    have hload : (loadCells ad n).run P w = .ok ((l.map fun (n : Nat) => (n : Int)).map (Value.int .u8)).toArray w := by
      have e1 : (l.map fun (n : Nat) => (n : Int)).map (Value.int .u8) = u8s l := by simp [u8s]
      rw [e1]
      have h := run_loadCells_list (P := P) w ad (u8s l) (by
        intro j u hu
        have hj : 0 < n := by have := (List.getElem?_eq_some_iff.1 hu).1; omega
        obtain ⟨ad', h1, _, h2⟩ := hr.2 hj
        injection h1 with h1; subst h1
        exact h2 j u hu)
      rw [hl] at h
      exact h
    rw [run_bytesToString w ad n c _ hload, str_fold]
    show Result.ok (Value.string ⟨#[] ++ _⟩) w = _
    rw [Array.empty_append]; rfl

set_option maxHeartbeats 400000 in
theorem kept_any (g n c : Nat) (A : Option Addr) (l : List Nat) (w : World) (hn : n ≤ 140737488351232) (hg : Rd w 1 (some ⟨g, 0, none⟩) (n + 6) (u8s (l ++ marks6))) (hr : Rd w 1 A n (u8s l)) :
    Calls Tryd.prog 34 #[.slice (some ⟨g, 0, none⟩) n (n + 6), .slice A n c] w fun e w' => e = .returned (.bool true) ∧ ∃ k, w' = w.drewN k := by
  have hg' : Rd w 1 (some ⟨g, 0, none⟩) n (u8s l) := by
    have h := hg.take_ (k := n) (by omega)
    rw [u8s_append, Nat.mul_one, List.take_left' hr.len] at h
    exact h
  have c1 := fun k => run_str (P := Tryd.prog) (w := w.drewN k) (s := 9) Tryd.underlying54 Tryd.underlying5 Tryd.underlying9 (n + 6) (hg'.ext ((Ext.refl w).drewN k))
  have c2 := fun k => run_str (P := Tryd.prog) (w := w.drewN k) (s := 9) Tryd.underlying54 Tryd.underlying5 Tryd.underlying9 c (hr.ext ((Ext.refl w).drewN k))
  go_enter Tryd.func34, Tryd.ntmps34
  go_wp2_with fail
  go_quiet (fail)
  go_wp2_with fail
  clear c1 c2
  go_loop [6] (fun i => ∃ k : Nat, k ≤ 6 ∧ i = .int .i64 k) (fun i => 6 - (intOf i).toNat)
  case atStart => exact ⟨0, by omega, rfl⟩
  case round =>
    obtain ⟨k, hk, rfl⟩ := hrel
    by_cases hlt : k < 6
    · have hc : w.cell? ⟨g, n + k, none⟩ = some (.int .u8 (201 + (k : Int))) := by
        have hl := hr.len
        rw [u8s_len] at hl
        have h1 : (u8s (l ++ marks6))[n + k]? = some (.int .u8 (201 + (k : Int))) := by
          rw [u8s_append, List.getElem?_append_right (by rw [u8s_len]; omega), u8s_len, hl, Nat.add_sub_cancel_left]
          have : k = 0 ∨ k = 1 ∨ k = 2 ∨ k = 3 ∨ k = 4 ∨ k = 5 := by omega
          rcases this with rfl | rfl | rfl | rfl | rfl | rfl <;> rfl
        obtain ⟨ad, e, _, h⟩ := hg.at_ (k := n + k) (by omega)
        injection e with e
        subst e
        have := h _ _ h1
        rw [← this]
        unfold Addr.add; split <;> simp_all
      clear hg hg' hr
      go_wp2
      go_round
      case rel => exact ⟨k + 1, by omega, by go_num⟩
      case measure => simp [intOf]; omega
    · clear hg hg' hr
      obtain rfl : k = 6 := by omega
      go_wp2
      go_ret
      exact ⟨rfl, _, rfl⟩
end Go.Proofs.YteflnnlihblpgaaDoor
/-
  Numbers as bytes: seven bits a byte, lowest first, the last one below 128.
-/
namespace Go.Proofs.YteflnnlihblpgaaDoor.Wr
def num (n : Nat) : List Nat := if h : n < 128 then [n] else (n % 128 + 128) :: num (n / 128)
termination_by n
decreasing_by omega
theorem num_small {n : Nat} (h : n < 128) : num n = [n] := by rw [num]; simp [h]
theorem num_big {n : Nat} (h : ¬ n < 128) : num n = (n % 128 + 128) :: num (n / 128) := by rw [num]; simp [h]
theorem num_pos (n : Nat) : 1 ≤ (num n).length := by
  by_cases h : n < 128
  · rw [num_small h]; simp
  · rw [num_big h]; simp
theorem num_byte (n : Nat) : ∀ x ∈ num n, x < 256 := by
  induction n using Nat.strongRecOn with
  | _ n ih =>
    by_cases h : n < 128
    · rw [num_small h]; intro x hx; simp at hx; omega
    · rw [num_big h]
      intro x hx
      rcases List.mem_cons.1 hx with rfl | hx
      · omega
      · exact ih (n / 128) (by omega) x hx
theorem num_len (k : Nat) : ∀ n, n < 128 ^ (k + 1) → (num n).length ≤ k + 1 := by
  induction k with
  | zero =>
    intro n h
    rw [num_small (by simpa using h)]
    simp
  | succ k ih =>
    intro n h
    by_cases h1 : n < 128
    · rw [num_small h1]; simp
    · rw [num_big h1]
      have := ih (n / 128) (by rw [Nat.pow_succ] at h; omega)
      simp
      omega
theorem num_mono : ∀ (a b : Nat), a ≤ b → (num a).length ≤ (num b).length := by
  intro a
  induction a using Nat.strongRecOn with
  | _ a ih =>
    intro b h
    by_cases h1 : a < 128
    · rw [num_small h1]; exact num_pos b
    · rw [num_big h1, num_big (n := b) (by omega)]
      have := ih (a / 128) (by omega) (b / 128) (by omega)
      simp
      omega
/-- Two numbers whose bytes begin alike, as far as the shorter go, are one. -/
theorem num_prefix : ∀ (a b : Nat), (num a).take (min (num a).length (num b).length) = (num b).take (min (num a).length (num b).length) → a = b := by
  intro a
  induction a using Nat.strongRecOn with
  | _ a ih =>
    intro b h
    have pb := num_pos (b / 128)
    have pa := num_pos (a / 128)
    by_cases h1 : a < 128
    · by_cases h2 : b < 128
      · rw [num_small h1, num_small h2] at h
        simpa using h
      · rw [num_small h1, num_big h2] at h
        simp only [List.length_cons, List.length_nil] at h
        rw [show min (0 + 1) ((num (b / 128)).length + 1) = 1 by omega] at h
        simp at h
        omega
    · by_cases h2 : b < 128
      · rw [num_big h1, num_small h2] at h
        simp only [List.length_cons, List.length_nil] at h
        rw [show min ((num (a / 128)).length + 1) (0 + 1) = 1 by omega] at h
        simp at h
        omega
      · rw [num_big h1, num_big h2] at h
        simp only [List.length_cons] at h
        rw [show min ((num (a / 128)).length + 1) ((num (b / 128)).length + 1) = min (num (a / 128)).length (num (b / 128)).length + 1 by omega] at h
        simp only [List.take_succ_cons, List.cons.injEq] at h
        have := ih (a / 128) (by omega) (b / 128) h.2
        omega
end Go.Proofs.YteflnnlihblpgaaDoor.Wr
namespace Go.Proofs.YteflnnlihblpgaaDoor
theorem mask_core (x : Int) (k m : Nat) (hk : k ≤ 62) (hm : m = 2 ^ k) : Go.bits .and .i64 x ((m : Int) - 1) = x % (m : Int) := by
  have hm1 : 1 ≤ m := by rw [hm]; exact Nat.one_le_two_pow
  have hm2 : m ≤ 4611686018427387904 := by
    rw [hm]
    exact Nat.le_trans (Nat.pow_le_pow_right (by decide) hk) (by decide)
  have hdv : (m : Int) ∣ 18446744073709551616 := by
    have h1 : 2 ^ k ∣ 2 ^ 64 := Nat.pow_dvd_pow 2 (by omega)
    rw [← hm] at h1
    have h2 : ((m : Nat) : Int) ∣ ((2 ^ 64 : Nat) : Int) := Int.natCast_dvd_natCast.2 h1
    have h3 : ((2 ^ 64 : Nat) : Int) = 18446744073709551616 := by decide
    rwa [h3] at h2
  have h1 : (BitVec.ofInt 64 x).toNat = (x % 18446744073709551616).toNat := by rw [BitVec.toNat_ofInt]; rfl
  have h2 : (BitVec.ofInt 64 ((m : Int) - 1)).toNat = m - 1 := by
    rw [BitVec.toNat_ofInt]
    show (((m : Int) - 1) % 18446744073709551616).toNat = m - 1
    omega
  have h3 : Go.bits .and .i64 x ((m : Int) - 1) = IntKind.i64.wrap (((x % 18446744073709551616).toNat &&& (m - 1) : Nat) : Int) := by
    rw [← h1, ← h2, ← BitVec.toNat_and]
    rfl
  rw [h3, hm, Nat.and_two_pow_sub_one_eq_mod, ← hm, IntKind.wrap_i64]
  have h4 := Nat.mod_lt (x % 18446744073709551616).toNat (show 0 < m by omega)
  have h5 : (((x % 18446744073709551616).toNat % m : Nat) : Int) = x % (m : Int) := by
    rw [Int.natCast_emod, Int.toNat_of_nonneg (Int.emod_nonneg _ (by decide)), Int.emod_emod_of_dvd _ hdv]
  omega
theorem mask38 (x : Int) : Go.bits .and .i64 x 274877906943 = x % 274877906944 := mask_core x 38 274877906944 (by decide) (by decide)
theorem mask20 (x : Int) : Go.bits .and .i64 x 1048575 = x % 1048576 := mask_core x 20 1048576 (by decide) (by decide)
end Go.Proofs.YteflnnlihblpgaaDoor
namespace Go.Proofs.YteflnnlihblpgaaDoor
set_option maxRecDepth 100000
open Go.RowKit
set_option linter.unusedVariables false
theorem u8s_ns (l : List Nat) : u8s l = ns .u8 l := rfl
/-- A writer at block g: its bytes, and whether it is spoilt. -/
structure WrS (w : World) (g : Nat) (A : Option Addr) (n c : Nat) (bs : List Nat) (sp : Bool) : Prop where
  blk : w.heap[g]? = some (.cells #[.slice A n c, .bool sp] 134 (0, 0))
  own : Own w (g + 1) 5 1 A n c (u8s bs)
section
variable {w w' : World} {g n c : Nat} {A : Option Addr} {bs : List Nat} {sp : Bool}
theorem WrS.lt (h : WrS w g A n c bs sp) : g < w.heap.size := (Array.getElem?_eq_some_iff.1 h.blk).1
theorem WrS.c0 (h : WrS w g A n c bs sp) : w.cell? ⟨g, 0, none⟩ = some (.slice A n c) := by rw [cell_of_row w g 0 _ _ _ h.blk]; rfl
theorem WrS.c1 (h : WrS w g A n c bs sp) : w.cell? ⟨g, 1, none⟩ = some (.bool sp) := by rw [cell_of_row w g 1 _ _ _ h.blk]; rfl
theorem WrS.fr (h : WrS w g A n c bs sp) (k : Nat) : w.frozen? ⟨g, k, none⟩ = false := by
  have := h.blk
  simp only [World.frozen?, this]
  simp
theorem WrS.len (h : WrS w g A n c bs sp) : bs.length = n := by have := h.own.len; rw [u8s_len] at this; omega
/-- What leaves the writer's blocks alone keeps it. -/
theorem WrS.keep (h : WrS w g A n c bs sp) {P : Nat → Prop} (hf : Fr w w' P) (h1 : ¬ P g) (h2 : ∀ a, A = some a → ¬ P a.block) : WrS w' g A n c bs sp := by
  refine ⟨(hf.block g h.lt h1).trans h.blk, h.own.1, ?_⟩
  rcases h.own.2 with hn | ⟨g', cap, cur, e1, hb, hgg, rest⟩
  · exact .inl hn
  · refine .inr ⟨g', cap, cur, e1, hb, (hf.block g' (Array.getElem?_eq_some_iff.1 hgg).1 ?_).trans hgg, rest⟩
    injection e1 with e1
    exact h2 _ e1
theorem WrS.ext (h : WrS w g A n c bs sp) (hx : Ext w w') : WrS w' g A n c bs sp := h.keep (Fr.of_ext hx (fun _ => False)) (fun h => h) (fun _ _ h => h)
/-- The bytes are stored anew. -/
theorem WrS.put (h : WrS w g A n c bs sp) {w1 : World} {A' : Option Addr} {n' c' : Nat} {bs' : List Nat} (ho : Own w1 (g + 1) 5 1 A' n' c' (u8s bs')) (hk : w1.heap[g]? = w.heap[g]?) :
    WrS (w1.setCell ⟨g, 0, none⟩ (.slice A' n' c')) g A' n' c' bs' sp := by
  have hb := hk.trans h.blk
  refine ⟨heap_setCell_same w1 g 0 _ _ _ hb, ho.same fun b hb' _ => ?_⟩
  exact heap_setCell_other w1 ⟨g, 0, none⟩ b _ (by simp; omega)
end
/-- What a call on a writer leaves. -/
def WrOut (w : World) (g : Nat) (A : Option Addr) (bs : List Nat) (sp : Bool) (e : Ending) (w' : World) : Prop :=
  e = .returned (.tuple #[]) ∧ ∃ A' n' c', WrS w' g A' n' c' bs sp ∧ Fr w w' (fun b => b = g ∨ A.map (·.block) = some b) ∧ (∀ a, A' = some a → A.map (·.block) = some a.block ∨ w.heap.size ≤ a.block)
set_option maxHeartbeats 400000 in
theorem new_any (w : World) : Calls Tryd.prog 53 #[] w fun e w' => e = .returned (.pointer (some ⟨w.heap.size, 0, none⟩)) ∧ WrS w' w.heap.size none 0 0 [] false ∧ Ext w w' := by
  go_enter Tryd.func53, Tryd.ntmps53
  go_wp2_with fail
  go_ret
  exact ⟨rfl, ⟨heap_alloc_new w _, Own.nil_⟩, (Ext.refl w).alloc _⟩
set_option maxHeartbeats 400000 in
theorem wnum_no (x : Int) (w : World) {g n c : Nat} {A : Option Addr} {bs : List Nat} {sp : Bool} (h : WrS w g A n c bs sp) (hx : x < 0) :
    Calls Tryd.prog 54 #[.pointer (some ⟨g, 0, none⟩), .int .i64 x] w fun e w' => e = .returned (.tuple #[]) ∧ w' = w.setCell ⟨g, 1, none⟩ (.bool true) := by
  have c1 := h.c1
  have f1 := h.fr 1
  clear h
  go_enter Tryd.func54, Tryd.ntmps54
  go_wp2_with fail
  go_returns
  exact ⟨rfl, rfl⟩
set_option maxHeartbeats 1600000 in
theorem wnum_any (x : Nat) (w : World) {g n c : Nat} {A : Option Addr} {bs : List Nat} {sp : Bool} (h : WrS w g A n c bs sp) (hx : x ≤ 9223372036854775807) (hn : n ≤ 1099511627776) :
    Calls Tryd.prog 54 #[.pointer (some ⟨g, 0, none⟩), .int .i64 (x : Int)] w (WrOut w g A (bs ++ Wr.num x) sp) := by
  have hl : (Wr.num x).length ≤ 9 := Wr.num_len 8 x (by rw [show (128 : Nat) ^ (8 + 1) = 9223372036854775808 by decide]; omega)
  have HW := Lib.hid h
  have hlen := h.len
  have HL := Lib.hid hl
  have HN := Lib.hid hlen
  clear h hl hlen
  go_enter Tryd.func54, Tryd.ntmps54
  go_wp2_with fail
  go_loopw [1] (fun vi wr => ∃ (k : Nat) (pre : List Nat) (A' : Option Addr) (n' c' : Nat), vi = .int .i64 (k : Int) ∧ k ≤ 9223372036854775807 ∧ Hid (Wr.num x = pre ++ Wr.num k) ∧ n' ≤ n + 9 ∧
      WrS wr g A' n' c' (bs ++ pre) sp ∧ Fr w wr (fun b => b = g ∨ A.map (·.block) = some b) ∧ (∀ a, A' = some a → A.map (·.block) = some a.block ∨ w.heap.size ≤ a.block)) (fun i _ => (intOf i).toNat)
  case atStart => exact ⟨x, [], A, n, c, rfl, hx, rfl, by omega, by rw [List.append_nil]; exact HW.out, Fr.refl _ _, fun a e => .inl (by rw [e]; rfl)⟩
  case round =>
    obtain ⟨k, pre, A', n', c', rfl, hk, hp, hn', hws, hf, hA⟩ := hrel
    have hpl : pre.length + (Wr.num k).length ≤ 9 := by have := HL.out; rw [hp.out, List.length_append] at this; exact this
    have hkp := Wr.num_pos k
    have hlen' := hws.len
    rw [List.length_append, HN.out] at hlen'
    have hcap : n' ≤ n + 8 := by omega
    have c0 := hws.c0
    have f0 := hws.fr 0
    have glt := hws.lt
    clear hlen' hpl hkp
    by_cases h1 : k < 128
    · have e1 := Wr.num_small h1
      have E1 := Lib.hid e1
      clear e1
      go_wp2_with (at_builtin; refine held ?_)
      refine Held.go (wp_app (m := 1) (news := u8s [k]) eltU8 (hws.own.alloc _) (Rd.new _ _ _ _) (u8s_one _) (by omega) (.inr ⟨by omega, by omega⟩) (by simp; omega) _ _ rfl rfl rfl rfl ?_)
      intro A2 c2 w2 hown2 hg2 hA2 _
      rw [← u8s_append] at hown2
      have hk2 : w2.heap[g]? = wr.heap[g]? := by
        refine (hg2.block g (by simp; omega) (fun e => ?_)).trans (Below.heap_alloc wr _ g glt)
        have hb := hws.own.base_le g e.symm
        omega
      have hs2 := hws.put hown2 hk2
      have d0 : w2.cell? ⟨g, 0, none⟩ = some (.slice A' n' c') := by rw [cell_of_row w2 g 0 _ _ _ (hk2.trans hws.blk)]; rfl
      have d1 : w2.frozen? ⟨g, 0, none⟩ = false := by have := hk2.trans hws.blk; simp only [World.frozen?, this]; simp
      have hf2 : Fr w (w2.setCell ⟨g, 0, none⟩ (.slice A2 (n' + 1) c2)) (fun b => b = g ∨ A.map (·.block) = some b) := by
        refine ((hf.trans (Fr.of_ext ((Ext.refl wr).alloc _) (fun _ => False)) (fun _ _ h => h.elim)).trans (Fr.grows hg2) (fun i hi hm => ?_)).trans (Fr.store w2 _ _) (fun i _ e => .inl e)
        obtain ⟨a, ha, hab⟩ := Option.map_eq_some_iff.1 hm
        rcases hA a ha with h | h
        · exact .inr (h.trans (by rw [hab]))
        · omega
      have hA2' : ∀ a, A2 = some a → A.map (·.block) = some a.block ∨ w.heap.size ≤ a.block := fun a ea => by
        rcases hA2 with e | e
        · exact hA a (e.symm.trans ea)
        · rw [e] at ea
          injection ea with ea
          subst ea
          right
          have := hf.size
          simp
          omega
      clear hown2 hg2 hA2 hk2 c0 f0
      go_wp2_with fail
      go_returns
      refine ⟨rfl, A2, n' + 1, c2, ?_, hf2, hA2'⟩
      have e2 : bs ++ Wr.num x = bs ++ pre ++ [k] := by rw [hp.out, E1.out, List.append_assoc]
      rw [e2]
      exact hs2
    · have e1 := Wr.num_big h1
      have E1 := Lib.hid e1
      have e3 : Go.bits .or .u8 ((k : Int) % 128) 128 = ((k % 128 + 128 : Nat) : Int) := by
        have h := u8_or_nat (k % 128) 128 (by omega) (by decide)
        have e : ∀ m : Fin 128, (m.val ||| 128) = m.val + 128 := by decide
        rw [e ⟨k % 128, by omega⟩] at h
        exact h
      have e5 : Go.bits .and .i64 (k : Int) 127 = ((k % 128 : Nat) : Int) := by
        have h : Go.bits .and .i64 (k : Int) 127 = (k : Int) % 128 := mask_core k 7 128 (by decide) (by decide)
        rw [h]; omega
      clear e1
      go_wp2_with (at_builtin; refine held ?_)
      refine Held.go (wp_app (m := 1) (news := u8s [k % 128 + 128]) eltU8 (hws.own.alloc _) (Rd.new _ _ _ _) (u8s_one _) (by omega) (.inr ⟨by omega, by omega⟩) (by simp; omega) _ _ rfl rfl rfl rfl ?_)
      intro A2 c2 w2 hown2 hg2 hA2 _
      rw [← u8s_append] at hown2
      have hk2 : w2.heap[g]? = wr.heap[g]? := by
        refine (hg2.block g (by simp; omega) (fun e => ?_)).trans (Below.heap_alloc wr _ g glt)
        have hb := hws.own.base_le g e.symm
        omega
      have hs2 := hws.put hown2 hk2
      have d0 : w2.cell? ⟨g, 0, none⟩ = some (.slice A' n' c') := by rw [cell_of_row w2 g 0 _ _ _ (hk2.trans hws.blk)]; rfl
      have d1 : w2.frozen? ⟨g, 0, none⟩ = false := by have := hk2.trans hws.blk; simp only [World.frozen?, this]; simp
      have hf2 : Fr w (w2.setCell ⟨g, 0, none⟩ (.slice A2 (n' + 1) c2)) (fun b => b = g ∨ A.map (·.block) = some b) := by
        refine ((hf.trans (Fr.of_ext ((Ext.refl wr).alloc _) (fun _ => False)) (fun _ _ h => h.elim)).trans (Fr.grows hg2) (fun i hi hm => ?_)).trans (Fr.store w2 _ _) (fun i _ e => .inl e)
        obtain ⟨a, ha, hab⟩ := Option.map_eq_some_iff.1 hm
        rcases hA a ha with h | h
        · exact .inr (h.trans (by rw [hab]))
        · omega
      have hA2' : ∀ a, A2 = some a → A.map (·.block) = some a.block ∨ w.heap.size ≤ a.block := fun a ea => by
        rcases hA2 with e | e
        · exact hA a (e.symm.trans ea)
        · rw [e] at ea
          injection ea with ea
          subst ea
          right
          have := hf.size
          simp
          omega
      clear hown2 hg2 hA2 hk2 c0 f0
      go_wp2_with fail
      go_roundw
      case rel =>
        refine ⟨k / 128, pre ++ [k % 128 + 128], A2, n' + 1, c2, by go_num, by omega, ?_, by omega, by rw [← List.append_assoc]; exact hs2, hf2, hA2'⟩
        show Wr.num x = _
        rw [hp.out, E1.out, List.append_assoc]
        rfl
      case measure => simp [intOf]; omega
end Go.Proofs.YteflnnlihblpgaaDoor
namespace Go.Proofs.YteflnnlihblpgaaDoor
open Go.RowKit
set_option linter.unusedVariables false
set_option maxHeartbeats 800000 in
theorem clone_any (A : Option Addr) (n c : Nat) (bs : List Nat) (w : World) (h : Rd w 1 A n (u8s bs)) (hn : n ≤ 140737488351232) :
    Calls Tryd.prog 80 #[.slice A n c] w fun e w' => ∃ A' c', e = .returned (.slice A' n c') ∧ Own w' w.heap.size 5 1 A' n c' (u8s bs) ∧ Ext w w' := by
  cases A with
  | none =>
    have h0 : n = 0 := by
      rcases Nat.eq_zero_or_pos n with e | e
      · exact e
      · obtain ⟨_, h1, _⟩ := h.2 e; cases h1
    subst h0
    have hb : bs = [] := List.eq_nil_of_length_eq_zero (by have := h.len; rwa [u8s_len] at this)
    subst hb
    clear h
    have hq := fun (w : World) (a : Option Addr) (n c : Nat) => Lib.run_eql_slice_nil (P := Tryd.prog) w 54 5 a n c 0 0 Tryd.underlying54
    go_enter Tryd.func80, Tryd.ntmps80
    go_wp2_with fail
    go_ret
    exact ⟨none, 0, rfl, Own.nil_, Ext.refl w⟩
  | some ad =>
    have hq := fun (w : World) (a : Option Addr) (n c : Nat) => Lib.run_eql_slice_nil (P := Tryd.prog) w 54 5 a n c 0 0 Tryd.underlying54
    go_enter Tryd.func80, Tryd.ntmps80
    go_wp2_with (at_builtin; refine held ?_)
    have ho : Own (w.alloc (.cells #[] 5)) w.heap.size 5 1 (some ⟨w.heap.size, 0, none⟩) 0 0 [] := World.ownsRow_lit (size := 1) w #[] 0 (Nat.le_refl _) (by simp [maxLen]) rfl
    refine Held.go (wp_app (m := n) (news := u8s bs) eltU8 ho (h.ext ((Ext.refl w).alloc _)) (u8s_one _) (by omega) (.inr ⟨by omega, by omega⟩) (by simp) _ _ rfl rfl rfl rfl ?_)
    intro A2 c2 w2 hown2 hg2 _ _
    rw [Nat.zero_add, List.nil_append] at hown2
    rw [Nat.zero_add]
    have hx2 := hg2.ext ((Ext.refl w).alloc _) ho.base_le
    clear h ho hg2
    go_wp2_with fail
    go_ret
    exact ⟨A2, c2, rfl, hown2, hx2⟩
/-- Done of a writer that isn't spoilt. -/
theorem done_any (w : World) {g n c : Nat} {A : Option Addr} {bs : List Nat} (h : WrS w g A n c bs false) (hn : n ≤ 140737488351232) :
    Calls Tryd.prog 55 #[.pointer (some ⟨g, 0, none⟩)] w fun e w' => ∃ A' c', e = .returned (.tuple #[.slice A' n c', .nilIface]) ∧ Own w' w.heap.size 5 1 A' n c' (u8s bs) ∧ Ext w w' := by
  have C := Lib.hid (clone_any A n c bs w h.own.rd hn)
  have c0 := h.c0
  have c1 := h.c1
  clear h
  go_enter Tryd.func55, Tryd.ntmps55
  go_wp2_with fail
  refine C.out.mono ?_
  rintro e w1 ⟨A', c', rfl, ho, hx⟩
  go_wp2_with fail
  go_ret2
  exact ⟨A', c', rfl, ho, hx⟩
theorem u8s_str (l : List Nat) (hl : ∀ x ∈ l, x < 256) : Lib.strCells (str l) = u8s l := by
  unfold Lib.strCells str u8s
  simp only [List.map_map]
  refine List.map_congr_left fun x hx => ?_
  have := hl x hx
  simp [Function.comp]
  omega
theorem str_size (l : List Nat) : (str l).size = l.length := by simp [str, ByteArray.size]
end Go.Proofs.YteflnnlihblpgaaDoor
namespace Go.Proofs.YteflnnlihblpgaaDoor
open Go.RowKit
set_option linter.unusedVariables false
theorem Below.ext_of {a w w' : World} {g : Nat} (h : Ext a w) (hb : Below g w w') (hg : a.heap.size ≤ g) : Ext a w' :=
  ⟨hb.os.trans h.os, hb.tape.trans h.tape, hb.output.trans h.output, Nat.le_trans h.size hb.size, fun k hk => (hb.block k (by omega)).trans (h.block k hk)⟩
theorem below_of_fr {w w' : World} {g : Nat} {A : Option Addr} (h : Fr w w' (fun b => b = g ∨ A.map (·.block) = some b)) (hg : g < w.heap.size) (hA : ∀ k, A.map (·.block) = some k → g < k) : Below g w w' :=
  ⟨h.os, h.tape, h.output, h.size, fun k hk => h.block k (by omega) (fun hh => by
    rcases hh with hh | hh
    · omega
    · have := hA k hh; omega)⟩
theorem err_same_ne (w : World) (a : Addr) : (binOp .neq 33 (.iface 149 (.pointer (some a))) (.iface 149 (.pointer (some a)))).run Tryd.prog w = .ok (.bool false) w := by
  obtain ⟨i, hi, hc⟩ := info_c 149 (by kernel_rfl)
  obtain ⟨j, hj, hs⟩ := info_s 165 (by kernel_rfl)
  simp only [binOp]
  simp [Op.equal, Op.maxDepth, run_equalIn_iface_ptr_same w 9998 a Tryd.underlying33 Tryd.underlying149 hi hc hj]
theorem not_i64 (x : Int) (h0 : 0 ≤ x) (h1 : x ≤ 9223372036854775807) : Go.bits .xor .i64 (-1) x = -x - 1 := by
  have e1 : BitVec.ofInt 64 (-1) = BitVec.allOnes 64 := by decide
  have e2 : (BitVec.ofInt 64 (-1) ^^^ BitVec.ofInt 64 x).toNat = 18446744073709551615 - x.toNat := by
    rw [e1, BitVec.allOnes_xor, BitVec.toNat_not, BitVec.toNat_ofInt]
    have : (x % ((2 ^ 64 : Nat) : Int)).toNat = x.toNat := by
      rw [show ((2 ^ 64 : Nat) : Int) = 18446744073709551616 by decide]
      omega
    rw [this]
  have e3 : Go.bits .xor .i64 (-1) x = IntKind.i64.wrap (((BitVec.ofInt 64 (-1) ^^^ BitVec.ofInt 64 x).toNat : Nat) : Int) := rfl
  rw [e3, e2, IntKind.wrap_i64]
  omega
/-- What a call leaves of a spoilt writer. -/
def SOut (w : World) (g : Nat) (A : Option Addr) (b : Nat) (e : Ending) (w' : World) : Prop :=
  e = .returned (.tuple #[]) ∧ ∃ A' n' c' bs', WrS w' g A' n' c' bs' true ∧ n' ≤ b ∧ Fr w w' (fun b => b = g ∨ A.map (·.block) = some b) ∧ (∀ a, A' = some a → A.map (·.block) = some a.block ∨ w.heap.size ≤ a.block)
/-- Num of whatever number, on a spoilt writer. -/
theorem snum_any (N : Int) (hN : -9223372036854775808 ≤ N ∧ N ≤ 9223372036854775807) (w : World) {g n c : Nat} {A : Option Addr} {bs : List Nat} (h : WrS w g A n c bs true) (hn : n ≤ 1099511627776) :
    Calls Tryd.prog 54 #[.pointer (some ⟨g, 0, none⟩), .int .i64 N] w (SOut w g A (n + 9)) := by
  by_cases h0 : N < 0
  · refine (wnum_no N w h h0).mono ?_
    rintro e w' ⟨rfl, rfl⟩
    exact ⟨rfl, A, n, c, bs, ⟨heap_setCell_same w g 1 _ _ _ h.blk, h.own.same fun b hb _ => heap_setCell_other w ⟨g, 1, none⟩ b _ (by simp; omega)⟩, by omega,
      (Fr.refl w (fun b => b = g ∨ A.map (·.block) = some b)).trans (Fr.store w ⟨g, 1, none⟩ (.bool true)) (fun _ _ h => .inl h), fun a ea => .inl (by rw [ea]; rfl)⟩
  · obtain ⟨x, rfl⟩ := Int.eq_ofNat_of_zero_le (show 0 ≤ N by omega)
    refine (wnum_any x w h (by omega) hn).mono ?_
    rintro e w' ⟨rfl, A', n', c', hw, hf, ha⟩
    have hl : (Wr.num x).length ≤ 9 := Wr.num_len 8 x (by rw [show (128 : Nat) ^ (8 + 1) = 9223372036854775808 by decide]; omega)
    have h1 := h.len
    have h2 := hw.len
    rw [List.length_append] at h2
    exact ⟨rfl, A', n', c', _, hw, by omega, hf, ha⟩
set_option maxHeartbeats 800000 in
theorem sbytes_any (B : Option Addr) (m d : Nat) (l : List Nat) (w0 w : World) {g n c : Nat} {A : Option Addr} {bs : List Nat} (h : WrS w g A n c bs true) (hr : Rd w0 1 B m (u8s l)) (hx0 : Ext w0 w) (hg : w0.heap.size ≤ g) (hm : m ≤ 1048576) (hn : n ≤ 1099511627776) :
    Calls Tryd.prog 64 #[.pointer (some ⟨g, 0, none⟩), .slice B m d] w (SOut w g A (n + 9 + m)) := by
  have N1 := Lib.hid (snum_any m (by omega) w h hn)
  have hgw := h.lt
  have hge := h.own.base_le
  clear h
  go_enter Tryd.func64, Tryd.ntmps64
  go_wp2_with fail
  refine N1.out.mono ?_
  rintro e w1 ⟨rfl, A1, n1, c1, bs1, h1, hn1, hf1, hA1⟩
  have hr1 := hr.ext (Fr.ext hx0 hf1 (fun i hi => by
    rcases hi with rfl | hi
    · exact hg
    · have := hge i hi; omega))
  have c0 := h1.c0
  have f0 := h1.fr 0
  have glt := h1.lt
  have hz1 := hf1.size
  clear N1 hge
  go_wp2_with (at_builtin; refine held ?_)
  refine Held.go (wp_app (m := m) (news := u8s l) eltU8 h1.own hr1 (u8s_one _) (by omega) (.inr ⟨by omega, by omega⟩) (by omega) _ _ rfl rfl rfl rfl ?_)
  intro A2 c2 w2 hown2 hg2 hA2 _
  have hk2 : w2.heap[g]? = w1.heap[g]? := hg2.block g glt (fun e => by
    have := h1.own.base_le g e.symm
    omega)
  rw [← u8s_append] at hown2
  have hs2 := h1.put hown2 hk2
  have d0 : w2.cell? ⟨g, 0, none⟩ = some (.slice A1 n1 c1) := by rw [cell_of_row w2 g 0 _ _ _ (hk2.trans h1.blk)]; rfl
  have d1 : w2.frozen? ⟨g, 0, none⟩ = false := by have := hk2.trans h1.blk; simp only [World.frozen?, this]; simp
  have hf2 : Fr w (w2.setCell ⟨g, 0, none⟩ (.slice A2 (n1 + m) c2)) (fun b => b = g ∨ A.map (·.block) = some b) := by
    refine (hf1.trans (Fr.grows hg2) (fun i hi hm => ?_)).trans (Fr.store w2 _ _) (fun i _ e => .inl e)
    obtain ⟨a, ha, hab⟩ := Option.map_eq_some_iff.1 hm
    rcases hA1 a ha with h | h
    · exact .inr (h.trans (by rw [hab]))
    · omega
  have hA2' : ∀ a, A2 = some a → A.map (·.block) = some a.block ∨ w.heap.size ≤ a.block := fun a ea => by
    rcases hA2 with e | e
    · exact hA1 a (e.symm.trans ea)
    · rw [e] at ea
      injection ea with ea
      subst ea
      right
      simpa using hz1
  clear hown2 hg2 hk2 c0 f0 h1 hr1 hA2 hf1 hA1
  go_wp2_with fail
  go_returns
  exact ⟨rfl, A2, n1 + m, c2, _, hs2, by omega, hf2, hA2'⟩
/-- Done of a spoilt writer. -/
theorem done_no (w : World) {g n c : Nat} {A : Option Addr} {bs : List Nat} (h : WrS w g A n c bs true) {p : Addr} (hS : Sen w 5 p) :
    Calls Tryd.prog 55 #[.pointer (some ⟨g, 0, none⟩)] w fun e w' => e = .returned (.tuple #[.slice none 0 0, .iface 149 (.pointer (some p))]) ∧ ∃ k, w' = w.drewN k := by
  have c1 := h.c1
  have c3 := hS.2.1
  clear h hS
  go_enter Tryd.func55, Tryd.ntmps55
  go_wp2_with fail
  go_quiet (fail)
  go_wp2_with fail
  go_ret2
  exact ⟨rfl, _, rfl⟩
end Go.Proofs.YteflnnlihblpgaaDoor
namespace Go.Proofs.YteflnnlihblpgaaDoor
open Go.RowKit
set_option linter.unusedVariables false
theorem numlen9 {x : Nat} (hx : x ≤ 9223372036854775807) : (Wr.num x).length ≤ 9 := Wr.num_len 8 x (by rw [show (128 : Nat) ^ (8 + 1) = 9223372036854775808 by decide]; omega)
set_option maxHeartbeats 1600000 in
theorem refnum_any (x : Nat) (w : World) (hx : x ≤ 9223372036854775807) :
    Calls Tryd.prog 60 #[.int .i64 (x : Int)] w fun e w' => ∃ A c, e = .returned (.slice A (Wr.num x).length c) ∧ Own w' w.heap.size 5 1 A (Wr.num x).length c (u8s (Wr.num x)) ∧ Ext w w' := by
  have HL := Lib.hid (numlen9 hx)
  have hsz : w.heap.size ≤ w.heap.size := Nat.le_refl _
  go_enter Tryd.func60, Tryd.ntmps60
  go_wp2_with fail
  have o0 : Own (w.alloc (.cells #[] 5)) w.heap.size 5 1 (some ⟨w.heap.size, 0, none⟩) 0 0 (u8s []) := World.ownsRow_lit (size := 1) _ #[] 0 (Nat.le_refl _) (by simp [maxLen]) rfl
  have x0 := (Ext.refl w).alloc (.cells #[] 5)
  go_loopw [0, 3, 4] (fun v0 v3 _ wr => ∃ (k : Nat) (pre : List Nat) (A : Option Addr) (n c : Nat), v0 = .int .i64 (k : Int) ∧ v3 = .slice A n c ∧ k ≤ 9223372036854775807 ∧ Hid (Wr.num x = pre ++ Wr.num k) ∧ n ≤ 9 ∧
      Hid (Own wr w.heap.size 5 1 A n c (u8s pre) ∧ Ext w wr)) (fun v0 _ _ _ => (intOf v0).toNat)
  case atStart => exact ⟨x, [], _, 0, 0, rfl, rfl, hx, rfl, by omega, o0, x0⟩
  case round =>
    obtain ⟨k, pre, A, n, c, rfl, rfl, hk, hp, hn, HO⟩ := hrel
    have hpl : pre.length + (Wr.num k).length ≤ 9 := by have := HL.out; rw [hp.out, List.length_append] at this; exact this
    have hkp := Wr.num_pos k
    have hln : pre.length = n := by have h := HO.out.1.rd.len; rwa [u8s_len] at h
    have hcap : n ≤ 8 := by omega
    have hws := HO.out.2.size
    clear hpl hkp o0 x0
    by_cases h1 : k < 128
    · have e1 := Wr.num_small h1
      have E1 := Lib.hid e1
      have k1 : (k : Int) / 128 = 0 := by omega
      have k2 : (k : Int) % 128 = (k : Int) := by omega
      have k3 : IntKind.u8.wrap (k : Int) = (k : Int) := by rw [IntKind.wrap_u8]; omega
      clear e1
      go_wp2_with (at_builtin; refine held ?_)
      refine Held.go (wp_app (m := 1) (news := u8s [k]) eltU8 (HO.out.1.alloc _) (Rd.new _ _ _ _) (u8s_one _) (by omega) (.inr ⟨by omega, by omega⟩) (by rw [World.size_alloc]; omega) _ _ rfl rfl rfl rfl ?_)
      intro A2 c2 w2 o2 g2 _ _
      rw [← u8s_append] at o2
      have x2 := (HO.out.1.alloc (.cells #[.int .u8 (k : Int)] 5)).fr_ext (HO.out.2.alloc _) (Nat.le_refl _) (Fr.grows g2)
      have e2 : Wr.num x = pre ++ [k] := by rw [hp.out, E1.out]
      have hl2 : (Wr.num x).length = n + 1 := by rw [e2, List.length_append, hln]; rfl
      have HF := Lib.hid (And.intro o2 (And.intro x2 e2))
      clear o2 g2 x2 e2
      go_wp2_with fail
      go_returns
      rw [hl2]
      refine ⟨A2, c2, rfl, ?_, HF.out.2.1⟩
      rw [HF.out.2.2]
      exact HF.out.1
    · have e1 := Wr.num_big h1
      have E1 := Lib.hid e1
      have k1 : (k : Int) / 128 = ((k / 128 : Nat) : Int) := by omega
      have k0 : ((k / 128 : Nat) : Int) ≠ 0 := by omega
      have k2 : (k : Int) % 128 = ((k % 128 : Nat) : Int) := by omega
      have k3 : IntKind.u8.wrap ((k % 128 : Nat) : Int) = ((k % 128 : Nat) : Int) := by rw [IntKind.wrap_u8]; omega
      have k4 : IntKind.u8.wrap (((k % 128 : Nat) : Int) + 128) = ((k % 128 + 128 : Nat) : Int) := by rw [IntKind.wrap_u8]; omega
      have k5 : k / 128 ≤ 9223372036854775807 := by omega
      have k6 : k / 128 < k := by omega
      clear e1
      generalize k / 128 = q at *
      generalize k % 128 = r at *
      go_wp2_with (at_builtin; refine held ?_)
      refine Held.go (wp_app (m := 1) (news := u8s [r + 128]) eltU8 (HO.out.1.alloc _) (Rd.new _ _ _ _) (u8s_one _) (by omega) (.inr ⟨by omega, by omega⟩) (by rw [World.size_alloc]; omega) _ _ rfl rfl rfl rfl ?_)
      intro A2 c2 w2 o2 g2 _ _
      rw [← u8s_append] at o2
      have x2 := (HO.out.1.alloc (.cells #[.int .u8 ((r + 128 : Nat) : Int)] 5)).fr_ext (HO.out.2.alloc _) (Nat.le_refl _) (Fr.grows g2)
      have HF := Lib.hid (And.intro o2 x2)
      clear o2 g2 x2
      go_wp2_with fail
      go_roundw
      case rel =>
        refine ⟨q, pre ++ [r + 128], A2, n + 1, c2, rfl, rfl, by omega, ?_, by omega, HF.out.1, HF.out.2⟩
        show Wr.num x = _
        rw [hp.out, E1.out, List.append_assoc]
        rfl
      case measure => simp [intOf]; omega
set_option maxHeartbeats 800000 in
theorem refbytes_any (B : Option Addr) (m d : Nat) (l : List Nat) (w : World) (hr : Rd w 1 B m (u8s l)) (hm : m ≤ 140737488351232) :
    Calls Tryd.prog 65 #[.slice B m d] w fun e w' => ∃ A c, e = .returned (.slice A ((Wr.num m).length + m) c) ∧ Own w' w.heap.size 5 1 A ((Wr.num m).length + m) c (u8s (Wr.num m ++ l)) ∧ Ext w w' := by
  have R := Lib.hid (refnum_any m w (by omega))
  have HL := numlen9 (x := m) (by omega)
  have HR := Lib.hid hr
  clear hr
  go_enter Tryd.func65, Tryd.ntmps65
  go_wp2_with fail
  refine R.out.mono ?_
  rintro e w1 ⟨A, c, rfl, o1, x1⟩
  have hz := x1.size
  go_wp2_with (at_builtin; refine held ?_)
  refine Held.go (wp_app (m := m) (news := u8s l) eltU8 o1 (HR.out.ext x1) (u8s_one _) (by omega) (.inr ⟨by omega, by omega⟩) (by omega) _ _ rfl rfl rfl rfl ?_)
  intro A2 c2 w2 o2 g2 _ _
  rw [← u8s_append] at o2
  have x2 := o1.fr_ext x1 (Nat.le_refl _) (Fr.grows g2)
  have HF := Lib.hid (And.intro o2 x2)
  clear o2 g2 x2 o1 x1
  go_wp2_with fail
  go_returns
  exact ⟨A2, c2, rfl, HF.out.1, HF.out.2⟩
end Go.Proofs.YteflnnlihblpgaaDoor
namespace Go.Proofs.YteflnnlihblpgaaDoor
open Go.RowKit
set_option linter.unusedVariables false
/-- What two writes leave, one behind the other: the number's and the bytes'. -/
theorem wr_two {w w1 w2 : World} {g n c n1 c1 m c2 : Nat} {A A1 A2 : Option Addr} {bs bs1 bs2 : List Nat} {sp : Bool} (h : WrS w g A n c bs sp) (h1 : WrS w1 g A1 n1 c1 bs1 sp)
    (hf1 : Fr w w1 (fun b => b = g ∨ A.map (·.block) = some b)) (hA1 : ∀ a, A1 = some a → A.map (·.block) = some a.block ∨ w.heap.size ≤ a.block)
    (ho : Own w2 (g + 1) 5 1 A2 m c2 (u8s bs2)) (hg2 : Grows w1 w2 A1) (hA2 : A2 = A1 ∨ A2 = some ⟨w1.heap.size, 0, none⟩) :
    WrS (w2.setCell ⟨g, 0, none⟩ (.slice A2 m c2)) g A2 m c2 bs2 sp ∧ Fr w (w2.setCell ⟨g, 0, none⟩ (.slice A2 m c2)) (fun b => b = g ∨ A.map (·.block) = some b) ∧
    (∀ a, A2 = some a → A.map (·.block) = some a.block ∨ w.heap.size ≤ a.block) ∧ w2.cell? ⟨g, 0, none⟩ = some (.slice A1 n1 c1) ∧ w2.frozen? ⟨g, 0, none⟩ = false := by
  have glt := h1.lt
  have hk2 : w2.heap[g]? = w1.heap[g]? := hg2.block g glt (fun e => by
    have := h1.own.base_le g e.symm
    omega)
  have hb2 := hk2.trans h1.blk
  refine ⟨h1.put ho hk2, ?_, ?_, by rw [cell_of_row w2 g 0 _ _ _ hb2]; rfl, by simp only [World.frozen?, hb2]; simp⟩
  · refine (hf1.trans (Fr.grows hg2) (fun i hi hm => ?_)).trans (Fr.store w2 _ _) (fun i _ e => .inl e)
    obtain ⟨a, ha, hab⟩ := Option.map_eq_some_iff.1 hm
    rcases hA1 a ha with h | h
    · exact .inr (h.trans (by rw [hab]))
    · omega
  · intro a ea
    rcases hA2 with e | e
    · exact hA1 a (e.symm.trans ea)
    · rw [e] at ea
      injection ea with ea
      subst ea
      right
      exact hf1.size
set_option maxHeartbeats 800000 in
theorem gbytes_any (B : Option Addr) (m d : Nat) (l : List Nat) (w : World) {g n c : Nat} {A : Option Addr} {bs : List Nat} {sp : Bool} (h : WrS w g A n c bs sp) (hr : Rd w 1 B m (u8s l)) (hm : m ≤ 1048576) (hn : n ≤ 549755813888)
    (hB : ∀ b, B = some b → b.block ≠ g ∧ ∀ a, A = some a → a.block ≠ b.block) :
    Calls Tryd.prog 64 #[.pointer (some ⟨g, 0, none⟩), .slice B m d] w (WrOut w g A (bs ++ (Wr.num m ++ l)) sp) := by
  have N1 := Lib.hid (wnum_any m w h (by omega) (by omega))
  have hln := numlen9 (x := m) (by omega)
  have hbl := h.len
  have H0 := Lib.hid h
  have HR := Lib.hid (And.intro hr hB)
  clear h hr hB
  go_enter Tryd.func64, Tryd.ntmps64
  go_wp2_with fail
  refine N1.out.mono ?_
  rintro e w1 ⟨rfl, A1, n1, c1, h1, hf1, hA1⟩
  have hr1 := hf1.rd HR.out.1 (fun b hb hh => by
    rcases hh with hh | hh
    · exact (HR.out.2 b hb).1 hh
    · obtain ⟨a, ha, hab⟩ := Option.map_eq_some_iff.1 hh
      exact (HR.out.2 b hb).2 a ha hab)
  have c0 := h1.c0
  have f0 := h1.fr 0
  have hl1 := h1.len
  rw [List.length_append, hbl] at hl1
  have hn1 : n1 ≤ n + 9 := by omega
  have glt := h1.lt
  have H1 := Lib.hid (And.intro h1 (And.intro hf1 hA1))
  clear hl1 N1 hf1 hA1 h1
  go_wp2_with (at_builtin; refine held ?_)
  refine Held.go (wp_app (m := m) (news := u8s l) eltU8 H1.out.1.own hr1 (u8s_one _) (by omega) (.inr ⟨by omega, by omega⟩) (by omega) _ _ rfl rfl rfl rfl ?_)
  intro A2 c2 w2 o2 g2 hA2 _
  rw [← u8s_append, List.append_assoc] at o2
  obtain ⟨q1, q2, q3, d0, d1⟩ := wr_two H0.out H1.out.1 H1.out.2.1 H1.out.2.2 o2 g2 hA2
  have HF := Lib.hid (And.intro q1 (And.intro q2 q3))
  clear q1 q2 q3 o2 g2 hA2 c0 f0 hr1
  go_wp2_with fail
  go_returns
  exact ⟨rfl, A2, n1 + m, c2, HF.out.1, HF.out.2.1, HF.out.2.2⟩
end Go.Proofs.YteflnnlihblpgaaDoor
namespace Go.Proofs.YteflnnlihblpgaaDoor
set_option maxRecDepth 100000
open Go.RowKit
set_option linter.unusedVariables false
/-- The numbers of an entry, in the order of its bytes. -/
def En.head (e : En) : List Int := [e.cl, e.nu, e.kd, e.at_, e.id, e.sk, e.sq, e.st, e.pol, (e.ts.length : Int)]
def En.nums (e : En) : List Int := e.head ++ e.ts.flatMap Tk.ns
/-- The bytes of numbers. -/
def putN (l : List Int) : List Nat := l.flatMap fun x => Wr.num x.toNat
def En.put (e : En) : List Nat := putN e.nums
theorem putN_app (l m : List Int) : putN (l ++ m) = putN l ++ putN m := by simp [putN]
theorem putN_one (x : Int) : putN [x] = Wr.num x.toNat := by simp [putN]
theorem putN_len : ∀ (l : List Int), (∀ x ∈ l, x ≤ 9223372036854775807) → (putN l).length ≤ 9 * l.length
  | [], _ => by simp [putN]
  | x :: l, h => by
    have h1 := numlen9 (x := x.toNat) (by have := h x (by simp); omega)
    have h2 := putN_len l (fun y hy => h y (by simp [hy]))
    show (Wr.num x.toNat ++ putN l).length ≤ _
    rw [List.length_append, List.length_cons]
    omega
theorem wnumI (x : Int) (w : World) {g n c : Nat} {A : Option Addr} {bs : List Nat} {sp : Bool} (h : WrS w g A n c bs sp) (h0 : 0 ≤ x) (hx : x ≤ 9223372036854775807) (hn : n ≤ 1099511627776) :
    Calls Tryd.prog 54 #[.pointer (some ⟨g, 0, none⟩), .int .i64 x] w (WrOut w g A (bs ++ Wr.num x.toNat) sp) := by
  have h1 := wnum_any x.toNat w h (by omega) hn
  rwa [Int.toNat_of_nonneg h0] at h1
theorem ord_fits {e : En} (h : e.ord = true) : 0 ≤ e.kd ∧ (∀ x ∈ [e.kd, e.at_, e.id, e.sk, e.sq, e.st, e.pol], 0 ≤ x ∧ x ≤ 1099511627776) ∧ e.ts.length ≤ 8 ∧ ∀ t ∈ e.ts, ∀ x ∈ t.ns, 0 ≤ x ∧ x ≤ 1099511627776 := by
  unfold En.ord at h
  rw [Bool.and_eq_true] at h
  obtain ⟨h1, h2⟩ := h
  have f1 : ∀ x ∈ [e.at_, e.id], 0 ≤ x ∧ x ≤ 1099511627776 := fun x hx => fitI_true.1 (List.all_eq_true.1 h1 x hx)
  have a1 := f1 e.at_ (by simp)
  have a2 := f1 e.id (by simp)
  split at h2
  · rename_i hk
    rw [Bool.and_eq_true] at h2
    obtain ⟨h3, h4⟩ := h2
    unfold En.noGuest at h3
    rw [Bool.and_eq_true, decide_eq_true_eq, decide_eq_true_eq] at h3
    have f2 : ∀ x ∈ [e.sk, e.sq, e.st], 0 ≤ x ∧ x ≤ 1099511627776 := fun x hx => fitI_true.1 (List.all_eq_true.1 h4 x hx)
    have b1 := f2 e.sk (by simp)
    have b2 := f2 e.sq (by simp)
    have b3 := f2 e.st (by simp)
    have ht : e.ts = [] := List.eq_nil_of_length_eq_zero h3.2
    refine ⟨by omega, fun x hx => ?_, by omega, fun t hm => by rw [ht] at hm; cases hm⟩
    simp only [List.mem_cons, List.not_mem_nil, or_false] at hx
    rcases hx with rfl | rfl | rfl | rfl | rfl | rfl | rfl <;> omega
  · split at h2
    · rw [Bool.and_eq_true] at h2
      obtain ⟨h3, h4⟩ := h2
      unfold En.noGuest at h3
      unfold En.noServer at h4
      rw [Bool.and_eq_true, decide_eq_true_eq, decide_eq_true_eq] at h3
      rw [decide_eq_true_eq] at h4
      have ht : e.ts = [] := List.eq_nil_of_length_eq_zero h3.2
      refine ⟨by omega, fun x hx => ?_, by omega, fun t hm => by rw [ht] at hm; cases hm⟩
      simp only [List.mem_cons, List.not_mem_nil, or_false] at hx
      rcases hx with rfl | rfl | rfl | rfl | rfl | rfl | rfl <;> omega
    · split at h2
      · rw [Bool.and_eq_true, Bool.and_eq_true, Bool.and_eq_true, decide_eq_true_eq] at h2
        obtain ⟨⟨⟨h3, h4⟩, h5⟩, h6⟩ := h2
        unfold En.noServer at h3
        rw [decide_eq_true_eq] at h3
        have b1 := fitI_true.1 (List.all_eq_true.1 h4 e.pol (by simp))
        refine ⟨by omega, fun x hx => ?_, h5, fun t hm x hx => fitI_true.1 (List.all_eq_true.1 (List.all_eq_true.1 h6 t hm) x hx)⟩
        simp only [List.mem_cons, List.not_mem_nil, or_false] at hx
        rcases hx with rfl | rfl | rfl | rfl | rfl | rfl | rfl <;> omega
      · cases h2
/-- An entry in form has no number below 0. -/
theorem form_fits {e : En} (h : e.form = true) : (∀ x ∈ e.nums, 0 ≤ x ∧ x ≤ 1099511627776) ∧ e.ts.length ≤ 8 := by
  unfold En.form at h
  rw [Bool.and_eq_true, decide_eq_true_eq] at h
  obtain ⟨⟨h0, h1, h2, h3⟩, ho⟩ := h
  obtain ⟨_, h4, h5, h6⟩ := ord_fits ho
  refine ⟨fun x hx => ?_, h5⟩
  rcases List.mem_append.1 hx with hx | hx
  · unfold En.head at hx
    simp only [List.mem_cons, List.not_mem_nil, or_false] at hx
    rcases hx with rfl | rfl | rfl | rfl | rfl | rfl | rfl | rfl | rfl | rfl
    · omega
    · omega
    · exact h4 _ (by simp)
    · exact h4 _ (by simp)
    · exact h4 _ (by simp)
    · exact h4 _ (by simp)
    · exact h4 _ (by simp)
    · exact h4 _ (by simp)
    · exact h4 _ (by simp)
    · omega
  · obtain ⟨t, ht, hxt⟩ := List.mem_flatMap.1 hx
    exact h6 t ht x hxt
end Go.Proofs.YteflnnlihblpgaaDoor
