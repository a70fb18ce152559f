/-
  The document's Sum, Seal, Open; the program's Open in one contract.
-/
import Derived.Test.YtelnnlfbfbbnaaaDoorROpen
import Derived.Test.YtelnnlfbfbbnaaaDoorErrV
import Derived.Test.YtelnnlfbfbbnaaaDoorApart
import Derived.Laws.BitsAllLaws
import Derived.Deep.Cut
import Derived.Deep.RegionHeld3
namespace Go.Proofs.YtelnnlfbfbbnaaaDoor
open Go.RowKit
set_option linter.unusedVariables false
set_option maxHeartbeats 800000 in
theorem rsum_any (A : Option Addr) (m c : Nat) (l : List Nat) (w : World) (hm : m ≤ 9223372036854775807) (hr : Rd w 1 A m (u8s l)) (hl : ∀ x ∈ l, x < 256) :
    Calls Tryd.prog 35 #[.slice A m c] w fun e w' => e = .returned (.int .u32 (fnv l : Nat)) ∧ w = w' := by
  go_enter Tryd.func35, Tryd.ntmps35
  go_wp2
  go_loop [3, 5, 8] (fun x _ i => ∃ k : Nat, k ≤ m ∧ i = .int .i64 k ∧ x = .int .u64 (fnv (l.take k) : Nat)) (fun _ _ i => m - (intOf i).toNat)
  case atStart => exact ⟨0, by omega, rfl, rfl⟩
  case round =>
    obtain ⟨k, hk, rfl, rfl⟩ := hrel
    have hu := fnv_lt (l.take k)
    by_cases hlt : k < m
    · obtain ⟨ad, x, rfl, hx, hc⟩ := hr.byte hlt
      have hx8 := hl x (mem_of_at hx.out)
      generalize hU : fnv (l.take k) = U at hu ⊢
      have HU := Lib.hid hU; clear hU
      have e2 : Go.bits .xor .u64 (U : Int) (x : Int) = ((U ^^^ x : Nat) : Int) := u64_xor_nat U x (by omega) (by omega)
      have hY9 : U ^^^ x < 4294967296 := Nat.xor_lt_two_pow (n := 32) hu (by omega)
      obtain ⟨Y, hY⟩ : ∃ Y, U ^^^ x = Y := ⟨_, rfl⟩
      rw [hY] at e2 hY9
      have e3 : IntKind.u64.wrap ((Y : Int) * 16777619) = ((Y * 16777619 : Nat) : Int) := by rw [IntKind.wrap_u64]; omega
      have e4 : ((Y * 16777619 : Nat) : Int).tmod 4294967296 = ((Y * 16777619 % 4294967296 : Nat) : Int) := by rw [Int.tmod_eq_emod_of_nonneg (by omega)]; omega
      have e5 : ((Y * 16777619 : Nat) : Int) % 4294967296 = ((Y * 16777619 % 4294967296 : Nat) : Int) := by omega
      obtain ⟨Z, hZ⟩ : ∃ Z, Y * 16777619 = Z := ⟨_, rfl⟩
      rw [hZ] at e3 e4 e5
      obtain ⟨V, hV⟩ : ∃ V, Z % 4294967296 = V := ⟨_, rfl⟩
      rw [hV] at e4 e5
      have HY := Lib.hid (And.intro hY (And.intro hZ hV))
      clear hY hl hr hZ hV
      go_wp2
      go_round
      case rel => exact ⟨k + 1, by omega, by go_num, by rw [take_succ' hx.out, fnv_snoc, HU.out]; unfold fs; rw [HY.out.1, HY.out.2.1, HY.out.2.2]⟩
      case measure => simp [intOf]; omega
    · have : k = m := by omega
      subst this
      have e9 : IntKind.u32.wrap ((fnv (l.take k) : Nat) : Int) = ((fnv (l.take k) : Nat) : Int) := by rw [IntKind.wrap_u32]; omega
      go_wp2
      go_ret
      exact ⟨by rw [List.take_of_length_le (by have := hr.len; rw [u8s_len] at this; omega)]; rfl, rfl⟩
set_option maxHeartbeats 1600000 in
theorem rseal_any (A : Option Addr) (n c : Nat) (l : List Nat) (w : World) (hn : n ≤ 140737488351232) (hr : Rd w 1 A n (u8s l)) (hl : ∀ x ∈ l, x < 256) :
    Calls Tryd.prog 36 #[.slice A n c] w fun e w' => ∃ A' c', e = .returned (.slice A' (n + 4) c') ∧ Own w' w.heap.size 5 1 A' (n + 4) c' (u8s (sealed l)) ∧ Ext w w' := by
  have S := Lib.hid (rsum_any A n c l w (by omega) hr hl)
  have hs := fnv_lt l
  unfold sealed
  generalize fnv l = s at *
  obtain ⟨b3, h3⟩ : ∃ b : Nat, s / 16777216 = b := ⟨_, rfl⟩
  obtain ⟨b2, h2⟩ : ∃ b : Nat, s / 65536 % 256 = b := ⟨_, rfl⟩
  obtain ⟨b1, h1⟩ : ∃ b : Nat, s / 256 % 256 = b := ⟨_, rfl⟩
  obtain ⟨b0, h0⟩ : ∃ b : Nat, s % 256 = b := ⟨_, rfl⟩
  have e3 : (s : Int) / 16777216 % 256 = (b3 : Int) := by omega
  have e3' : (s : Int) / 16777216 = (b3 : Int) := by omega
  have e2 : (s : Int) / 65536 % 256 = (b2 : Int) := by omega
  have e1 : (s : Int) / 256 % 256 = (b1 : Int) := by omega
  have e0 : (s : Int) % 256 = (b0 : Int) := by omega
  have hb3 : b3 < 256 := by omega
  have hf : four s = [b3, b2, b1, b0] := by unfold four; rw [h3, h2, h1, h0]
  rw [hf]
  clear h0 h1 h2 h3 hf hl
  have HR := Lib.hid hr
  clear hr
  go_enter Tryd.func36, Tryd.ntmps36
  go_wp2_with fail
  refine S.out.mono ?_
  rintro e w1 ⟨rfl, rfl⟩
  have hz : w.heap.size ≤ w.heap.size := Nat.le_refl _
  go_wp2_with (at_builtin; refine held ?_)
  refine Held.go (wp_app (m := n) (news := u8s l) eltU8 (base := w.heap.size) (n := 0) (c := 0) (xs := []) (World.ownsRow_lit (size := 1) _ #[] 0 (Nat.le_refl _) (by simp [maxLen]) rfl) (HR.out.ext ((Ext.refl w).alloc _)) (u8s_one _) (by omega) (.inr ⟨by omega, by omega⟩) (by simp) _ _ rfl rfl rfl rfl ?_)
  intro A2 c2 w2 o2 g2 _ _
  rw [List.nil_append, Nat.zero_add] at o2
  rw [Nat.zero_add]
  have o2 : Own w2 w.heap.size 5 1 A2 n c2 (u8s l) := o2
  have x2 : Ext w w2 := g2.ext ((Ext.refl w).alloc _) (fun g hg => by injection hg with hg; rw [← hg]; exact Nat.le_refl _)
  clear g2
  go_wp2_with (at_builtin; refine held ?_)
  refine Held.go (wp_app (m := 4) (news := u8s [b3, b2, b1, b0]) eltU8 (o2.alloc _) (Rd.new w2 #[.int .u8 (b3 : Int), .int .u8 (b2 : Int), .int .u8 (b1 : Int), .int .u8 (b0 : Int)] 5 (0, 0)) (u8s_one _) (by omega) (.inr ⟨by omega, by omega⟩) (by have := x2.size; rw [World.size_alloc]; omega) _ _ rfl rfl rfl rfl ?_)
  intro A3 c3 w3 o3 g3 _ _
  rw [← u8s_append] at o3
  have x3 := (o2.alloc (.cells #[.int .u8 (b3 : Int), .int .u8 (b2 : Int), .int .u8 (b1 : Int), .int .u8 (b0 : Int)] 5)).fr_ext (x2.alloc _) (Nat.le_refl _) (Fr.grows g3)
  clear g3 o2
  go_wp2_with fail
  go_returns
  exact ⟨A3, c3, rfl, o3, x3⟩
/-- What Open answers: the bytes, and the error's number. -/
def opened (l : List Nat) : List Nat × Nat :=
  if l.length < 4 then ([], 3) else if sealed (l.take (l.length - 4)) = l then (l.take (l.length - 4), 0) else ([], 4)
def OOut (w : World) (x : List Nat) (ev : Value) (e : Ending) (w' : World) : Prop :=
  ∃ A' c', e = .returned (.tuple #[.slice A' x.length c', ev]) ∧ Own w' w.heap.size 5 1 A' x.length c' (u8s x) ∧ Ext w w'
theorem opened_byte {l : List Nat} (hl : ∀ x ∈ l, x < 256) : ∀ x ∈ (opened l).1, x < 256 := by
  unfold opened
  split
  · simp
  · split
    · exact fun x hx => hl x (List.mem_of_mem_take hx)
    · simp
theorem opened_len (l : List Nat) : (opened l).1.length ≤ l.length := by
  unfold opened
  split
  · simp
  · split
    · simp
    · simp
theorem opened_err (l : List Nat) : (opened l).2 ≤ 16 := by
  unfold opened
  split
  · simp
  · split <;> simp
theorem open_any (A : Option Addr) (n c : Nat) (l : List Nat) (w : World) (hn : n ≤ 140737488351236) (hnc : n ≤ c) (hr : Rd w 1 A n (u8s l)) (hl : ∀ x ∈ l, x < 256) (E : Nat → Addr) (hE : Errs w E) :
    Calls Tryd.prog 32 #[.slice A n c] w (OOut w (opened l).1 (errV E (opened l).2)) := by
  have hlen : l.length = n := by have h := hr.len; rw [u8s_len] at h; omega
  unfold opened
  by_cases h4 : n < 4
  · rw [if_pos (by omega)]
    refine (open_few A n c w h4 (hE.sen 1 (by decide))).mono fun e w' h => ?_
    obtain ⟨rfl, k, rfl⟩ := h
    exact ⟨none, 0, rfl, Own.nil_, (Ext.refl w).drewN k⟩
  · rw [if_neg (by omega)]
    obtain ⟨m, rfl⟩ : ∃ m, n = m + 4 := ⟨n - 4, by omega⟩
    have e1 : l.length - 4 = m := by omega
    rw [e1]
    by_cases hs : sealed (l.take m) = l
    · rw [if_pos hs]
      refine (open_good A m c l w (by omega) hnc hr hl hs).mono fun e w' h => ?_
      obtain ⟨A', c', rfl, ho, hx⟩ := h
      have e2 : (l.take m).length = m := by rw [List.length_take]; omega
      exact ⟨A', c', by rw [e2]; rfl, by rw [e2]; exact ho, hx⟩
    · rw [if_neg hs]
      refine (open_slip A m c l w (by omega) hnc hr hl hs (hE.sen 2 (by decide))).mono fun e w' h => ?_
      obtain ⟨rfl, hx⟩ := h
      exact ⟨none, 0, rfl, Own.nil_, hx⟩
set_option maxRecDepth 8000 in
set_option maxHeartbeats 1600000 in
theorem ropen_any (A : Option Addr) (n c : Nat) (l : List Nat) (w : World) (hn : n ≤ 140737488351232) (hnc : n ≤ c) (hr : Rd w 1 A n (u8s l)) (hl : ∀ x ∈ l, x < 256) :
    Calls Tryd.prog 33 #[.slice A n c] w (OOut w (opened l).1 (.int .i64 ((opened l).2 : Nat))) := by
  have hlen : l.length = n := by have h := hr.len; rw [u8s_len] at h; omega
  unfold opened
  by_cases h4 : n < 4
  · rw [if_pos (by omega)]
    have h4' : (n : Int) < 4 := by omega
    clear hr hlen
    go_enter Tryd.func33, Tryd.ntmps33
    go_wp2_with fail
    go_returns
    exact ⟨none, 0, rfl, Own.nil_, Ext.refl w⟩
  · rw [if_neg (by omega)]
    obtain ⟨m, hm⟩ : ∃ m, n - 4 = m := ⟨_, rfl⟩
    have e1 : l.length - 4 = m := by omega
    rw [e1]
    obtain ⟨R, hR⟩ : ∃ R, (if sealed (l.take m) = l then (l.take m, 0) else (([] : List Nat), 4)) = R := ⟨_, rfl⟩
    rw [hR]
    have HRR := Lib.hid hR
    have r0 : (n : Int) - 4 = (m : Int) := by omega
    have h4' : ¬ (n : Int) < 4 := by omega
    have r1 := hr.u8take (k := m) (by omega)
    have hb1 : ∀ x ∈ l.take m, x < 256 := fun x hx => hl x (List.mem_of_mem_take hx)
    have BX := Lib.hid (fun w' (hx : Ext w w') => run_str (P := Tryd.prog) (w := w') (s := 9) Tryd.underlying26 Tryd.underlying5 Tryd.underlying9 c (hr.ext hx))
    have RF := Lib.hid (fun w' (hx : Ext w w') => (rseal_any A m m (l.take m) w' (by omega) (r1.ext hx) hb1).mono fun e w'' (h : ∃ A' c', e = .returned (.slice A' (m + 4) c') ∧ Own w'' w'.heap.size 5 1 A' (m + 4) c' (u8s (sealed (l.take m))) ∧ Ext w' w'') =>
      (by
        obtain ⟨A', c', he, ho, hx2⟩ := h
        exact ⟨A', c', he, run_str (P := Tryd.prog) (w := w'') (s := 9) Tryd.underlying26 Tryd.underlying5 Tryd.underlying9 c' ho.rd, run_str (P := Tryd.prog) (w := w''.drew) (s := 9) Tryd.underlying26 Tryd.underlying5 Tryd.underlying9 c' (ho.rd.ext ((Ext.refl _).drew)), BX.out _ (hx.trans hx2), BX.out _ (hx.trans hx2).drew, hx.trans hx2⟩ :
        ∃ A' c', e = .returned (.slice A' (m + 4) c') ∧ (convert 26 9 (.slice A' (m + 4) c')).run Tryd.prog w'' = .ok (.string (str (sealed (l.take m)))) w'' ∧ (convert 26 9 (.slice A' (m + 4) c')).run Tryd.prog w''.drew = .ok (.string (str (sealed (l.take m)))) w''.drew ∧ (convert 26 9 (.slice A n c)).run Tryd.prog w'' = .ok (.string (str l)) w'' ∧ (convert 26 9 (.slice A n c)).run Tryd.prog w''.drew = .ok (.string (str l)) w''.drew ∧ Ext w w''))
    have h3 := run_slice3 eltU8 A n c .i64 .i64 m m (Nat.le_refl _) (by omega)
    have i0 := BX.out w (Ext.refl _)
    have i1 := BX.out w.drew ((Ext.refl _).drew)
    have hmm : (0 : Int) ≤ m := by omega
    have hmc : (m : Int) ≤ c := by omega
    have hmc' : m ≤ c := by omega
    have e2 : (l.take m).length = m := by rw [List.length_take]; omega
    have HR1 := Lib.hid (And.intro r1 e2)
    obtain ⟨b, hb⟩ : ∃ b : Bool, ((str (sealed (l.take m))).toList == (str l).toList) = b := ⟨_, rfl⟩
    have HB : Hid (b = decide (sealed (l.take m) = l)) := by
      show b = _
      rw [← hb]
      by_cases h : sealed (l.take m) = l
      · rw [h]; simp
      · rw [decide_eq_false h, beq_eq_false_iff_ne]
        rw [ByteArray.toList_eq, ByteArray.toList_eq]
        exact fun h2 => h (str_inj (sealed_byte hb1) hl (Go.WideShapes.bytes_inj h2))
    clear hr hl hb1 r1 e2 hlen e1 hR
    generalize str (sealed (l.take m)) = sa at *
    generalize str l = sb at *
    go_enter Tryd.func33, Tryd.ntmps33
    go_upto_region 4 with (fail)
    go_cut [19] from 11 (fun s19 wx => s19 = .bool (!b) ∧ Ext w wx)
    case first =>
      go_wp2_with fail
      go_region_with (go_at_call 36; (with_reducible refine (RF.out _ (by first | exact Ext.refl _ | exact (Ext.refl _).drew)).mono ?_); rintro en vF ⟨AF, cF, rfl, qF, qG, qH, qI, xF⟩)
      all_goals
        go_wp2_with fail
        go_meet
        case rel => exact ⟨rfl, by first | exact xF | exact xF.drew⟩
    case rest =>
      obtain ⟨rfl, xC⟩ := hcut
      have XC := Lib.hid xC
      have z0 := xC.size
      clear xC i0 i1 h3 hb
      cases b with
      | true =>
        have hs : sealed (l.take m) = l := of_decide_eq_true HB.out.symm
        have hR := HRR.out
        rw [if_pos hs] at hR
        subst hR
        clear hs
        go_wp2_with (at_builtin; refine held ?_)
        refine Held.go (wp_app (m := m) (news := u8s (l.take m)) eltU8 (base := wc.heap.size) (n := 0) (c := 0) (xs := []) (World.ownsRow_lit (size := 1) _ #[] 0 (Nat.le_refl _) (by simp [maxLen]) rfl) (HR1.out.1.ext (XC.out.alloc _)) (u8s_one _) (by omega) (.inr ⟨by omega, by omega⟩) (by simp) _ _ rfl rfl rfl rfl ?_)
        intro A5 c5 v5 o5 g5 _ _
        rw [List.nil_append, Nat.zero_add] at o5
        rw [Nat.zero_add]
        have y5 : Ext wc v5 := g5.ext ((Ext.refl wc).alloc _) (fun g hg => by injection hg with hg; rw [← hg]; exact Nat.le_refl _)
        clear g5
        go_wp2_with fail
        go_returns
        exact ⟨A5, c5, by rw [HR1.out.2]; rfl, by rw [HR1.out.2]; exact o5.base_mono XC.out.size, XC.out.trans y5⟩
      | false =>
        have hs : ¬ sealed (l.take m) = l := of_decide_eq_false HB.out.symm
        have hR := HRR.out
        rw [if_neg hs] at hR
        subst hR
        clear hs
        go_wp2_with fail
        go_returns
        exact ⟨none, 0, rfl, Own.nil_, XC.out⟩
end Go.Proofs.YtelnnlfbfbbnaaaDoor
