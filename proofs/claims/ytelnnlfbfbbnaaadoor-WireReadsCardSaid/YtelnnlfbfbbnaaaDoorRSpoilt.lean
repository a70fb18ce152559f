/-
  A spoilt writer; the statement WireSpoilt, walked.
-/
import Derived.Test.YtelnnlfbfbbnaaaDoorROps
namespace Go.Proofs.YtelnnlfbfbbnaaaDoor
open Go.RowKit
set_option linter.unusedVariables false
theorem Below.ext_of {a w w' : World} {g : Nat} (h : Ext a w) (hb : Below g w w') (hg : a.heap.size ≤ g) : Ext a w' :=
  ⟨hb.os.trans h.os, hb.tape.trans h.tape, hb.output.trans h.output, Nat.le_trans h.size hb.size, fun k hk => (hb.block k (by omega)).trans (h.block k hk)⟩
theorem below_of_fr {w w' : World} {g : Nat} {A : Option Addr} (h : Fr w w' (fun b => b = g ∨ A.map (·.block) = some b)) (hg : g < w.heap.size) (hA : ∀ k, A.map (·.block) = some k → g < k) : Below g w w' :=
  ⟨h.os, h.tape, h.output, h.size, fun k hk => h.block k (by omega) (fun hh => by
    rcases hh with hh | hh
    · omega
    · have := hA k hh; omega)⟩
theorem err_same_ne (w : World) (a : Addr) : (binOp .neq 28 (.iface 86 (.pointer (some a))) (.iface 86 (.pointer (some a)))).run Tryd.prog w = .ok (.bool false) w := by
  obtain ⟨i, hi, hc⟩ := info_c 86 (by kernel_rfl)
  obtain ⟨j, hj, hs⟩ := info_s 102 (by kernel_rfl)
  simp only [binOp]
  simp [Op.equal, Op.maxDepth, run_equalIn_iface_ptr_same w 9998 a Tryd.underlying28 Tryd.underlying86 hi hc hj]
theorem not_i64 (x : Int) (h0 : 0 ≤ x) (h1 : x ≤ 9223372036854775807) : Go.bits .xor .i64 (-1) x = -x - 1 := by
  have e1 : BitVec.ofInt 64 (-1) = BitVec.allOnes 64 := by decide
  have e2 : (BitVec.ofInt 64 (-1) ^^^ BitVec.ofInt 64 x).toNat = 18446744073709551615 - x.toNat := by
    rw [e1, BitVec.allOnes_xor, BitVec.toNat_not, BitVec.toNat_ofInt]
    have : (x % ((2 ^ 64 : Nat) : Int)).toNat = x.toNat := by
      rw [show ((2 ^ 64 : Nat) : Int) = 18446744073709551616 by decide]
      omega
    rw [this]
  have e3 : Go.bits .xor .i64 (-1) x = IntKind.i64.wrap (((BitVec.ofInt 64 (-1) ^^^ BitVec.ofInt 64 x).toNat : Nat) : Int) := rfl
  rw [e3, e2, IntKind.wrap_i64]
  omega
/-- What a call leaves of a spoilt writer. -/
def SOut (w : World) (g : Nat) (A : Option Addr) (b : Nat) (e : Ending) (w' : World) : Prop :=
  e = .returned (.tuple #[]) ∧ ∃ A' n' c' bs', WrS w' g A' n' c' bs' true ∧ n' ≤ b ∧ Fr w w' (fun b => b = g ∨ A.map (·.block) = some b) ∧ (∀ a, A' = some a → A.map (·.block) = some a.block ∨ w.heap.size ≤ a.block)
/-- Num of whatever number, on a spoilt writer. -/
theorem snum_any (N : Int) (hN : -9223372036854775808 ≤ N ∧ N ≤ 9223372036854775807) (w : World) {g n c : Nat} {A : Option Addr} {bs : List Nat} (h : WrS w g A n c bs true) (hn : n ≤ 1099511627776) :
    Calls Tryd.prog 12 #[.pointer (some ⟨g, 0, none⟩), .int .i64 N] w (SOut w g A (n + 9)) := by
  by_cases h0 : N < 0
  · refine (wnum_no N w h h0).mono ?_
    rintro e w' ⟨rfl, rfl⟩
    exact ⟨rfl, A, n, c, bs, ⟨heap_setCell_same w g 1 _ _ _ h.blk, h.own.same fun b hb _ => heap_setCell_other w ⟨g, 1, none⟩ b _ (by simp; omega)⟩, by omega,
      (Fr.refl w (fun b => b = g ∨ A.map (·.block) = some b)).trans (Fr.store w ⟨g, 1, none⟩ (.bool true)) (fun _ _ h => .inl h), fun a ea => .inl (by rw [ea]; rfl)⟩
  · obtain ⟨x, rfl⟩ := Int.eq_ofNat_of_zero_le (show 0 ≤ N by omega)
    refine (wnum_any x w h (by omega) hn).mono ?_
    rintro e w' ⟨rfl, A', n', c', hw, hf, ha⟩
    have hl : (Wr.num x).length ≤ 9 := Wr.num_len 8 x (by rw [show (128 : Nat) ^ (8 + 1) = 9223372036854775808 by decide]; omega)
    have h1 := h.len
    have h2 := hw.len
    rw [List.length_append] at h2
    exact ⟨rfl, A', n', c', _, hw, by omega, hf, ha⟩
set_option maxHeartbeats 800000 in
theorem sbytes_any (B : Option Addr) (m d : Nat) (l : List Nat) (w0 w : World) {g n c : Nat} {A : Option Addr} {bs : List Nat} (h : WrS w g A n c bs true) (hr : Rd w0 1 B m (u8s l)) (hx0 : Ext w0 w) (hg : w0.heap.size ≤ g) (hm : m ≤ 1048576) (hn : n ≤ 1099511627776) :
    Calls Tryd.prog 19 #[.pointer (some ⟨g, 0, none⟩), .slice B m d] w (SOut w g A (n + 9 + m)) := by
  have N1 := Lib.hid (snum_any m (by omega) w h hn)
  have hgw := h.lt
  have hge := h.own.base_le
  clear h
  go_enter Tryd.func19, Tryd.ntmps19
  go_wp2_with fail
  refine N1.out.mono ?_
  rintro e w1 ⟨rfl, A1, n1, c1, bs1, h1, hn1, hf1, hA1⟩
  have hr1 := hr.ext (Fr.ext hx0 hf1 (fun i hi => by
    rcases hi with rfl | hi
    · exact hg
    · have := hge i hi; omega))
  have c0 := h1.c0
  have f0 := h1.fr 0
  have glt := h1.lt
  have hz1 := hf1.size
  clear N1 hge
  go_wp2_with (at_builtin; refine held ?_)
  refine Held.go (wp_app (m := m) (news := u8s l) eltU8 h1.own hr1 (u8s_one _) (by omega) (.inr ⟨by omega, by omega⟩) (by omega) _ _ rfl rfl rfl rfl ?_)
  intro A2 c2 w2 hown2 hg2 hA2 _
  have hk2 : w2.heap[g]? = w1.heap[g]? := hg2.block g glt (fun e => by
    have := h1.own.base_le g e.symm
    omega)
  rw [← u8s_append] at hown2
  have hs2 := h1.put hown2 hk2
  have d0 : w2.cell? ⟨g, 0, none⟩ = some (.slice A1 n1 c1) := by rw [cell_of_row w2 g 0 _ _ _ (hk2.trans h1.blk)]; rfl
  have d1 : w2.frozen? ⟨g, 0, none⟩ = false := by have := hk2.trans h1.blk; simp only [World.frozen?, this]; simp
  have hf2 : Fr w (w2.setCell ⟨g, 0, none⟩ (.slice A2 (n1 + m) c2)) (fun b => b = g ∨ A.map (·.block) = some b) := by
    refine (hf1.trans (Fr.grows hg2) (fun i hi hm => ?_)).trans (Fr.store w2 _ _) (fun i _ e => .inl e)
    obtain ⟨a, ha, hab⟩ := Option.map_eq_some_iff.1 hm
    rcases hA1 a ha with h | h
    · exact .inr (h.trans (by rw [hab]))
    · omega
  have hA2' : ∀ a, A2 = some a → A.map (·.block) = some a.block ∨ w.heap.size ≤ a.block := fun a ea => by
    rcases hA2 with e | e
    · exact hA1 a (e.symm.trans ea)
    · rw [e] at ea
      injection ea with ea
      subst ea
      right
      simpa using hz1
  clear hown2 hg2 hk2 c0 f0 h1 hr1 hA2 hf1 hA1
  go_wp2_with fail
  go_returns
  exact ⟨rfl, A2, n1 + m, c2, _, hs2, by omega, hf2, hA2'⟩
/-- Done of a spoilt writer. -/
theorem done_no (w : World) {g n c : Nat} {A : Option Addr} {bs : List Nat} (h : WrS w g A n c bs true) {p : Addr} (hS : Sen w 0 p) :
    Calls Tryd.prog 13 #[.pointer (some ⟨g, 0, none⟩)] w fun e w' => e = .returned (.tuple #[.slice none 0 0, .iface 86 (.pointer (some p))]) ∧ ∃ k, w' = w.drewN k := by
  have c1 := h.c1
  have c3 := hS.2.1
  clear h hS
  go_enter Tryd.func13, Tryd.ntmps13
  go_wp2_with fail
  go_quiet (fail)
  go_wp2_with fail
  go_ret2
  exact ⟨rfl, _, rfl⟩
set_option maxRecDepth 8000 in
set_option maxHeartbeats 3200000 in
theorem spoilt_any (A : Option Addr) (n c : Nat) (N : Int) (w : World) (hs : Script w A n) (hn : n ≤ 209715) (hN : -9223372036854775808 ≤ N ∧ N ≤ 9223372036854775807) {p : Addr} (hS : Sen w 0 p) :
    Calls Tryd.prog 5 #[.slice A n c, .int .i64 N] w fun e w' => e = .returned (.bool true) ∧ Ext w w' := by
  obtain ⟨M, hM, hM0⟩ : ∃ M : Int, (if 0 ≤ N then -N - 1 else N) = M ∧ M < 0 := ⟨_, rfl, by split <;> omega⟩
  have HS := Lib.hid hs
  have SE := Lib.hid (fun w' (hx : Ext w w') => hS.ext hx)
  have ES := err_same
  clear hs hS
  have EN := err_same_ne
  by_cases h0 : 0 ≤ N
  · rw [if_pos h0] at hM
    have hN1 := not_i64 N h0 hN.2
    rw [hM] at hN1
    clear hM
    go_enter Tryd.func5, Tryd.ntmps5
    go_wp2_with fail
    refine (alive_any _).mono ?_
    rintro e u0 ⟨rfl, e0⟩
    go_wp2_with fail
    refine (new_any _).mono ?_
    rintro e u1 ⟨rfl, hv, e1⟩
    have q0 := e0.size
    have q1 := e0.trans e1
    generalize u0.heap.size = g at *
    go_wp2_with fail
    refine (wnum_no M u1 hv hM0).mono ?_
    rintro e u2 ⟨rfl, rfl⟩
    have hv2 : WrS (u1.setCell ⟨g, 1, none⟩ (.bool true)) g none 0 0 [] true := ⟨heap_setCell_same u1 g 1 _ _ _ hv.blk, Own.nil_⟩
    have q2 : Ext w (u1.setCell ⟨g, 1, none⟩ (.bool true)) := q1.setCell q0 _
    generalize u1.setCell ⟨g, 1, none⟩ (.bool true) = W at *
    clear hv e0 e1 q1
    go_wp2_with fail
    go_loopw [7, 8, 9, 26] (fun _ _ _ vi wr => ∃ (k m d : Nat) (B : Option Addr) (bs : List Nat), vi = .int .i64 (k : Int) ∧ k ≤ n ∧ m ≤ k * 1048594 ∧ WrS wr g B m d bs true ∧ Ext w wr) (fun _ _ _ vi _ => n - (intOf vi).toNat)
    case atStart => exact ⟨0, 0, 0, none, [], rfl, by omega, by omega, hv2, q2⟩
    case round =>
      obtain ⟨k, m, d, B, bs, rfl, hk, hm, hws, hx⟩ := hrel
      clear hv2 q2
      by_cases h1 : k < n
      · obtain ⟨ad, K, Q, N2, C, nc, cc, l, rfl, ho0⟩ := HS.out k h1
        have ho := ho0.ext hx
        have rd0 := ho0.rd
        clear ho0
        obtain ⟨k0, k1, k2, k3, _, _, iN, le, sm, rd, by'⟩ := ho
        obtain ⟨i0, hi0⟩ : ∃ i0 : Nat, k * 4 = i0 := ⟨_, rfl⟩
        rw [hi0] at k0 k1 k2 k3
        have k1 : wr.cell? ⟨(ad.add i0).block, (ad.add i0).off + 1, none⟩ = some (.int .i64 Q) := by rw [← add_add'] at k1; exact k1
        have k2 : wr.cell? ⟨(ad.add i0).block, (ad.add i0).off + 2, none⟩ = some (.int .i64 N2) := by rw [← add_add'] at k2; exact k2
        have k3 : wr.cell? ⟨(ad.add i0).block, (ad.add i0).off + 3, none⟩ = some (.slice C nc cc) := by rw [← add_add'] at k3; exact k3
        have z0 : (0 : Int) ≤ k := by omega
        have z1 : (k : Int) < n := by omega
        clear by'
        have glt := hws.lt
        have hmb : m ≤ 1099511627776 := by omega
        go_wp2_with fail
        have hz4 : wr.heap.size < (wr.alloc (.cells #[.int .i64 K, .int .i64 Q, .int .i64 N2, .slice C nc cc] 38)).heap.size := by simp
        have hb4 := heap_alloc_new wr (.cells #[.int .i64 K, .int .i64 Q, .int .i64 N2, .slice C nc cc] 38)
        have hwsA := hws.ext ((Ext.refl wr).alloc (.cells #[.int .i64 K, .int .i64 Q, .int .i64 N2, .slice C nc cc] 38))
        have hxA := hx.alloc (.cells #[.int .i64 K, .int .i64 Q, .int .i64 N2, .slice C nc cc] 38)
        refine (snum_any N2 iN _ hwsA hmb).mono ?_
        rintro e w1 ⟨rfl, B1, m1, d1, bs1, hws1, hm1, hf1, hB1⟩
        have hBb : ∀ i, B.map (·.block) = some i → g < i ∧ i < wr.heap.size := fun i hi => by
          refine ⟨hws.own.base_le i hi, ?_⟩
          rcases hws.own.2 with ⟨e, _⟩ | ⟨g', _, _, e, _, hgg, _⟩
          · injection e with e; rw [e] at hi; cases hi
          · injection e with e; rw [e] at hi; cases hi; exact (Array.getElem?_eq_some_iff.1 hgg).1
        have hb4' := (hf1.block wr.heap.size hz4 (fun hh => by
          rcases hh with hh | hh
          · omega
          · have := hBb _ hh; omega)).trans hb4
        have j3 : w1.cell? ⟨wr.heap.size, 3, none⟩ = some (.slice C nc cc) := by rw [cell_of_row w1 _ _ _ _ _ hb4']; rfl
        have hx1 : Ext w w1 := Fr.ext hxA hf1 (fun i hi => by
          rcases hi with rfl | hi
          · exact q0
          · have := hBb _ hi; omega)
        generalize wr.heap.size = opb at *
        clear hwsA hf1 hb4 hb4' k0 k1 k2 k3 hz4
        go_wp2_with fail
        refine (sbytes_any C nc cc l w w1 hws1 rd0 hx1 q0 (by omega) (by omega)).mono ?_
        rintro e w2 ⟨rfl, B2, m2, d2, bs2, hws2, hm2, hf2, hB2⟩
        have hx2 : Ext w w2 := Fr.ext hx1 hf2 (fun i hi => by
          rcases hi with rfl | hi
          · exact q0
          · have := hws1.own.base_le i hi; omega)
        clear hf2 hB2 hB1 hBb hws1 hws j3 rd rd0 hx1 hx hxA
        go_wp2_with fail
        refine (done_no _ hws2 (SE.out _ hx2)).mono ?_
        rintro e w3 ⟨rfl, j, rfl⟩
        have c3 := (SE.out _ hx2).2.1
        go_wp2_with fail
        go_roundw
        case rel => exact ⟨k + 1, m2, d2, B2, bs2, by go_num, by omega, by omega, hws2.ext ((Ext.refl _).drewN j), hx2.drewN j⟩
        case measure => simp [intOf]; omega
      · obtain rfl : k = n := by omega
        go_wp2_with fail
        refine (done_no _ hws (SE.out _ hx)).mono ?_
        rintro e u3 ⟨rfl, j, rfl⟩
        have c3 := (SE.out _ hx).2.1
        go_wp2_with fail
        go_ret
        exact ⟨rfl, hx.drewN _⟩
  · rw [if_neg h0] at hM
    subst hM
    go_enter Tryd.func5, Tryd.ntmps5
    go_wp2_with fail
    refine (alive_any _).mono ?_
    rintro e u0 ⟨rfl, e0⟩
    go_wp2_with fail
    refine (new_any _).mono ?_
    rintro e u1 ⟨rfl, hv, e1⟩
    have q0 := e0.size
    have q1 := e0.trans e1
    generalize u0.heap.size = g at *
    go_wp2_with fail
    refine (wnum_no _ u1 hv hM0).mono ?_
    rintro e u2 ⟨rfl, rfl⟩
    have hv2 : WrS (u1.setCell ⟨g, 1, none⟩ (.bool true)) g none 0 0 [] true := ⟨heap_setCell_same u1 g 1 _ _ _ hv.blk, Own.nil_⟩
    have q2 : Ext w (u1.setCell ⟨g, 1, none⟩ (.bool true)) := q1.setCell q0 _
    generalize u1.setCell ⟨g, 1, none⟩ (.bool true) = W at *
    clear hv e0 e1 q1
    go_wp2_with fail
    go_loopw [7, 8, 9, 26] (fun _ _ _ vi wr => ∃ (k m d : Nat) (B : Option Addr) (bs : List Nat), vi = .int .i64 (k : Int) ∧ k ≤ n ∧ m ≤ k * 1048594 ∧ WrS wr g B m d bs true ∧ Ext w wr) (fun _ _ _ vi _ => n - (intOf vi).toNat)
    case atStart => exact ⟨0, 0, 0, none, [], rfl, by omega, by omega, hv2, q2⟩
    case round =>
      obtain ⟨k, m, d, B, bs, rfl, hk, hm, hws, hx⟩ := hrel
      clear hv2 q2
      by_cases h1 : k < n
      · obtain ⟨ad, K, Q, N2, C, nc, cc, l, rfl, ho0⟩ := HS.out k h1
        have ho := ho0.ext hx
        have rd0 := ho0.rd
        clear ho0
        obtain ⟨k0, k1, k2, k3, _, _, iN, le, sm, rd, by'⟩ := ho
        obtain ⟨i0, hi0⟩ : ∃ i0 : Nat, k * 4 = i0 := ⟨_, rfl⟩
        rw [hi0] at k0 k1 k2 k3
        have k1 : wr.cell? ⟨(ad.add i0).block, (ad.add i0).off + 1, none⟩ = some (.int .i64 Q) := by rw [← add_add'] at k1; exact k1
        have k2 : wr.cell? ⟨(ad.add i0).block, (ad.add i0).off + 2, none⟩ = some (.int .i64 N2) := by rw [← add_add'] at k2; exact k2
        have k3 : wr.cell? ⟨(ad.add i0).block, (ad.add i0).off + 3, none⟩ = some (.slice C nc cc) := by rw [← add_add'] at k3; exact k3
        have z0 : (0 : Int) ≤ k := by omega
        have z1 : (k : Int) < n := by omega
        clear by'
        have glt := hws.lt
        have hmb : m ≤ 1099511627776 := by omega
        go_wp2_with fail
        have hz4 : wr.heap.size < (wr.alloc (.cells #[.int .i64 K, .int .i64 Q, .int .i64 N2, .slice C nc cc] 38)).heap.size := by simp
        have hb4 := heap_alloc_new wr (.cells #[.int .i64 K, .int .i64 Q, .int .i64 N2, .slice C nc cc] 38)
        have hwsA := hws.ext ((Ext.refl wr).alloc (.cells #[.int .i64 K, .int .i64 Q, .int .i64 N2, .slice C nc cc] 38))
        have hxA := hx.alloc (.cells #[.int .i64 K, .int .i64 Q, .int .i64 N2, .slice C nc cc] 38)
        refine (snum_any N2 iN _ hwsA hmb).mono ?_
        rintro e w1 ⟨rfl, B1, m1, d1, bs1, hws1, hm1, hf1, hB1⟩
        have hBb : ∀ i, B.map (·.block) = some i → g < i ∧ i < wr.heap.size := fun i hi => by
          refine ⟨hws.own.base_le i hi, ?_⟩
          rcases hws.own.2 with ⟨e, _⟩ | ⟨g', _, _, e, _, hgg, _⟩
          · injection e with e; rw [e] at hi; cases hi
          · injection e with e; rw [e] at hi; cases hi; exact (Array.getElem?_eq_some_iff.1 hgg).1
        have hb4' := (hf1.block wr.heap.size hz4 (fun hh => by
          rcases hh with hh | hh
          · omega
          · have := hBb _ hh; omega)).trans hb4
        have j3 : w1.cell? ⟨wr.heap.size, 3, none⟩ = some (.slice C nc cc) := by rw [cell_of_row w1 _ _ _ _ _ hb4']; rfl
        have hx1 : Ext w w1 := Fr.ext hxA hf1 (fun i hi => by
          rcases hi with rfl | hi
          · exact q0
          · have := hBb _ hi; omega)
        generalize wr.heap.size = opb at *
        clear hwsA hf1 hb4 hb4' k0 k1 k2 k3 hz4
        go_wp2_with fail
        refine (sbytes_any C nc cc l w w1 hws1 rd0 hx1 q0 (by omega) (by omega)).mono ?_
        rintro e w2 ⟨rfl, B2, m2, d2, bs2, hws2, hm2, hf2, hB2⟩
        have hx2 : Ext w w2 := Fr.ext hx1 hf2 (fun i hi => by
          rcases hi with rfl | hi
          · exact q0
          · have := hws1.own.base_le i hi; omega)
        clear hf2 hB2 hB1 hBb hws1 hws j3 rd rd0 hx1 hx hxA
        go_wp2_with fail
        refine (done_no _ hws2 (SE.out _ hx2)).mono ?_
        rintro e w3 ⟨rfl, j, rfl⟩
        have c3 := (SE.out _ hx2).2.1
        go_wp2_with fail
        go_roundw
        case rel => exact ⟨k + 1, m2, d2, B2, bs2, by go_num, by omega, by omega, hws2.ext ((Ext.refl _).drewN j), hx2.drewN j⟩
        case measure => simp [intOf]; omega
      · obtain rfl : k = n := by omega
        go_wp2_with fail
        refine (done_no _ hws (SE.out _ hx)).mono ?_
        rintro e u3 ⟨rfl, j, rfl⟩
        have c3 := (SE.out _ hx).2.1
        go_wp2_with fail
        go_ret
        exact ⟨rfl, hx.drewN _⟩
end Go.Proofs.YtelnnlfbfbbnaaaDoor
