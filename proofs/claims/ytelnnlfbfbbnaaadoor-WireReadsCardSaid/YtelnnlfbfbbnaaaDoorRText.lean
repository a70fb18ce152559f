/-
  Package wire: slices.Clone, Text, Done, Sum, walked; alive.
-/
import Derived.Test.YtelnnlfbfbbnaaaDoorRWrite
import Derived.Lib.AppendStr
import Derived.Lib.SlBytesConst
namespace Go.Proofs.YtelnnlfbfbbnaaaDoor
open Go.RowKit
set_option linter.unusedVariables false
set_option maxHeartbeats 800000 in
theorem clone_any (A : Option Addr) (n c : Nat) (bs : List Nat) (w : World) (h : Rd w 1 A n (u8s bs)) (hn : n ≤ 140737488351232) :
    Calls Tryd.prog 38 #[.slice A n c] w fun e w' => ∃ A' c', e = .returned (.slice A' n c') ∧ Own w' w.heap.size 5 1 A' n c' (u8s bs) ∧ Ext w w' := by
  cases A with
  | none =>
    have h0 : n = 0 := by
      rcases Nat.eq_zero_or_pos n with e | e
      · exact e
      · obtain ⟨_, h1, _⟩ := h.2 e; cases h1
    subst h0
    have hb : bs = [] := List.eq_nil_of_length_eq_zero (by have := h.len; rwa [u8s_len] at this)
    subst hb
    clear h
    have hq := fun (w : World) (a : Option Addr) (n c : Nat) => Lib.run_eql_slice_nil (P := Tryd.prog) w 26 5 a n c 0 0 Tryd.underlying26
    go_enter Tryd.func38, Tryd.ntmps38
    go_wp2_with fail
    go_ret
    exact ⟨none, 0, rfl, Own.nil_, Ext.refl w⟩
  | some ad =>
    have hq := fun (w : World) (a : Option Addr) (n c : Nat) => Lib.run_eql_slice_nil (P := Tryd.prog) w 26 5 a n c 0 0 Tryd.underlying26
    go_enter Tryd.func38, Tryd.ntmps38
    go_wp2_with (at_builtin; refine held ?_)
    have ho : Own (w.alloc (.cells #[] 5)) w.heap.size 5 1 (some ⟨w.heap.size, 0, none⟩) 0 0 [] := World.ownsRow_lit (size := 1) w #[] 0 (Nat.le_refl _) (by simp [maxLen]) rfl
    refine Held.go (wp_app (m := n) (news := u8s bs) eltU8 ho (h.ext ((Ext.refl w).alloc _)) (u8s_one _) (by omega) (.inr ⟨by omega, by omega⟩) (by simp) _ _ rfl rfl rfl rfl ?_)
    intro A2 c2 w2 hown2 hg2 _ _
    rw [Nat.zero_add, List.nil_append] at hown2
    rw [Nat.zero_add]
    have hx2 := hg2.ext ((Ext.refl w).alloc _) ho.base_le
    clear h ho hg2
    go_wp2_with fail
    go_ret
    exact ⟨A2, c2, rfl, hown2, hx2⟩
/-- Done of a writer that isn't spoilt. -/
theorem done_any (w : World) {g n c : Nat} {A : Option Addr} {bs : List Nat} (h : WrS w g A n c bs false) (hn : n ≤ 140737488351232) :
    Calls Tryd.prog 13 #[.pointer (some ⟨g, 0, none⟩)] w fun e w' => ∃ A' c', e = .returned (.tuple #[.slice A' n c', .nilIface]) ∧ Own w' w.heap.size 5 1 A' n c' (u8s bs) ∧ Ext w w' := by
  have C := Lib.hid (clone_any A n c bs w h.own.rd hn)
  have c0 := h.c0
  have c1 := h.c1
  clear h
  go_enter Tryd.func13, Tryd.ntmps13
  go_wp2_with fail
  refine C.out.mono ?_
  rintro e w1 ⟨A', c', rfl, ho, hx⟩
  go_wp2_with fail
  go_ret2
  exact ⟨A', c', rfl, ho, hx⟩
/-- The sum of bytes. -/
def fs (s c : Nat) : Nat := (s ^^^ c) * 16777619 % 4294967296
def fnv (l : List Nat) : Nat := l.foldl fs 2166136261
theorem fnv_snoc (l : List Nat) (x : Nat) : fnv (l ++ [x]) = fs (fnv l) x := by
  unfold fnv
  rw [List.foldl_append, List.foldl_cons, List.foldl_nil]
theorem fs_lt (s c : Nat) : fs s c < 4294967296 := Nat.mod_lt _ (by omega)
theorem fnv_lt (l : List Nat) : fnv l < 4294967296 := by
  rcases List.eq_nil_or_concat l with rfl | ⟨m, x, rfl⟩
  · show (2166136261 : Nat) < 4294967296
    omega
  · rw [List.concat_eq_append, fnv_snoc]; exact fs_lt _ _
set_option maxHeartbeats 800000 in
theorem sum_any (A : Option Addr) (m c : Nat) (l : List Nat) (w : World) (hm : m ≤ 9223372036854775807) (hr : Rd w 1 A m (u8s l)) (hl : ∀ x ∈ l, x < 256) :
    Calls Tryd.prog 34 #[.slice A m c] w fun e w' => e = .returned (.int .u32 (fnv l : Nat)) ∧ w = w' := by
  go_enter Tryd.func34, Tryd.ntmps34
  go_wp2
  go_loop [3, 5, 8] (fun x _ i => ∃ k : Nat, k ≤ m ∧ i = .int .i64 k ∧ x = .int .u32 (fnv (l.take k) : Nat)) (fun _ _ i => m - (intOf i).toNat)
  case atStart => exact ⟨0, by omega, rfl, rfl⟩
  case round =>
    obtain ⟨k, hk, rfl, rfl⟩ := hrel
    by_cases hlt : k < m
    · obtain ⟨ad, x, rfl, hx, hc⟩ := hr.byte hlt
      have hu := fnv_lt (l.take k)
      have hx8 := hl x (mem_of_at hx.out)
      generalize hU : fnv (l.take k) = U at hu ⊢
      have HU := Lib.hid hU; clear hU
      have e2 : Go.bits .xor .u32 (U : Int) (x : Int) = ((U ^^^ x : Nat) : Int) := u32_xor_nat U x hu (by omega)
      obtain ⟨Y, hY⟩ : ∃ Y, U ^^^ x = Y := ⟨_, rfl⟩
      rw [hY] at e2
      have e3 : IntKind.u32.wrap ((Y : Int) * 16777619) = ((Y * 16777619 % 4294967296 : Nat) : Int) := by rw [IntKind.wrap_u32]; omega
      have HY := Lib.hid hY
      clear hY hl hr
      go_wp2
      go_round
      case rel => exact ⟨k + 1, by omega, by go_num, by rw [take_succ' hx.out, fnv_snoc, HU.out]; unfold fs; rw [HY.out]; congr 1⟩
      case measure => simp [intOf]; omega
    · have : k = m := by omega
      subst this
      go_wp2
      go_ret
      exact ⟨by rw [List.take_of_length_le (by have := hr.len; rw [u8s_len] at this; omega)]; rfl, rfl⟩
theorem infoU8 : (Tryd.prog.info? 5).map (fun i => (i.zero, i.size, i.bytes)) = some (some (.int .u8 0), 1, 1) := by kernel_rfl
theorem u8s_str (l : List Nat) (hl : ∀ x ∈ l, x < 256) : Lib.strCells (str l) = u8s l := by
  unfold Lib.strCells str u8s
  simp only [List.map_map]
  refine List.map_congr_left fun x hx => ?_
  have := hl x hx
  simp [Function.comp]
  omega
theorem str_size (l : List Nat) : (str l).size = l.length := by simp [str, ByteArray.size]
set_option maxHeartbeats 800000 in
theorem text_any (l : List Nat) (w : World) {g n c : Nat} {A : Option Addr} {bs : List Nat} {sp : Bool} (h : WrS w g A n c bs sp) (hl : ∀ x ∈ l, x < 256) (hm : l.length ≤ 1099511627776) (hn : n ≤ 1099511627776) :
    Calls Tryd.prog 16 #[.pointer (some ⟨g, 0, none⟩), .string (str l)] w fun e w' => e = .returned (.tuple #[]) ∧ ∃ A' n' c', WrS w' g A' n' c' (bs ++ Wr.num l.length ++ l) sp ∧ Below g w w' := by
  have N1 := Lib.hid (wnum_any l.length w h (by omega) hn)
  obtain ⟨i0, hi0, hz0, hz1, hz2⟩ := info_parts infoU8
  have hsz := str_size l
  have hln : (Wr.num l.length).length ≤ 9 := Wr.num_len 8 _ (by rw [show (128 : Nat) ^ (8 + 1) = 9223372036854775808 by decide]; omega)
  have hbl := h.len
  have hge := h.own.base_le
  have hgw := h.lt
  have US := Lib.hid (u8s_str l hl)
  generalize hS : str l = s at *
  clear hS hl h
  go_enter Tryd.func16, Tryd.ntmps16
  go_wp2_with fail
  refine N1.out.mono ?_
  rintro e w1 ⟨rfl, A1, n1, c1, h1, hf1, hA1⟩
  have hx1 : Below g w w1 := ⟨hf1.os, hf1.tape, hf1.output, hf1.size, fun k hk => by
    by_cases hkw : k < w.heap.size
    · refine hf1.block k hkw (fun hh => ?_)
      rcases hh with hh | hh
      · omega
      · have := hge k hh; omega
    · omega⟩
  have c0 := h1.c0
  have f0 := h1.fr 0
  have glt := h1.lt
  have hl1 := h1.len
  rw [List.length_append] at hl1
  have hn1 : n1 ≤ n + 9 := by omega
  clear hl1 hf1 hA1 hge N1
  go_wp2_with (at_builtin; refine held ?_)
  refine Held.go (Lib.wpList_append_own_string _ rfl _ _ 26 9 rfl (g + 1) 5 i0 Tryd.underlying26 Tryd.underlying9 hi0 hz0 hz1 hz2 (.slice A1 n1 c1) _ _ rfl h1.own s rfl (by simp [maxLen]; omega) (by omega) (by omega) ?_)
  intro v2 w2 hown2 hg2 _
  obtain ⟨A2, c2, rfl⟩ : ∃ A2 c2, v2 = .slice A2 (n1 + s.size) c2 := by
    rcases hown2.2 with ⟨e, e0⟩ | ⟨_, _, _, e, _⟩
    · exact ⟨none, 0, by rw [e, e0]⟩
    · exact ⟨_, _, e⟩
  have hk2 : w2.heap[g]? = w1.heap[g]? := hg2.block g glt (fun e => by
    rw [ownBlock_slice] at e
    have := h1.own.base_le g e.symm
    omega)
  rw [US.out, ← u8s_append] at hown2
  have hs2 := h1.put hown2 hk2
  have d0 : w2.cell? ⟨g, 0, none⟩ = some (.slice A1 n1 c1) := by rw [cell_of_row w2 g 0 _ _ _ (hk2.trans h1.blk)]; rfl
  have d1 : w2.frozen? ⟨g, 0, none⟩ = false := by have := hk2.trans h1.blk; simp only [World.frozen?, this]; simp
  have hx2 : Below g w (w2.setCell ⟨g, 0, none⟩ (.slice A2 (n1 + s.size) c2)) := by
    refine (Below.grown hx1 hg2 (by omega) (fun k hk => ?_)).setCell (Nat.le_refl _) _
    rw [ownBlock_slice] at hk
    have := h1.own.base_le k hk
    omega
  rw [hsz] at hs2 hx2
  clear hown2 hg2 hk2 c0 f0 h1
  go_wp2_with fail
  go_returns
  exact ⟨rfl, A2, n1 + l.length, c2, hs2, hx2⟩
theorem str_ab : str [97, 98] = ⟨#[97, 98]⟩ := rfl
theorem num300 : Wr.num 300 = [172, 2] := by rw [Wr.num_big (by omega), Wr.num_small (by omega)]
theorem num2 : Wr.num 2 = [2] := Wr.num_small (by omega)
theorem fnv_a : fnv [97] = 3826002220 := by decide +kernel
theorem num300_any (w : World) {g n c : Nat} {A : Option Addr} {bs : List Nat} {sp : Bool} (h : WrS w g A n c bs sp) (hn : n ≤ 1099511627776) :
    Calls Tryd.prog 12 #[.pointer (some ⟨g, 0, none⟩), .int .i64 300] w (WrOut w g A (bs ++ [172, 2]) sp) := by
  have h := wnum_any 300 w h (by omega) hn
  rw [num300] at h
  exact h
theorem textab_any (w : World) {g n c : Nat} {A : Option Addr} {bs : List Nat} {sp : Bool} (h : WrS w g A n c bs sp) (hn : n ≤ 1099511627776) :
    Calls Tryd.prog 16 #[.pointer (some ⟨g, 0, none⟩), .string ⟨#[97, 98]⟩] w fun e w' => e = .returned (.tuple #[]) ∧ ∃ A' n' c', WrS w' g A' n' c' (bs ++ [2] ++ [97, 98]) sp ∧ Below g w w' := by
  have h := text_any [97, 98] w h (by decide) (by decide) hn
  rw [show [97, 98].length = 2 from rfl, num2] at h
  exact h
set_option maxRecDepth 8000 in
set_option maxHeartbeats 1600000 in
theorem alive_any (w : World) : Calls Tryd.prog 10 #[] w fun e w' => e = .returned (.bool true) ∧ Ext w w' := by
  have NW := Lib.hid new_any
  have SM := Lib.hid sum_any
  go_enter Tryd.func10, Tryd.ntmps10
  go_wp2_with fail
  refine (NW.out _).mono ?_
  rintro e w1 ⟨rfl, hw1, x1⟩
  have hg : w.heap.size ≤ w.heap.size := Nat.le_refl _
  go_wp2_with fail
  refine (num300_any w1 hw1 (by omega)).mono ?_
  rintro e w2 ⟨rfl, A2, n2, c2, hw2, f2, _⟩
  have x2 : Ext w w2 := Fr.ext x1 f2 (fun i hi => by rcases hi with rfl | hi; exact Nat.le_refl _; cases hi)
  have hn2 := hw2.len
  go_wp2_with fail
  refine (textab_any w2 hw2 (by simp at hn2; omega)).mono ?_
  rintro e w3 ⟨rfl, A3, n3, c3, hw3, b3⟩
  have x3 : Ext w w3 := ⟨b3.os.trans x2.os, b3.tape.trans x2.tape, b3.output.trans x2.output, Nat.le_trans x2.size b3.size, fun k hk => (b3.block k hk).trans (x2.block k hk)⟩
  have hn3 := hw3.len
  simp at hn3
  subst hn3
  go_wp2_with fail
  refine (done_any w3 hw3 (by omega)).mono ?_
  rintro e w4 ⟨A4, c4, rfl, o4, x4⟩
  have R := run_str (P := Tryd.prog) (w := w4) (s := 9) Tryd.underlying26 Tryd.underlying5 Tryd.underlying9 c4 o4.rd
  have hstr : str ([] ++ [172, 2] ++ [2] ++ [97, 98]) = ⟨#[172, 2, 2, 97, 98]⟩ := rfl
  rw [hstr] at R
  have kc := Lib.run_convert_bytes_const (P := Tryd.prog) w4 26 5 #[.int .u8 97] 1 1 Tryd.underlying26 Tryd.underlying5
  clear hw1 hw2 hn2 hstr
  go_wp2_with fail
  have hr : Rd (w4.alloc (.cells #[.int .u8 97] 5 (1, 2))) 1 (some ⟨w4.heap.size, 0, none⟩) 1 (u8s [97]) := Rd.new w4 #[.int .u8 97] 5 (1, 2)
  refine (SM.out _ 1 1 [97] _ (by omega) hr (by decide)).mono ?_
  rintro e w5 ⟨rfl, rfl⟩
  rw [fnv_a]
  clear kc
  go_wp2_with fail
  go_ret
  exact ⟨rfl, (x3.trans x4).alloc _⟩
end Go.Proofs.YtelnnlfbfbbnaaaDoor
