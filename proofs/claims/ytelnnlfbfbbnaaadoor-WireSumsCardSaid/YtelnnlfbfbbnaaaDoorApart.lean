/-
  almonernum.Apart: a list of bytes is not told of another one's being written over and grown.
-/
import Derived.Test.YtelnnlfbfbbnaaaDoorBytes
import Derived.Test.YtelnnlfbfbbnaaaDoorFr
import Derived.Laws.BitsAllLaws
import Derived.RegionTactic
import Derived.ChangeAlike
import Derived.Handy
namespace Go.Proofs.YtelnnlfbfbbnaaaDoor
open Go.RowKit
set_option linter.unusedVariables false
set_option maxRecDepth 8000 in
set_option maxHeartbeats 1600000 in
theorem apart_any (A B : Option Addr) (n c m d base : Nat) (la lb : List Nat) (w : World) (hA : Rd w 1 A n (u8s la)) (hB : Own w base 5 1 B m d (u8s lb)) (hlb : ∀ x ∈ lb, x < 256)
    (hm : m ≤ 140737488400000) (hbase : base ≤ w.heap.size) (hne : ∀ a, A = some a → B.map (·.block) ≠ some a.block) :
    Calls Tryd.prog 37 #[.slice A n c, .slice B m d] w fun e w' => e = .returned (.bool true) ∧ Fr w w' (fun b => B.map (·.block) = some b) := by
  have HA := Lib.hid hA
  have HN := Lib.hid hne
  have HB := Lib.hid hbase
  have ST := Lib.hid (fun (w' : World) (h : Rd w' 1 A n (u8s la)) => run_str (P := Tryd.prog) (w := w') (s := 9) Tryd.underlying26 Tryd.underlying5 Tryd.underlying9 c h)
  have c1 := ST.out w hA
  clear hA hne hbase
  go_enter Tryd.func37, Tryd.ntmps37
  go_wp2_with fail
  go_loopw [6, 13] (fun _ vi wr => ∃ (k : Nat) (l : List Nat), vi = .int .i64 (k : Int) ∧ k ≤ m ∧ (∀ x ∈ l, x < 256) ∧ Own wr base 5 1 B m d (u8s l) ∧ Fr w wr (fun b => B.map (·.block) = some b)) (fun _ vi _ => m - (intOf vi).toNat)
  case atStart => exact ⟨0, lb, rfl, by omega, hlb, hB, Fr.refl _ _⟩
  case round =>
    obtain ⟨k, l, rfl, hk, hl, ho, hf⟩ := hrel
    clear hB hlb
    by_cases hlt : k < m
    · obtain ⟨g, rfl⟩ := ho.head (by omega)
      obtain ⟨ad, x, e, hx, hc⟩ := ho.rd.byte hlt
      injection e with e
      subst e
      have hx8 := hl x (mem_of_at hx.out)
      have hc : wr.cell? ⟨g, k, none⟩ = some (.int .u8 (x : Int)) := by
        rwa [show (⟨g, 0, none⟩ : Addr).add k = ⟨g, k, none⟩ by unfold Addr.add; split <;> simp_all] at hc
      have hfr := ho.frozenAt k
      have e1 : Go.bits .xor .u8 (x : Int) 85 = ((x ^^^ 85 : Nat) : Int) := u8_xor_nat x 85 hx8 (by decide)
      have hx9 : x ^^^ 85 < 256 := Nat.xor_lt_two_pow (n := 8) hx8 (by decide)
      have k0 : (0 : Int) ≤ k := by omega
      have k1 : (k : Int) < m := by omega
      have ho2 := ho.stored k (.int .u8 ((x ^^^ 85 : Nat) : Int))
      have hset : (u8s l).set k (.int .u8 ((x ^^^ 85 : Nat) : Int)) = u8s (l.set k (x ^^^ 85)) := by simp [u8s, List.map_set]
      rw [hset] at ho2
      have hl2 : ∀ z ∈ l.set k (x ^^^ 85), z < 256 := fun z hz => by
        rcases List.mem_or_eq_of_mem_set hz with h | rfl
        · exact hl z h
        · exact hx9
      have hf2 : Fr w (wr.setCell ⟨g, k, none⟩ (.int .u8 ((x ^^^ 85 : Nat) : Int))) (fun b => (some (⟨g, 0, none⟩ : Addr)).map (·.block) = some b) := hf.trans (Fr.store wr _ _) (fun i _ e => by subst e; rfl)
      generalize l.set k (x ^^^ 85) = l2 at *
      generalize x ^^^ 85 = y at *
      have HF := Lib.hid (And.intro ho2 (And.intro hl2 hf2))
      clear ho2 hset hl2 hf2 hx hx8 hx9 ho hf hl c1
      go_wp2_with fail
      go_roundw
      case rel => exact ⟨k + 1, l2, by go_num, by omega, HF.out.2.1, HF.out.1, HF.out.2.2⟩
      case measure => simp [intOf]; omega
    · obtain rfl : m = k := by omega
      have c2 := ST.out wr (hf.rd HA.out HN.out)
      have HW := Lib.hid (And.intro hl (And.intro ho hf))
      have hs := hf.size
      clear hl ho hf c1
      go_wp2_with (at_builtin; refine held ?_)
      refine Held.go (wp_app (m := 8) (news := u8s [7, 7, 7, 7, 7, 7, 7, 7]) eltU8 (HW.out.2.1.alloc _) (Rd.new _ _ _ _) (u8s_one _) (by omega) (.inr ⟨by omega, by omega⟩) (by have := HB.out; simp; omega) _ _ rfl rfl rfl rfl ?_)
      intro B2 d2 w2 ho2 hg2 hB2 _
      rw [← u8s_append] at ho2
      have hf2 : Fr w w2 (fun b => B.map (·.block) = some b) := (HW.out.2.2.trans (Fr.of_ext ((Ext.refl wr).alloc _) (fun _ => False)) (fun _ _ h => h.elim)).trans (Fr.grows hg2) (fun _ _ h => h)
      have hl2 : ∀ x ∈ l ++ [7, 7, 7, 7, 7, 7, 7, 7], x < 256 := fun x hx => by
        rcases List.mem_append.1 hx with h | h
        · exact HW.out.1 x h
        · simp at h; omega
      generalize l ++ [7, 7, 7, 7, 7, 7, 7, 7] = l2 at *
      have hB3 : B2 = B ∨ ∃ z, B2 = some ⟨z, 0, none⟩ ∧ w.heap.size ≤ z := by
        rcases hB2 with h | h
        · exact .inl h
        · exact .inr ⟨_, h, by simp; omega⟩
      have HB2 := Lib.hid hB3
      clear hB3
      clear hg2 hB2
      go_wp2_with fail
      obtain ⟨M, hM⟩ : ∃ M, m + 8 = M := ⟨_, rfl⟩
      have e8 : (m : Int) + 8 = (M : Int) := by omega
      have M1 : m ≤ M := by omega
      have M2 : M ≤ m + 8 := by omega
      have M3 : 0 < M := by omega
      rw [hM] at ho2
      clear hM
      go_loopw [8] (fun vi wr => ∃ (k : Nat) (l : List Nat), vi = .int .i64 (k : Int) ∧ m ≤ k ∧ k ≤ M ∧ (∀ x ∈ l, x < 256) ∧ Own wr base 5 1 B2 M d2 (u8s l) ∧ Fr w wr (fun b => B.map (·.block) = some b)) (fun vi _ => M - (intOf vi).toNat)
      case atStart => exact ⟨m, l2, rfl, by omega, by omega, hl2, ho2, hf2⟩
      case round =>
        obtain ⟨k, l, rfl, hk0, hk, hl, ho, hf⟩ := hrel
        clear ho2 hl2 hf2 HW
        by_cases hlt : k < M
        · obtain ⟨g, rfl⟩ := ho.head M3
          obtain ⟨ad, x, e, hx, hc⟩ := ho.rd.byte hlt
          injection e with e
          subst e
          have hx8 := hl x (mem_of_at hx.out)
          have hc : wr.cell? ⟨g, k, none⟩ = some (.int .u8 (x : Int)) := by
            rwa [show (⟨g, 0, none⟩ : Addr).add k = ⟨g, k, none⟩ by unfold Addr.add; split <;> simp_all] at hc
          have hfr := ho.frozenAt k
          have e1 : Go.bits .xor .u8 (x : Int) 85 = ((x ^^^ 85 : Nat) : Int) := u8_xor_nat x 85 hx8 (by decide)
          have hx9 : x ^^^ 85 < 256 := Nat.xor_lt_two_pow (n := 8) hx8 (by decide)
          have k0 : (0 : Int) ≤ k := by omega
          have k1 : (k : Int) < M := by omega
          have ho2 := ho.stored k (.int .u8 ((x ^^^ 85 : Nat) : Int))
          have hset : (u8s l).set k (.int .u8 ((x ^^^ 85 : Nat) : Int)) = u8s (l.set k (x ^^^ 85)) := by simp [u8s, List.map_set]
          rw [hset] at ho2
          have hl2 : ∀ z ∈ l.set k (x ^^^ 85), z < 256 := fun z hz => by
            rcases List.mem_or_eq_of_mem_set hz with h | rfl
            · exact hl z h
            · exact hx9
          have hf2 : Fr w (wr.setCell ⟨g, k, none⟩ (.int .u8 ((x ^^^ 85 : Nat) : Int))) (fun b => B.map (·.block) = some b) := hf.trans (Fr.store wr _ _) (fun i hi e => by
            have e : i = g := e
            rcases HB2.out with h | h
            · rw [← h, e]; rfl
            · obtain ⟨z, h, hz⟩ := h
              have h2 : g = z := by injection h with h; injection h
              omega)
          generalize l.set k (x ^^^ 85) = l2 at *
          generalize x ^^^ 85 = y at *
          have HF := Lib.hid (And.intro ho2 (And.intro hl2 hf2))
          clear ho2 hset hl2 hf2 hx hx8 hx9 ho hf hl c2
          go_wp2_with fail
          go_roundw
          case rel => exact ⟨k + 1, l2, by go_num, by omega, by omega, HF.out.2.1, HF.out.1, HF.out.2.2⟩
          case measure => simp [intOf]; omega
        · obtain rfl : M = k := by omega
          have c3 := ST.out wr (hf.rd HA.out HN.out)
          have HF := Lib.hid hf
          clear hf ho hl c2
          go_wp2_with fail
          go_returns
          exact ⟨rfl, HF.out⟩
end Go.Proofs.YtelnnlfbfbbnaaaDoor
