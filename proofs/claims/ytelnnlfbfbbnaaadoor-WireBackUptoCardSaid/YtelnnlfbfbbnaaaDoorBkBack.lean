/-
  The statement WireBack, walked.
-/
import Derived.Test.YtelnnlfbfbbnaaaDoorBkOps
import Derived.Test.YtelnnlfbfbbnaaaDoorMask
import Derived.Test.YtelnnlfbfbbnaaaDoorRNumbers
import Derived.Deep.Cut
namespace Go.Proofs.YtelnnlfbfbbnaaaDoor
open Go.RowKit
set_option linter.unusedVariables false
/-- What a call of a script puts. -/
def opOf (K N : Int) (l : List Nat) : Wr.Opd := if K = 1 then .num (N % 9223372036854775808).toNat else if K = 2 ∨ K = 3 then .bytes l else .nop
structure ScriptL (w : World) (A : Option Addr) (n : Nat) (ops : List Wr.Opd) : Prop where
  len : ops.length = n
  at_ : ∀ i o, ops[i]? = some o → ∃ ad K Q N B nb cb l, A = some ad ∧ OpAt w ad i K Q N B nb cb l ∧ o = opOf K N l
theorem all_ops {α : Type} {Q : Nat → α → Prop} (n : Nat) (h : ∀ i, i < n → ∃ x, Q i x) : ∃ l : List α, l.length = n ∧ ∀ i x, l[i]? = some x → Q i x := by
  induction n with
  | zero => exact ⟨[], rfl, fun i x h => by simp at h⟩
  | succ n ih =>
    obtain ⟨l, hl, hq⟩ := ih (fun i hi => h i (by omega))
    obtain ⟨y, hy⟩ := h n (by omega)
    refine ⟨l ++ [y], by simp [hl], fun i x hx => ?_⟩
    rcases Nat.lt_or_ge i n with hi | hi
    · rw [List.getElem?_append_left (by omega)] at hx
      exact hq i x hx
    · rw [List.getElem?_append_right (by omega), hl] at hx
      obtain ⟨j, hj⟩ : ∃ j, i - n = j := ⟨_, rfl⟩
      rw [hj] at hx
      cases j with
      | zero =>
        simp at hx
        subst hx
        obtain rfl : i = n := by omega
        exact hy
      | succ j => simp at hx
theorem script_ops {w : World} {A : Option Addr} {n : Nat} (h : Script w A n) : ∃ ops, ScriptL w A n ops := by
  obtain ⟨ops, h1, h2⟩ := all_ops (Q := fun i o => ∃ ad K Q N B nb cb l, A = some ad ∧ OpAt w ad i K Q N B nb cb l ∧ o = opOf K N l) n (fun i hi => by
    obtain ⟨ad, K, Q, N, B, nb, cb, l, e, ho⟩ := h i hi
    exact ⟨_, ad, K, Q, N, B, nb, cb, l, e, ho, rfl⟩)
  exact ⟨ops, h1, h2⟩
theorem ScriptL.ok {w : World} {A : Option Addr} {n : Nat} {ops : List Wr.Opd} (h : ScriptL w A n ops) : ∀ o ∈ ops, o.ok := by
  intro o ho
  obtain ⟨i, hi⟩ := List.getElem?_of_mem ho
  obtain ⟨ad, K, Q, N, B, nb, cb, l, _, hoo, rfl⟩ := h.at_ i o hi
  unfold opOf
  split
  · show (N % 9223372036854775808).toNat ≤ 9223372036854775807
    omega
  · split
    · show l.length ≤ 9223372036854775807
      have h1 := hoo.rd.len
      have h2 := hoo.le
      have h3 := hoo.small
      rw [u8s_len] at h1
      omega
    · trivial
theorem enc_byte : ∀ (ops : List Wr.Opd), (∀ o ∈ ops, ∀ x ∈ o.enc, x < 256) → ∀ x ∈ Wr.encAll ops, x < 256 := by
  intro ops
  induction ops with
  | nil => intro _ x hx; simp [Wr.encAll] at hx
  | cons o ops ih =>
    intro h x hx
    rw [Wr.encAll] at hx
    rcases List.mem_append.1 hx with h1 | h1
    · exact h o (by simp) x h1
    · exact ih (fun o ho => h o (by simp [ho])) x h1
theorem ScriptL.byte {w : World} {A : Option Addr} {n : Nat} {ops : List Wr.Opd} (h : ScriptL w A n ops) : ∀ x ∈ Wr.encAll ops, x < 256 := by
  refine enc_byte ops fun o ho => ?_
  obtain ⟨i, hi⟩ := List.getElem?_of_mem ho
  obtain ⟨ad, K, Q, N, B, nb, cb, l, _, hoo, rfl⟩ := h.at_ i o hi
  unfold opOf
  split
  · exact fun x hx => Wr.num_byte _ x hx
  · split
    · intro x hx
      rcases List.mem_append.1 hx with h1 | h1
      · exact Wr.num_byte _ x h1
      · exact hoo.byte x h1
    · intro x hx
      cases hx
set_option maxRecDepth 8000 in
set_option maxHeartbeats 6400000 in
theorem read_any (A1 A : Option Addr) (n1 c1 n c : Nat) (l1 : List Nat) (ops : List Wr.Opd) (w : World) (hr : Rd w 1 A1 n1 (u8s l1)) (hl : ∀ x ∈ l1, x < 256) (hn1 : n1 ≤ 140737488351232) (hs : ScriptL w A n ops) (hn : n ≤ 209715) {p : Addr} (hS : Sen w 1 p) :
    Calls Tryd.prog 30 #[.slice A1 n1 c1, .slice A n c] w fun e w' => e = .returned (.tuple #[.bool (Wr.readAll ops l1).isSome, .bool (decide (Wr.readAll ops l1 = some []))]) ∧ Ext w w' := by
  have HS := Lib.hid hs
  have NR := Lib.hid (newr_any A1 n1 c1 l1 w hr hl hn1)
  have SE := Lib.hid (fun w' (hx : Ext w w') => hS.ext hx)
  have hlen1 : l1.length = n1 := by have h := hr.len; rwa [u8s_len] at h
  have HL1 := Lib.hid hlen1
  clear hs hr hl hS hlen1
  go_enter Tryd.func30, Tryd.ntmps30
  go_wp2_with fail
  refine NR.out.mono ?_
  rintro e u1 ⟨g, A2, c2, rfl, hg, hrs, hA2, e1⟩
  have HG := Lib.hid (And.intro hrs (And.intro hA2 e1))
  clear hrs hA2 e1
  go_wp2_with fail
  go_loopw [21] (fun vi wr => ∃ (k a : Nat), vi = .int .i64 (k : Int) ∧ k ≤ n ∧ Hid (RdS wr g A2 n1 c2 a l1 ∧ Ext w wr ∧ Wr.readAll ops l1 = Wr.readAll (ops.drop k) (l1.drop a))) (fun vi _ => n - (intOf vi).toNat)
  case atStart => exact ⟨0, 0, rfl, by omega, HG.out.1, HG.out.2.2, rfl⟩
  case round =>
    obtain ⟨k, a, rfl, hk, HI⟩ := hrel
    by_cases h1 : k < n
    · obtain ⟨o, ho0⟩ : ∃ o, ops[k]? = some o := ⟨ops[k]'(by rw [HS.out.len]; exact h1), List.getElem?_eq_getElem _⟩
      obtain ⟨ad, K, Q, N, C, nc, cc, l, rfl, ho1, hoo⟩ := HS.out.at_ k o ho0
      have hdrop : ops.drop k = o :: ops.drop (k + 1) := by
        obtain ⟨h2, h3⟩ := List.getElem?_eq_some_iff.1 ho0
        rw [List.drop_eq_getElem_cons h2, h3]
      have ho := ho1.ext HI.out.2.1
      have hrd := HI.out.2.2
      rw [hdrop, Wr.readAll] at hrd
      have HD := Lib.hid (And.intro hrd (And.intro hoo ho1))
      have hlc : l.length = nc := by have h := ho1.rd.len; rwa [u8s_len] at h
      have HLC := Lib.hid hlc
      clear hrd hoo ho1 hdrop ho0 hlc
      have glt := HI.out.1.lt
      obtain ⟨k0, k1, k2, k3, _, _, iN, le, sm, rd, by'⟩ := ho
      obtain ⟨i0, hi0⟩ : ∃ i0 : Nat, k * 4 = i0 := ⟨_, rfl⟩
      rw [hi0] at k0 k1 k2 k3
      have k1 : wr.cell? ⟨(ad.add i0).block, (ad.add i0).off + 1, none⟩ = some (.int .i64 Q) := by rw [← add_add'] at k1; exact k1
      have k2 : wr.cell? ⟨(ad.add i0).block, (ad.add i0).off + 2, none⟩ = some (.int .i64 N) := by rw [← add_add'] at k2; exact k2
      have k3 : wr.cell? ⟨(ad.add i0).block, (ad.add i0).off + 3, none⟩ = some (.slice C nc cc) := by rw [← add_add'] at k3; exact k3
      have z0 : (0 : Int) ≤ k := by omega
      have z1 : (k : Int) < n := by omega
      clear by' rd
      go_upto_region 8 with (fail)
      have hb4 := heap_alloc_new wr (.cells #[.int .i64 K, .int .i64 Q, .int .i64 N, .slice C nc cc] 38)
      have RS := Lib.hid (HI.out.1.ext ((Ext.refl wr).alloc (.cells #[.int .i64 K, .int .i64 Q, .int .i64 N, .slice C nc cc] 38)))
      have XA := Lib.hid (HI.out.2.1.alloc (.cells #[.int .i64 K, .int .i64 Q, .int .i64 N, .slice C nc cc] 38))
      have w2 : (wr.alloc (.cells #[.int .i64 K, .int .i64 Q, .int .i64 N, .slice C nc cc] 38)).cell? ⟨wr.heap.size, 2, none⟩ = some (.int .i64 N) := by rw [cell_of_row _ _ _ _ _ _ hb4]; rfl
      have w3 : (wr.alloc (.cells #[.int .i64 K, .int .i64 Q, .int .i64 N, .slice C nc cc] 38)).cell? ⟨wr.heap.size, 3, none⟩ = some (.slice C nc cc) := by rw [cell_of_row _ _ _ _ _ _ hb4]; rfl
      have hsz : wr.heap.size < (wr.alloc (.cells #[.int .i64 K, .int .i64 Q, .int .i64 N, .slice C nc cc] 38)).heap.size := by simp
      generalize wr.alloc (.cells #[.int .i64 K, .int .i64 Q, .int .i64 N, .slice C nc cc] 38) = W at *
      generalize wr.heap.size = ob at *
      clear hb4 k0 k1 k2 k3
      have E9 := SE.out W XA.out
      have OC := Lib.hid (HD.out.2.2.rd.ext XA.out)
      by_cases hK1 : K = 1
      · subst hK1
        obtain ⟨x, hx⟩ : ∃ x : Nat, (N % 9223372036854775808).toNat = x := ⟨_, rfl⟩
        have mk : Go.bits .and .i64 N 9223372036854775807 = (x : Int) := by rw [mask63]; omega
        have hop : opOf 1 N l = .num x := by unfold opOf; rw [if_pos rfl, hx]
        have HOP := Lib.hid hop
        clear hop hx
        cases hrr : Wr.rd (l1.drop a) with
        | none =>
          have CN := Lib.hid (rnum_no RS.out 9223372036854775807 (fun x k h => by rw [hrr] at h; cases h) E9)
          have HN : Hid (Wr.readAll ops l1 = none) := by
            show _ = _
            rw [HD.out.1, HD.out.2.1, HOP.out, Wr.read1, hrr]
          unfold BytesNo at CN
          clear hrr
          go_wp2_with fail
          refine CN.out.mono ?_
          rintro e v1 ⟨rfl, j, rfl⟩
          go_wp2_with fail
          go_returns
          rw [HN.out]
          exact ⟨rfl, XA.out.drewN j⟩
        | some y =>
          obtain ⟨y, j⟩ := y
          have hy := Wr.rd_lt (fun c hc => RS.out.byte c (List.mem_of_mem_drop hc)) hrr
          have CN := Lib.hid (rnum_ok RS.out hrr 9223372036854775807 (by omega))
          have hjk := Wr.rd_count hrr
          rw [List.length_drop, HL1.out] at hjk
          have hle := RS.out.le
          obtain ⟨b, hb⟩ : ∃ b, a + j = b := ⟨_, rfl⟩
          have R2 := Lib.hid (RS.out.put b (by omega))
          have HB := Lib.hid hb
          rw [hb] at CN
          have x2 := XA.out.setCell (p := ⟨g, 1, none⟩) hg (.int .i64 (b : Int))
          have w2' : (W.setCell ⟨g, 1, none⟩ (.int .i64 (b : Int))).cell? ⟨ob, 2, none⟩ = some (.int .i64 N) := by
            rw [← w2]
            exact World.cell?_of_block (heap_setCell_other W ⟨g, 1, none⟩ ob _ (by show ob ≠ g; omega))
          have X2 := Lib.hid x2
          have HR := Lib.hid hrr
          clear hb hjk hle x2 hrr
          by_cases hxy : y = x
          · subst hxy
            go_wp2_with fail
            refine CN.out.mono ?_
            rintro e v1 ⟨rfl, rfl⟩
            go_wp2_with fail
            go_roundw
            case rel =>
              refine ⟨k + 1, b, by go_num, by omega, R2.out, X2.out, ?_⟩
              have h := HD.out.1
              rw [HD.out.2.1, HOP.out, Wr.read1, HR.out] at h
              simp only [if_true, List.drop_drop, HB.out] at h
              exact h
            case measure => simp [intOf]; omega
          · have hxy' : ((y : Int) != (x : Int)) = true := by simp; omega
            have hxy2 : ¬ (y : Int) = (x : Int) := by omega
            have HN : Hid (Wr.readAll ops l1 = none) := by
              show _ = _
              rw [HD.out.1, HD.out.2.1, HOP.out, Wr.read1, HR.out]
              simp only [if_neg hxy]
            clear hxy
            go_wp2_with fail
            refine CN.out.mono ?_
            rintro e v1 ⟨rfl, rfl⟩
            go_wp2_with fail
            go_returns
            rw [HN.out]
            exact ⟨rfl, X2.out⟩
      · have hK1b : (K == 1) = false := by simp [hK1]
        by_cases hK2 : K = 2
        · subst hK2
          have hop : opOf 2 N l = .bytes l := by unfold opOf; rw [if_neg (by omega), if_pos (by omega)]
          have HOP := Lib.hid hop
          clear hop
          by_cases hok : ∃ y j, Wr.rd (l1.drop a) = some (y, j) ∧ y ≤ nc ∧ a + j + y ≤ n1
          · obtain ⟨y, j, hrr, hy, hfit⟩ := hok
            have CN := Lib.hid (rtext_ok RS.out hrr (nc : Int) (by omega) hfit)
            have HR := Lib.hid (And.intro hrr (And.intro hy hfit))
            clear hrr
            obtain ⟨R, hR⟩ : ∃ R, (l1.drop (a + j)).take y = R := ⟨_, rfl⟩
            rw [hR] at CN
            have hRb : ∀ x ∈ R, x < 256 := fun x hx => by rw [← hR] at hx; exact RS.out.byte x (List.mem_of_mem_drop (List.mem_of_mem_take hx))
            have HRb := Lib.hid (And.intro hRb hR)
            have hrdl : (l1.drop a).drop j = l1.drop (a + j) := List.drop_drop
            have HRD := Lib.hid hrdl
            clear hRb hR hrdl
            by_cases heq : R = l
            · have HE := Lib.hid heq
              subst heq
              clear HE
              go_wp2_with fail
              refine CN.out.mono ?_
              rintro e v1 ⟨rfl, hs2, hf2⟩
              have x2 : Ext w v1 := Fr.ext XA.out hf2 (fun i hi => by subst hi; exact hg)
              have w3v : v1.cell? ⟨ob, 3, none⟩ = some (.slice C nc cc) := by
                rw [← w3]
                exact World.cell?_of_block (hf2.block ob hsz (by omega))
              have sb := run_str (P := Tryd.prog) (w := v1) (s := 9) Tryd.underlying26 Tryd.underlying5 Tryd.underlying9 cc (HD.out.2.2.rd.ext x2)
              have H2 := Lib.hid (And.intro hs2 x2)
              clear hs2 hf2 x2
              generalize hst : str R = st at *
              clear hst
              go_wp2_with fail
              go_roundw
              case rel =>
                refine ⟨k + 1, a + j + y, by go_num, by omega, H2.out.1, H2.out.2, ?_⟩
                have h := HD.out.1
                rw [HD.out.2.1, HOP.out, Wr.read1, HR.out.1] at h
                simp only [] at h
                rw [if_pos ⟨by rw [HLC.out]; exact HR.out.2.1, by rw [HRD.out, List.length_drop, HL1.out]; have := HR.out.2.2; omega, by rw [HRD.out]; exact HRb.out.2⟩, HRD.out, List.drop_drop] at h
                exact h
              case measure => simp [intOf]; omega
            · have hq1 : ((str R).toList == (str l).toList) = false := by
                rw [beq_eq_false_iff_ne, ByteArray.toList_eq, ByteArray.toList_eq]
                exact fun h => heq (str_inj HRb.out.1 HD.out.2.2.byte (Go.WideShapes.bytes_inj h))
              have HN : Hid (Wr.readAll ops l1 = none) := by
                show _ = _
                rw [HD.out.1, HD.out.2.1, HOP.out, Wr.read1, HR.out.1]
                simp only []
                rw [if_neg (fun h => heq (by rw [← HRb.out.2, ← HRD.out]; exact h.2.2))]
              clear heq
              go_wp2_with fail
              refine CN.out.mono ?_
              rintro e v1 ⟨rfl, hs2, hf2⟩
              have x2 : Ext w v1 := Fr.ext XA.out hf2 (fun i hi => by subst hi; exact hg)
              have w3v : v1.cell? ⟨ob, 3, none⟩ = some (.slice C nc cc) := by
                rw [← w3]
                exact World.cell?_of_block (hf2.block ob hsz (by omega))
              have sb := run_str (P := Tryd.prog) (w := v1) (s := 9) Tryd.underlying26 Tryd.underlying5 Tryd.underlying9 cc (HD.out.2.2.rd.ext x2)
              have H2 := Lib.hid (And.intro hs2 x2)
              clear hs2 hf2 x2
              go_wp2_with fail
              go_returns
              rw [HN.out]
              exact ⟨rfl, H2.out.2⟩
          · have hno : ∀ x k, Wr.rd (l1.drop a) = some (x, k) → (nc : Int) < (x : Int) ∨ n1 < a + k + x := fun x k h => by
              by_cases h3 : x ≤ nc
              · right
                refine Nat.lt_of_not_le fun h4 => hok ⟨x, k, h, h3, h4⟩
              · left
                omega
            have CN := Lib.hid (rtext_no RS.out (nc : Int) hno E9)
            have HN : Hid (Wr.readAll ops l1 = none) := by
              show _ = _
              rw [HD.out.1, HD.out.2.1, HOP.out, Wr.read1]
              cases hrr : Wr.rd (l1.drop a) with
              | none => rfl
              | some y =>
                obtain ⟨y, j⟩ := y
                simp only []
                rw [if_neg (fun h => ?_)]
                have h5 := Wr.rd_count hrr
                have h1 := h.1
                have h2 := h.2.1
                rw [HLC.out] at h1
                simp only [List.length_drop, HL1.out] at h2 h5
                exact hok ⟨y, j, hrr, h1, by have := RS.out.le; omega⟩
            unfold BytesNo at CN
            clear hok hno
            go_wp2_with fail
            refine CN.out.mono ?_
            rintro e v1 ⟨rfl, j, rfl⟩
            go_wp2_with fail
            go_returns
            rw [HN.out]
            exact ⟨rfl, XA.out.drewN j⟩
        · have hK2b : (K == 2) = false := by simp [hK2]
          by_cases hK3 : K = 3
          · subst hK3
            have hop : opOf 3 N l = .bytes l := by unfold opOf; rw [if_neg (by omega), if_pos (by omega)]
            have HOP := Lib.hid hop
            clear hop
            by_cases hok : ∃ y j, Wr.rd (l1.drop a) = some (y, j) ∧ y ≤ nc ∧ a + j + y ≤ n1
            · obtain ⟨y, j, hrr, hy, hfit⟩ := hok
              have CN := Lib.hid (rbytes_ok RS.out hrr (nc : Int) (by omega) hfit)
              have HR := Lib.hid (And.intro hrr (And.intro hy hfit))
              clear hrr
              obtain ⟨R, hR⟩ : ∃ R, (l1.drop (a + j)).take y = R := ⟨_, rfl⟩
              rw [hR] at CN
              have hRb : ∀ x ∈ R, x < 256 := fun x hx => by rw [← hR] at hx; exact RS.out.byte x (List.mem_of_mem_drop (List.mem_of_mem_take hx))
              have HRb := Lib.hid (And.intro hRb hR)
              have hrdl : (l1.drop a).drop j = l1.drop (a + j) := List.drop_drop
              have HRD := Lib.hid hrdl
              clear hRb hR hrdl
              by_cases heq : R = l
              · have HE := Lib.hid heq
                subst heq
                clear HE
                go_wp2_with fail
                refine CN.out.mono ?_
                rintro e v1 ⟨A', c', rfl, ho2, hs2, hf2⟩
                have sa := run_str (P := Tryd.prog) (w := v1) (s := 9) Tryd.underlying26 Tryd.underlying5 Tryd.underlying9 c' ho2.rd
                clear ho2
                have x2 : Ext w v1 := Fr.ext XA.out hf2 (fun i hi => by subst hi; exact hg)
                have w3v : v1.cell? ⟨ob, 3, none⟩ = some (.slice C nc cc) := by
                  rw [← w3]
                  exact World.cell?_of_block (hf2.block ob hsz (by omega))
                have sb := run_str (P := Tryd.prog) (w := v1) (s := 9) Tryd.underlying26 Tryd.underlying5 Tryd.underlying9 cc (HD.out.2.2.rd.ext x2)
                have H2 := Lib.hid (And.intro hs2 x2)
                clear hs2 hf2 x2
                generalize hst : str R = st at *
                clear hst
                go_wp2_with fail
                go_roundw
                case rel =>
                  refine ⟨k + 1, a + j + y, by go_num, by omega, H2.out.1, H2.out.2, ?_⟩
                  have h := HD.out.1
                  rw [HD.out.2.1, HOP.out, Wr.read1, HR.out.1] at h
                  simp only [] at h
                  rw [if_pos ⟨by rw [HLC.out]; exact HR.out.2.1, by rw [HRD.out, List.length_drop, HL1.out]; have := HR.out.2.2; omega, by rw [HRD.out]; exact HRb.out.2⟩, HRD.out, List.drop_drop] at h
                  exact h
                case measure => simp [intOf]; omega
              · have hq1 : ((str R).toList == (str l).toList) = false := by
                  rw [beq_eq_false_iff_ne, ByteArray.toList_eq, ByteArray.toList_eq]
                  exact fun h => heq (str_inj HRb.out.1 HD.out.2.2.byte (Go.WideShapes.bytes_inj h))
                have HN : Hid (Wr.readAll ops l1 = none) := by
                  show _ = _
                  rw [HD.out.1, HD.out.2.1, HOP.out, Wr.read1, HR.out.1]
                  simp only []
                  rw [if_neg (fun h => heq (by rw [← HRb.out.2, ← HRD.out]; exact h.2.2))]
                clear heq
                go_wp2_with fail
                refine CN.out.mono ?_
                rintro e v1 ⟨A', c', rfl, ho2, hs2, hf2⟩
                have sa := run_str (P := Tryd.prog) (w := v1) (s := 9) Tryd.underlying26 Tryd.underlying5 Tryd.underlying9 c' ho2.rd
                clear ho2
                have x2 : Ext w v1 := Fr.ext XA.out hf2 (fun i hi => by subst hi; exact hg)
                have w3v : v1.cell? ⟨ob, 3, none⟩ = some (.slice C nc cc) := by
                  rw [← w3]
                  exact World.cell?_of_block (hf2.block ob hsz (by omega))
                have sb := run_str (P := Tryd.prog) (w := v1) (s := 9) Tryd.underlying26 Tryd.underlying5 Tryd.underlying9 cc (HD.out.2.2.rd.ext x2)
                have H2 := Lib.hid (And.intro hs2 x2)
                clear hs2 hf2 x2
                go_wp2_with fail
                go_returns
                rw [HN.out]
                exact ⟨rfl, H2.out.2⟩
            · have hno : ∀ x k, Wr.rd (l1.drop a) = some (x, k) → (nc : Int) < (x : Int) ∨ n1 < a + k + x := fun x k h => by
                by_cases h3 : x ≤ nc
                · right
                  refine Nat.lt_of_not_le fun h4 => hok ⟨x, k, h, h3, h4⟩
                · left
                  omega
              have CN := Lib.hid (rbytes_no RS.out (nc : Int) hno E9)
              have HN : Hid (Wr.readAll ops l1 = none) := by
                show _ = _
                rw [HD.out.1, HD.out.2.1, HOP.out, Wr.read1]
                cases hrr : Wr.rd (l1.drop a) with
                | none => rfl
                | some y =>
                  obtain ⟨y, j⟩ := y
                  simp only []
                  rw [if_neg (fun h => ?_)]
                  have h5 := Wr.rd_count hrr
                  have h1 := h.1
                  have h2 := h.2.1
                  rw [HLC.out] at h1
                  simp only [List.length_drop, HL1.out] at h2 h5
                  exact hok ⟨y, j, hrr, h1, by have := RS.out.le; omega⟩
              unfold BytesNo at CN
              clear hok hno
              go_wp2_with fail
              refine CN.out.mono ?_
              rintro e v1 ⟨rfl, j, rfl⟩
              go_wp2_with fail
              go_returns
              rw [HN.out]
              exact ⟨rfl, XA.out.drewN j⟩
          · have hK3b : (K == 3) = false := by simp [hK3]
            have hop : opOf K N l = .nop := by unfold opOf; rw [if_neg hK1, if_neg (by omega)]
            have HOP := Lib.hid hop
            clear hop
            go_wp2_with fail
            go_roundw
            case rel =>
              refine ⟨k + 1, a, by go_num, by omega, RS.out, XA.out, ?_⟩
              have h := HD.out.1
              rw [HD.out.2.1, HOP.out, Wr.read1] at h
              exact h
            case measure => simp [intOf]; omega
    · obtain rfl : k = n := by omega
      have hfin := HI.out.2.2
      rw [List.drop_eq_nil_of_le (by rw [HS.out.len]; exact Nat.le_refl _), Wr.readAll] at hfin
      have HF := Lib.hid hfin
      have hle := HI.out.1.le
      clear hfin
      by_cases hend : a = n1
      · subst hend
        have RN := Lib.hid (fun j => rend_ok (HI.out.1.ext ((Ext.refl wr).drewN j)))
        go_wp2_with fail
        go_quiet (first | (go_at_call 28; exact Calls.quiet_of (RN.out _)))
        go_wp2_with fail
        go_returns
        rw [HF.out, List.drop_eq_nil_of_le (by rw [HL1.out]; exact Nat.le_refl _)]
        exact ⟨rfl, HI.out.2.1.drewN _⟩
      · have RN := Lib.hid (fun j => rend_no (HI.out.1.ext ((Ext.refl wr).drewN j)) (by omega) (SE.out _ (HI.out.2.1.drewN j)))
        have hne : decide (some (l1.drop a) = some []) = false := by
          rw [decide_eq_false_iff_not]
          intro h
          injection h with h
          have := congrArg List.length h
          rw [List.length_drop, HL1.out, List.length_nil] at this
          omega
        have HNE := Lib.hid hne
        clear hne
        go_wp2_with fail
        go_quiet (first | (go_at_call 28; exact Calls.quiet_of (RN.out _)))
        go_wp2_with fail
        go_returns
        rw [HF.out, HNE.out]
        exact ⟨rfl, HI.out.2.1.drewN _⟩
set_option maxRecDepth 8000 in
set_option maxHeartbeats 6400000 in
theorem back_any (A : Option Addr) (n c : Nat) (cut : Int) (w : World) (hs : Script w A n) (hn : n ≤ 209715) (hcut : -9223372036854775808 ≤ cut ∧ cut ≤ 9223372036854775807) {p : Addr} (hS : Sen w 1 p) :
    Calls Tryd.prog 7 #[.slice A n c, .int .i64 cut] w fun e w' => e = .returned (.bool true) ∧ Ext w w' := by
  obtain ⟨ops, hops⟩ := script_ops hs
  have HS := Lib.hid hops
  have SE := Lib.hid (fun w' (hx : Ext w w') => hS.ext hx)
  clear hs hops hS
  go_enter Tryd.func7, Tryd.ntmps7
  go_wp2_with fail
  refine (alive_any _).mono ?_
  rintro e u0 ⟨rfl, e0⟩
  go_wp2_with fail
  refine (new_any _).mono ?_
  rintro e u1 ⟨rfl, hv, e1⟩
  have q0 := e0.size
  have HV := Lib.hid (And.intro hv (e0.trans e1))
  clear hv e0 e1
  generalize u0.heap.size = g at *
  go_wp2_with fail
  go_loopw [20] (fun vi wr => ∃ (k m d : Nat) (B : Option Addr), vi = .int .i64 (k : Int) ∧ k ≤ n ∧ m ≤ k * 1048594 ∧ Hid (WrS wr g B m d (Wr.encAll (ops.take k)) false ∧ Ext w wr)) (fun vi _ => n - (intOf vi).toNat)
  case atStart => exact ⟨0, 0, 0, none, rfl, by omega, by omega, HV.out.1, HV.out.2⟩
  case round =>
    obtain ⟨k, m, d, B, rfl, hk, hm, HI⟩ := hrel
    by_cases h1 : k < n
    · obtain ⟨o, ho0⟩ : ∃ o, ops[k]? = some o := ⟨ops[k]'(by rw [HS.out.len]; exact h1), List.getElem?_eq_getElem _⟩
      obtain ⟨ad, K, Q, N, C, nc, cc, l, rfl, ho1, hoo⟩ := HS.out.at_ k o ho0
      have htake : Wr.encAll (ops.take (k + 1)) = Wr.encAll (ops.take k) ++ o.enc := by rw [List.take_add_one, ho0]; exact Wr.encAll_snoc _ _
      have ho := ho1.ext HI.out.2
      have hlc : l.length = nc := by have h := ho1.rd.len; rwa [u8s_len] at h
      have HD := Lib.hid (And.intro htake (And.intro hoo (And.intro ho1 hlc)))
      clear hoo ho1 htake ho0 hlc
      have glt := HI.out.1.lt
      obtain ⟨k0, k1, k2, k3, _, _, iN, le, sm, rd, by'⟩ := ho
      obtain ⟨i0, hi0⟩ : ∃ i0 : Nat, k * 4 = i0 := ⟨_, rfl⟩
      rw [hi0] at k0 k1 k2 k3
      have k1 : wr.cell? ⟨(ad.add i0).block, (ad.add i0).off + 1, none⟩ = some (.int .i64 Q) := by rw [← add_add'] at k1; exact k1
      have k2 : wr.cell? ⟨(ad.add i0).block, (ad.add i0).off + 2, none⟩ = some (.int .i64 N) := by rw [← add_add'] at k2; exact k2
      have k3 : wr.cell? ⟨(ad.add i0).block, (ad.add i0).off + 3, none⟩ = some (.slice C nc cc) := by rw [← add_add'] at k3; exact k3
      have z0 : (0 : Int) ≤ k := by omega
      have z1 : (k : Int) < n := by omega
      clear by' rd
      have hmb : m ≤ 1099511627776 := by omega
      go_upto_region 10 with (fail)
      have hb4 := heap_alloc_new wr (.cells #[.int .i64 K, .int .i64 Q, .int .i64 N, .slice C nc cc] 38)
      have RS := Lib.hid (HI.out.1.ext ((Ext.refl wr).alloc (.cells #[.int .i64 K, .int .i64 Q, .int .i64 N, .slice C nc cc] 38)))
      have XA := Lib.hid (HI.out.2.alloc (.cells #[.int .i64 K, .int .i64 Q, .int .i64 N, .slice C nc cc] 38))
      have w2 : (wr.alloc (.cells #[.int .i64 K, .int .i64 Q, .int .i64 N, .slice C nc cc] 38)).cell? ⟨wr.heap.size, 2, none⟩ = some (.int .i64 N) := by rw [cell_of_row _ _ _ _ _ _ hb4]; rfl
      have w3 : (wr.alloc (.cells #[.int .i64 K, .int .i64 Q, .int .i64 N, .slice C nc cc] 38)).cell? ⟨wr.heap.size, 3, none⟩ = some (.slice C nc cc) := by rw [cell_of_row _ _ _ _ _ _ hb4]; rfl
      generalize wr.alloc (.cells #[.int .i64 K, .int .i64 Q, .int .i64 N, .slice C nc cc] 38) = W at *
      generalize wr.heap.size = ob at *
      clear hb4 k0 k1 k2 k3
      by_cases hK1 : K = 1
      · subst hK1
        obtain ⟨x, hx⟩ : ∃ x : Nat, (N % 9223372036854775808).toNat = x := ⟨_, rfl⟩
        have mk : Go.bits .and .i64 N 9223372036854775807 = (x : Int) := by rw [mask63]; omega
        have hop : opOf 1 N l = .num x := by unfold opOf; rw [if_pos rfl, hx]
        have hxb : x ≤ 9223372036854775807 := by omega
        have HOP := Lib.hid hop
        have CN := Lib.hid (wnum_any x W RS.out hxb hmb)
        have hln : (Wr.num x).length ≤ 9 := Wr.num_len 8 _ (by rw [show (128 : Nat) ^ (8 + 1) = 9223372036854775808 by decide]; omega)
        clear hop hx hxb
        go_wp2_with fail
        refine CN.out.mono ?_
        rintro e v1 ⟨rfl, B1, m1, d1, hw1, hf1, hB1⟩
        have hx1 : Ext w v1 := Below.ext_of XA.out (below_of_fr hf1 RS.out.lt (fun k hk => RS.out.own.base_le k hk)) q0
        have hl1 := hw1.len
        rw [List.length_append, RS.out.len] at hl1
        have HW := Lib.hid (And.intro hw1 hx1)
        clear hw1 hf1 hB1 hx1
        go_wp2_with fail
        go_roundw
        case rel =>
          refine ⟨k + 1, m1, d1, B1, by go_num, by omega, by omega, ?_, HW.out.2⟩
          have h := HW.out.1
          rw [HD.out.1, HD.out.2.1, HOP.out]
          exact h
        case measure => simp [intOf]; omega
      · have hK1b : (K == 1) = false := by simp [hK1]
        by_cases hK2 : K = 2
        · subst hK2
          have hop : opOf 2 N l = .bytes l := by unfold opOf; rw [if_neg (by omega), if_pos (by omega)]
          have HOP := Lib.hid hop
          have sb := run_str (P := Tryd.prog) (w := W) (s := 9) Tryd.underlying26 Tryd.underlying5 Tryd.underlying9 cc (HD.out.2.2.1.rd.ext XA.out)
          have CN := Lib.hid (text_any l W RS.out HD.out.2.2.1.byte (by rw [HD.out.2.2.2]; omega) hmb)
          have hln : (Wr.num l.length).length ≤ 9 := Wr.num_len 8 _ (by rw [HD.out.2.2.2, show (128 : Nat) ^ (8 + 1) = 9223372036854775808 by decide]; omega)
          clear hop
          go_wp2_with fail
          refine CN.out.mono ?_
          rintro e v1 ⟨rfl, B1, m1, d1, hw1, hf1⟩
          have hx1 : Ext w v1 := Below.ext_of XA.out hf1 q0
          have hl1 := hw1.len
          rw [List.length_append, List.length_append, RS.out.len, HD.out.2.2.2] at hl1
          rw [HD.out.2.2.2] at hln
          have HW := Lib.hid (And.intro hw1 hx1)
          clear hw1 hf1 hx1 sb
          go_wp2_with fail
          go_roundw
          case rel =>
            refine ⟨k + 1, m1, d1, B1, by go_num, by omega, by omega, ?_, HW.out.2⟩
            have h := HW.out.1
            rw [HD.out.1, HD.out.2.1, HOP.out]
            rw [List.append_assoc] at h
            exact h
          case measure => simp [intOf]; omega
        · have hK2b : (K == 2) = false := by simp [hK2]
          by_cases hK3 : K = 3
          · subst hK3
            have hop : opOf 3 N l = .bytes l := by unfold opOf; rw [if_neg (by omega), if_pos (by omega)]
            have HOP := Lib.hid hop
            have CN := Lib.hid (wbytes_any C nc cc l w W RS.out HD.out.2.2.1.rd XA.out q0 (by omega) hmb)
            have hln : (Wr.num nc).length ≤ 9 := Wr.num_len 8 _ (by rw [show (128 : Nat) ^ (8 + 1) = 9223372036854775808 by decide]; omega)
            clear hop
            go_wp2_with fail
            refine CN.out.mono ?_
            rintro e v1 ⟨rfl, B1, m1, d1, hw1, hf1⟩
            have hx1 : Ext w v1 := Below.ext_of XA.out hf1 q0
            have hl1 := hw1.len
            rw [List.length_append, List.length_append, RS.out.len, HD.out.2.2.2] at hl1
            have HW := Lib.hid (And.intro hw1 hx1)
            clear hw1 hf1 hx1
            go_wp2_with fail
            go_roundw
            case rel =>
              refine ⟨k + 1, m1, d1, B1, by go_num, by omega, by omega, ?_, HW.out.2⟩
              have h := HW.out.1
              rw [HD.out.1, HD.out.2.1, HOP.out]
              rw [List.append_assoc] at h
              show WrS v1 g B1 m1 d1 (Wr.encAll (ops.take k) ++ (Wr.num l.length ++ l)) false
              rw [HD.out.2.2.2]
              exact h
            case measure => simp [intOf]; omega
          · have hK3b : (K == 3) = false := by simp [hK3]
            have hop : opOf K N l = .nop := by unfold opOf; rw [if_neg hK1, if_neg (by omega)]
            have HOP := Lib.hid hop
            clear hop
            go_wp2_with fail
            go_roundw
            case rel =>
              refine ⟨k + 1, m, d, B, by go_num, h1, Nat.le_trans hm (Nat.mul_le_mul_right _ (Nat.le_succ k)), ?_, XA.out⟩
              have h := RS.out
              rw [HD.out.1, HD.out.2.1, HOP.out]
              show WrS W g B m d (Wr.encAll (ops.take k) ++ []) false
              rw [List.append_nil]
              exact h
            case measure => simp [intOf]; omega
    · obtain rfl : k = n := by omega
      have hmb : m ≤ 1099511627776 := by omega
      have hall : ops.take k = ops := List.take_of_length_le (by rw [HS.out.len]; exact Nat.le_refl _)
      have hws := HI.out.1
      rw [hall] at hws
      have DN := Lib.hid (done_any wr hws (by omega))
      have hel := hws.len
      have HE := Lib.hid hel
      have hby := HS.out.byte
      have HB := Lib.hid hby
      clear hall hws hel hby
      go_wp2_with fail
      refine DN.out.mono ?_
      rintro e v1 ⟨A1, c1, rfl, ho1, e1⟩
      have x1 := HI.out.2.trans e1
      have RD := Lib.hid (read_any A1 A m c1 k c (Wr.encAll ops) ops v1 ho1.rd HB.out (by omega) ⟨HS.out.len, fun i o h => by
        obtain ⟨ad, K, Q, N, B, nb, cb, l, h1, h2, h3⟩ := HS.out.at_ i o h
        exact ⟨ad, K, Q, N, B, nb, cb, l, h1, h2.ext x1, h3⟩⟩ hn (SE.out _ x1))
      have hra := Wr.readAll_enc ops [] HS.out.ok
      rw [List.append_nil] at hra
      rw [hra] at RD
      have HO1 := Lib.hid (And.intro ho1 x1)
      clear ho1 e1 x1 hra
      go_wp2_with fail
      refine RD.out.mono ?_
      rintro e v2 ⟨rfl, e2⟩
      have E2 := Lib.hid e2
      clear e2
      by_cases hm0 : m = 0
      · subst hm0
        go_wp2_with fail
        go_returns
        exact ⟨rfl, HO1.out.2.trans E2.out⟩
      · have hm0' : ¬ ((m : Int) = 0) := by omega
        obtain ⟨q, hq⟩ : ∃ q, cut.tmod (m : Int) = q := ⟨_, rfl⟩
        have hq0 : -(m : Int) < q := by rw [← hq]; exact Int.lt_tmod_of_pos cut (by omega)
        have hq1 : q < m := by rw [← hq]; exact Int.tmod_lt_of_pos cut (by omega)
        obtain ⟨R, hR⟩ : ∃ R : Nat, (q + (m : Int)) % (m : Int) = R := Int.eq_ofNat_of_zero_le (Int.emod_nonneg _ (by omega))
        have hRn : R < m := by have := Int.emod_lt_of_pos (q + (m : Int)) (b := (m : Int)) (by omega); omega
        have w2 : wrap64 (q + (m : Int)) = q + (m : Int) := by unfold wrap64; omega
        have w3 : (q + (m : Int)).tmod (m : Int) = (R : Int) := by rw [Int.tmod_eq_emod_of_nonneg (by omega), hR]
        have hc1 := HO1.out.1.cap_le
        have h3 := run_slice3 eltU8 A1 m c1 .i64 .i64 R R (Nat.le_refl _) (by omega)
        have RD2 := Lib.hid (read_any A1 A R R k c ((Wr.encAll ops).take R) ops v2 ((HO1.out.1.rd.ext E2.out).u8take (by omega)) (fun x hx => HB.out x (List.mem_of_mem_take hx)) (by omega) ⟨HS.out.len, fun i o h => by
          obtain ⟨ad, K, Q, N, B, nb, cb, l, h1, h2, h3⟩ := HS.out.at_ i o h
          exact ⟨ad, K, Q, N, B, nb, cb, l, h1, h2.ext (HO1.out.2.trans E2.out), h3⟩⟩ hn (SE.out _ (HO1.out.2.trans E2.out)))
        have hra := Wr.readAll_part ops ((Wr.encAll ops).take R) ((Wr.encAll ops).drop R) HS.out.ok (List.take_append_drop _ _) (fun h => by
          have := congrArg List.length h
          rw [List.length_drop, HE.out, List.length_nil] at this
          omega)
        rw [hra] at RD2
        clear hra hq0 hq1 hR hRn RD DN
        go_wp2_with fail
        refine RD2.out.mono ?_
        rintro e v3 ⟨rfl, e3⟩
        go_wp2_with fail
        go_returns
        exact ⟨rfl, (HO1.out.2.trans E2.out).trans e3⟩
end Go.Proofs.YtelnnlfbfbbnaaaDoor
