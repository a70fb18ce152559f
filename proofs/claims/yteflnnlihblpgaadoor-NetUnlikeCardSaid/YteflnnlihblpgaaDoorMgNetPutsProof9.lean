/-
  Package wire: a Reader's Num, Bytes, Text, End; a Writer's Bytes.
-/
import Derived.Test.YteflnnlihblpgaaDoorMgNetPutsProof8
import Derived.Deep.RegionHeld3
import Derived.Deep.RegionLaw
import Derived.Deep.Cut
namespace Go.Proofs.YteflnnlihblpgaaDoor.Wr
/-- The value of a number's bytes. -/
def val : List Nat → Nat
  | [] => 0
  | c :: l => c % 128 + 128 * val l
theorem val_lt : ∀ l : List Nat, val l < 128 ^ l.length := by
  intro l
  induction l with
  | nil => simp [val]
  | cons c l ih =>
    rw [val, List.length_cons, Nat.pow_succ]
    have := Nat.mod_lt c (show 128 > 0 by omega)
    omega
/-- Bytes that end a number: all but the last are 128 or more. -/
theorem num_val : ∀ (p : List Nat) (c : Nat), (∀ x ∈ p, 128 ≤ x ∧ x < 256) → c < 128 → (c ≠ 0 ∨ p = []) → num (val (p ++ [c])) = p ++ [c] := by
  intro p
  induction p with
  | nil =>
    intro c _ hc _
    have e : val ([] ++ [c]) = c := by simp [val]; omega
    rw [e, num_small hc]
    rfl
  | cons x p ih =>
    intro c hp hc h0
    have hx := hp x (by simp)
    have h0 : c ≠ 0 := by
      rcases h0 with h | h
      · exact h
      · cases h
    have hv : 0 < val (p ++ [c]) := by
      have : ∀ q : List Nat, 0 < val (q ++ [c]) := by
        intro q
        induction q with
        | nil => simp [val]; omega
        | cons y q ihq => simp only [List.cons_append, val]; omega
      exact this p
    have ih := ih c (fun y hy => hp y (by simp [hy])) hc (.inl h0)
    simp only [List.cons_append, val]
    obtain ⟨V, hV⟩ : ∃ V, val (p ++ [c]) = V := ⟨_, rfl⟩
    rw [hV] at hv ih ⊢
    rw [num_big (by omega), show (x % 128 + 128 * V) / 128 = V by omega, ih, show (x % 128 + 128 * V) % 128 + 128 = x by omega]
theorem rdF_first : ∀ (t f : Nat) (l : List Nat) (n i c : Nat), t < f → l[t]? = some c → c < 128 → (∀ x ∈ l.take t, 128 ≤ x ∧ x < 256) →
    rdF f l n i = if c ≠ 0 ∨ i + t = 0 then some (n + val (l.take (t + 1)) * 128 ^ i, i + t + 1) else none := by
  intro t
  induction t with
  | zero =>
    intro f l n i c hf hl hc _
    obtain ⟨f, rfl⟩ : ∃ g, f = g + 1 := ⟨f - 1, by omega⟩
    cases l with
    | nil => simp at hl
    | cons x l =>
      simp at hl
      subst hl
      rw [rdF, if_pos hc]
      have e : val (List.take (0 + 1) (x :: l)) = x := by simp [val]; omega
      rw [e]
      rfl
  | succ t ih =>
    intro f l n i c hf hl hc hall
    obtain ⟨f, rfl⟩ : ∃ g, f = g + 1 := ⟨f - 1, by omega⟩
    cases l with
    | nil => simp at hl
    | cons x l =>
      have hx := hall x (by simp)
      rw [rdF, if_neg (by omega)]
      rw [ih f l _ (i + 1) c (by omega) (by simpa using hl) hc (fun y hy => hall y (by simp [hy]))]
      have e1 : i + 1 + t = i + (t + 1) := by omega
      rw [e1]
      have e2 : n + (x - 128) * 128 ^ i + val (l.take (t + 1)) * 128 ^ (i + 1) = n + val (List.take (t + 1 + 1) (x :: l)) * 128 ^ i := by
        rw [List.take_succ_cons, val, show x % 128 = x - 128 by omega, Nat.pow_succ, Nat.add_mul]
        generalize 128 ^ i = P
        generalize val (l.take (t + 1)) = V
        rw [show V * (P * 128) = 128 * V * P by rw [Nat.mul_comm 128 V, Nat.mul_assoc, Nat.mul_comm P 128], Nat.add_assoc]
      rw [e2]
theorem rdF_all : ∀ (t f : Nat) (l : List Nat) (n i : Nat), (∀ x ∈ l.take t, 128 ≤ x) → (f ≤ t ∨ l.length ≤ t) → rdF f l n i = none := by
  intro t
  induction t with
  | zero =>
    intro f l n i _ h
    cases f with
    | zero => rw [rdF]
    | succ f =>
      cases l with
      | nil => rw [rdF]
      | cons x l => simp at h
  | succ t ih =>
    intro f l n i hall h
    cases f with
    | zero => rw [rdF]
    | succ f =>
      cases l with
      | nil => rw [rdF]
      | cons x l =>
        have hx := hall x (by simp)
        rw [rdF, if_neg (by omega)]
        exact ih f l _ _ (fun y hy => hall y (by simp [hy])) (by simp at h; omega)
/-- The number read, when byte t is the first below 128. -/
theorem rd_first {l : List Nat} {t c : Nat} (ht : t < 9) (hl : l[t]? = some c) (hc : c < 128) (hall : ∀ x ∈ l.take t, 128 ≤ x ∧ x < 256) :
    rd l = if num (val (l.take (t + 1))) = l.take (t + 1) then some (val (l.take (t + 1)), t + 1) else none := by
  have h := rdF_first t 9 l 0 0 c ht hl hc hall
  have hr : rd l = rdF 9 l 0 0 := rfl
  rw [hr, h]
  have htk : l.take (t + 1) = l.take t ++ [c] := by rw [List.take_add_one, hl]; rfl
  have hlt : t < l.length := (List.getElem?_eq_some_iff.1 hl).1
  by_cases h0 : c ≠ 0 ∨ 0 + t = 0
  · rw [if_pos h0]
    have hn := num_val (l.take t) c hall hc (by
      rcases h0 with h0 | h0
      · exact .inl h0
      · right
        rw [show t = 0 by omega]; simp)
    rw [htk, if_pos hn, Nat.pow_zero, Nat.mul_one, Nat.zero_add, Nat.zero_add]
  · rw [if_neg h0, if_neg]
    intro hn
    have hv := val_lt (l.take (t + 1))
    rw [List.length_take, Nat.min_eq_left (by omega)] at hv
    have hv2 : (128 : Nat) ^ (t + 1) ≤ 128 ^ 9 := Nat.pow_le_pow_right (by decide) (by omega)
    rw [show (128 : Nat) ^ 9 = 9223372036854775808 by decide] at hv2
    have h1 := rd_num (val (l.take (t + 1))) [] (by omega)
    rw [List.append_nil, hn] at h1
    have h2 := rdF_first t 9 (l.take (t + 1)) 0 0 c ht (by rw [List.getElem?_take, if_pos (by omega)]; exact hl) hc (by rw [List.take_take, Nat.min_eq_left (by omega)]; exact hall)
    rw [if_neg h0] at h2
    have h3 : rd (l.take (t + 1)) = rdF 9 (l.take (t + 1)) 0 0 := rfl
    rw [h3, h2] at h1
    cases h1
theorem rd_long {l : List Nat} {t : Nat} (hall : ∀ x ∈ l.take t, 128 ≤ x) (h : 9 ≤ t ∨ l.length ≤ t) : rd l = none := rdF_all t 9 l 0 0 hall h
theorem val_step (l : List Nat) (m : Nat) (x : Nat) (h : l[m]? = some x) (t : Nat) (ht : m < t) : val ((l.drop m).take (t - m)) = x % 128 + 128 * val ((l.drop (m + 1)).take (t - (m + 1))) := by
  obtain ⟨h1, h2⟩ := List.getElem?_eq_some_iff.1 h
  rw [List.drop_eq_getElem_cons h1, h2, show t - m = (t - (m + 1)) + 1 by omega, List.take_succ_cons, val]
end Go.Proofs.YteflnnlihblpgaaDoor.Wr
namespace Go.Proofs.YteflnnlihblpgaaDoor
open Go.RowKit
set_option linter.unusedVariables false
theorem u8s_inj {l m : List Nat} (h : u8s l = u8s m) : l = m := by
  induction l generalizing m with
  | nil => cases m with
    | nil => rfl
    | cons y m => cases h
  | cons x l ih =>
    cases m with
    | nil => cases h
    | cons y m =>
      simp only [u8s, List.map_cons, List.cons.injEq, Value.int.injEq, true_and] at h
      rw [ih h.2, Int.ofNat_inj.1 h.1]
theorem str_inj {l m : List Nat} (hl : ∀ x ∈ l, x < 256) (hm : ∀ x ∈ m, x < 256) (h : str l = str m) : l = m := by
  refine u8s_inj ?_
  rw [← u8s_str l hl, ← u8s_str m hm, h]
end Go.Proofs.YteflnnlihblpgaaDoor
namespace Go.Proofs.YteflnnlihblpgaaDoor
open Go.RowKit
set_option linter.unusedVariables false
/-- What Read answers. -/
def ReadR (l : List Nat) (at_ : Nat) : Value :=
  match Wr.rd (l.drop at_) with
  | some (x, k) => .tuple #[.int .i64 (x : Int), .int .i64 ((at_ + k : Nat) : Int), .bool true]
  | none => .tuple #[.int .i64 0, .int .i64 0, .bool false]
theorem readR_none {l : List Nat} {at_ : Nat} (h : Wr.rd (l.drop at_) = none) : ReadR l at_ = .tuple #[.int .i64 0, .int .i64 0, .bool false] := by unfold ReadR; rw [h]
theorem readR_some {l : List Nat} {at_ x k : Nat} (h : Wr.rd (l.drop at_) = some (x, k)) : ReadR l at_ = .tuple #[.int .i64 (x : Int), .int .i64 ((at_ + k : Nat) : Int), .bool true] := by unfold ReadR; rw [h]
def RdOut (w : World) (v : Value) (e : Ending) (w' : World) : Prop := e = .returned v ∧ Ext w w'
theorem val_bound {l : List Nat} {t : Nat} (ht : l.length ≤ t) (h9 : t ≤ 9) : Wr.val l ≤ 9223372036854775807 := by
  have h1 := Wr.val_lt l
  have h2 : (128 : Nat) ^ l.length ≤ 128 ^ 9 := Nat.pow_le_pow_right (by decide) (by omega)
  rw [show (128 : Nat) ^ 9 = 9223372036854775808 by decide] at h2
  omega
set_option maxRecDepth 8000 in
set_option maxHeartbeats 3200000 in
theorem read_any (A : Option Addr) (n c at_ : Nat) (l : List Nat) (w : World) (hr : Rd w 1 A n (u8s l)) (hl : ∀ x ∈ l, x < 256) (hn : n ≤ 140737488351232) (hnc : n ≤ c) (ha : at_ ≤ n) :
    Calls Tryd.prog 83 #[.slice A n c, .int .i64 (at_ : Int)] w (RdOut w (ReadR l at_)) := by
  have hlen : l.length = n := by have h := hr.len; rwa [u8s_len] at h
  have HR := Lib.hid (And.intro hr (And.intro hl hlen))
  obtain ⟨m, hm⟩ : ∃ m, l.drop at_ = m := ⟨_, rfl⟩
  have hml : m.length = n - at_ := by rw [← hm, List.length_drop, hlen]
  have hmg : ∀ k, m[k]? = l[at_ + k]? := fun k => by rw [← hm, List.getElem?_drop]
  have hmb : ∀ x ∈ m, x < 256 := fun x hx => hl x (List.mem_of_mem_drop (by rw [hm]; exact hx))
  have HM := Lib.hid (And.intro hml (And.intro hmg hmb))
  have HMM := Lib.hid hm
  clear hr hl hlen hml hmg hmb hm
  have hx0 := Ext.refl w
  have hpos : (at_ : Int) + 9 ≤ 140737488351241 := by omega
  go_enter Tryd.func83, Tryd.ntmps83
  go_wp2_with fail
  go_loop [7] (fun v7 => ∃ t : Nat, v7 = .int .i64 ((at_ + t : Nat) : Int) ∧ t ≤ 9 ∧ at_ + t ≤ n ∧ Hid (∀ x ∈ m.take t, 128 ≤ x ∧ x < 256)) (fun v7 => n - (intOf v7).toNat)
  case atStart => exact ⟨0, by go_num, by omega, by omega, by simp [Hid]⟩
  case round =>
    obtain ⟨t, rfl, ht, htn, HT⟩ := hrel
    obtain ⟨p, hp⟩ : ∃ p, at_ + t = p := ⟨_, rfl⟩
    have hpi : (at_ : Int) + (t : Int) = (p : Int) := by omega
    rw [hp]
    have HP := Lib.hid hp
    rw [hp] at htn
    clear hp hpi
    by_cases h1 : p < n
    · by_cases h9 : t < 9
      · have h9' : (p : Int) < (at_ : Int) + 9 := by have := HP.out; omega
        obtain ⟨ad, x, rfl, hx, hc⟩ := HR.out.1.byte h1
        have hx8 := HR.out.2.1 x (mem_of_at hx.out)
        have hmx : m[t]? = some x := by rw [HM.out.2.1, HP.out]; exact hx.out
        have HX := Lib.hid hmx
        clear hmx
        have p0 : (0 : Int) ≤ p := by omega
        by_cases hc8 : x < 128
        · have hc8' : ¬ (128 : Int) ≤ (x : Int) := by omega
          have HF := Lib.hid (Wr.rd_first h9 HX.out hc8 HT.out)
          obtain ⟨T, hT⟩ : ∃ T, t + 1 = T := ⟨_, rfl⟩
          rw [hT] at HF
          have hTb : T ≤ 9 := by omega
          have hTn : at_ + T ≤ n := by have := HP.out; omega
          have HT1 := Lib.hid hT
          clear hT
          have hmt : ∀ u, u < T → ∃ y, l[at_ + u]? = some y ∧ m[u]? = some y := fun u hu => by
            have h1 : at_ + u < l.length := by rw [HR.out.2.2]; omega
            exact ⟨l[at_ + u], List.getElem?_eq_getElem h1, by rw [HM.out.2.1]; exact List.getElem?_eq_getElem h1⟩
          have HMT := Lib.hid hmt
          clear hmt
          go_wp2_with fail
          go_loop [8, 9] (fun v8 v9 => ∃ (r acc : Nat), v8 = .int .i64 (acc : Int) ∧ r ≤ T ∧ (r = 0 ∧ v9 = .int .i64 ((at_ : Int) - 1) ∨ ∃ u, r = u + 1 ∧ v9 = .int .i64 ((at_ + u : Nat) : Int)) ∧ Hid (acc = Wr.val ((m.drop r).take (T - r)))) (fun _ v9 => (intOf v9 + 1).toNat)
          case atStart => exact ⟨T, 0, rfl, Nat.le_refl _, .inr ⟨t, HT1.out.symm, by rw [HP.out]⟩, by simp [Hid, Wr.val]⟩
          case round =>
            obtain ⟨r, acc, rfl, hrT, hv9, HA⟩ := hrel
            rcases hv9 with ⟨rfl, rfl⟩ | ⟨u, rfl, rfl⟩
            · have ha1 : ¬ (at_ : Int) ≤ (at_ : Int) - 1 := by omega
              obtain ⟨sq, hsq⟩ : ∃ sq, m.take T = sq := ⟨_, rfl⟩
              have hacc : acc = Wr.val sq := by have h := HA.out; simp only [List.drop_zero, Nat.sub_zero] at h; rw [h, hsq]
              have hsl : sq.length = T := by rw [← hsq, List.length_take, HM.out.1]; omega
              have hsb : ∀ x ∈ sq, x < 256 := fun x hx => HM.out.2.2 x (List.mem_of_mem_take (by rw [hsq]; exact hx))
              have hab : acc ≤ 9223372036854775807 := by rw [hacc]; exact val_bound (Nat.le_of_eq hsl) (by omega)
              rw [hsq, ← hacc] at HF
              have hap : at_ ≤ p := by have := HP.out; omega
              obtain ⟨q, hq⟩ : ∃ q, p + 1 = q := ⟨_, rfl⟩
              have w1 : IntKind.i64.wrap ((p : Int) + 1) = (q : Int) := by rw [IntKind.wrap_i64]; omega
              have q1 : (p : Int) + 1 = (q : Int) := by omega
              have r2 : q - at_ = T := by have := HP.out; have := HT1.out; omega
              have q2 : at_ ≤ q := by omega
              have q3 : q ≤ c := by omega
              have q4 : (at_ : Int) ≤ (q : Int) := by omega
              have q5 : (q : Int) ≤ (c : Int) := by omega
              have hca : ¬ c = at_ := by omega
              have RT : Rd w 1 (some (ad.add at_)) T (u8s sq) := by
                have h := (HR.out.1.u8cut (k := at_) (cap := c) (by omega) hnc).u8take (k := T) (by omega)
                rw [if_neg hca, HMM.out, hsq] at h
                exact h
              have BX := Lib.hid (fun w' (hx : Ext w w') => run_str (P := Tryd.prog) (w := w') (s := 9) Tryd.underlying54 Tryd.underlying5 Tryd.underlying9 (c - at_) (RT.ext hx))
              have RF := Lib.hid (fun w' (hx : Ext w w') => (refnum_any acc w' hab).mono fun e w'' (h : ∃ A c, e = .returned (.slice A (Wr.num acc).length c) ∧ Own w'' w'.heap.size 5 1 A (Wr.num acc).length c (u8s (Wr.num acc)) ∧ Ext w' w'') =>
                (by
                  obtain ⟨A', c', he, ho, hx2⟩ := h
                  exact ⟨A', c', he, run_str (P := Tryd.prog) (w := w'') (s := 9) Tryd.underlying54 Tryd.underlying5 Tryd.underlying9 c' ho.rd, run_str (P := Tryd.prog) (w := w''.drew) (s := 9) Tryd.underlying54 Tryd.underlying5 Tryd.underlying9 c' (ho.rd.ext ((Ext.refl _).drew)), BX.out _ (hx.trans hx2), BX.out _ (hx.trans hx2).drew, hx.trans hx2⟩ :
                  ∃ A' c', e = .returned (.slice A' (Wr.num acc).length c') ∧ (convert 54 9 (.slice A' (Wr.num acc).length c')).run Tryd.prog w'' = .ok (.string (str (Wr.num acc))) w'' ∧ (convert 54 9 (.slice A' (Wr.num acc).length c')).run Tryd.prog w''.drew = .ok (.string (str (Wr.num acc))) w''.drew ∧ (convert 54 9 (.slice (some (ad.add at_)) T (c - at_))).run Tryd.prog w'' = .ok (.string (str sq)) w'' ∧ (convert 54 9 (.slice (some (ad.add at_)) T (c - at_))).run Tryd.prog w''.drew = .ok (.string (str sq)) w''.drew ∧ Ext w w''))
              have i0 := BX.out w (Ext.refl _)
              have i1 := BX.out w.drew ((Ext.refl _).drew)
              obtain ⟨b, hb⟩ : ∃ b : Bool, ((str (Wr.num acc)).toList == (str sq).toList) = b := ⟨_, rfl⟩
              have HB : Hid (b = decide (Wr.num acc = sq)) := by
                show b = _
                rw [← hb]
                by_cases h : Wr.num acc = sq
                · rw [h]; simp
                · rw [decide_eq_false h, beq_eq_false_iff_ne]
                  rw [ByteArray.toList_eq, ByteArray.toList_eq]
                  exact fun h2 => h (str_inj (Wr.num_byte _) hsb (Go.WideShapes.bytes_inj h2))
              generalize str (Wr.num acc) = sa at *
              generalize str sq = sb at *
              have HQ := Lib.hid hq
              clear hsq hacc hsl hsb RT hq hc hx hx8 hab hpos q1
              go_upto_region 10 with (fail)
              go_cut [52] from 43 (fun s52 wx => s52 = .bool (!b) ∧ Ext w wx)
              case first =>
                go_wp2_with fail
                go_region_with (go_at_call 60; (with_reducible refine (RF.out _ (by first | exact Ext.refl _ | exact (Ext.refl _).drew)).mono ?_); rintro en vF ⟨AF, cF, rfl, qF, qG, qH, qI, xF⟩)
                all_goals
                  go_wp2_with fail
                  go_meet
                  case rel => exact ⟨rfl, by first | exact xF | exact xF.drew⟩
              case rest =>
                obtain ⟨rfl, xC⟩ := hcut
                have XC := Lib.hid xC
                clear xC i0 i1 hb
                cases b with
                | true =>
                  have hs : Wr.num acc = sq := of_decide_eq_true HB.out.symm
                  have hqT : q = at_ + T := by have := HP.out; have := HT1.out; have := HQ.out; omega
                  have HR2 := Lib.hid (show ReadR l at_ = .tuple #[.int .i64 (acc : Int), .int .i64 (q : Int), .bool true] by rw [readR_some (x := acc) (k := T) (by rw [HMM.out, HF.out, if_pos hs]), hqT])
                  clear hs hqT
                  go_wp2_with fail
                  go_returns
                  exact ⟨congrArg Ending.returned HR2.out.symm, XC.out⟩
                | false =>
                  have hs : ¬ Wr.num acc = sq := of_decide_eq_false HB.out.symm
                  have HR2 := Lib.hid (show ReadR l at_ = .tuple #[.int .i64 0, .int .i64 0, .bool false] by rw [readR_none (by rw [HMM.out, HF.out, if_neg hs])])
                  clear hs
                  go_wp2_with fail
                  go_returns
                  exact ⟨congrArg Ending.returned HR2.out.symm, XC.out⟩
            · obtain ⟨y, hy1, hy2⟩ := HMT.out u (by omega)
              obtain ⟨ad2, y2, e2, hy3, hc2⟩ := HR.out.1.byte (k := at_ + u) (by omega)
              injection e2 with e2
              subst e2
              obtain rfl : y2 = y := by have := hy3.out; rw [hy1] at this; exact (Option.some.inj this).symm
              have hy8 := HR.out.2.1 y2 (mem_of_at hy1)
              have hstep := Wr.val_step m u y2 hy2 T (by omega)
              have hacc : acc ≤ 72057594037927935 := by
                have h1 := Wr.val_lt ((m.drop (u + 1)).take (T - (u + 1)))
                have h2 : (128 : Nat) ^ ((m.drop (u + 1)).take (T - (u + 1))).length ≤ 128 ^ 8 := Nat.pow_le_pow_right (by decide) (by rw [List.length_take]; omega)
                rw [show (128 : Nat) ^ 8 = 72057594037927936 by decide] at h2
                have := HA.out
                omega
              obtain ⟨v, hv⟩ : ∃ v, y2 % 128 = v := ⟨_, rfl⟩
              have hv1 : (y2 : Int) % 128 = (v : Int) := by omega
              have hv8 : v < 128 := by omega
              have HS := Lib.hid (And.intro hstep hv)
              obtain ⟨e, he⟩ : ∃ e, at_ + u = e := ⟨_, rfl⟩
              rw [he] at hc2 ⊢
              have hen : e < n := by omega
              have hee : (at_ : Int) ≤ (e : Int) := by omega
              have HE := Lib.hid he
              clear hstep hv hy1 hy2 hy3 he
              go_wp2_with fail
              go_round
              case rel =>
                refine ⟨u, v + 128 * acc, by go_num, by omega, ?_, by show _ = _; rw [HS.out.1, HS.out.2, HA.out]⟩
                cases u with
                | zero => exact .inl ⟨rfl, by have := HE.out; go_num⟩
                | succ u => exact .inr ⟨u, rfl, by have := HE.out; go_num⟩
              case measure => simp [intOf]
        · have hc8' : (128 : Int) ≤ (x : Int) := by omega
          go_wp2_with fail
          go_round
          case rel =>
            refine ⟨t + 1, by have := HP.out; go_num, by omega, by have := HP.out; omega, ?_⟩
            intro y hy
            rw [List.take_add_one, HX.out] at hy
            rcases List.mem_append.1 hy with h | h
            · exact HT.out y h
            · simp at h; omega
          case measure => simp [intOf]; omega
      · have h9' : ¬ (p : Int) < (at_ : Int) + 9 := by have := HP.out; omega
        go_wp2_with fail
        go_returns
        exact ⟨congrArg Ending.returned (readR_none (by rw [HMM.out, Wr.rd_long (t := t) (fun x hx => (HT.out x hx).1) (.inl (by omega))])).symm, Ext.refl _⟩
    · go_wp2_with fail
      go_returns
      exact ⟨congrArg Ending.returned (readR_none (by rw [HMM.out, Wr.rd_long (t := t) (fun x hx => (HT.out x hx).1) (.inr (by rw [HM.out.1]; have := HP.out; omega))])).symm, Ext.refl _⟩
end Go.Proofs.YteflnnlihblpgaaDoor
namespace Go.Proofs.YteflnnlihblpgaaDoor
open Go.RowKit
set_option linter.unusedVariables false
theorem number_some {w : World} {g n c at_ : Nat} {A : Option Addr} {l : List Nat} (h : RdS w g A n c at_ l) {x k : Nat} (hr : Wr.rd (l.drop at_) = some (x, k)) :
    Calls Tryd.prog 81 #[.pointer (some ⟨g, 0, none⟩), .int .i64 (at_ : Int)] w fun e w' => e = .returned (.tuple #[.int .i64 (x : Int), .int .i64 ((at_ + k : Nat) : Int), .bool true]) ∧ w = w' :=
  (number_any w h).mono fun e w' ⟨he, hw⟩ => by unfold NumR at he; rw [hr] at he; exact ⟨he, hw⟩
theorem number_none {w : World} {g n c at_ : Nat} {A : Option Addr} {l : List Nat} (h : RdS w g A n c at_ l) (hr : Wr.rd (l.drop at_) = none) :
    Calls Tryd.prog 81 #[.pointer (some ⟨g, 0, none⟩), .int .i64 (at_ : Int)] w fun e w' => (∃ a b : Int, e = .returned (.tuple #[.int .i64 a, .int .i64 b, .bool false])) ∧ w = w' :=
  (number_any w h).mono fun e w' ⟨he, hw⟩ => by unfold NumR at he; rw [hr] at he; exact ⟨he, hw⟩
def BytesNo (p : Addr) (v : Value) : Ending := .returned (.tuple #[v, .iface 149 (.pointer (some p))])
set_option maxHeartbeats 800000 in
theorem rnum_ok {w : World} {g n c at_ : Nat} {A : Option Addr} {l : List Nat} (h : RdS w g A n c at_ l) {x k : Nat} (hr : Wr.rd (l.drop at_) = some (x, k)) (most : Int) (hm : (x : Int) ≤ most) :
    Calls Tryd.prog 58 #[.pointer (some ⟨g, 0, none⟩), .int .i64 most] w fun e w' => e = .returned (.tuple #[.int .i64 (x : Int), .nilIface]) ∧ w' = w.setCell ⟨g, 1, none⟩ (.int .i64 ((at_ + k : Nat) : Int)) := by
  have N := Lib.hid (number_some h hr)
  have c1 := h.c1
  have f1 := h.fr 1
  obtain ⟨p, hp⟩ : ∃ p, at_ + k = p := ⟨_, rfl⟩
  rw [hp] at N ⊢
  have hm' : ¬ most < (x : Int) := by omega
  clear h hr hp hm
  go_enter Tryd.func58, Tryd.ntmps58
  go_wp2_with fail
  refine N.out.mono ?_
  rintro e w1 ⟨rfl, rfl⟩
  go_wp2_with fail
  go_returns
  exact ⟨rfl, rfl⟩
set_option maxHeartbeats 800000 in
theorem rnum_no {w : World} {g n c at_ : Nat} {A : Option Addr} {l : List Nat} (h : RdS w g A n c at_ l) (most : Int) (hr : ∀ x k, Wr.rd (l.drop at_) = some (x, k) → most < (x : Int)) {p : Addr} (hS : Sen w 2 p) :
    Calls Tryd.prog 58 #[.pointer (some ⟨g, 0, none⟩), .int .i64 most] w fun e w' => e = BytesNo p (.int .i64 0) ∧ ∃ j, w' = w.drewN j := by
  have c1 := h.c1
  have c3 := hS.2.1
  unfold BytesNo
  cases hrd : Wr.rd (l.drop at_) with
  | none =>
    have N := Lib.hid (number_none h hrd)
    clear h hr hrd hS
    go_enter Tryd.func58, Tryd.ntmps58
    go_wp2_with fail
    refine N.out.mono ?_
    rintro e w1 ⟨⟨a, b, rfl⟩, rfl⟩
    go_wp2_with fail
    go_quiet (fail)
    go_wp2_with fail
    go_returns
    exact ⟨rfl, _, rfl⟩
  | some y =>
    obtain ⟨x, k⟩ := y
    have hm := hr x k hrd
    have N := Lib.hid (number_some h hrd)
    clear h hr hrd hS
    go_enter Tryd.func58, Tryd.ntmps58
    go_wp2_with fail
    refine N.out.mono ?_
    rintro e w1 ⟨rfl, rfl⟩
    go_wp2_with fail
    go_quiet (fail)
    go_wp2_with fail
    go_returns
    exact ⟨rfl, _, rfl⟩
set_option maxHeartbeats 1600000 in
theorem rbytes_ok {w : World} {g n c at_ : Nat} {A : Option Addr} {l : List Nat} (h : RdS w g A n c at_ l) {x k : Nat} (hr : Wr.rd (l.drop at_) = some (x, k)) (most : Int) (hm : (x : Int) ≤ most) (hfit : at_ + k + x ≤ n) :
    Calls Tryd.prog 62 #[.pointer (some ⟨g, 0, none⟩), .int .i64 most] w fun e w' => ∃ A' c', e = .returned (.tuple #[.slice A' x c', .nilIface]) ∧ Own w' w.heap.size 5 1 A' x c' (u8s ((l.drop (at_ + k)).take x)) ∧ RdS w' g A n c (at_ + k + x) l ∧ Fr w w' (· = g) := by
  have N := Lib.hid (number_some h hr)
  have c0 := h.c0
  have c1 := h.c1
  have f1 := h.fr 1
  have hcap := h.cap
  have hsm := h.small
  obtain ⟨p, hp⟩ : ∃ p, at_ + k = p := ⟨_, rfl⟩
  rw [hp] at N hfit ⊢
  obtain ⟨q, hq⟩ : ∃ q, p + x = q := ⟨_, rfl⟩
  rw [hq] at hfit ⊢
  have HP := Lib.hid (h.put q hfit)
  have hF : Fr w (w.setCell ⟨g, 1, none⟩ (.int .i64 (q : Int))) (· = g) := Fr.store w ⟨g, 1, none⟩ _
  have HF := Lib.hid hF
  have hz : (w.setCell ⟨g, 1, none⟩ (.int .i64 (q : Int))).heap.size = w.heap.size := World.size_setCell _ _ _
  have hc0 := HP.out.c0
  have hc1 := HP.out.c1
  have r1 : (p : Int) + (x : Int) = (q : Int) := by omega
  have r2 : q - p = x := by omega
  have m1 : ¬ most < (x : Int) := by omega
  have m2 : ¬ (n : Int) - (p : Int) < (x : Int) := by omega
  have p0 : (0 : Int) ≤ p := by omega
  have p1 : (p : Int) ≤ q := by omega
  have p2 : (q : Int) ≤ c := by omega
  have p3 : p ≤ q := by omega
  have p4 : q ≤ c := by omega
  have hx := HP.out.len
  have RT : Rd (w.setCell ⟨g, 1, none⟩ (.int .i64 (q : Int))) 1 (if c = p then A else A.map (·.add p)) x (u8s ((l.drop p).take x)) := by
    have := (HP.out.rd.u8cut (k := p) (cap := c) (by omega) hcap).u8take (k := x) (by omega)
    exact this
  have hF9 : Hid (Fr w (w.setCell ⟨g, 1, none⟩ (.int .i64 (q : Int))) (· = g)) := hF
  clear h hr hp hq hm hF hx
  go_enter Tryd.func62, Tryd.ntmps62
  go_wp2_with fail
  refine N.out.mono ?_
  rintro e w1 ⟨rfl, rfl⟩
  go_wp2_with fail
  generalize w.setCell ⟨g, 1, none⟩ (.int .i64 (q : Int)) = W at *
  clear c0 c1 f1 N
  by_cases hc : c = p
  · rw [if_pos hc] at RT
    have CL := Lib.hid (fun w' (hx : Ext W w') (cp : Nat) => clone_any A x cp ((l.drop p).take x) w' (RT.ext hx) (by omega))
    subst hc
    have WX : Ext W W.drew := (Ext.refl W).drew
    have r5 : c - c = 0 := Nat.sub_self c
    clear RT
    go_region_held3 (fun w' => w'.cell? ⟨g, 0, none⟩ = some (.slice A n c) ∧ w'.cell? ⟨g, 1, none⟩ = some (.int .i64 (q : Int))) (go_keep) (first
      | (go_at_call 80; (with_reducible refine (CL.out _ (by with_reducible assumption) _).mono ?_); rintro en1 vA ⟨A', c', rfl, oA, xA⟩; have k0 := (WX.trans xA).cell (p := ⟨g, 0, none⟩) (HP.out.lt); have k1 := (WX.trans xA).cell (p := ⟨g, 1, none⟩) (HP.out.lt); rw [hc0] at k0; rw [hc1] at k1))
    all_goals
      go_wp2_with fail
      go_returns
      exact ⟨A', c', rfl, oA.base_mono (by show w.heap.size ≤ W.heap.size; omega), HP.out.ext (WX.trans xA), hF9.out.trans (Fr.of_ext (WX.trans xA) (· = g)) (fun _ _ h => h)⟩
  · rw [if_neg hc] at RT
    have CL := Lib.hid (fun w' (hx : Ext W w') (cp : Nat) => clone_any (A.map (·.add p)) x cp ((l.drop p).take x) w' (RT.ext hx) (by omega))
    have WX : Ext W W.drew := (Ext.refl W).drew
    clear RT
    go_region_held3 (fun w' => w'.cell? ⟨g, 0, none⟩ = some (.slice A n c) ∧ w'.cell? ⟨g, 1, none⟩ = some (.int .i64 (q : Int))) (go_keep) (first
      | (go_at_call 80; (with_reducible refine (CL.out _ (by with_reducible assumption) _).mono ?_); rintro en1 vA ⟨A', c', rfl, oA, xA⟩; have k0 := (WX.trans xA).cell (p := ⟨g, 0, none⟩) (HP.out.lt); have k1 := (WX.trans xA).cell (p := ⟨g, 1, none⟩) (HP.out.lt); rw [hc0] at k0; rw [hc1] at k1))
    all_goals
      go_wp2_with fail
      go_returns
      exact ⟨A', c', rfl, oA.base_mono (by show w.heap.size ≤ W.heap.size; omega), HP.out.ext (WX.trans xA), hF9.out.trans (Fr.of_ext (WX.trans xA) (· = g)) (fun _ _ h => h)⟩
set_option maxHeartbeats 1600000 in
theorem rbytes_no {w : World} {g n c at_ : Nat} {A : Option Addr} {l : List Nat} (h : RdS w g A n c at_ l) (most : Int) (hr : ∀ x k, Wr.rd (l.drop at_) = some (x, k) → most < (x : Int) ∨ n < at_ + k + x) {p : Addr} (hS : Sen w 2 p) :
    Calls Tryd.prog 62 #[.pointer (some ⟨g, 0, none⟩), .int .i64 most] w fun e w' => e = BytesNo p (.slice none 0 0) ∧ ∃ j, w' = w.drewN j := by
  have c0 := h.c0
  have c1 := h.c1
  have c3 := hS.2.1
  have hle := h.le
  have hsm := h.small
  have hlen := h.len
  unfold BytesNo
  cases hrd : Wr.rd (l.drop at_) with
  | none =>
    have N := Lib.hid (number_none h hrd)
    clear h hr hrd hS hlen
    go_enter Tryd.func62, Tryd.ntmps62
    go_wp2_with fail
    refine N.out.mono ?_
    rintro e w1 ⟨⟨a, b, rfl⟩, rfl⟩
    go_wp2_with fail
    go_quiet (fail)
    go_wp2_with fail
    go_returns
    exact ⟨rfl, _, rfl⟩
  | some y =>
    obtain ⟨x, k⟩ := y
    have hm := hr x k hrd
    have hk := Wr.rd_count hrd
    rw [List.length_drop, hlen] at hk
    have N := Lib.hid (number_some h hrd)
    obtain ⟨q, hq⟩ : ∃ q, at_ + k = q := ⟨_, rfl⟩
    rw [hq] at N hm
    have hqn : q ≤ n := by omega
    have q0 : (0 : Int) ≤ q := by omega
    clear h hr hrd hS hlen hk hq
    by_cases h1 : most < (x : Int)
    · clear hm
      go_enter Tryd.func62, Tryd.ntmps62
      go_wp2_with fail
      refine N.out.mono ?_
      rintro e w1 ⟨rfl, rfl⟩
      go_wp2_with fail
      go_quiet (fail)
      go_wp2_with fail
      go_returns
      exact ⟨rfl, _, rfl⟩
    · have h2 : (n : Int) - (q : Int) < (x : Int) := by omega
      clear hm
      go_enter Tryd.func62, Tryd.ntmps62
      go_wp2_with fail
      refine N.out.mono ?_
      rintro e w1 ⟨rfl, rfl⟩
      go_wp2_with fail
      go_quiet (fail)
      go_wp2_with fail
      go_returns
      exact ⟨rfl, _, rfl⟩
set_option maxHeartbeats 800000 in
theorem rleft_any {w : World} {g n c at_ : Nat} {A : Option Addr} {l : List Nat} (h : RdS w g A n c at_ l) :
    Calls Tryd.prog 82 #[.pointer (some ⟨g, 0, none⟩)] w fun e w' => e = .returned (.int .i64 ((n - at_ : Nat) : Int)) ∧ ∃ j, w' = w.drewN j := by
  have c0 := h.c0
  have c1 := h.c1
  have hle := h.le
  have hsm := h.small
  have e1 : (n : Int) - (at_ : Int) = ((n - at_ : Nat) : Int) := by omega
  clear h
  go_enter Tryd.func82, Tryd.ntmps82
  go_wp2_with fail
  go_quiet (fail)
  go_wp2_with fail
  go_returns
  exact ⟨rfl, _, rfl⟩
set_option maxHeartbeats 800000 in
theorem rend_ok {w : World} {g n c : Nat} {A : Option Addr} {l : List Nat} (h : RdS w g A n c n l) :
    Calls Tryd.prog 59 #[.pointer (some ⟨g, 0, none⟩)] w fun e w' => e = .returned .nilIface ∧ ∃ j, w' = w.drewN j := by
  have L := Lib.hid (rleft_any h)
  rw [Nat.sub_self] at L
  clear h
  go_enter Tryd.func59, Tryd.ntmps59
  go_wp2_with fail
  refine L.out.mono ?_
  rintro e w1 ⟨rfl, j, rfl⟩
  go_wp2_with fail
  go_returns
  exact ⟨rfl, j, rfl⟩
set_option maxHeartbeats 800000 in
theorem rend_no {w : World} {g n c at_ : Nat} {A : Option Addr} {l : List Nat} (h : RdS w g A n c at_ l) (hlt : at_ < n) {p : Addr} (hS : Sen w 2 p) :
    Calls Tryd.prog 59 #[.pointer (some ⟨g, 0, none⟩)] w fun e w' => e = .returned (.iface 149 (.pointer (some p))) ∧ ∃ j, w' = w.drewN j := by
  have L := Lib.hid (rleft_any h)
  obtain ⟨q, hq⟩ : ∃ q, n - at_ = q := ⟨_, rfl⟩
  rw [hq] at L
  have q0 : (0 : Int) < q := by omega
  have c3 := fun j => (hS.drewN j).2.1
  clear h hS hq
  go_enter Tryd.func59, Tryd.ntmps59
  go_wp2_with fail
  refine L.out.mono ?_
  rintro e w1 ⟨rfl, j, rfl⟩
  have c4 := c3 j
  clear c3
  go_wp2_with fail
  go_returns
  exact ⟨rfl, j, rfl⟩
set_option maxHeartbeats 800000 in
theorem wbytes_any (B : Option Addr) (m d : Nat) (l : List Nat) (w0 w : World) {g n c : Nat} {A : Option Addr} {bs : List Nat} (h : WrS w g A n c bs false) (hr : Rd w0 1 B m (u8s l)) (hx0 : Ext w0 w) (hg : w0.heap.size ≤ g) (hm : m ≤ 1048576) (hn : n ≤ 1099511627776) :
    Calls Tryd.prog 64 #[.pointer (some ⟨g, 0, none⟩), .slice B m d] w fun e w' => e = .returned (.tuple #[]) ∧ ∃ A' n' c', WrS w' g A' n' c' (bs ++ Wr.num m ++ l) false ∧ Below g w w' := by
  have N1 := Lib.hid (wnum_any m w h (by omega) hn)
  have hge := h.own.base_le
  have hln : (Wr.num m).length ≤ 9 := Wr.num_len 8 _ (by rw [show (128 : Nat) ^ (8 + 1) = 9223372036854775808 by decide]; omega)
  have hbl := h.len
  have hgw := h.lt
  clear h
  go_enter Tryd.func64, Tryd.ntmps64
  go_wp2_with fail
  refine N1.out.mono ?_
  rintro e w1 ⟨rfl, A1, n1, c1, h1, hf1, hA1⟩
  have hx1 := below_of_fr hf1 hgw (fun k hk => hge k hk)
  have hr1 := hr.ext (Below.ext_of hx0 hx1 hg)
  have c0 := h1.c0
  have f0 := h1.fr 0
  have glt := h1.lt
  have hl1 := h1.len
  rw [List.length_append, hbl] at hl1
  clear N1 hge hf1 hA1
  go_wp2_with (at_builtin; refine held ?_)
  refine Held.go (wp_app (m := m) (news := u8s l) eltU8 h1.own hr1 (u8s_one _) (by omega) (.inr ⟨by omega, by omega⟩) (by omega) _ _ rfl rfl rfl rfl ?_)
  intro A2 c2 w2 hown2 hg2 hA2 _
  have hk2 : w2.heap[g]? = w1.heap[g]? := hg2.block g glt (fun e => by
    have := h1.own.base_le g e.symm
    omega)
  rw [← u8s_append] at hown2
  have hs2 := h1.put hown2 hk2
  have d0 : w2.cell? ⟨g, 0, none⟩ = some (.slice A1 n1 c1) := by rw [cell_of_row w2 g 0 _ _ _ (hk2.trans h1.blk)]; rfl
  have d1 : w2.frozen? ⟨g, 0, none⟩ = false := by have := hk2.trans h1.blk; simp only [World.frozen?, this]; simp
  have hx2 : Below g w (w2.setCell ⟨g, 0, none⟩ (.slice A2 (n1 + m) c2)) := by
    refine (Below.grown hx1 hg2 (by omega) (fun k hk => ?_)).setCell (Nat.le_refl _) _
    have := h1.own.base_le k hk
    omega
  clear hown2 hg2 hk2 c0 f0 h1 hr1 hA2 hx1
  go_wp2_with fail
  go_returns
  exact ⟨rfl, A2, n1 + m, c2, hs2, hx2⟩
end Go.Proofs.YteflnnlihblpgaaDoor
