/-
  Package almonerref03: Read, walked.
-/
import Derived.Test.YteflnnlihblpgaaDoorRdPlain
import Derived.Test.YteflnnlihblpgaaDoorWrRef
import Derived.Test.YteflnnlihblpgaaDoorOwRead
import Derived.Test.YteflnnlihblpgaaDoorOwSp
import Derived.Test.YteflnnlihblpgaaDoorOwStr
import Derived.Deep.RegionHeld3
import Derived.Deep.RegionLaw
import Derived.Deep.Cut
namespace Go.Proofs.YteflnnlihblpgaaDoor
open Go.RowKit
set_option linter.unusedVariables false
/-- What Read answers. -/
def ReadR (l : List Nat) (at_ : Nat) : Value :=
  match Wr.rd (l.drop at_) with
  | some (x, k) => .tuple #[.int .i64 (x : Int), .int .i64 ((at_ + k : Nat) : Int), .bool true]
  | none => .tuple #[.int .i64 0, .int .i64 0, .bool false]
theorem readR_none {l : List Nat} {at_ : Nat} (h : Wr.rd (l.drop at_) = none) : ReadR l at_ = .tuple #[.int .i64 0, .int .i64 0, .bool false] := by unfold ReadR; rw [h]
theorem readR_some {l : List Nat} {at_ x k : Nat} (h : Wr.rd (l.drop at_) = some (x, k)) : ReadR l at_ = .tuple #[.int .i64 (x : Int), .int .i64 ((at_ + k : Nat) : Int), .bool true] := by unfold ReadR; rw [h]
def RdOut (w : World) (v : Value) (e : Ending) (w' : World) : Prop := e = .returned v ∧ Ext w w'
theorem val_bound {l : List Nat} {t : Nat} (ht : l.length ≤ t) (h9 : t ≤ 9) : Wr.val l ≤ 9223372036854775807 := by
  have h1 := Wr.val_lt l
  have h2 : (128 : Nat) ^ l.length ≤ 128 ^ 9 := Nat.pow_le_pow_right (by decide) (by omega)
  rw [show (128 : Nat) ^ 9 = 9223372036854775808 by decide] at h2
  omega
set_option maxRecDepth 8000 in
set_option maxHeartbeats 3200000 in
theorem read_any (A : Option Addr) (n c at_ : Nat) (l : List Nat) (w : World) (hr : Rd w 1 A n (u8s l)) (hl : ∀ x ∈ l, x < 256) (hn : n ≤ 140737488351232) (hnc : n ≤ c) (ha : at_ ≤ n) :
    Calls Tryd.prog 83 #[.slice A n c, .int .i64 (at_ : Int)] w (RdOut w (ReadR l at_)) := by
  have hlen : l.length = n := by have h := hr.len; rwa [u8s_len] at h
  have HR := Lib.hid (And.intro hr (And.intro hl hlen))
  obtain ⟨m, hm⟩ : ∃ m, l.drop at_ = m := ⟨_, rfl⟩
  have hml : m.length = n - at_ := by rw [← hm, List.length_drop, hlen]
  have hmg : ∀ k, m[k]? = l[at_ + k]? := fun k => by rw [← hm, List.getElem?_drop]
  have hmb : ∀ x ∈ m, x < 256 := fun x hx => hl x (List.mem_of_mem_drop (by rw [hm]; exact hx))
  have HM := Lib.hid (And.intro hml (And.intro hmg hmb))
  have HMM := Lib.hid hm
  clear hr hl hlen hml hmg hmb hm
  have hx0 := Ext.refl w
  have hpos : (at_ : Int) + 9 ≤ 140737488351241 := by omega
  go_enter Tryd.func83, Tryd.ntmps83
  go_wp2_with fail
  go_loop [7] (fun v7 => ∃ t : Nat, v7 = .int .i64 ((at_ + t : Nat) : Int) ∧ t ≤ 9 ∧ at_ + t ≤ n ∧ Hid (∀ x ∈ m.take t, 128 ≤ x ∧ x < 256)) (fun v7 => n - (intOf v7).toNat)
  case atStart => exact ⟨0, by go_num, by omega, by omega, by simp [Hid]⟩
  case round =>
    obtain ⟨t, rfl, ht, htn, HT⟩ := hrel
    obtain ⟨p, hp⟩ : ∃ p, at_ + t = p := ⟨_, rfl⟩
    have hpi : (at_ : Int) + (t : Int) = (p : Int) := by omega
    rw [hp]
    have HP := Lib.hid hp
    rw [hp] at htn
    clear hp hpi
    by_cases h1 : p < n
    · by_cases h9 : t < 9
      · have h9' : (p : Int) < (at_ : Int) + 9 := by have := HP.out; omega
        obtain ⟨ad, x, rfl, hx, hc⟩ := HR.out.1.byte h1
        have hx8 := HR.out.2.1 x (mem_of_at hx.out)
        have hmx : m[t]? = some x := by rw [HM.out.2.1, HP.out]; exact hx.out
        have HX := Lib.hid hmx
        clear hmx
        have p0 : (0 : Int) ≤ p := by omega
        by_cases hc8 : x < 128
        · have hc8' : ¬ (128 : Int) ≤ (x : Int) := by omega
          have HF := Lib.hid (Wr.rd_first h9 HX.out hc8 HT.out)
          obtain ⟨T, hT⟩ : ∃ T, t + 1 = T := ⟨_, rfl⟩
          rw [hT] at HF
          have hTb : T ≤ 9 := by omega
          have hTn : at_ + T ≤ n := by have := HP.out; omega
          have HT1 := Lib.hid hT
          clear hT
          have hmt : ∀ u, u < T → ∃ y, l[at_ + u]? = some y ∧ m[u]? = some y := fun u hu => by
            have h1 : at_ + u < l.length := by rw [HR.out.2.2]; omega
            exact ⟨l[at_ + u], List.getElem?_eq_getElem h1, by rw [HM.out.2.1]; exact List.getElem?_eq_getElem h1⟩
          have HMT := Lib.hid hmt
          clear hmt
          go_wp2_with fail
          go_loop [8, 9] (fun v8 v9 => ∃ (r acc : Nat), v8 = .int .i64 (acc : Int) ∧ r ≤ T ∧ (r = 0 ∧ v9 = .int .i64 ((at_ : Int) - 1) ∨ ∃ u, r = u + 1 ∧ v9 = .int .i64 ((at_ + u : Nat) : Int)) ∧ Hid (acc = Wr.val ((m.drop r).take (T - r)))) (fun _ v9 => (intOf v9 + 1).toNat)
          case atStart => exact ⟨T, 0, rfl, Nat.le_refl _, .inr ⟨t, HT1.out.symm, by rw [HP.out]⟩, by simp [Hid, Wr.val]⟩
          case round =>
            obtain ⟨r, acc, rfl, hrT, hv9, HA⟩ := hrel
            rcases hv9 with ⟨rfl, rfl⟩ | ⟨u, rfl, rfl⟩
            · have ha1 : ¬ (at_ : Int) ≤ (at_ : Int) - 1 := by omega
              obtain ⟨sq, hsq⟩ : ∃ sq, m.take T = sq := ⟨_, rfl⟩
              have hacc : acc = Wr.val sq := by have h := HA.out; simp only [List.drop_zero, Nat.sub_zero] at h; rw [h, hsq]
              have hsl : sq.length = T := by rw [← hsq, List.length_take, HM.out.1]; omega
              have hsb : ∀ x ∈ sq, x < 256 := fun x hx => HM.out.2.2 x (List.mem_of_mem_take (by rw [hsq]; exact hx))
              have hab : acc ≤ 9223372036854775807 := by rw [hacc]; exact val_bound (Nat.le_of_eq hsl) (by omega)
              rw [hsq, ← hacc] at HF
              have hap : at_ ≤ p := by have := HP.out; omega
              obtain ⟨q, hq⟩ : ∃ q, p + 1 = q := ⟨_, rfl⟩
              have w1 : IntKind.i64.wrap ((p : Int) + 1) = (q : Int) := by rw [IntKind.wrap_i64]; omega
              have q1 : (p : Int) + 1 = (q : Int) := by omega
              have r2 : q - at_ = T := by have := HP.out; have := HT1.out; omega
              have q2 : at_ ≤ q := by omega
              have q3 : q ≤ c := by omega
              have q4 : (at_ : Int) ≤ (q : Int) := by omega
              have q5 : (q : Int) ≤ (c : Int) := by omega
              have hca : ¬ c = at_ := by omega
              have RT : Rd w 1 (some (ad.add at_)) T (u8s sq) := by
                have h := (HR.out.1.u8cut (k := at_) (cap := c) (by omega) hnc).u8take (k := T) (by omega)
                rw [if_neg hca, HMM.out, hsq] at h
                exact h
              have BX := Lib.hid (fun w' (hx : Ext w w') => run_str (P := Tryd.prog) (w := w') (s := 9) Tryd.underlying54 Tryd.underlying5 Tryd.underlying9 (c - at_) (RT.ext hx))
              have RF := Lib.hid (fun w' (hx : Ext w w') => (refnum_any acc w' hab).mono fun e w'' (h : ∃ A c, e = .returned (.slice A (Wr.num acc).length c) ∧ Own w'' w'.heap.size 5 1 A (Wr.num acc).length c (u8s (Wr.num acc)) ∧ Ext w' w'') =>
                (by
                  obtain ⟨A', c', he, ho, hx2⟩ := h
                  exact ⟨A', c', he, run_str (P := Tryd.prog) (w := w'') (s := 9) Tryd.underlying54 Tryd.underlying5 Tryd.underlying9 c' ho.rd, run_str (P := Tryd.prog) (w := w''.drew) (s := 9) Tryd.underlying54 Tryd.underlying5 Tryd.underlying9 c' (ho.rd.ext ((Ext.refl _).drew)), BX.out _ (hx.trans hx2), BX.out _ (hx.trans hx2).drew, hx.trans hx2⟩ :
                  ∃ A' c', e = .returned (.slice A' (Wr.num acc).length c') ∧ (convert 54 9 (.slice A' (Wr.num acc).length c')).run Tryd.prog w'' = .ok (.string (str (Wr.num acc))) w'' ∧ (convert 54 9 (.slice A' (Wr.num acc).length c')).run Tryd.prog w''.drew = .ok (.string (str (Wr.num acc))) w''.drew ∧ (convert 54 9 (.slice (some (ad.add at_)) T (c - at_))).run Tryd.prog w'' = .ok (.string (str sq)) w'' ∧ (convert 54 9 (.slice (some (ad.add at_)) T (c - at_))).run Tryd.prog w''.drew = .ok (.string (str sq)) w''.drew ∧ Ext w w''))
              have i0 := BX.out w (Ext.refl _)
              have i1 := BX.out w.drew ((Ext.refl _).drew)
              obtain ⟨b, hb⟩ : ∃ b : Bool, ((str (Wr.num acc)).toList == (str sq).toList) = b := ⟨_, rfl⟩
              have HB : Hid (b = decide (Wr.num acc = sq)) := by
                show b = _
                rw [← hb]
                by_cases h : Wr.num acc = sq
                · rw [h]; simp
                · rw [decide_eq_false h, beq_eq_false_iff_ne]
                  rw [ByteArray.toList_eq, ByteArray.toList_eq]
                  exact fun h2 => h (str_inj (Wr.num_byte _) hsb (Go.WideShapes.bytes_inj h2))
              generalize str (Wr.num acc) = sa at *
              generalize str sq = sb at *
              have HQ := Lib.hid hq
              clear hsq hacc hsl hsb RT hq hc hx hx8 hab hpos q1
              go_upto_region 10 with (fail)
              go_cut [52] from 43 (fun s52 wx => s52 = .bool (!b) ∧ Ext w wx)
              case first =>
                go_wp2_with fail
                go_region_with (go_at_call 60; (with_reducible refine (RF.out _ (by first | exact Ext.refl _ | exact (Ext.refl _).drew)).mono ?_); rintro en vF ⟨AF, cF, rfl, qF, qG, qH, qI, xF⟩)
                all_goals
                  go_wp2_with fail
                  go_meet
                  case rel => exact ⟨rfl, by first | exact xF | exact xF.drew⟩
              case rest =>
                obtain ⟨rfl, xC⟩ := hcut
                have XC := Lib.hid xC
                clear xC i0 i1 hb
                cases b with
                | true =>
                  have hs : Wr.num acc = sq := of_decide_eq_true HB.out.symm
                  have hqT : q = at_ + T := by have := HP.out; have := HT1.out; have := HQ.out; omega
                  have HR2 := Lib.hid (show ReadR l at_ = .tuple #[.int .i64 (acc : Int), .int .i64 (q : Int), .bool true] by rw [readR_some (x := acc) (k := T) (by rw [HMM.out, HF.out, if_pos hs]), hqT])
                  clear hs hqT
                  go_wp2_with fail
                  go_returns
                  exact ⟨congrArg Ending.returned HR2.out.symm, XC.out⟩
                | false =>
                  have hs : ¬ Wr.num acc = sq := of_decide_eq_false HB.out.symm
                  have HR2 := Lib.hid (show ReadR l at_ = .tuple #[.int .i64 0, .int .i64 0, .bool false] by rw [readR_none (by rw [HMM.out, HF.out, if_neg hs])])
                  clear hs
                  go_wp2_with fail
                  go_returns
                  exact ⟨congrArg Ending.returned HR2.out.symm, XC.out⟩
            · obtain ⟨y, hy1, hy2⟩ := HMT.out u (by omega)
              obtain ⟨ad2, y2, e2, hy3, hc2⟩ := HR.out.1.byte (k := at_ + u) (by omega)
              injection e2 with e2
              subst e2
              obtain rfl : y2 = y := by have := hy3.out; rw [hy1] at this; exact (Option.some.inj this).symm
              have hy8 := HR.out.2.1 y2 (mem_of_at hy1)
              have hstep := Wr.val_step m u y2 hy2 T (by omega)
              have hacc : acc ≤ 72057594037927935 := by
                have h1 := Wr.val_lt ((m.drop (u + 1)).take (T - (u + 1)))
                have h2 : (128 : Nat) ^ ((m.drop (u + 1)).take (T - (u + 1))).length ≤ 128 ^ 8 := Nat.pow_le_pow_right (by decide) (by rw [List.length_take]; omega)
                rw [show (128 : Nat) ^ 8 = 72057594037927936 by decide] at h2
                have := HA.out
                omega
              obtain ⟨v, hv⟩ : ∃ v, y2 % 128 = v := ⟨_, rfl⟩
              have hv1 : (y2 : Int) % 128 = (v : Int) := by omega
              have hv8 : v < 128 := by omega
              have HS := Lib.hid (And.intro hstep hv)
              obtain ⟨e, he⟩ : ∃ e, at_ + u = e := ⟨_, rfl⟩
              rw [he] at hc2 ⊢
              have hen : e < n := by omega
              have hee : (at_ : Int) ≤ (e : Int) := by omega
              have HE := Lib.hid he
              clear hstep hv hy1 hy2 hy3 he
              go_wp2_with fail
              go_round
              case rel =>
                refine ⟨u, v + 128 * acc, by go_num, by omega, ?_, by show _ = _; rw [HS.out.1, HS.out.2, HA.out]⟩
                cases u with
                | zero => exact .inl ⟨rfl, by have := HE.out; go_num⟩
                | succ u => exact .inr ⟨u, rfl, by have := HE.out; go_num⟩
              case measure => simp [intOf]
        · have hc8' : (128 : Int) ≤ (x : Int) := by omega
          go_wp2_with fail
          go_round
          case rel =>
            refine ⟨t + 1, by have := HP.out; go_num, by omega, by have := HP.out; omega, ?_⟩
            intro y hy
            rw [List.take_add_one, HX.out] at hy
            rcases List.mem_append.1 hy with h | h
            · exact HT.out y h
            · simp at h; omega
          case measure => simp [intOf]; omega
      · have h9' : ¬ (p : Int) < (at_ : Int) + 9 := by have := HP.out; omega
        go_wp2_with fail
        go_returns
        exact ⟨congrArg Ending.returned (readR_none (by rw [HMM.out, Wr.rd_long (t := t) (fun x hx => (HT.out x hx).1) (.inl (by omega))])).symm, Ext.refl _⟩
    · go_wp2_with fail
      go_returns
      exact ⟨congrArg Ending.returned (readR_none (by rw [HMM.out, Wr.rd_long (t := t) (fun x hx => (HT.out x hx).1) (.inr (by rw [HM.out.1]; have := HP.out; omega))])).symm, Ext.refl _⟩
end Go.Proofs.YteflnnlihblpgaaDoor
