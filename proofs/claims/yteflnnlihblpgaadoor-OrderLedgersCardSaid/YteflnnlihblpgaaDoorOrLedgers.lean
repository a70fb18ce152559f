/-
  Package almonerlaw09: OrderLedgers, walked.
-/
import Derived.Test.YteflnnlihblpgaaDoorOrForms
import Derived.Test.YteflnnlihblpgaaDoorOrReadL
import Derived.Test.YteflnnlihblpgaaDoorOrRWrite
import Derived.Test.YteflnnlihblpgaaDoorNum
namespace Go.Proofs.YteflnnlihblpgaaDoor
set_option maxRecDepth 100000
open Go.RowKit
set_option linter.unusedVariables false
theorem num_is (E : Nat → Addr) (i g : Nat) (n : Int) (hi : gsN[i]? = some g) (hn : (i : Int) + 1 = n) (w : World) (hE : Errs w E) :
    Calls Tryd.prog 17 #[.iface 149 (.pointer (some (E g)))] w fun e w' => e = .returned (.int .i64 n) ∧ Ext w w' := by
  subst hn
  exact num_at E i g w hE hi
/-- The texts of a slice of bytes, in every world behind. -/
theorem strs {w : World} {A : Option Addr} {n : Nat} {l : List Nat} (d : Nat) (h : Rd w 1 A n (u8s l)) (W : World) (hx : Ext w W) : (convert 54 9 (.slice A n d)).run Tryd.prog W = .ok (.string (str l)) W :=
  run_str Tryd.underlying54 Tryd.underlying5 Tryd.underlying9 d (h.ext hx)
/-- What Read answers to a ledger's own bytes. -/
theorem read_own {es : List En} (hg : GoodL es) {base : Nat} {bad good : Value} {x : Ending} {w' : World} (h : ReadOut (putL es) base bad good x w') : ∃ (ss : List EnS) (B : Option Addr) (n d : Nat), ss.length = n ∧ ents ss = es ∧ x = .returned (.tuple #[.slice B n d, good]) ∧ OLed w' base B n d ss := by
  rcases h with ⟨ss, B, n, d, h1, h2, h3, h4, h5⟩ | ⟨h1, _⟩
  · exact ⟨ss, B, n, d, h1, (putL_inj hg h2 h3).symm, h4, h5⟩
  · exact absurd rfl (h1 es hg)
set_option maxHeartbeats 3200000 in
theorem ledgers_any (A : Option Addr) (n c : Nat) (ss : List EnS) (w : World) (hs : Led w A n ss) (hn : n * 96 ≤ 140737488355328) (E : Nat → Addr) (hE : Errs w E) : Calls Tryd.prog 7 #[.slice A n c] w fun x w' => x = .returned (.bool true) ∧ Ext w w' := by
  have hsl := hs.len
  have HS := Lib.hid (fun W (hx : Ext w W) => And.intro (hs.ext hx) (hE.ext hx))
  have CA := Lib.hid (alive_any w)
  clear hs hE
  go_enter Tryd.func7, Tryd.ntmps7
  go_upto_region 3 with (go_at_call 12; refine CA.out.mono ?_; rintro x w1 ⟨rfl, x1⟩)
  have CC := Lib.hid (rcopy_any A n c ss w1 (HS.out w1 x1).1 (by omega))
  go_upto_region 4 with (go_at_call 13; refine CC.out.mono ?_; rintro x w2 ⟨B, d, tt, rfl, htt, ho, x2⟩)
  have X2 : Ext w w2 := x1.trans x2
  have htl : tt.length = n := by have := congrArg List.length htt; rw [ents_len, ents_len] at this; omega
  have HT := Lib.hid (fun W (hx : Ext w2 W) => And.intro (ho.led.ext hx) (HS.out W (X2.trans hx)))
  have HTT := Lib.hid htt
  have CS := Lib.hid (fun W (hx : Ext w2 W) => rsameledger_any B n d tt A n c ss W (HT.out W hx).1 (HT.out W hx).2.1 (by omega) true (Lib.hid (decide_eq_true htt)))
  clear ho x1 x2 CA CC htt
  have X22 := Ext.refl w2
  by_cases h64 : 64 < n
  · have CW := Lib.hid (write_large B n d tt w2 (HT.out w2 X22).1 h64 ((HT.out w2 X22).2.2.sen 8 (by decide)))
    have CR := Lib.hid (fun W (hx : Ext w2 W) => rwrite_large A n c ss W (HT.out W hx).2.1 h64)
    have CN := Lib.hid (fun W (hx : Ext w2 W) => num_is E 7 8 8 rfl rfl W (HT.out W hx).2.2)
    have s0 := fun W => run_str (P := Tryd.prog) (w := W) (s := 9) Tryd.underlying54 Tryd.underlying5 Tryd.underlying9 (A := none) (n := 0) 0 (l := []) Rd.nil_
    go_wp2_with (first
      | (go_at_call 35; refine CW.out.mono ?_; rintro x w3 ⟨rfl, x3⟩)
      | (go_at_call 36; refine (CR.out _ x3).mono ?_; rintro x w4 ⟨rfl, x4⟩; have X4 := x3.trans x4)
      | (go_at_call 17; refine (CN.out _ X4).mono ?_; rintro x w5 ⟨rfl, x5⟩; have X5 := X4.trans x5)
      | (go_at_call 16; refine (CS.out _ X5).mono ?_; rintro x w6 ⟨rfl, x6⟩))
    go_returns
    exact ⟨rfl, X2.trans (X5.trans x6)⟩
  · by_cases hf : ∀ e ∈ ents ss, e.form = true
    · have hft : ∀ e ∈ ents tt, e.form = true := by rw [HTT.out]; exact hf
      have CW := Lib.hid (write_ok B n d tt w2 (HT.out w2 X22).1 (by omega) hft)
      have CR := Lib.hid (fun W (hx : Ext w2 W) => rwrite_ok A n c ss W (HT.out W hx).2.1 (by omega) hf)
      rw [HTT.out] at CW
      have HG : Hid (GoodL (ents ss)) := Lib.hid ⟨by rw [ents_len]; omega, hf⟩
      have CN := Lib.hid (fun W => num_nil W)
      clear hf hft
      go_upto_region 6 with (first
        | (go_at_call 35; refine CW.out.mono ?_; rintro x w3 ⟨B3, m3, d3, rfl, o3, x3⟩)
        | (go_at_call 36; refine (CR.out _ x3).mono ?_; rintro x w4 ⟨B4, m4, d4, rfl, o4, x4⟩; have X4 := x3.trans x4))
      have s3 := strs d3 (o3.rd.ext x4)
      have s4 := strs d4 o4.rd
      have CG := Lib.hid (fun W (hx : Ext w4 W) => readl_any B3 m3 d3 (putL (ents ss)) W ((o3.rd.ext x4).ext hx) (putL_byte _) (by
        have h1 := putK_len (ents ss).length (by have := HG.out.1; omega) (ents ss) HG.out.2
        rw [putK_all] at h1
        have h2 := HG.out.1
        have h3 := o3.rd.len
        rw [u8s_len] at h3
        omega) ((HT.out W (X4.trans hx)).2.2.sen 2 (by decide)) ((HT.out W (X4.trans hx)).2.2.sen 1 (by decide)))
      have x44 := Ext.refl w4
      clear o3 o4 CW CR
      go_upto_region 10 with (first
        | (go_at_call 17; refine (CN.out _).mono ?_; rintro x w5 ⟨rfl, x5⟩; have s5 := s3 w5 x5; have s6 := s4 w5 x5)
        | (go_at_call 16; refine (CS.out _ (X4.trans x5)).mono ?_; rintro x w6 ⟨rfl, x6⟩; have X6 := x5.trans x6))
      clear s3 s4 s5 s6 CS CN
      go_upto_region 11 with (go_at_call 32; refine (CG.out _ X6).mono ?_; rintro x w7 ⟨hro, x7⟩; obtain ⟨uu, B7, m7, d7, hul, hue, rfl, hol⟩ := read_own HG.out hro)
      have hm7 : m7 ≤ 2000000000000 := by
        have h1 := HG.out.1
        rw [← hue, ents_len, hul] at h1
        omega
      have X7 : Ext w2 w7 := X4.trans (X6.trans x7)
      have CS := Lib.hid (rsameledger_any B7 m7 d7 uu A n c ss w7 hol.led (HT.out w7 X7).2.1 ⟨hm7, by omega⟩ true (Lib.hid (decide_eq_true hue)))
      clear hro hul hue hol hm7
      go_wp2_with (go_at_call 16; refine CS.out.mono ?_; rintro x w8 ⟨rfl, x8⟩)
      go_returns
      exact ⟨rfl, X2.trans (X7.trans x8)⟩
    · have hf2 : ∃ e ∈ ents ss, e.form = false := by
        refine Classical.byContradiction fun h => hf fun e he => ?_
        cases hh : e.form with
        | true => rfl
        | false => exact absurd ⟨e, he, hh⟩ h
      have hft : ∃ e ∈ ents tt, e.form = false := by rw [HTT.out]; exact hf2
      have CW := Lib.hid (write_no B n d tt w2 (HT.out w2 X22).1 (by omega) hft ((HT.out w2 X22).2.2.sen 1 (by decide)))
      have CR := Lib.hid (fun W (hx : Ext w2 W) => rwrite_no A n c ss W (HT.out W hx).2.1 (by omega) hf2)
      have CN := Lib.hid (fun W (hx : Ext w2 W) => num_is E 15 1 16 rfl rfl W (HT.out W hx).2.2)
      have s0 := fun W => run_str (P := Tryd.prog) (w := W) (s := 9) Tryd.underlying54 Tryd.underlying5 Tryd.underlying9 (A := none) (n := 0) 0 (l := []) Rd.nil_
      clear hf hf2 hft
      go_wp2_with (first
        | (go_at_call 35; refine CW.out.mono ?_; rintro x w3 ⟨rfl, x3⟩)
        | (go_at_call 36; refine (CR.out _ x3).mono ?_; rintro x w4 ⟨rfl, x4⟩; have X4 := x3.trans x4)
        | (go_at_call 17; refine (CN.out _ X4).mono ?_; rintro x w5 ⟨rfl, x5⟩; have X5 := X4.trans x5)
        | (go_at_call 16; refine (CS.out _ X5).mono ?_; rintro x w6 ⟨rfl, x6⟩))
      go_returns
      exact ⟨rfl, X2.trans (X5.trans x6)⟩
end Go.Proofs.YteflnnlihblpgaaDoor
