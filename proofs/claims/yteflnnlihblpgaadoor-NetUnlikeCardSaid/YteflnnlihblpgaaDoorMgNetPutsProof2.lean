/-
  Package order: checkOrder, Check, walked.
-/
import Derived.Test.YteflnnlihblpgaaDoorMgNetPutsProof1
namespace Go.Proofs.YteflnnlihblpgaaDoor
set_option maxRecDepth 100000
open Go.RowKit
set_option linter.unusedVariables false
/-- An order's cells. -/
def ocells (e : En) (A : Option Addr) (n c : Nat) : List Value := [.int .i64 e.kd, .int .i64 e.id, .int .i64 e.sk, .int .i64 e.sq, .int .i64 e.st, .int .i64 e.pol, .slice A n c, .int .i64 e.at_]
theorem eql_server (a b c : Int) (w : World) : (binOp .eql 24 (.agg #[.int .i64 a, .int .i64 b, .int .i64 c]) (.agg #[.int .i64 0, .int .i64 0, .int .i64 0])).run Tryd.prog w = .ok (.bool (decide (a = 0 ∧ b = 0 ∧ c = 0))) w := by
  by_cases h1 : a = 0
  · by_cases h2 : b = 0
    · by_cases h3 : c = 0
      · subst h1 h2 h3; kernel_rfl
      · subst h1 h2
        go_simp
    · subst h1
      go_simp
  · go_simp
theorem fitL_two (a b : Int) : fitL [a, b] = (fitI a && fitI b) := by simp [fitL]
set_option maxHeartbeats 3200000 in
theorem chko_any (e : En) (A : Option Addr) (n c : Nat) (w : World) (hr : Rd w 4 A n (trows e.ts).flatten) (hn : n ≤ 1000000000000000) (b : Bool) (hb : Hid (e.ord = b)) : Calls Tryd.prog 52 #[.agg #[.int .i64 e.kd, .int .i64 e.id, .int .i64 e.sk, .int .i64 e.sq, .int .i64 e.st, .int .i64 e.pol, .slice A n c, .int .i64 e.at_]] w fun x w' => x = .returned (.bool b) ∧ Ext w w' := by
  have hl := rd_tlen hr
  have HR := Lib.hid hr
  have X0 := (Ext.refl w).alloc (.cells #[.int .i64 e.kd, .int .i64 e.id, .int .i64 e.sk, .int .i64 e.sq, .int .i64 e.st, .int .i64 e.pol, .slice A n c, .int .i64 e.at_] 27)
  have hob := heap_alloc_new w (.cells #[.int .i64 e.kd, .int .i64 e.id, .int .i64 e.sk, .int .i64 e.sq, .int .i64 e.st, .int .i64 e.pol, .slice A n c, .int .i64 e.at_] 27)
  have HV := Lib.hid (And.intro hob X0)
  clear hob X0 hr
  go_enter Tryd.func52, Tryd.ntmps52
  go_upto_region 1 with (fail)
  generalize w.alloc (.cells #[.int .i64 e.kd, .int .i64 e.id, .int .i64 e.sk, .int .i64 e.sq, .int .i64 e.st, .int .i64 e.pol, .slice A n c, .int .i64 e.at_] 27) = V at *
  generalize w.heap.size = ob at *
  have c1 : V.cell? ⟨ob, 1, none⟩ = some (.int .i64 e.id) := block_cell HV.out.1 1
  have c7 : V.cell? ⟨ob, 7, none⟩ = some (.int .i64 e.at_) := block_cell HV.out.1 7
  have RN : Rd (V.alloc (.cells #[.int .i64 e.at_, .int .i64 e.id] 3)) 1 (some ⟨V.heap.size, 0, none⟩) 2 (ints [e.at_, e.id]) := Rd.new V #[.int .i64 e.at_, .int .i64 e.id] 3 (0, 0)
  obtain ⟨b1, hb1⟩ : ∃ b1, fitL [e.at_, e.id] = b1 := ⟨_, rfl⟩
  have HB1 := Lib.hid hb1
  have C1 := Lib.hid (fit_any _ 2 2 _ _ RN (by omega) b1 HB1)
  have X1 := (Ext.refl V).alloc (.cells #[.int .i64 e.at_, .int .i64 e.id] 3)
  have H1 := Lib.hid (And.intro ((X1.block ob (block_lt HV.out.1)).trans HV.out.1) (HV.out.2.trans X1))
  clear RN hb1 X1
  cases b1 with
  | false =>
    obtain rfl : b = false := by rw [← hb.out]; unfold En.ord; rw [HB1.out]; rfl
    go_wp2_with (go_at_call 77; refine C1.out.mono ?_; rintro x w1 ⟨rfl, rfl⟩)
    go_returns
    exact ⟨rfl, H1.out.2⟩
  | true =>
    go_upto_region 3 with (go_at_call 77; refine C1.out.mono ?_; rintro x w1 ⟨rfl, rfl⟩)
    clear c1 c7 C1
    generalize V.alloc (.cells #[.int .i64 e.at_, .int .i64 e.id] 3) = V1 at *
    have c0 : V1.cell? ⟨ob, 0, none⟩ = some (.int .i64 e.kd) := block_cell H1.out.1 0
    have c2 : V1.cell? ⟨ob, 2, none⟩ = some (.int .i64 e.sk) := block_cell H1.out.1 2
    have c3 : V1.cell? ⟨ob, 3, none⟩ = some (.int .i64 e.sq) := block_cell H1.out.1 3
    have c4 : V1.cell? ⟨ob, 4, none⟩ = some (.int .i64 e.st) := block_cell H1.out.1 4
    have c5 : V1.cell? ⟨ob, 5, none⟩ = some (.int .i64 e.pol) := block_cell H1.out.1 5
    have c6 : V1.cell? ⟨ob, 6, none⟩ = some (.slice A n c) := block_cell H1.out.1 6
    obtain ⟨sv, hsv⟩ : ∃ sv, decide (e.sk = 0 ∧ e.sq = 0 ∧ e.st = 0) = sv := ⟨_, rfl⟩
    have r3 := fun W => eql_server e.sk e.sq e.st W
    rw [hsv] at r3
    have HSV := Lib.hid hsv
    clear hsv
    by_cases hp : e.pol = 0
    · have p1 : (e.pol == 0) = true := by simpa using hp
      have hpH := Lib.hid hp
      clear hp
      by_cases hn0 : n = 0
      · have p2 : ((n : Int) == 0) = true := by simp [hn0]
        have hnH := Lib.hid hn0
        clear hn0
        by_cases k1 : e.kd = 1
        · have q1 : (e.kd == 1) = true := by simpa using k1
          have RN2 : Rd (V1.alloc (.cells #[.int .i64 e.sk, .int .i64 e.sq, .int .i64 e.st] 3)) 1 (some ⟨V1.heap.size, 0, none⟩) 3 (ints [e.sk, e.sq, e.st]) := Rd.new V1 #[.int .i64 e.sk, .int .i64 e.sq, .int .i64 e.st] 3 (0, 0)
          obtain ⟨b2, hb2⟩ : ∃ b2, fitL [e.sk, e.sq, e.st] = b2 := ⟨_, rfl⟩
          have C2 := Lib.hid (fit_any _ 3 3 _ _ RN2 (by omega) b2 (Lib.hid hb2))
          obtain rfl : b = b2 := by rw [← hb.out]; unfold En.ord; rw [HB1.out]; simp [k1, hb2, En.noGuest, hpH.out, hl, hnH.out]
          have HX := Lib.hid (H1.out.2.trans ((Ext.refl V1).alloc (.cells #[.int .i64 e.sk, .int .i64 e.sq, .int .i64 e.st] 3)))
          clear RN2 hb2
          go_wp2_with (go_at_call 77; refine C2.out.mono ?_; rintro x w1 ⟨rfl, rfl⟩)
          go_returns
          exact ⟨rfl, HX.out⟩
        have q1 : (e.kd == 1) = false := by simpa using k1
        by_cases k2 : e.kd = 2
        · have q2 : (e.kd == 2) = true := by simpa using k2
          have RN2 : Rd (V1.alloc (.cells #[.int .i64 e.sk, .int .i64 e.sq, .int .i64 e.st] 3)) 1 (some ⟨V1.heap.size, 0, none⟩) 3 (ints [e.sk, e.sq, e.st]) := Rd.new V1 #[.int .i64 e.sk, .int .i64 e.sq, .int .i64 e.st] 3 (0, 0)
          obtain ⟨b2, hb2⟩ : ∃ b2, fitL [e.sk, e.sq, e.st] = b2 := ⟨_, rfl⟩
          have C2 := Lib.hid (fit_any _ 3 3 _ _ RN2 (by omega) b2 (Lib.hid hb2))
          obtain rfl : b = b2 := by rw [← hb.out]; unfold En.ord; rw [HB1.out]; simp [k2, hb2, En.noGuest, hpH.out, hl, hnH.out]
          have HX := Lib.hid (H1.out.2.trans ((Ext.refl V1).alloc (.cells #[.int .i64 e.sk, .int .i64 e.sq, .int .i64 e.st] 3)))
          clear RN2 hb2
          go_wp2_with (go_at_call 77; refine C2.out.mono ?_; rintro x w1 ⟨rfl, rfl⟩)
          go_returns
          exact ⟨rfl, HX.out⟩
        have q2 : (e.kd == 2) = false := by simpa using k2
        by_cases k3 : e.kd = 3
        · have q3 : (e.kd == 3) = true := by simpa using k3
          obtain rfl : b = sv := by rw [← hb.out]; unfold En.ord En.noServer; rw [HB1.out, HSV.out]; simp [k3, En.noGuest, hpH.out, hl, hnH.out]
          go_wp2_with fail
          go_returns
          exact ⟨rfl, H1.out.2⟩
        have q3 : (e.kd == 3) = false := by simpa using k3
        by_cases k4 : e.kd = 4
        · have q4 : (e.kd == 4) = true := by simpa using k4
          cases sv with
          | false =>
            obtain rfl : b = false := by rw [← hb.out]; unfold En.ord En.noServer; rw [HB1.out, HSV.out]; simp [k4]
            go_wp2_with fail
            go_returns
            exact ⟨rfl, H1.out.2⟩
          | true =>
            have RN2 : Rd (V1.alloc (.cells #[.int .i64 e.pol] 3)) 1 (some ⟨V1.heap.size, 0, none⟩) 1 (ints [e.pol]) := Rd.new V1 #[.int .i64 e.pol] 3 (0, 0)
            obtain ⟨b2, hb2⟩ : ∃ b2, fitL [e.pol] = b2 := ⟨_, rfl⟩
            have C2 := Lib.hid (fit_any _ 1 1 _ _ RN2 (by omega) b2 (Lib.hid hb2))
            have XA := (Ext.refl V1).alloc (.cells #[.int .i64 e.pol] 3)
            have HX := Lib.hid (And.intro (H1.out.2.trans XA) ((XA.block ob (block_lt H1.out.1)).trans H1.out.1))
            have c6' : (V1.alloc (.cells #[.int .i64 e.pol] 3)).cell? ⟨ob, 6, none⟩ = some (.slice A n c) := block_cell HX.out.2 6
            clear RN2 XA
            cases b2 with
            | false =>
              obtain rfl : b = false := by rw [← hb.out]; unfold En.ord En.noServer; rw [HB1.out, HSV.out, hb2]; simp [k4]
              go_wp2_with (go_at_call 77; refine C2.out.mono ?_; rintro x w1 ⟨rfl, rfl⟩)
              go_returns
              exact ⟨rfl, HX.out.1⟩
            | true =>
              by_cases h8 : n ≤ 8
              · have g8 : ((n : Int) ≤ 8) = True := by simp; omega
                obtain ⟨b3, hb3⟩ : ∃ b3, e.ts.all Tk.fit = b3 := ⟨_, rfl⟩
                have C3 := Lib.hid (tkany_any A n c e.ts _ (HR.out.ext HX.out.1) hn b3 (Lib.hid hb3))
                unfold tkF at C3
                obtain rfl : b = b3 := by rw [← hb.out]; unfold En.ord En.noServer; rw [HB1.out, HSV.out, hb2, hb3]; simp [k4, hl, h8]
                clear hb2 hb3
                go_wp2_with (first | (go_at_call 77; refine C2.out.mono ?_; rintro x w1 ⟨rfl, rfl⟩) | (go_at_call 78; refine C3.out.mono ?_; rintro x w1 ⟨rfl, x1⟩))
                go_returns
                exact ⟨by simp, HX.out.1.trans x1⟩
              · exact absurd (show n ≤ 8 by have := hnH.out; omega) h8
        have q4 : (e.kd == 4) = false := by simpa using k4
        obtain rfl : b = false := by rw [← hb.out]; unfold En.ord; rw [HB1.out]; simp [k1, k2, k3, k4]
        go_wp2_with fail
        go_returns
        exact ⟨rfl, H1.out.2⟩
      · have p2 : ((n : Int) == 0) = false := by simp [hn0]
        have hnH := Lib.hid hn0
        clear hn0
        by_cases k1 : e.kd = 1
        · have q1 : (e.kd == 1) = true := by simpa using k1
          obtain rfl : b = false := by rw [← hb.out]; unfold En.ord; rw [HB1.out]; simp [k1, En.noGuest, hpH.out, hl, hnH.out]
          go_wp2_with fail
          go_returns
          exact ⟨rfl, H1.out.2⟩
        have q1 : (e.kd == 1) = false := by simpa using k1
        by_cases k2 : e.kd = 2
        · have q2 : (e.kd == 2) = true := by simpa using k2
          obtain rfl : b = false := by rw [← hb.out]; unfold En.ord; rw [HB1.out]; simp [k2, En.noGuest, hpH.out, hl, hnH.out]
          go_wp2_with fail
          go_returns
          exact ⟨rfl, H1.out.2⟩
        have q2 : (e.kd == 2) = false := by simpa using k2
        by_cases k3 : e.kd = 3
        · have q3 : (e.kd == 3) = true := by simpa using k3
          obtain rfl : b = false := by rw [← hb.out]; unfold En.ord; rw [HB1.out]; simp [k3, En.noGuest, hpH.out, hl, hnH.out]
          go_wp2_with fail
          go_returns
          exact ⟨rfl, H1.out.2⟩
        have q3 : (e.kd == 3) = false := by simpa using k3
        by_cases k4 : e.kd = 4
        · have q4 : (e.kd == 4) = true := by simpa using k4
          cases sv with
          | false =>
            obtain rfl : b = false := by rw [← hb.out]; unfold En.ord En.noServer; rw [HB1.out, HSV.out]; simp [k4]
            go_wp2_with fail
            go_returns
            exact ⟨rfl, H1.out.2⟩
          | true =>
            have RN2 : Rd (V1.alloc (.cells #[.int .i64 e.pol] 3)) 1 (some ⟨V1.heap.size, 0, none⟩) 1 (ints [e.pol]) := Rd.new V1 #[.int .i64 e.pol] 3 (0, 0)
            obtain ⟨b2, hb2⟩ : ∃ b2, fitL [e.pol] = b2 := ⟨_, rfl⟩
            have C2 := Lib.hid (fit_any _ 1 1 _ _ RN2 (by omega) b2 (Lib.hid hb2))
            have XA := (Ext.refl V1).alloc (.cells #[.int .i64 e.pol] 3)
            have HX := Lib.hid (And.intro (H1.out.2.trans XA) ((XA.block ob (block_lt H1.out.1)).trans H1.out.1))
            have c6' : (V1.alloc (.cells #[.int .i64 e.pol] 3)).cell? ⟨ob, 6, none⟩ = some (.slice A n c) := block_cell HX.out.2 6
            clear RN2 XA
            cases b2 with
            | false =>
              obtain rfl : b = false := by rw [← hb.out]; unfold En.ord En.noServer; rw [HB1.out, HSV.out, hb2]; simp [k4]
              go_wp2_with (go_at_call 77; refine C2.out.mono ?_; rintro x w1 ⟨rfl, rfl⟩)
              go_returns
              exact ⟨rfl, HX.out.1⟩
            | true =>
              by_cases h8 : n ≤ 8
              · have g8 : ((n : Int) ≤ 8) = True := by simp; omega
                obtain ⟨b3, hb3⟩ : ∃ b3, e.ts.all Tk.fit = b3 := ⟨_, rfl⟩
                have C3 := Lib.hid (tkany_any A n c e.ts _ (HR.out.ext HX.out.1) hn b3 (Lib.hid hb3))
                unfold tkF at C3
                obtain rfl : b = b3 := by rw [← hb.out]; unfold En.ord En.noServer; rw [HB1.out, HSV.out, hb2, hb3]; simp [k4, hl, h8]
                clear hb2 hb3
                go_wp2_with (first | (go_at_call 77; refine C2.out.mono ?_; rintro x w1 ⟨rfl, rfl⟩) | (go_at_call 78; refine C3.out.mono ?_; rintro x w1 ⟨rfl, x1⟩))
                go_returns
                exact ⟨by simp, HX.out.1.trans x1⟩
              · have g8 : ((n : Int) ≤ 8) = False := by simp; omega
                obtain rfl : b = false := by rw [← hb.out]; unfold En.ord En.noServer; rw [HB1.out, HSV.out, hb2]; simp [k4, hl]; omega
                clear hb2
                go_wp2_with (go_at_call 77; refine C2.out.mono ?_; rintro x w1 ⟨rfl, rfl⟩)
                go_returns
                exact ⟨rfl, HX.out.1⟩
        have q4 : (e.kd == 4) = false := by simpa using k4
        obtain rfl : b = false := by rw [← hb.out]; unfold En.ord; rw [HB1.out]; simp [k1, k2, k3, k4]
        go_wp2_with fail
        go_returns
        exact ⟨rfl, H1.out.2⟩
    · have p1 : (e.pol == 0) = false := by simpa using hp
      have hpH := Lib.hid hp
      clear hp
      by_cases k1 : e.kd = 1
      · have q1 : (e.kd == 1) = true := by simpa using k1
        obtain rfl : b = false := by rw [← hb.out]; unfold En.ord; rw [HB1.out]; simp [k1, En.noGuest, hpH.out]
        go_wp2_with fail
        go_returns
        exact ⟨rfl, H1.out.2⟩
      have q1 : (e.kd == 1) = false := by simpa using k1
      by_cases k2 : e.kd = 2
      · have q2 : (e.kd == 2) = true := by simpa using k2
        obtain rfl : b = false := by rw [← hb.out]; unfold En.ord; rw [HB1.out]; simp [k2, En.noGuest, hpH.out]
        go_wp2_with fail
        go_returns
        exact ⟨rfl, H1.out.2⟩
      have q2 : (e.kd == 2) = false := by simpa using k2
      by_cases k3 : e.kd = 3
      · have q3 : (e.kd == 3) = true := by simpa using k3
        obtain rfl : b = false := by rw [← hb.out]; unfold En.ord; rw [HB1.out]; simp [k3, En.noGuest, hpH.out]
        go_wp2_with fail
        go_returns
        exact ⟨rfl, H1.out.2⟩
      have q3 : (e.kd == 3) = false := by simpa using k3
      by_cases k4 : e.kd = 4
      · have q4 : (e.kd == 4) = true := by simpa using k4
        cases sv with
        | false =>
          obtain rfl : b = false := by rw [← hb.out]; unfold En.ord En.noServer; rw [HB1.out, HSV.out]; simp [k4]
          go_wp2_with fail
          go_returns
          exact ⟨rfl, H1.out.2⟩
        | true =>
          have RN2 : Rd (V1.alloc (.cells #[.int .i64 e.pol] 3)) 1 (some ⟨V1.heap.size, 0, none⟩) 1 (ints [e.pol]) := Rd.new V1 #[.int .i64 e.pol] 3 (0, 0)
          obtain ⟨b2, hb2⟩ : ∃ b2, fitL [e.pol] = b2 := ⟨_, rfl⟩
          have C2 := Lib.hid (fit_any _ 1 1 _ _ RN2 (by omega) b2 (Lib.hid hb2))
          have XA := (Ext.refl V1).alloc (.cells #[.int .i64 e.pol] 3)
          have HX := Lib.hid (And.intro (H1.out.2.trans XA) ((XA.block ob (block_lt H1.out.1)).trans H1.out.1))
          have c6' : (V1.alloc (.cells #[.int .i64 e.pol] 3)).cell? ⟨ob, 6, none⟩ = some (.slice A n c) := block_cell HX.out.2 6
          clear RN2 XA
          cases b2 with
          | false =>
            obtain rfl : b = false := by rw [← hb.out]; unfold En.ord En.noServer; rw [HB1.out, HSV.out, hb2]; simp [k4]
            go_wp2_with (go_at_call 77; refine C2.out.mono ?_; rintro x w1 ⟨rfl, rfl⟩)
            go_returns
            exact ⟨rfl, HX.out.1⟩
          | true =>
            by_cases h8 : n ≤ 8
            · have g8 : ((n : Int) ≤ 8) = True := by simp; omega
              obtain ⟨b3, hb3⟩ : ∃ b3, e.ts.all Tk.fit = b3 := ⟨_, rfl⟩
              have C3 := Lib.hid (tkany_any A n c e.ts _ (HR.out.ext HX.out.1) hn b3 (Lib.hid hb3))
              unfold tkF at C3
              obtain rfl : b = b3 := by rw [← hb.out]; unfold En.ord En.noServer; rw [HB1.out, HSV.out, hb2, hb3]; simp [k4, hl, h8]
              clear hb2 hb3
              go_wp2_with (first | (go_at_call 77; refine C2.out.mono ?_; rintro x w1 ⟨rfl, rfl⟩) | (go_at_call 78; refine C3.out.mono ?_; rintro x w1 ⟨rfl, x1⟩))
              go_returns
              exact ⟨by simp, HX.out.1.trans x1⟩
            · have g8 : ((n : Int) ≤ 8) = False := by simp; omega
              obtain rfl : b = false := by rw [← hb.out]; unfold En.ord En.noServer; rw [HB1.out, HSV.out, hb2]; simp [k4, hl]; omega
              clear hb2
              go_wp2_with (go_at_call 77; refine C2.out.mono ?_; rintro x w1 ⟨rfl, rfl⟩)
              go_returns
              exact ⟨rfl, HX.out.1⟩
      have q4 : (e.kd == 4) = false := by simpa using k4
      obtain rfl : b = false := by rw [← hb.out]; unfold En.ord; rw [HB1.out]; simp [k1, k2, k3, k4]
      go_wp2_with fail
      go_returns
      exact ⟨rfl, H1.out.2⟩
end Go.Proofs.YteflnnlihblpgaaDoor
