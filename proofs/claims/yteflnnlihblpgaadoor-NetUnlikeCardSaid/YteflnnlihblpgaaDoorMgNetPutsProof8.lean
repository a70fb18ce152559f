/-
  The document's InForm, walked.
-/
import Derived.Test.YteflnnlihblpgaaDoorMgNetPutsProof7
import Derived.Deep.CutRange
namespace Go.Proofs.YteflnnlihblpgaaDoor
set_option maxRecDepth 100000
open Go.RowKit
set_option linter.unusedVariables false
set_option maxHeartbeats 400000 in
theorem rok_any (n : Int) (w : World) (b : Bool) (hb : Hid (fitI n = b)) : Calls Tryd.prog 56 #[.int .i64 n] w fun x w' => x = .returned (.bool b) ∧ w = w' := by
  by_cases h1 : 0 ≤ n
  · by_cases h2 : n ≤ 1099511627776
    · obtain rfl : b = true := by rw [← hb.out]; exact fitI_true.2 ⟨h1, h2⟩
      go_enter Tryd.func56, Tryd.ntmps56
      go_wp2_with fail
      go_returns
      exact ⟨rfl, rfl⟩
    · obtain rfl : b = false := by rw [← hb.out]; exact Bool.eq_false_iff.2 fun h => h2 (fitI_true.1 h).2
      go_enter Tryd.func56, Tryd.ntmps56
      go_wp2_with fail
      go_returns
      exact ⟨rfl, rfl⟩
  · obtain rfl : b = false := by rw [← hb.out]; exact Bool.eq_false_iff.2 fun h => h1 (fitI_true.1 h).1
    go_enter Tryd.func56, Tryd.ntmps56
    go_wp2_with fail
    go_returns
    exact ⟨rfl, rfl⟩
/-- What is asked of an order by its kind. -/
def En.body (e : En) : Bool :=
  if e.kd = 1 ∨ e.kd = 2 then e.noGuest && fitL [e.sk, e.sq, e.st]
  else if e.kd = 3 then e.noGuest && e.noServer
  else if e.kd = 4 then e.noServer && fitL [e.pol] && decide (e.ts.length ≤ 8) && e.ts.all Tk.fit
  else false
theorem form_parts (e : En) : e.form = (decide (0 ≤ e.cl ∧ e.cl < 16 ∧ 1 ≤ e.nu ∧ e.nu ≤ 1099511627776) && (fitI e.at_ && (fitI e.id && e.body))) := by
  unfold En.form En.ord En.body fitL
  simp [Bool.and_assoc]
theorem noguest_o (e : En) : decide (e.o = ({ e with pol := 0, ts := [] } : En).o) = e.noGuest := by
  unfold En.noGuest
  rw [← Bool.decide_and]
  refine decide_eq_decide.2 ((o_eq _ _).trans ⟨fun h => ⟨h.2.2.2.2.2.1, by rw [h.2.2.2.2.2.2.2]; rfl⟩, fun h => ⟨rfl, rfl, rfl, rfl, rfl, h.1, rfl, List.eq_nil_of_length_eq_zero h.2⟩⟩)
theorem nothing_o (e : En) : decide (e.o = ({ e with sk := 0, sq := 0, st := 0, pol := 0, ts := [] } : En).o) = (e.noGuest && e.noServer) := by
  unfold En.noGuest En.noServer
  rw [← Bool.decide_and, ← Bool.decide_and]
  refine decide_eq_decide.2 ((o_eq _ _).trans ⟨fun h => ⟨⟨h.2.2.2.2.2.1, by rw [h.2.2.2.2.2.2.2]; rfl⟩, h.2.2.1, h.2.2.2.1, h.2.2.2.2.1⟩, fun h => ⟨rfl, rfl, h.2.1, h.2.2.1, h.2.2.2, h.1.1, rfl, List.eq_nil_of_length_eq_zero h.1.2⟩⟩)
theorem noserver_o (e : En) : decide (e.o = ({ e with sk := 0, sq := 0, st := 0 } : En).o) = e.noServer := by
  unfold En.noServer
  refine decide_eq_decide.2 ((o_eq _ _).trans ⟨fun h => ⟨h.2.2.1, h.2.2.2.1, h.2.2.2.2.1⟩, fun h => ⟨rfl, rfl, h.1, h.2.1, h.2.2, rfl, rfl, rfl⟩⟩)
theorem form_head {e : En} (h : ¬ (0 ≤ e.cl ∧ e.cl < 16 ∧ 1 ≤ e.nu ∧ e.nu ≤ 1099511627776)) : e.form = false := by rw [form_parts, decide_eq_false h]; rfl
theorem form_at {e : En} (h : fitI e.at_ = false) : e.form = false := by rw [form_parts, h]; simp
theorem form_id {e : En} (h : fitI e.id = false) : e.form = false := by rw [form_parts, h]; simp
theorem form_body {e : En} (h : 0 ≤ e.cl ∧ e.cl < 16 ∧ 1 ≤ e.nu ∧ e.nu ≤ 1099511627776) (h1 : fitI e.at_ = true) (h2 : fitI e.id = true) : e.form = e.body := by rw [form_parts, decide_eq_true h, h1, h2]; rfl
set_option maxHeartbeats 6400000 in
theorem rform_any (e : En) (A : Option Addr) (n c : Nat) (w : World) (hs : EnS.Lies ⟨e, A, n, c⟩ w) (b : Bool) (hb : Hid (e.form = b)) : Calls Tryd.prog 27 #[.agg #[.int .i64 e.cl, .int .i64 e.nu, .int .i64 e.kd, .int .i64 e.id, .int .i64 e.sk, .int .i64 e.sq, .int .i64 e.st, .int .i64 e.pol, .slice A n c, .int .i64 e.at_]] w fun x w' => x = .returned (.bool b) ∧ Ext w w' := by
  have hsl : e.ts.length = n := hs.len
  have hle : n ≤ 4398046511104 := hs.le
  have HS := Lib.hid hs
  have X1 := (Ext.refl w).alloc (.cells #[.int .i64 e.cl, .int .i64 e.nu, .int .i64 e.kd, .int .i64 e.id, .int .i64 e.sk, .int .i64 e.sq, .int .i64 e.st, .int .i64 e.pol, .slice A n c, .int .i64 e.at_] 29)
  have X2 := X1.alloc (.cells #[.int .i64 e.kd, .int .i64 e.id, .int .i64 e.sk, .int .i64 e.sq, .int .i64 e.st, .int .i64 e.pol, .slice A n c, .int .i64 e.at_] 27)
  have b1 := heap_alloc_new w (.cells #[.int .i64 e.cl, .int .i64 e.nu, .int .i64 e.kd, .int .i64 e.id, .int .i64 e.sk, .int .i64 e.sq, .int .i64 e.st, .int .i64 e.pol, .slice A n c, .int .i64 e.at_] 29)
  have b2 := heap_alloc_new (w.alloc (.cells #[.int .i64 e.cl, .int .i64 e.nu, .int .i64 e.kd, .int .i64 e.id, .int .i64 e.sk, .int .i64 e.sq, .int .i64 e.st, .int .i64 e.pol, .slice A n c, .int .i64 e.at_] 29)) (.cells #[.int .i64 e.kd, .int .i64 e.id, .int .i64 e.sk, .int .i64 e.sq, .int .i64 e.st, .int .i64 e.pol, .slice A n c, .int .i64 e.at_] 27)
  rw [World.size_alloc] at b2
  have b3 := (((Ext.refl (w.alloc (.cells #[.int .i64 e.cl, .int .i64 e.nu, .int .i64 e.kd, .int .i64 e.id, .int .i64 e.sk, .int .i64 e.sq, .int .i64 e.st, .int .i64 e.pol, .slice A n c, .int .i64 e.at_] 29))).alloc (.cells #[.int .i64 e.kd, .int .i64 e.id, .int .i64 e.sk, .int .i64 e.sq, .int .i64 e.st, .int .i64 e.pol, .slice A n c, .int .i64 e.at_] 27)).block _ (block_lt b1)).trans b1
  have HV := Lib.hid (And.intro b3 (And.intro b2 X2))
  clear X1 X2 b1 b2 b3
  clear hs
  go_enter Tryd.func27, Tryd.ntmps27
  go_upto_region 2 with (fail)
  generalize (w.alloc (.cells #[.int .i64 e.cl, .int .i64 e.nu, .int .i64 e.kd, .int .i64 e.id, .int .i64 e.sk, .int .i64 e.sq, .int .i64 e.st, .int .i64 e.pol, .slice A n c, .int .i64 e.at_] 29)).alloc (.cells #[.int .i64 e.kd, .int .i64 e.id, .int .i64 e.sk, .int .i64 e.sq, .int .i64 e.st, .int .i64 e.pol, .slice A n c, .int .i64 e.at_] 27) = V at *
  generalize w.heap.size = ob at *
  have c0 : V.cell? ⟨ob, 0, none⟩ = some (.int .i64 e.cl) := block_cell (HV.out.1) 0
  have c1 : V.cell? ⟨ob, 1, none⟩ = some (.int .i64 e.nu) := block_cell (HV.out.1) 1
  have c2 : V.cell? ⟨ob, 2, none⟩ = some (.int .i64 e.kd) := block_cell (HV.out.1) 2
  have c3 : V.cell? ⟨ob, 3, none⟩ = some (.int .i64 e.id) := block_cell (HV.out.1) 3
  have c4 : V.cell? ⟨ob, 4, none⟩ = some (.int .i64 e.sk) := block_cell (HV.out.1) 4
  have c5 : V.cell? ⟨ob, 5, none⟩ = some (.int .i64 e.sq) := block_cell (HV.out.1) 5
  have c6 : V.cell? ⟨ob, 6, none⟩ = some (.int .i64 e.st) := block_cell (HV.out.1) 6
  have c7 : V.cell? ⟨ob, 7, none⟩ = some (.int .i64 e.pol) := block_cell (HV.out.1) 7
  have c8 : V.cell? ⟨ob, 8, none⟩ = some (.slice A n c) := block_cell (HV.out.1) 8
  have c9 : V.cell? ⟨ob, 9, none⟩ = some (.int .i64 e.at_) := block_cell (HV.out.1) 9
  have d0 : V.cell? ⟨ob + 1, 0, none⟩ = some (.int .i64 e.kd) := block_cell (HV.out.2.1) 0
  have d1 : V.cell? ⟨ob + 1, 1, none⟩ = some (.int .i64 e.id) := block_cell (HV.out.2.1) 1
  have d2 : V.cell? ⟨ob + 1, 2, none⟩ = some (.int .i64 e.sk) := block_cell (HV.out.2.1) 2
  have d3 : V.cell? ⟨ob + 1, 3, none⟩ = some (.int .i64 e.sq) := block_cell (HV.out.2.1) 3
  have d4 : V.cell? ⟨ob + 1, 4, none⟩ = some (.int .i64 e.st) := block_cell (HV.out.2.1) 4
  have d5 : V.cell? ⟨ob + 1, 5, none⟩ = some (.int .i64 e.pol) := block_cell (HV.out.2.1) 5
  have d6 : V.cell? ⟨ob + 1, 6, none⟩ = some (.slice A n c) := block_cell (HV.out.2.1) 6
  have d7 : V.cell? ⟨ob + 1, 7, none⟩ = some (.int .i64 e.at_) := block_cell (HV.out.2.1) 7
  by_cases g0 : e.cl < 0
  · obtain rfl : b = false := by rw [← hb.out]; exact form_head (fun h => by omega)
    go_wp2_with fail
    go_returns
    exact ⟨rfl, HV.out.2.2⟩
  by_cases g1 : 15 < e.cl
  · obtain rfl : b = false := by rw [← hb.out]; exact form_head (fun h => by omega)
    go_wp2_with fail
    go_returns
    exact ⟨rfl, HV.out.2.2⟩
  by_cases g2 : e.nu < 1
  · obtain rfl : b = false := by rw [← hb.out]; exact form_head (fun h => by omega)
    go_wp2_with fail
    go_returns
    exact ⟨rfl, HV.out.2.2⟩
  obtain ⟨bn, hbn⟩ : ∃ bn, fitI e.nu = bn := ⟨_, rfl⟩
  have HBn := Lib.hid hbn
  have On := Lib.hid (fun W => rok_any (e.nu) W bn HBn)
  clear hbn
  cases bn with
  | false =>
    obtain rfl : b = false := by rw [← hb.out]; exact form_head (fun h => by have := fitI_true.2 (show 0 ≤ e.nu ∧ e.nu ≤ 1099511627776 by omega); rw [HBn.out] at this; cases this)
    go_wp2_with (first | (go_at_call 56; ((with_reducible refine (On.out _).mono ?_); rintro x w1 ⟨rfl, rfl⟩)))
    go_returns
    exact ⟨rfl, HV.out.2.2⟩
  | true =>
    obtain ⟨ba, hba⟩ : ∃ ba, fitI e.at_ = ba := ⟨_, rfl⟩
    have HBa := Lib.hid hba
    have Oa := Lib.hid (fun W => rok_any (e.at_) W ba HBa)
    clear hba
    cases ba with
    | false =>
      obtain rfl : b = false := by rw [← hb.out]; exact form_at HBa.out
      go_wp2_with (first | (go_at_call 56; ((with_reducible refine (On.out _).mono ?_); rintro x w1 ⟨rfl, rfl⟩)) | (go_at_call 56; ((with_reducible refine (Oa.out _).mono ?_); rintro x w1 ⟨rfl, rfl⟩)))
      go_returns
      exact ⟨rfl, HV.out.2.2⟩
    | true =>
      obtain ⟨bi, hbi⟩ : ∃ bi, fitI e.id = bi := ⟨_, rfl⟩
      have HBi := Lib.hid hbi
      have Oi := Lib.hid (fun W => rok_any (e.id) W bi HBi)
      clear hbi
      cases bi with
      | false =>
        obtain rfl : b = false := by rw [← hb.out]; exact form_id HBi.out
        go_wp2_with (first | (go_at_call 56; ((with_reducible refine (On.out _).mono ?_); rintro x w1 ⟨rfl, rfl⟩)) | (go_at_call 56; ((with_reducible refine (Oa.out _).mono ?_); rintro x w1 ⟨rfl, rfl⟩)) | (go_at_call 56; ((with_reducible refine (Oi.out _).mono ?_); rintro x w1 ⟨rfl, rfl⟩)))
        go_returns
        exact ⟨rfl, HV.out.2.2⟩
      | true =>
        have hbo : Hid (e.body = b) := Lib.hid ((form_body (by have := fitI_true.1 HBn.out; omega) HBa.out HBi.out).symm.trans hb.out)
        clear hb
        have X2 := (Ext.refl V).alloc (.cells #[.int .i64 e.kd, .int .i64 e.id, .int .i64 0, .int .i64 0, .int .i64 0, .int .i64 0, .slice none 0 0, .int .i64 e.at_] 27)
        have H2 := Lib.hid (And.intro ((X2.block _ (block_lt HV.out.1)).trans HV.out.1) (And.intro ((X2.block _ (block_lt HV.out.2.1)).trans HV.out.2.1) (And.intro (heap_alloc_new V (.cells #[.int .i64 e.kd, .int .i64 e.id, .int .i64 0, .int .i64 0, .int .i64 0, .int .i64 0, .slice none 0 0, .int .i64 e.at_] 27)) (And.intro (HV.out.2.2.trans X2) (block_lt HV.out.2.1)))))
        clear X2
        go_upto_region 5 with (first | (go_at_call 56; ((with_reducible refine (On.out _).mono ?_); rintro x w1 ⟨rfl, rfl⟩)) | (go_at_call 56; ((with_reducible refine (Oa.out _).mono ?_); rintro x w1 ⟨rfl, rfl⟩)) | (go_at_call 56; ((with_reducible refine (Oi.out _).mono ?_); rintro x w1 ⟨rfl, rfl⟩)))
        clear On Oa Oi c0 c1 c2 c3 c4 c5 c6 c7 c8 c9 d0 d1 d2 d3 d4 d5 d6 d7
        generalize V.alloc (.cells #[.int .i64 e.kd, .int .i64 e.id, .int .i64 0, .int .i64 0, .int .i64 0, .int .i64 0, .slice none 0 0, .int .i64 e.at_] 27) = V2 at *
        have HW := Lib.hid HV.out.2.2.size
        generalize V.heap.size = zb at *
        have d0 : V2.cell? ⟨ob + 1, 0, none⟩ = some (.int .i64 e.kd) := block_cell (H2.out.2.1) 0
        have d1 : V2.cell? ⟨ob + 1, 1, none⟩ = some (.int .i64 e.id) := block_cell (H2.out.2.1) 1
        have d2 : V2.cell? ⟨ob + 1, 2, none⟩ = some (.int .i64 e.sk) := block_cell (H2.out.2.1) 2
        have d3 : V2.cell? ⟨ob + 1, 3, none⟩ = some (.int .i64 e.sq) := block_cell (H2.out.2.1) 3
        have d4 : V2.cell? ⟨ob + 1, 4, none⟩ = some (.int .i64 e.st) := block_cell (H2.out.2.1) 4
        have d5 : V2.cell? ⟨ob + 1, 5, none⟩ = some (.int .i64 e.pol) := block_cell (H2.out.2.1) 5
        have d6 : V2.cell? ⟨ob + 1, 6, none⟩ = some (.slice A n c) := block_cell (H2.out.2.1) 6
        have d7 : V2.cell? ⟨ob + 1, 7, none⟩ = some (.int .i64 e.at_) := block_cell (H2.out.2.1) 7
        by_cases k1 : e.kd = 1
        · have q1 : (e.kd == 1) = true := by simpa using k1
          have z2 : V2.cell? ⟨zb, 2, none⟩ = some (.int .i64 0) := block_cell H2.out.2.2.1 2
          have z3 : V2.cell? ⟨zb, 3, none⟩ = some (.int .i64 0) := block_cell H2.out.2.2.1 3
          have z4 : V2.cell? ⟨zb, 4, none⟩ = some (.int .i64 0) := block_cell H2.out.2.2.1 4
          have f2 := block_fz H2.out.2.2.1 2
          have f3 := block_fz H2.out.2.2.1 3
          have f4 := block_fz H2.out.2.2.1 4
          have hbe : b = (e.noGuest && fitL [e.sk, e.sq, e.st]) := by rw [← hbo.out]; unfold En.body; rw [if_pos (by omega)]
          have HBE := Lib.hid hbe
          clear hbe
          have hk1H := Lib.hid k1
          clear k1
          go_upto_region 11 with (fail)
          clear z2 z3 z4 f2 f3 f4 d0 d1 d2 d3 d4 d5 d6 d7
          have b1 : ((((V2.setCell ⟨zb, 2, none⟩ (.int .i64 e.sk)).setCell ⟨zb, 3, none⟩ (.int .i64 e.sq)).setCell ⟨zb, 4, none⟩ (.int .i64 e.st))).heap[zb]? = some (.cells #[.int .i64 e.kd, .int .i64 e.id, .int .i64 e.sk, .int .i64 e.sq, .int .i64 e.st, .int .i64 0, .slice none 0 0, .int .i64 e.at_] 27 (0, 0)) := heap_setCell_same _ zb 4 _ _ _ (heap_setCell_same _ zb 3 _ _ _ (heap_setCell_same _ zb 2 _ _ _ H2.out.2.2.1))
          have fr := ((Fr.store V2 ⟨zb, 2, none⟩ (.int .i64 e.sk)).trans (Fr.store _ ⟨zb, 3, none⟩ (.int .i64 e.sq)) (fun _ _ h => h)).trans (Fr.store _ ⟨zb, 4, none⟩ (.int .i64 e.st)) (fun _ _ h => h)
          have H3 := Lib.hid (And.intro b1 (And.intro ((fr.block (ob + 1) (block_lt H2.out.2.1) (by have := H2.out.2.2.2.2; show ob + 1 ≠ zb; omega)).trans H2.out.2.1) (Fr.ext H2.out.2.2.2.1 fr (fun i e => by have e : i = zb := e; have := HW.out; omega))))
          clear b1 fr
          generalize ((((V2.setCell ⟨zb, 2, none⟩ (.int .i64 e.sk)).setCell ⟨zb, 3, none⟩ (.int .i64 e.sq)).setCell ⟨zb, 4, none⟩ (.int .i64 e.st))) = V3 at *
          have d0 : V3.cell? ⟨ob + 1, 0, none⟩ = some (.int .i64 e.kd) := block_cell (H3.out.2.1) 0
          have d1 : V3.cell? ⟨ob + 1, 1, none⟩ = some (.int .i64 e.id) := block_cell (H3.out.2.1) 1
          have d2 : V3.cell? ⟨ob + 1, 2, none⟩ = some (.int .i64 e.sk) := block_cell (H3.out.2.1) 2
          have d3 : V3.cell? ⟨ob + 1, 3, none⟩ = some (.int .i64 e.sq) := block_cell (H3.out.2.1) 3
          have d4 : V3.cell? ⟨ob + 1, 4, none⟩ = some (.int .i64 e.st) := block_cell (H3.out.2.1) 4
          have d5 : V3.cell? ⟨ob + 1, 5, none⟩ = some (.int .i64 e.pol) := block_cell (H3.out.2.1) 5
          have d6 : V3.cell? ⟨ob + 1, 6, none⟩ = some (.slice A n c) := block_cell (H3.out.2.1) 6
          have d7 : V3.cell? ⟨ob + 1, 7, none⟩ = some (.int .i64 e.at_) := block_cell (H3.out.2.1) 7
          have z0 : V3.cell? ⟨zb, 0, none⟩ = some (.int .i64 e.kd) := block_cell (H3.out.1) 0
          have z1 : V3.cell? ⟨zb, 1, none⟩ = some (.int .i64 e.id) := block_cell (H3.out.1) 1
          have z2 : V3.cell? ⟨zb, 2, none⟩ = some (.int .i64 e.sk) := block_cell (H3.out.1) 2
          have z3 : V3.cell? ⟨zb, 3, none⟩ = some (.int .i64 e.sq) := block_cell (H3.out.1) 3
          have z4 : V3.cell? ⟨zb, 4, none⟩ = some (.int .i64 e.st) := block_cell (H3.out.1) 4
          have z5 : V3.cell? ⟨zb, 5, none⟩ = some (.int .i64 0) := block_cell (H3.out.1) 5
          have z6 : V3.cell? ⟨zb, 6, none⟩ = some (.slice none 0 0) := block_cell (H3.out.1) 6
          have z7 : V3.cell? ⟨zb, 7, none⟩ = some (.int .i64 e.at_) := block_cell (H3.out.1) 7
          obtain ⟨bk, hbk⟩ : ∃ bk, fitI e.sk = bk := ⟨_, rfl⟩
          have HBk := Lib.hid hbk
          have Ok := Lib.hid (fun W => rok_any (e.sk) W bk HBk)
          clear hbk
          cases bk with
          | false =>
            obtain rfl : b = false := by rw [HBE.out]; simp [fitL, HBk.out]
            go_wp2_with (first | (go_at_call 56; ((with_reducible refine (Ok.out _).mono ?_); rintro x w1 ⟨rfl, rfl⟩)))
            go_returns
            exact ⟨rfl, H3.out.2.2⟩
          | true =>
            obtain ⟨bq, hbq⟩ : ∃ bq, fitI e.sq = bq := ⟨_, rfl⟩
            have HBq := Lib.hid hbq
            have Oq := Lib.hid (fun W => rok_any (e.sq) W bq HBq)
            clear hbq
            cases bq with
            | false =>
              obtain rfl : b = false := by rw [HBE.out]; simp [fitL, HBq.out]
              go_wp2_with (first | (go_at_call 56; ((with_reducible refine (Ok.out _).mono ?_); rintro x w1 ⟨rfl, rfl⟩)) | (go_at_call 56; ((with_reducible refine (Oq.out _).mono ?_); rintro x w1 ⟨rfl, rfl⟩)))
              go_returns
              exact ⟨rfl, H3.out.2.2⟩
            | true =>
              obtain ⟨bt, hbt⟩ : ∃ bt, fitI e.st = bt := ⟨_, rfl⟩
              have HBt := Lib.hid hbt
              have Ot := Lib.hid (fun W => rok_any (e.st) W bt HBt)
              clear hbt
              cases bt with
              | false =>
                obtain rfl : b = false := by rw [HBE.out]; simp [fitL, HBt.out]
                go_wp2_with (first | (go_at_call 56; ((with_reducible refine (Ok.out _).mono ?_); rintro x w1 ⟨rfl, rfl⟩)) | (go_at_call 56; ((with_reducible refine (Oq.out _).mono ?_); rintro x w1 ⟨rfl, rfl⟩)) | (go_at_call 56; ((with_reducible refine (Ot.out _).mono ?_); rintro x w1 ⟨rfl, rfl⟩)))
                go_returns
                exact ⟨rfl, H3.out.2.2⟩
              | true =>
                have CO : Hid (Calls Tryd.prog 51 #[.agg #[.int .i64 e.kd, .int .i64 e.id, .int .i64 e.sk, .int .i64 e.sq, .int .i64 e.st, .int .i64 e.pol, .slice A n c, .int .i64 e.at_], .agg #[.int .i64 e.kd, .int .i64 e.id, .int .i64 e.sk, .int .i64 e.sq, .int .i64 e.st, .int .i64 0, .slice none 0 0, .int .i64 e.at_]] V3 fun x w' => x = .returned (.bool b) ∧ Ext V3 w') := Lib.hid (sameorder_any ⟨e, A, n, c⟩ ⟨{ e with pol := 0, ts := [] }, none, 0, 0⟩ V3 (HS.out.ext (H3.out.2.2)) ⟨Rd.nil_, by simp, by simp⟩ b (Lib.hid (by
                  rw [HBE.out]
                  have hf : fitL [e.sk, e.sq, e.st] = true := by simp [fitL, HBk.out, HBq.out, HBt.out]
                  rw [hf, Bool.and_true]
                  exact noguest_o e
                  )))
                skip
                go_wp2_with (first | (go_at_call 51; ((with_reducible refine CO.out.mono ?_); rintro x w2 ⟨rfl, x2⟩)) | (go_at_call 56; ((with_reducible refine (Ok.out _).mono ?_); rintro x w1 ⟨rfl, rfl⟩)) | (go_at_call 56; ((with_reducible refine (Oq.out _).mono ?_); rintro x w1 ⟨rfl, rfl⟩)) | (go_at_call 56; ((with_reducible refine (Ot.out _).mono ?_); rintro x w1 ⟨rfl, rfl⟩)))
                go_returns
                exact ⟨rfl, H3.out.2.2.trans x2⟩
        have q1 : (e.kd == 1) = false := by simpa using k1
        by_cases k2 : e.kd = 2
        · have q2 : (e.kd == 2) = true := by simpa using k2
          have z2 : V2.cell? ⟨zb, 2, none⟩ = some (.int .i64 0) := block_cell H2.out.2.2.1 2
          have z3 : V2.cell? ⟨zb, 3, none⟩ = some (.int .i64 0) := block_cell H2.out.2.2.1 3
          have z4 : V2.cell? ⟨zb, 4, none⟩ = some (.int .i64 0) := block_cell H2.out.2.2.1 4
          have f2 := block_fz H2.out.2.2.1 2
          have f3 := block_fz H2.out.2.2.1 3
          have f4 := block_fz H2.out.2.2.1 4
          have hbe : b = (e.noGuest && fitL [e.sk, e.sq, e.st]) := by rw [← hbo.out]; unfold En.body; rw [if_pos (by omega)]
          have HBE := Lib.hid hbe
          clear hbe
          have hk1H := Lib.hid k2
          clear k2
          go_upto_region 11 with (fail)
          clear z2 z3 z4 f2 f3 f4 d0 d1 d2 d3 d4 d5 d6 d7
          have b1 : ((((V2.setCell ⟨zb, 2, none⟩ (.int .i64 e.sk)).setCell ⟨zb, 3, none⟩ (.int .i64 e.sq)).setCell ⟨zb, 4, none⟩ (.int .i64 e.st))).heap[zb]? = some (.cells #[.int .i64 e.kd, .int .i64 e.id, .int .i64 e.sk, .int .i64 e.sq, .int .i64 e.st, .int .i64 0, .slice none 0 0, .int .i64 e.at_] 27 (0, 0)) := heap_setCell_same _ zb 4 _ _ _ (heap_setCell_same _ zb 3 _ _ _ (heap_setCell_same _ zb 2 _ _ _ H2.out.2.2.1))
          have fr := ((Fr.store V2 ⟨zb, 2, none⟩ (.int .i64 e.sk)).trans (Fr.store _ ⟨zb, 3, none⟩ (.int .i64 e.sq)) (fun _ _ h => h)).trans (Fr.store _ ⟨zb, 4, none⟩ (.int .i64 e.st)) (fun _ _ h => h)
          have H3 := Lib.hid (And.intro b1 (And.intro ((fr.block (ob + 1) (block_lt H2.out.2.1) (by have := H2.out.2.2.2.2; show ob + 1 ≠ zb; omega)).trans H2.out.2.1) (Fr.ext H2.out.2.2.2.1 fr (fun i e => by have e : i = zb := e; have := HW.out; omega))))
          clear b1 fr
          generalize ((((V2.setCell ⟨zb, 2, none⟩ (.int .i64 e.sk)).setCell ⟨zb, 3, none⟩ (.int .i64 e.sq)).setCell ⟨zb, 4, none⟩ (.int .i64 e.st))) = V3 at *
          have d0 : V3.cell? ⟨ob + 1, 0, none⟩ = some (.int .i64 e.kd) := block_cell (H3.out.2.1) 0
          have d1 : V3.cell? ⟨ob + 1, 1, none⟩ = some (.int .i64 e.id) := block_cell (H3.out.2.1) 1
          have d2 : V3.cell? ⟨ob + 1, 2, none⟩ = some (.int .i64 e.sk) := block_cell (H3.out.2.1) 2
          have d3 : V3.cell? ⟨ob + 1, 3, none⟩ = some (.int .i64 e.sq) := block_cell (H3.out.2.1) 3
          have d4 : V3.cell? ⟨ob + 1, 4, none⟩ = some (.int .i64 e.st) := block_cell (H3.out.2.1) 4
          have d5 : V3.cell? ⟨ob + 1, 5, none⟩ = some (.int .i64 e.pol) := block_cell (H3.out.2.1) 5
          have d6 : V3.cell? ⟨ob + 1, 6, none⟩ = some (.slice A n c) := block_cell (H3.out.2.1) 6
          have d7 : V3.cell? ⟨ob + 1, 7, none⟩ = some (.int .i64 e.at_) := block_cell (H3.out.2.1) 7
          have z0 : V3.cell? ⟨zb, 0, none⟩ = some (.int .i64 e.kd) := block_cell (H3.out.1) 0
          have z1 : V3.cell? ⟨zb, 1, none⟩ = some (.int .i64 e.id) := block_cell (H3.out.1) 1
          have z2 : V3.cell? ⟨zb, 2, none⟩ = some (.int .i64 e.sk) := block_cell (H3.out.1) 2
          have z3 : V3.cell? ⟨zb, 3, none⟩ = some (.int .i64 e.sq) := block_cell (H3.out.1) 3
          have z4 : V3.cell? ⟨zb, 4, none⟩ = some (.int .i64 e.st) := block_cell (H3.out.1) 4
          have z5 : V3.cell? ⟨zb, 5, none⟩ = some (.int .i64 0) := block_cell (H3.out.1) 5
          have z6 : V3.cell? ⟨zb, 6, none⟩ = some (.slice none 0 0) := block_cell (H3.out.1) 6
          have z7 : V3.cell? ⟨zb, 7, none⟩ = some (.int .i64 e.at_) := block_cell (H3.out.1) 7
          obtain ⟨bk, hbk⟩ : ∃ bk, fitI e.sk = bk := ⟨_, rfl⟩
          have HBk := Lib.hid hbk
          have Ok := Lib.hid (fun W => rok_any (e.sk) W bk HBk)
          clear hbk
          cases bk with
          | false =>
            obtain rfl : b = false := by rw [HBE.out]; simp [fitL, HBk.out]
            go_wp2_with (first | (go_at_call 56; ((with_reducible refine (Ok.out _).mono ?_); rintro x w1 ⟨rfl, rfl⟩)))
            go_returns
            exact ⟨rfl, H3.out.2.2⟩
          | true =>
            obtain ⟨bq, hbq⟩ : ∃ bq, fitI e.sq = bq := ⟨_, rfl⟩
            have HBq := Lib.hid hbq
            have Oq := Lib.hid (fun W => rok_any (e.sq) W bq HBq)
            clear hbq
            cases bq with
            | false =>
              obtain rfl : b = false := by rw [HBE.out]; simp [fitL, HBq.out]
              go_wp2_with (first | (go_at_call 56; ((with_reducible refine (Ok.out _).mono ?_); rintro x w1 ⟨rfl, rfl⟩)) | (go_at_call 56; ((with_reducible refine (Oq.out _).mono ?_); rintro x w1 ⟨rfl, rfl⟩)))
              go_returns
              exact ⟨rfl, H3.out.2.2⟩
            | true =>
              obtain ⟨bt, hbt⟩ : ∃ bt, fitI e.st = bt := ⟨_, rfl⟩
              have HBt := Lib.hid hbt
              have Ot := Lib.hid (fun W => rok_any (e.st) W bt HBt)
              clear hbt
              cases bt with
              | false =>
                obtain rfl : b = false := by rw [HBE.out]; simp [fitL, HBt.out]
                go_wp2_with (first | (go_at_call 56; ((with_reducible refine (Ok.out _).mono ?_); rintro x w1 ⟨rfl, rfl⟩)) | (go_at_call 56; ((with_reducible refine (Oq.out _).mono ?_); rintro x w1 ⟨rfl, rfl⟩)) | (go_at_call 56; ((with_reducible refine (Ot.out _).mono ?_); rintro x w1 ⟨rfl, rfl⟩)))
                go_returns
                exact ⟨rfl, H3.out.2.2⟩
              | true =>
                have CO : Hid (Calls Tryd.prog 51 #[.agg #[.int .i64 e.kd, .int .i64 e.id, .int .i64 e.sk, .int .i64 e.sq, .int .i64 e.st, .int .i64 e.pol, .slice A n c, .int .i64 e.at_], .agg #[.int .i64 e.kd, .int .i64 e.id, .int .i64 e.sk, .int .i64 e.sq, .int .i64 e.st, .int .i64 0, .slice none 0 0, .int .i64 e.at_]] V3 fun x w' => x = .returned (.bool b) ∧ Ext V3 w') := Lib.hid (sameorder_any ⟨e, A, n, c⟩ ⟨{ e with pol := 0, ts := [] }, none, 0, 0⟩ V3 (HS.out.ext (H3.out.2.2)) ⟨Rd.nil_, by simp, by simp⟩ b (Lib.hid (by
                  rw [HBE.out]
                  have hf : fitL [e.sk, e.sq, e.st] = true := by simp [fitL, HBk.out, HBq.out, HBt.out]
                  rw [hf, Bool.and_true]
                  exact noguest_o e
                  )))
                skip
                go_wp2_with (first | (go_at_call 51; ((with_reducible refine CO.out.mono ?_); rintro x w2 ⟨rfl, x2⟩)) | (go_at_call 56; ((with_reducible refine (Ok.out _).mono ?_); rintro x w1 ⟨rfl, rfl⟩)) | (go_at_call 56; ((with_reducible refine (Oq.out _).mono ?_); rintro x w1 ⟨rfl, rfl⟩)) | (go_at_call 56; ((with_reducible refine (Ot.out _).mono ?_); rintro x w1 ⟨rfl, rfl⟩)))
                go_returns
                exact ⟨rfl, H3.out.2.2.trans x2⟩
        have q2 : (e.kd == 2) = false := by simpa using k2
        by_cases k3 : e.kd = 3
        · have q3 : (e.kd == 3) = true := by simpa using k3
          have hbe : b = (e.noGuest && e.noServer) := by rw [← hbo.out]; unfold En.body; rw [if_neg (by omega), if_pos k3]
          have HBE := Lib.hid hbe
          clear hbe
          have hk1H := Lib.hid k3
          clear k3
          have z0 : V2.cell? ⟨zb, 0, none⟩ = some (.int .i64 e.kd) := block_cell (H2.out.2.2.1) 0
          have z1 : V2.cell? ⟨zb, 1, none⟩ = some (.int .i64 e.id) := block_cell (H2.out.2.2.1) 1
          have z2 : V2.cell? ⟨zb, 2, none⟩ = some (.int .i64 0) := block_cell (H2.out.2.2.1) 2
          have z3 : V2.cell? ⟨zb, 3, none⟩ = some (.int .i64 0) := block_cell (H2.out.2.2.1) 3
          have z4 : V2.cell? ⟨zb, 4, none⟩ = some (.int .i64 0) := block_cell (H2.out.2.2.1) 4
          have z5 : V2.cell? ⟨zb, 5, none⟩ = some (.int .i64 0) := block_cell (H2.out.2.2.1) 5
          have z6 : V2.cell? ⟨zb, 6, none⟩ = some (.slice none 0 0) := block_cell (H2.out.2.2.1) 6
          have z7 : V2.cell? ⟨zb, 7, none⟩ = some (.int .i64 e.at_) := block_cell (H2.out.2.2.1) 7
          have CO : Hid (Calls Tryd.prog 51 #[.agg #[.int .i64 e.kd, .int .i64 e.id, .int .i64 e.sk, .int .i64 e.sq, .int .i64 e.st, .int .i64 e.pol, .slice A n c, .int .i64 e.at_], .agg #[.int .i64 e.kd, .int .i64 e.id, .int .i64 0, .int .i64 0, .int .i64 0, .int .i64 0, .slice none 0 0, .int .i64 e.at_]] V2 fun x w' => x = .returned (.bool b) ∧ Ext V2 w') := Lib.hid (sameorder_any ⟨e, A, n, c⟩ ⟨{ e with sk := 0, sq := 0, st := 0, pol := 0, ts := [] }, none, 0, 0⟩ V2 (HS.out.ext (H2.out.2.2.2.1)) ⟨Rd.nil_, by simp, by simp⟩ b (Lib.hid (by
            rw [HBE.out]
            exact nothing_o e
            )))
          go_wp2_with (first | (go_at_call 51; ((with_reducible refine CO.out.mono ?_); rintro x w2 ⟨rfl, x2⟩)))
          go_returns
          exact ⟨rfl, H2.out.2.2.2.1.trans x2⟩
        have q3 : (e.kd == 3) = false := by simpa using k3
        by_cases k4 : e.kd = 4
        rotate_left 1
        · have q4 : (e.kd == 4) = false := by simpa using k4
          obtain rfl : b = false := by rw [← hbo.out]; unfold En.body; rw [if_neg (by omega), if_neg k3, if_neg k4]
          go_wp2_with fail
          go_returns
          exact ⟨rfl, H2.out.2.2.2.1⟩
        have q4 : (e.kd == 4) = true := by simpa using k4
        have hbe : b = (e.noServer && fitL [e.pol] && decide (e.ts.length ≤ 8) && e.ts.all Tk.fit) := by rw [← hbo.out]; unfold En.body; rw [if_neg (by omega), if_neg k3, if_pos k4]
        have HBE := Lib.hid hbe
        clear hbe
        have hk1H := Lib.hid k4
        clear k4
        have z5 : V2.cell? ⟨zb, 5, none⟩ = some (.int .i64 0) := block_cell H2.out.2.2.1 5
        have z6 : V2.cell? ⟨zb, 6, none⟩ = some (.slice none 0 0) := block_cell H2.out.2.2.1 6
        have f5 := block_fz H2.out.2.2.1 5
        have f6 := block_fz H2.out.2.2.1 6
        have hne : zb ≠ ob + 1 := by have := H2.out.2.2.2.2; omega
        go_upto_region 14 with (fail)
        go_region
        clear hne z5 z6 f5 f6 d0 d1 d2 d3 d4 d5 d6 d7
        have b1 : (((V2.setCell ⟨zb, 5, none⟩ (.int .i64 e.pol)).setCell ⟨zb, 6, none⟩ (.slice A n c)).drew).heap[zb]? = some (.cells #[.int .i64 e.kd, .int .i64 e.id, .int .i64 0, .int .i64 0, .int .i64 0, .int .i64 e.pol, .slice A n c, .int .i64 e.at_] 27 (0, 0)) := heap_setCell_same _ zb 6 _ _ _ (heap_setCell_same _ zb 5 _ _ _ H2.out.2.2.1)
        have fr := ((Fr.store V2 ⟨zb, 5, none⟩ (.int .i64 e.pol)).trans (Fr.store _ ⟨zb, 6, none⟩ (.slice A n c)) (fun _ _ h => h)).drew
        have H3 := Lib.hid (And.intro b1 (And.intro ((fr.block (ob + 1) (block_lt H2.out.2.1) (by have := H2.out.2.2.2.2; show ob + 1 ≠ zb; omega)).trans H2.out.2.1) (Fr.ext H2.out.2.2.2.1 fr (fun i e => by have e : i = zb := e; have := HW.out; omega))))
        clear b1 fr
        generalize ((V2.setCell ⟨zb, 5, none⟩ (.int .i64 e.pol)).setCell ⟨zb, 6, none⟩ (.slice A n c)).drew = V3 at *
        have d0 : V3.cell? ⟨ob + 1, 0, none⟩ = some (.int .i64 e.kd) := block_cell (H3.out.2.1) 0
        have d1 : V3.cell? ⟨ob + 1, 1, none⟩ = some (.int .i64 e.id) := block_cell (H3.out.2.1) 1
        have d2 : V3.cell? ⟨ob + 1, 2, none⟩ = some (.int .i64 e.sk) := block_cell (H3.out.2.1) 2
        have d3 : V3.cell? ⟨ob + 1, 3, none⟩ = some (.int .i64 e.sq) := block_cell (H3.out.2.1) 3
        have d4 : V3.cell? ⟨ob + 1, 4, none⟩ = some (.int .i64 e.st) := block_cell (H3.out.2.1) 4
        have d5 : V3.cell? ⟨ob + 1, 5, none⟩ = some (.int .i64 e.pol) := block_cell (H3.out.2.1) 5
        have d6 : V3.cell? ⟨ob + 1, 6, none⟩ = some (.slice A n c) := block_cell (H3.out.2.1) 6
        have d7 : V3.cell? ⟨ob + 1, 7, none⟩ = some (.int .i64 e.at_) := block_cell (H3.out.2.1) 7
        obtain ⟨bp, hbp⟩ : ∃ bp, fitI e.pol = bp := ⟨_, rfl⟩
        have HBp := Lib.hid hbp
        have Op := Lib.hid (fun W => rok_any (e.pol) W bp HBp)
        clear hbp
        have n8 : decide ((n : Int) ≤ 8) = decide (n ≤ 8) := decide_eq_decide.2 (by omega)
        obtain ⟨f8, hf8⟩ : ∃ f8, decide (n ≤ 8) = f8 := ⟨_, rfl⟩
        have HF8 := Lib.hid hf8
        rw [hf8] at n8
        clear hf8
        go_upto_region 15 with (fail)
        go_cut [5] from 76 (fun v wx => ∃ f : Bool, v = .bool f ∧ Hid (f = (bp && f8)) ∧ wx = V3)
        case first =>
          cases bp with
          | false =>
            go_wp2_with (first | (go_at_call 56; ((with_reducible refine (Op.out _).mono ?_); rintro x w1 ⟨rfl, rfl⟩)))
            go_meet
            case rel => exact ⟨false, rfl, Lib.hid rfl, rfl⟩
          | true =>
            cases f8 with
            | false =>
              go_wp2_with (first | (go_at_call 56; ((with_reducible refine (Op.out _).mono ?_); rintro x w1 ⟨rfl, rfl⟩)))
              go_meet
              case rel => exact ⟨false, rfl, Lib.hid rfl, rfl⟩
            | true =>
              go_wp2_with (first | (go_at_call 56; ((with_reducible refine (Op.out _).mono ?_); rintro x w1 ⟨rfl, rfl⟩)))
              go_meet
              case rel => exact ⟨true, rfl, Lib.hid rfl, rfl⟩
        case rest =>
          obtain ⟨f, rfl, HF, rfl⟩ := hcut
          clear n8 Op
          have d6 : wc.cell? ⟨ob + 1, 6, none⟩ = some (.slice A n c) := block_cell H3.out.2.1 6
          go_upto_region 17 with (fail)
          clear d0 d1 d2 d3 d4 d5 d6 d7
          go_loopw [5, 7, 94] (fun v5 _ v94 wr => ∃ (k : Nat) (g : Bool), v94 = .int .i64 (k : Int) ∧ v5 = .bool g ∧ k ≤ n ∧ Hid (g = (f && (e.ts.take k).all Tk.fit) ∧ Ext wc wr)) (fun _ _ v94 _ => n - (intOf v94).toNat)
          case atStart => exact ⟨0, f, rfl, rfl, by omega, by simp, Ext.refl wc⟩
          case round =>
            obtain ⟨k, g, rfl, rfl, hk, HI⟩ := hrel
            by_cases hlt : k < n
            · obtain ⟨x, hx⟩ : ∃ x, e.ts[k]? = some x := ⟨e.ts[k]'(by omega), List.getElem?_eq_getElem _⟩
              obtain ⟨k4, hk4⟩ : ∃ k4, k * 4 = k4 := ⟨_, rfl⟩
              obtain ⟨ad, rfl, y0, y1, y2, y3⟩ := (HS.out.rd.ext (H3.out.2.2.trans HI.out.2)).task hx hk4
              have k0 : (0 : Int) ≤ k := by omega
              have k1 : (k : Int) < n := by omega
              have HX := Lib.hid hx
              have X5 := (Ext.refl wr).alloc (.cells #[.int .i64 x.C, .int .i64 x.P, .int .i64 x.D, .int .i64 x.S] 47)
              have H5 := Lib.hid (And.intro (heap_alloc_new wr (.cells #[.int .i64 x.C, .int .i64 x.P, .int .i64 x.D, .int .i64 x.S] 47)) (HI.out.2.trans X5))
              clear hx X5
              go_upto_region 19 with (fail)
              generalize wr.alloc (.cells #[.int .i64 x.C, .int .i64 x.P, .int .i64 x.D, .int .i64 x.S] 47) = V5 at *
              generalize wr.heap.size = tb at *
              clear y0 y1 y2 y3
              have c0 : V5.cell? ⟨tb, 0, none⟩ = some (.int .i64 x.C) := block_cell H5.out.1 0
              have c1 : V5.cell? ⟨tb, 1, none⟩ = some (.int .i64 x.P) := block_cell H5.out.1 1
              have c2 : V5.cell? ⟨tb, 2, none⟩ = some (.int .i64 x.D) := block_cell H5.out.1 2
              have c3 : V5.cell? ⟨tb, 3, none⟩ = some (.int .i64 x.S) := block_cell H5.out.1 3
              have HG := Lib.hid (show (f && (e.ts.take (k + 1)).all Tk.fit) = (g && x.fit) by rw [take_succ' HX.out, List.all_append, HI.out.1]; simp [Bool.and_assoc])
              have HT := Lib.hid (show x.fit = (fitI x.C && (fitI x.P && (fitI x.D && fitI x.S))) by simp [Tk.fit, Tk.ns, fitL, Bool.and_assoc])
              obtain ⟨bC, hbC⟩ : ∃ bC, fitI x.C = bC := ⟨_, rfl⟩
              have HBC := Lib.hid hbC
              have OC := Lib.hid (fun W => rok_any (x.C) W bC HBC)
              clear hbC
              obtain ⟨bP, hbP⟩ : ∃ bP, fitI x.P = bP := ⟨_, rfl⟩
              have HBP := Lib.hid hbP
              have OP := Lib.hid (fun W => rok_any (x.P) W bP HBP)
              clear hbP
              obtain ⟨bD, hbD⟩ : ∃ bD, fitI x.D = bD := ⟨_, rfl⟩
              have HBD := Lib.hid hbD
              have OD := Lib.hid (fun W => rok_any (x.D) W bD HBD)
              clear hbD
              obtain ⟨bS, hbS⟩ : ∃ bS, fitI x.S = bS := ⟨_, rfl⟩
              have HBS := Lib.hid hbS
              have OS := Lib.hid (fun W => rok_any (x.S) W bS HBS)
              clear hbS
              cases g with
              | false =>
                go_wp2_with (first | (go_at_call 56; ((with_reducible refine (OC.out _).mono ?_); rintro x w1 ⟨rfl, rfl⟩)) | (go_at_call 56; ((with_reducible refine (OP.out _).mono ?_); rintro x w1 ⟨rfl, rfl⟩)) | (go_at_call 56; ((with_reducible refine (OD.out _).mono ?_); rintro x w1 ⟨rfl, rfl⟩)) | (go_at_call 56; ((with_reducible refine (OS.out _).mono ?_); rintro x w1 ⟨rfl, rfl⟩)))
                go_roundw
                case rel => exact ⟨k + 1, false, by go_num, rfl, by omega, by rw [HG.out]; rfl, H5.out.2⟩
                case measure => simp [intOf]; omega
              | true =>
                cases bC with
                | false =>
                  go_wp2_with (first | (go_at_call 56; ((with_reducible refine (OC.out _).mono ?_); rintro x w1 ⟨rfl, rfl⟩)) | (go_at_call 56; ((with_reducible refine (OP.out _).mono ?_); rintro x w1 ⟨rfl, rfl⟩)) | (go_at_call 56; ((with_reducible refine (OD.out _).mono ?_); rintro x w1 ⟨rfl, rfl⟩)) | (go_at_call 56; ((with_reducible refine (OS.out _).mono ?_); rintro x w1 ⟨rfl, rfl⟩)))
                  go_roundw
                  case rel => exact ⟨k + 1, false, by go_num, rfl, by omega, by rw [HG.out, HT.out, HBC.out]; rfl, H5.out.2⟩
                  case measure => simp [intOf]; omega
                | true =>
                  cases bP with
                  | false =>
                    go_wp2_with (first | (go_at_call 56; ((with_reducible refine (OC.out _).mono ?_); rintro x w1 ⟨rfl, rfl⟩)) | (go_at_call 56; ((with_reducible refine (OP.out _).mono ?_); rintro x w1 ⟨rfl, rfl⟩)) | (go_at_call 56; ((with_reducible refine (OD.out _).mono ?_); rintro x w1 ⟨rfl, rfl⟩)) | (go_at_call 56; ((with_reducible refine (OS.out _).mono ?_); rintro x w1 ⟨rfl, rfl⟩)))
                    go_roundw
                    case rel => exact ⟨k + 1, false, by go_num, rfl, by omega, by rw [HG.out, HT.out, HBC.out, HBP.out]; rfl, H5.out.2⟩
                    case measure => simp [intOf]; omega
                  | true =>
                    cases bD with
                    | false =>
                      go_wp2_with (first | (go_at_call 56; ((with_reducible refine (OC.out _).mono ?_); rintro x w1 ⟨rfl, rfl⟩)) | (go_at_call 56; ((with_reducible refine (OP.out _).mono ?_); rintro x w1 ⟨rfl, rfl⟩)) | (go_at_call 56; ((with_reducible refine (OD.out _).mono ?_); rintro x w1 ⟨rfl, rfl⟩)) | (go_at_call 56; ((with_reducible refine (OS.out _).mono ?_); rintro x w1 ⟨rfl, rfl⟩)))
                      go_roundw
                      case rel => exact ⟨k + 1, false, by go_num, rfl, by omega, by rw [HG.out, HT.out, HBC.out, HBP.out, HBD.out]; rfl, H5.out.2⟩
                      case measure => simp [intOf]; omega
                    | true =>
                      cases bS with
                      | false =>
                        go_wp2_with (first | (go_at_call 56; ((with_reducible refine (OC.out _).mono ?_); rintro x w1 ⟨rfl, rfl⟩)) | (go_at_call 56; ((with_reducible refine (OP.out _).mono ?_); rintro x w1 ⟨rfl, rfl⟩)) | (go_at_call 56; ((with_reducible refine (OD.out _).mono ?_); rintro x w1 ⟨rfl, rfl⟩)) | (go_at_call 56; ((with_reducible refine (OS.out _).mono ?_); rintro x w1 ⟨rfl, rfl⟩)))
                        go_roundw
                        case rel => exact ⟨k + 1, false, by go_num, rfl, by omega, by rw [HG.out, HT.out, HBC.out, HBP.out, HBD.out, HBS.out]; rfl, H5.out.2⟩
                        case measure => simp [intOf]; omega
                      | true =>
                        go_wp2_with (first | (go_at_call 56; ((with_reducible refine (OC.out _).mono ?_); rintro x w1 ⟨rfl, rfl⟩)) | (go_at_call 56; ((with_reducible refine (OP.out _).mono ?_); rintro x w1 ⟨rfl, rfl⟩)) | (go_at_call 56; ((with_reducible refine (OD.out _).mono ?_); rintro x w1 ⟨rfl, rfl⟩)) | (go_at_call 56; ((with_reducible refine (OS.out _).mono ?_); rintro x w1 ⟨rfl, rfl⟩)))
                        go_roundw
                        case rel => exact ⟨k + 1, true, by go_num, rfl, by omega, by rw [HG.out, HT.out, HBC.out, HBP.out, HBD.out, HBS.out]; rfl, H5.out.2⟩
                        case measure => simp [intOf]; omega
            · have hkn : k = n := by omega
              have HG : Hid (b = (e.noServer && g)) := Lib.hid (by
                rw [HBE.out, HI.out.1, HF.out, List.take_of_length_le (by omega), hsl, HF8.out]
                have hp : fitL [e.pol] = bp := by simp [fitL, HBp.out]
                rw [hp]
                cases e.noServer <;> cases bp <;> cases f8 <;> rfl)
              have hb1 : wr.heap[ob + 1]? = _ := (HI.out.2.block _ (block_lt H3.out.2.1)).trans H3.out.2.1
              have hb2 : wr.heap[zb]? = _ := (HI.out.2.block _ (block_lt H3.out.1)).trans H3.out.1
              have d0 : wr.cell? ⟨ob + 1, 0, none⟩ = some (.int .i64 e.kd) := block_cell (hb1) 0
              have d1 : wr.cell? ⟨ob + 1, 1, none⟩ = some (.int .i64 e.id) := block_cell (hb1) 1
              have d2 : wr.cell? ⟨ob + 1, 2, none⟩ = some (.int .i64 e.sk) := block_cell (hb1) 2
              have d3 : wr.cell? ⟨ob + 1, 3, none⟩ = some (.int .i64 e.sq) := block_cell (hb1) 3
              have d4 : wr.cell? ⟨ob + 1, 4, none⟩ = some (.int .i64 e.st) := block_cell (hb1) 4
              have d5 : wr.cell? ⟨ob + 1, 5, none⟩ = some (.int .i64 e.pol) := block_cell (hb1) 5
              have d6 : wr.cell? ⟨ob + 1, 6, none⟩ = some (.slice A n c) := block_cell (hb1) 6
              have d7 : wr.cell? ⟨ob + 1, 7, none⟩ = some (.int .i64 e.at_) := block_cell (hb1) 7
              have z0 : wr.cell? ⟨zb, 0, none⟩ = some (.int .i64 e.kd) := block_cell (hb2) 0
              have z1 : wr.cell? ⟨zb, 1, none⟩ = some (.int .i64 e.id) := block_cell (hb2) 1
              have z2 : wr.cell? ⟨zb, 2, none⟩ = some (.int .i64 0) := block_cell (hb2) 2
              have z3 : wr.cell? ⟨zb, 3, none⟩ = some (.int .i64 0) := block_cell (hb2) 3
              have z4 : wr.cell? ⟨zb, 4, none⟩ = some (.int .i64 0) := block_cell (hb2) 4
              have z5 : wr.cell? ⟨zb, 5, none⟩ = some (.int .i64 e.pol) := block_cell (hb2) 5
              have z6 : wr.cell? ⟨zb, 6, none⟩ = some (.slice A n c) := block_cell (hb2) 6
              have z7 : wr.cell? ⟨zb, 7, none⟩ = some (.int .i64 e.at_) := block_cell (hb2) 7
              have HX := Lib.hid (H3.out.2.2.trans HI.out.2)
              clear hb1 hb2 hkn
              have CO : Hid (Calls Tryd.prog 51 #[.agg #[.int .i64 e.kd, .int .i64 e.id, .int .i64 e.sk, .int .i64 e.sq, .int .i64 e.st, .int .i64 e.pol, .slice A n c, .int .i64 e.at_], .agg #[.int .i64 e.kd, .int .i64 e.id, .int .i64 0, .int .i64 0, .int .i64 0, .int .i64 e.pol, .slice A n c, .int .i64 e.at_]] wr fun x w' => x = .returned (.bool e.noServer) ∧ Ext wr w') := Lib.hid (sameorder_any ⟨e, A, n, c⟩ ⟨{ e with sk := 0, sq := 0, st := 0 }, A, n, c⟩ wr (HS.out.ext (HX.out)) ⟨(HS.out.ext HX.out).rd, HS.out.le, HS.out.cap⟩ e.noServer (Lib.hid (by
                exact noserver_o e
                )))
              cases g with
              | false =>
                obtain rfl : b = false := by rw [HG.out]; simp
                go_wp2_with fail
                go_returns
                exact ⟨rfl, HX.out⟩
              | true =>
                obtain rfl : b = e.noServer := by rw [HG.out]; simp
                go_wp2_with (first | (go_at_call 51; ((with_reducible refine CO.out.mono ?_); rintro x w2 ⟨rfl, x2⟩)))
                go_returns
                exact ⟨rfl, HX.out.trans x2⟩
end Go.Proofs.YteflnnlihblpgaaDoor
