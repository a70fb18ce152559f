/-
  Messages, plain: what bytes are a message's; what Get answers.
-/
import Derived.Test.YteflnnlihblpgaaDoorMgNetPutsProof15
import Derived.Handy
import Derived.Laws.BitsAllLaws
import Derived.Deep.Cut
import Derived.Deep.RegionHeld3
namespace Go.Proofs.YteflnnlihblpgaaDoor
set_option maxRecDepth 100000
open Go.RowKit
set_option linter.unusedVariables false
/-- What Read answers: the ledger whose bytes they are, or an error. -/
def ReadOut (l : List Nat) (base : Nat) (bad good : Value) (x : Ending) (w' : World) : Prop :=
  (∃ (ss : List EnS) (B : Option Addr) (n d : Nat), ss.length = n ∧ GoodL (ents ss) ∧ l = putL (ents ss) ∧ x = .returned (.tuple #[.slice B n d, good]) ∧ OLed w' base B n d ss) ∨
  ((∀ fs, GoodL fs → l ≠ putL fs) ∧ x = .returned (.tuple #[.slice none 0 0, bad]))
/-- Another block is written. -/
theorem OLed.fr {w w' : World} {base m d q : Nat} {B : Option Addr} {ss : List EnS} (h : OLed w base B m d ss) (hf : Fr w w' (· = q)) {cs : Array Value} {t : TypeId} {fr : Nat × Nat} (hq : w.heap[q]? = some (.cells cs t fr)) (h1 : 29 ≠ t) (h2 : 47 ≠ t) : OLed w' base B m d ss :=
  ⟨hf.own h.own (fun a ha e => h.own.away_t hq h1 a ha e), fun s hs => by
    have h3 : Own w' base 47 4 s.A s.n s.c (trows s.e.ts).flatten := hf.own (h.all s hs).2 (fun a ha e => ((h.all s hs).2 : Own ..).away_t hq h2 a ha e)
    exact ⟨⟨h3.rd, (h.all s hs).1.le, (h.all s hs).1.cap⟩, h3⟩⟩
/-- The reader on its way through a ledger. -/
structure RL (w wr : World) (g : Nat) (A : Option Addr) (n c at_ : Nat) (l : List Nat) (N : Nat) (B : Option Addr) (k d : Nat) (tt : List EnS) : Prop where
  rs : RdS wr g A n c at_ l
  ol : OLed wr w.heap.size B k d tt
  len : tt.length = k
  x : Ext w wr
  lo : w.heap.size ≤ g
  nB : 0 < n → ∀ a b, A = some a → B = some b → a.block ≠ b.block
  p : PartL l at_ N (ents tt)
section
variable {w wr w' : World} {g n c at_ N k d : Nat} {A B : Option Addr} {l : List Nat} {tt : List EnS}
theorem RL.ext (h : RL w wr g A n c at_ l N B k d tt) (hx : Ext wr w') : RL w w' g A n c at_ l N B k d tt :=
  ⟨h.rs.ext hx, h.ol.ext hx, h.len, h.x.trans hx, h.lo, h.nB, h.p⟩
/-- The state but for the bytes' part. -/
structure RL0 (w wr : World) (g : Nat) (A : Option Addr) (n c at_ : Nat) (l : List Nat) (B : Option Addr) (k d : Nat) (tt : List EnS) : Prop where
  rs : RdS wr g A n c at_ l
  ol : OLed wr w.heap.size B k d tt
  len : tt.length = k
  x : Ext w wr
  lo : w.heap.size ≤ g
  nB : 0 < n → ∀ a b, A = some a → B = some b → a.block ≠ b.block
theorem rl_app (h : RL0 w wr g A n c at_ l B k d tt) (hg : Grows wr w' B) {x : EnS} (hx : x.Lies wr) (hm : x.Mine w.heap.size wr) {B' : Option Addr} {d' : Nat} (ho : Own w' w.heap.size 29 10 B' (k + 1) d' ((erows tt).flatten ++ x.vals)) (hB : B' = B ∨ B' = some ⟨wr.heap.size, 0, none⟩) (hp : PartL l at_ N (ents tt ++ [x.e])) : RL w w' g A n c at_ l N B' (k + 1) d' (tt ++ [x]) := by
  have f1 := Fr.grows hg
  have nof : ∀ {q : Nat}, (∀ b, B = some b → b.block ≠ q) → ¬ B.map (·.block) = some q := fun hq e => by
    cases B with
    | none => cases e
    | some b => exact hq b rfl (by simpa using e)
  refine ⟨h.rs.frm f1 (nof (h.ol.own.away_t h.rs.blk (by decide))) (fun h0 a ha => nof (fun b hb e => h.nB h0 a b ha hb e.symm)), h.ol.snoc hg hx hm ho, by rw [List.length_append, h.len]; rfl, hg.ext h.x (fun q hq => h.ol.own.base_le q hq), h.lo, fun h0 a b ha hb => ?_, by rw [show ents (tt ++ [x]) = ents tt ++ [x.e] by simp [ents]]; exact hp⟩
  rcases hB with e | e
  · rw [e] at hb; exact h.nB h0 a b ha hb
  · rw [e] at hb
    injection hb with hb
    subst hb
    obtain ⟨a', ha', hlt, _⟩ := h.rs.rd.2 h0
    rw [ha] at ha'
    injection ha' with ha'
    subst ha'
    show a.block ≠ wr.heap.size
    omega
end
set_option maxHeartbeats 6400000 in
theorem readl_any (A : Option Addr) (n c : Nat) (l : List Nat) (w : World) (hr : Rd w 1 A n (u8s l)) (hl : ∀ x ∈ l, x < 256) (hn : n ≤ 140737488351232) {pb ps : Addr} (hB : Sen w 2 pb) (hS : Sen w 1 ps) : Calls Tryd.prog 32 #[.slice A n c] w fun x w' => ReadOut l w.heap.size (.iface 149 (.pointer (some pb))) .nilIface x w' ∧ Ext w w' := by
  have HSE := Lib.hid (fun W (hx : Ext w W) => And.intro (hB.ext hx) (hS.ext hx))
  have hnl := hr.len
  rw [u8s_len] at hnl
  have CR := Lib.hid (newr_any A n c l w hr hl hn)
  have HLB := Lib.hid hl
  clear hr hB hS hl
  go_enter Tryd.func32, Tryd.ntmps32
  go_upto_region 2 with (go_at_call 57; refine CR.out.mono ?_; rintro e w1 ⟨g, A1, c1, rfl, hg1, rs1, nA1, x1⟩)
  have HR1 := Lib.hid (And.intro rs1 (And.intro hg1 x1))
  clear CR rs1 nA1 hg1 x1
  by_cases hok : ∃ x k', Wr.rd (l.drop 0) = some (x, k') ∧ x ≤ 64
  rotate_left 1
  · have hno : ∀ x k', Wr.rd (l.drop 0) = some (x, k') → (64 : Int) < (x : Int) := fun x k' hr => by
      rcases Nat.lt_or_ge 64 x with h | h
      · omega
      · exact absurd ⟨x, k', hr, h⟩ hok
    have CN := Lib.hid (rnum_no HR1.out.1 64 hno (HSE.out w1 HR1.out.2.2).1)
    have HNO := Lib.hid (fun fs (hf : GoodL fs) => no_start (l := l) hno hf)
    clear hok hno
    unfold BytesNo at CN
    go_wp2_with (go_at_call 58; refine CN.out.mono ?_; rintro e w4 ⟨rfl, j, rfl⟩)
    go_returns
    exact ⟨.inr ⟨HNO.out, rfl⟩, HR1.out.2.2.drewN j⟩
  obtain ⟨N, k', hrd, hx⟩ := hok
  have CN := Lib.hid (rnum_ok HR1.out.1 hrd 64 (by omega))
  have hkb := Wr.rd_count hrd
  rw [List.length_drop] at hkb
  have f1 := Fr.store w1 ⟨g, 1, none⟩ (.int .i64 ((0 + k' : Nat) : Int))
  have HP : Hid (RL w (w1.setCell ⟨g, 1, none⟩ (.int .i64 ((0 + k' : Nat) : Int))) g A1 n c1 (0 + k') l N none 0 0 []) := Lib.hid ⟨HR1.out.1.put (0 + k') (by omega), OLed.nil_, rfl, Fr.ext HR1.out.2.2 f1 (fun i e => by have e : i = g := e; have := HR1.out.2.1; omega), HR1.out.2.1, fun _ _ _ _ hb => (by cases hb), PartL.start HLB.out hrd hx⟩
  clear hrd hkb f1 HR1
  obtain ⟨p, hp⟩ : ∃ p, 0 + k' = p := ⟨_, rfl⟩
  rw [hp] at CN HP
  clear hp
  go_upto_region 7 with (go_at_call 58; refine CN.out.mono ?_; rintro e w4 ⟨rfl, rfl⟩)
  generalize w1.setCell ⟨g, 1, none⟩ (.int .i64 (p : Int)) = W1 at *
  clear CN
  go_loopw [7, 8, 9, 10, 23] (fun v7 _ _ _ v23 wr => ∃ (k at_ d : Nat) (B : Option Addr) (tt : List EnS), v23 = .int .i64 (k : Int) ∧ v7 = .slice B k d ∧ k ≤ N ∧ Hid (RL w wr g A1 n c1 at_ l N B k d tt)) (fun _ _ _ _ v23 _ => N - (intOf v23).toNat)
  case atStart => exact ⟨0, p, 0, none, [], rfl, rfl, by omega, HP.out⟩
  case round =>
    obtain ⟨k, at_, d, B, tt, rfl, rfl, hk, HI⟩ := hrel
    clear HP
    by_cases hlt : k < N
    · have k0 : (0 : Int) ≤ k := by omega
      have k1 : (k : Int) < N := by omega
      by_cases hok : ∃ x k', Wr.rd (l.drop at_) = some (x, k') ∧ x ≤ n ∧ at_ + k' + x ≤ n
      rotate_left 1
      · have hno : ∀ x k', Wr.rd (l.drop at_) = some (x, k') → (n : Int) < (x : Int) ∨ n < at_ + k' + x := fun x k' hr => by
          rcases Nat.lt_or_ge n x with h | h
          · exact .inl (by omega)
          · rcases Nat.lt_or_ge n (at_ + k' + x) with h2 | h2
            · exact .inr h2
            · exact absurd ⟨x, k', hr, h, h2⟩ hok
        have CB := Lib.hid (rbytes_no HI.out.rs (n : Int) hno (HSE.out wr HI.out.x).1)
        have HNO := Lib.hid (fun fs (hf : GoodL fs) => HI.out.p.no_rec (by rw [ents_len, HI.out.len]; exact hlt) (by rw [hnl]; exact hno) hf)
        clear hok hno
        unfold BytesNo at CB
        go_wp2_with (go_at_call 62; refine CB.out.mono ?_; rintro e w4 ⟨rfl, j, rfl⟩)
        go_returns
        exact ⟨.inr ⟨HNO.out, rfl⟩, HI.out.x.drewN j⟩
      obtain ⟨x, k', hrd, hxn, hfit⟩ := hok
      have CB := Lib.hid (rbytes_ok HI.out.rs hrd (n : Int) (by omega) hfit)
      have HRD := Lib.hid (And.intro hrd hfit)
      clear hrd
      go_upto_region 11 with (go_at_call 62; refine CB.out.mono ?_; rintro e w4 ⟨A4, c4, rfl, o4, s4, f4⟩)
      have X4 : Ext w w4 := Fr.ext HI.out.x f4 (fun i e => by have e : i = g := e; have := HI.out.lo; omega)
      have HO4 := Lib.hid (HI.out.ol.fr f4 HI.out.rs.blk (by decide) (by decide))
      have CG := Lib.hid (get_any A4 x c4 ((l.drop (at_ + k')).take x) w4 o4.rd (fun y hy => HLB.out y (List.mem_of_mem_drop (List.mem_of_mem_take hy))) (by omega) (HSE.out w4 X4).1 (HSE.out w4 X4).2)
      have H4 := Lib.hid (And.intro s4 X4)
      clear CB o4 s4 f4 X4
      go_wp2_with (go_at_call 28; refine held ?_)
      refine Held.go (CG.out.mono ?_)
      rintro e w5 ⟨hg5, x5⟩
      rcases hg5 with ⟨s, hsf, hsl, rfl, hl5, hm5⟩ | ⟨hno, rfl⟩
      rotate_left 1
      · have HNO := Lib.hid (fun fs (hf : GoodL fs) => HI.out.p.no_get (by rw [ents_len, HI.out.len]; exact hlt) HRD.out.1 hno hf)
        have HX := Lib.hid ((H4.out.2.trans x5).alloc (.cells #[.int .i64 0, .int .i64 0, .int .i64 0, .int .i64 0, .int .i64 0, .int .i64 0, .int .i64 0, .int .i64 0, .slice none 0 0, .int .i64 0] 29))
        clear hno CG HI HO4 H4
        go_wp2_with fail
        go_returns
        exact ⟨.inr ⟨HNO.out, rfl⟩, HX.out⟩
      have X6 := (Ext.refl w5).alloc (.cells #[.int .i64 s.e.cl, .int .i64 s.e.nu, .int .i64 s.e.kd, .int .i64 s.e.id, .int .i64 s.e.sk, .int .i64 s.e.sq, .int .i64 s.e.st, .int .i64 s.e.pol, .slice s.A s.n s.c, .int .i64 s.e.at_] 29)
      have hpn := HI.out.p.snoc HLB.out HRD.out.1 (by rw [hnl]; exact HRD.out.2) hsf hsl
      have H6 := Lib.hid (And.intro (heap_alloc_new w5 (.cells #[.int .i64 s.e.cl, .int .i64 s.e.nu, .int .i64 s.e.kd, .int .i64 s.e.id, .int .i64 s.e.sk, .int .i64 s.e.sq, .int .i64 s.e.st, .int .i64 s.e.pol, .slice s.A s.n s.c, .int .i64 s.e.at_] 29)) (And.intro (H4.out.1.ext (x5.trans X6)) (And.intro (HO4.out.ext (x5.trans X6)) (And.intro (H4.out.2.trans (x5.trans X6)) (And.intro (hl5.ext X6) (And.intro ((hm5 : Own ..).ext X6) hpn))))))
      have H7 := Lib.hid (And.intro HI.out.len (And.intro HI.out.lo (And.intro HI.out.nB (show w.heap.size ≤ w4.heap.size from H4.out.2.size))))
      clear hpn hsf hsl hl5 hm5 x5 X6 CG HI HO4 H4 HRD
      go_upto_region 14 with (fail)
      generalize w5.alloc (.cells #[.int .i64 s.e.cl, .int .i64 s.e.nu, .int .i64 s.e.kd, .int .i64 s.e.id, .int .i64 s.e.sk, .int .i64 s.e.sq, .int .i64 s.e.st, .int .i64 s.e.pol, .slice s.A s.n s.c, .int .i64 s.e.at_] 29) = V8 at *
      generalize w5.heap.size = tb at *
      have e0 : V8.cell? ⟨tb, 0, none⟩ = some (.int .i64 s.e.cl) := block_cell (H6.out.1) 0
      have e1 : V8.cell? ⟨tb, 1, none⟩ = some (.int .i64 s.e.nu) := block_cell (H6.out.1) 1
      have e2 : V8.cell? ⟨tb, 2, none⟩ = some (.int .i64 s.e.kd) := block_cell (H6.out.1) 2
      have e3 : V8.cell? ⟨tb, 3, none⟩ = some (.int .i64 s.e.id) := block_cell (H6.out.1) 3
      have e4 : V8.cell? ⟨tb, 4, none⟩ = some (.int .i64 s.e.sk) := block_cell (H6.out.1) 4
      have e5 : V8.cell? ⟨tb, 5, none⟩ = some (.int .i64 s.e.sq) := block_cell (H6.out.1) 5
      have e6 : V8.cell? ⟨tb, 6, none⟩ = some (.int .i64 s.e.st) := block_cell (H6.out.1) 6
      have e7 : V8.cell? ⟨tb, 7, none⟩ = some (.int .i64 s.e.pol) := block_cell (H6.out.1) 7
      have e8 : V8.cell? ⟨tb, 8, none⟩ = some (.slice s.A s.n s.c) := block_cell (H6.out.1) 8
      have e9 : V8.cell? ⟨tb, 9, none⟩ = some (.int .i64 s.e.at_) := block_cell (H6.out.1) 9
      have RN := rd_entry s V8
      have X9 := (Ext.refl V8).alloc (.cells #[.int .i64 s.e.cl, .int .i64 s.e.nu, .int .i64 s.e.kd, .int .i64 s.e.id, .int .i64 s.e.sk, .int .i64 s.e.sq, .int .i64 s.e.st, .int .i64 s.e.pol, .slice s.A s.n s.c, .int .i64 s.e.at_] 29)
      go_wp2_with (at_builtin; refine held ?_)
      refine Held.go (wp_app (m := 1) (news := s.vals) eltEn (H6.out.2.2.1.ext X9).own RN (vals_one s) (by omega) (.inr ⟨by omega, by omega⟩) (H6.out.2.2.2.1.trans X9).size _ _ rfl rfl rfl rfl ?_)
      intro A3 c3 w3 o3 g3 hA3 _
      have HN : Hid (RL w w3 g A1 n c1 (at_ + k' + x) l N A3 (k + 1) c3 (tt ++ [s])) := Lib.hid (rl_app ⟨H6.out.2.1.ext X9, H6.out.2.2.1.ext X9, H7.out.1, H6.out.2.2.2.1.trans X9, H7.out.2.1, H7.out.2.2.1⟩ g3 (H6.out.2.2.2.2.1.ext X9) (Own.base_mono (Own.ext H6.out.2.2.2.2.2.1 X9) H7.out.2.2.2) o3 hA3 H6.out.2.2.2.2.2.2)
      clear o3 g3 hA3 RN X9 e0 e1 e2 e3 e4 e5 e6 e7 e8 e9
      go_wp2_with fail
      go_roundw
      case rel => exact ⟨k + 1, at_ + k' + x, c3, A3, tt ++ [s], by go_num, rfl, by omega, HN.out⟩
      case measure => simp [intOf]; omega
    · obtain rfl : N = k := by omega
      have hat := HI.out.rs.le
      by_cases hend : at_ < n
      · have CE := Lib.hid (rend_no HI.out.rs hend (HSE.out wr HI.out.x).1)
        have HNO := Lib.hid (fun fs (hf : GoodL fs) => HI.out.p.none_of (by rw [ents_len]; exact HI.out.len) (by rw [hnl]; exact hend) hf)
        go_wp2_with (go_at_call 59; refine CE.out.mono ?_; rintro e w4 ⟨rfl, j, rfl⟩)
        go_returns
        exact ⟨.inr ⟨HNO.out, rfl⟩, HI.out.x.drewN j⟩
      · obtain rfl : n = at_ := by omega
        have CE := Lib.hid (rend_ok HI.out.rs)
        have HD := Lib.hid (HI.out.p.done (by rw [ents_len]; exact HI.out.len) (by rw [hnl]; exact Nat.le_refl _))
        go_wp2_with (go_at_call 59; refine CE.out.mono ?_; rintro e w4 ⟨rfl, j, rfl⟩)
        go_returns
        exact ⟨.inl ⟨tt, B, N, d, HI.out.len, ⟨by rw [ents_len, HI.out.len]; exact HI.out.p.n64, HI.out.p.ok⟩, HD.out, rfl, HI.out.ol.ext ((Ext.refl wr).drewN j)⟩, HI.out.x.drewN j⟩
end Go.Proofs.YteflnnlihblpgaaDoor
namespace Go.Proofs.YteflnnlihblpgaaDoor
set_option maxRecDepth 100000
open Go.RowKit
set_option linter.unusedVariables false

/-- The errors' variables in the document's order. -/
def gsN : List Nat := [5, 6, 2, 3, 0, 7, 4, 8, 9, 10, 11, 12, 13, 14, 15, 1]
/-- Each holds an error of its own. -/
structure Errs (w : World) (E : Nat → Addr) : Prop where
  sen : ∀ g ∈ gsN, Sen w g (E g)
  dis : ∀ g ∈ gsN, ∀ h ∈ gsN, g ≠ h → E g ≠ E h
theorem Errs.ext {w w' : World} {E : Nat → Addr} (h : Errs w E) (hx : Ext w w') : Errs w' E := ⟨fun g hg => (h.sen g hg).ext hx, h.dis⟩
theorem errs_mk {l : List (String × List UInt8 × Nat)} {W : World} {E : Nat → Addr} (hE : ∀ x ∈ l, Sen W x.2.2 (E x.2.2)) (hD : ∀ x ∈ l, ∀ y ∈ l, x.2.2 ≠ y.2.2 → E x.2.2 ≠ E y.2.2)
    (hl : ∀ g ∈ gsN, g ∈ l.map fun x => x.2.2) : Errs W E := by
  refine ⟨fun g hg => ?_, fun g hg h hh hne => ?_⟩
  · obtain ⟨x, hx, rfl⟩ := List.mem_map.1 (hl g hg)
    exact hE x hx
  · obtain ⟨x, hx, rfl⟩ := List.mem_map.1 (hl g hg)
    obtain ⟨y, hy, rfl⟩ := List.mem_map.1 (hl h hh)
    exact hD x hx y hy hne
theorem gsN_nodup : gsN.Nodup := by decide
def errVals (E : Nat → Addr) : List Value := gsN.map fun g => Value.iface 149 (.pointer (some (E g)))

set_option maxHeartbeats 800000 in
theorem num_nil (w : World) : Calls Tryd.prog 17 #[.nilIface] w fun e w' => e = .returned (.int .i64 0) ∧ Ext w w' := by
  go_enter Tryd.func17, Tryd.ntmps17
  go_wp2_with fail
  go_returns
  exact ⟨rfl, Ext.refl w⟩
set_option maxHeartbeats 1600000 in
theorem num_at (E : Nat → Addr) (i g : Nat) (w : World) (hE : Errs w E) (hi : gsN[i]? = some g) :
    Calls Tryd.prog 17 #[.iface 149 (.pointer (some (E g)))] w fun e w' => e = .returned (.int .i64 ((i : Int) + 1)) ∧ Ext w w' := by
  have hi16 : i < 16 := by
    have := (List.getElem?_eq_some_iff.1 hi).1
    exact this
  have c0 := (hE.sen 5 (by decide)).2.1
  have c1 := (hE.sen 6 (by decide)).2.1
  have c2 := (hE.sen 2 (by decide)).2.1
  have c3 := (hE.sen 3 (by decide)).2.1
  have c4 := (hE.sen 0 (by decide)).2.1
  have c5 := (hE.sen 7 (by decide)).2.1
  have c6 := (hE.sen 4 (by decide)).2.1
  have c7 := (hE.sen 8 (by decide)).2.1
  have c8 := (hE.sen 9 (by decide)).2.1
  have c9 := (hE.sen 10 (by decide)).2.1
  have c10 := (hE.sen 11 (by decide)).2.1
  have c11 := (hE.sen 12 (by decide)).2.1
  have c12 := (hE.sen 13 (by decide)).2.1
  have c13 := (hE.sen 14 (by decide)).2.1
  have c14 := (hE.sen 15 (by decide)).2.1
  have c15 := (hE.sen 1 (by decide)).2.1
  have hxs : ∀ (k h : Nat), gsN[k]? = some h → (errVals E)[k]? = some (Value.iface 149 (.pointer (some (E h)))) := by
    intro k h hk
    unfold errVals; rw [List.getElem?_map, hk]; rfl
  have HI := Lib.hid (And.intro hi (And.intro hxs hE))
  clear hi hxs hE
  go_enter Tryd.func17, Tryd.ntmps17
  go_wp2_with fail
  have hx : Ext w (w.alloc (.cells #[.iface 149 (.pointer (some (E 5))), .iface 149 (.pointer (some (E 6))), .iface 149 (.pointer (some (E 2))), .iface 149 (.pointer (some (E 3))), .iface 149 (.pointer (some (E 0))), .iface 149 (.pointer (some (E 7))), .iface 149 (.pointer (some (E 4))), .iface 149 (.pointer (some (E 8))), .iface 149 (.pointer (some (E 9))), .iface 149 (.pointer (some (E 10))), .iface 149 (.pointer (some (E 11))), .iface 149 (.pointer (some (E 12))), .iface 149 (.pointer (some (E 13))), .iface 149 (.pointer (some (E 14))), .iface 149 (.pointer (some (E 15))), .iface 149 (.pointer (some (E 1)))] 33)) := (Ext.refl w).alloc _
  have hrd : Rd (w.alloc (.cells #[.iface 149 (.pointer (some (E 5))), .iface 149 (.pointer (some (E 6))), .iface 149 (.pointer (some (E 2))), .iface 149 (.pointer (some (E 3))), .iface 149 (.pointer (some (E 0))), .iface 149 (.pointer (some (E 7))), .iface 149 (.pointer (some (E 4))), .iface 149 (.pointer (some (E 8))), .iface 149 (.pointer (some (E 9))), .iface 149 (.pointer (some (E 10))), .iface 149 (.pointer (some (E 11))), .iface 149 (.pointer (some (E 12))), .iface 149 (.pointer (some (E 13))), .iface 149 (.pointer (some (E 14))), .iface 149 (.pointer (some (E 15))), .iface 149 (.pointer (some (E 1)))] 33)) 1 (some ⟨w.heap.size, 0, none⟩) 16 (errVals E) := Rd.block (g := w.heap.size) (heap_alloc_new w _) rfl ⟨[], rfl⟩
  clear c0 c1 c2 c3 c4 c5 c6 c7 c8 c9 c10 c11 c12 c13 c14 c15
  generalize w.alloc (.cells #[.iface 149 (.pointer (some (E 5))), .iface 149 (.pointer (some (E 6))), .iface 149 (.pointer (some (E 2))), .iface 149 (.pointer (some (E 3))), .iface 149 (.pointer (some (E 0))), .iface 149 (.pointer (some (E 7))), .iface 149 (.pointer (some (E 4))), .iface 149 (.pointer (some (E 8))), .iface 149 (.pointer (some (E 9))), .iface 149 (.pointer (some (E 10))), .iface 149 (.pointer (some (E 11))), .iface 149 (.pointer (some (E 12))), .iface 149 (.pointer (some (E 13))), .iface 149 (.pointer (some (E 14))), .iface 149 (.pointer (some (E 15))), .iface 149 (.pointer (some (E 1)))] 33) = w1 at *
  generalize w.heap.size = G at *
  have HR := Lib.hid hrd
  clear hrd
  go_loop [27] (fun v => ∃ k : Nat, k ≤ i ∧ v = .int .i64 k) (fun v => i - (intOf v).toNat)
  case atStart => exact ⟨0, by omega, rfl⟩
  case round =>
    obtain ⟨k, hk, rfl⟩ := hrel
    obtain ⟨h, hh⟩ : ∃ h, gsN[k]? = some h := ⟨gsN[k]'(show k < 16 by omega), List.getElem?_eq_getElem _⟩
    have hc : w1.cell? ⟨G, k, none⟩ = some (.iface 149 (.pointer (some (E h)))) := by
      obtain ⟨ad, e, _, h2⟩ := HR.out.2 (by omega)
      injection e with e
      subst e
      have := h2 k _ (HI.out.2.1 k h hh)
      rwa [show (⟨G, 0, none⟩ : Addr).add k = ⟨G, k, none⟩ by unfold Addr.add; split <;> simp_all] at this
    by_cases e : k = i
    · subst e
      obtain rfl : g = h := Option.some.inj (HI.out.1.symm.trans hh)
      have ES := err_same w1 (E g)
      clear hh HI
      go_wp2_with fail
      go_returns
      exact ⟨rfl, hx⟩
    · have hne : g ≠ h := by
        rintro rfl
        exact e ((List.getElem?_inj (show k < 16 by omega) gsN_nodup).1 (hh.trans HI.out.1.symm))
      have hgm : g ∈ gsN := List.mem_of_getElem? HI.out.1
      have hhm : h ∈ gsN := List.mem_of_getElem? hh
      have EO := err_other ((HI.out.2.2.sen g hgm).ext hx) ((HI.out.2.2.sen h hhm).ext hx) (HI.out.2.2.dis g hgm h hhm hne)
      clear hne hgm hhm hh
      go_wp2_with fail
      go_round
      case rel => exact ⟨k + 1, by omega, rfl⟩
      case measure => simp [intOf]; omega
end Go.Proofs.YteflnnlihblpgaaDoor
namespace Go.Proofs.YteflnnlihblpgaaDoor
set_option maxRecDepth 100000
open Go.RowKit
set_option linter.unusedVariables false
def errV (E : Nat → Addr) : Nat → Value
  | 0 => .nilIface
  | k + 1 => .iface 149 (.pointer (some (E (gsN.getD k 0))))
theorem num_errV (E : Nat → Addr) (k : Nat) (w : World) (hE : Errs w E) (hk : k ≤ 16) : Calls Tryd.prog 17 #[errV E k] w fun e w' => e = .returned (.int .i64 (k : Int)) ∧ Ext w w' := by
  cases k with
  | zero => exact num_nil w
  | succ k =>
    refine (num_at E k (gsN.getD k 0) w hE ?_).mono fun e w' h => ?_
    · rw [List.getD, List.getElem?_eq_getElem (show k < gsN.length by show k < 16; omega)]; rfl
    · exact h
end Go.Proofs.YteflnnlihblpgaaDoor
namespace Go.Proofs.YteflnnlihblpgaaDoor
open Go.RowKit
set_option linter.unusedVariables false
set_option maxHeartbeats 800000 in
theorem rsum_any (A : Option Addr) (m c : Nat) (l : List Nat) (w : World) (hm : m ≤ 9223372036854775807) (hr : Rd w 1 A m (u8s l)) (hl : ∀ x ∈ l, x < 256) :
    Calls Tryd.prog 87 #[.slice A m c] w fun e w' => e = .returned (.int .u32 (fnv l : Nat)) ∧ w = w' := by
  go_enter Tryd.func87, Tryd.ntmps87
  go_wp2
  go_loop [3, 5, 8] (fun x _ i => ∃ k : Nat, k ≤ m ∧ i = .int .i64 k ∧ x = .int .u64 (fnv (l.take k) : Nat)) (fun _ _ i => m - (intOf i).toNat)
  case atStart => exact ⟨0, by omega, rfl, rfl⟩
  case round =>
    obtain ⟨k, hk, rfl, rfl⟩ := hrel
    have hu := fnv_lt (l.take k)
    by_cases hlt : k < m
    · obtain ⟨ad, x, rfl, hx, hc⟩ := hr.byte hlt
      have hx8 := hl x (mem_of_at hx.out)
      generalize hU : fnv (l.take k) = U at hu ⊢
      have HU := Lib.hid hU; clear hU
      have e2 : Go.bits .xor .u64 (U : Int) (x : Int) = ((U ^^^ x : Nat) : Int) := u64_xor_nat U x (by omega) (by omega)
      have hY9 : U ^^^ x < 4294967296 := Nat.xor_lt_two_pow (n := 32) hu (by omega)
      obtain ⟨Y, hY⟩ : ∃ Y, U ^^^ x = Y := ⟨_, rfl⟩
      rw [hY] at e2 hY9
      have e3 : IntKind.u64.wrap ((Y : Int) * 16777619) = ((Y * 16777619 : Nat) : Int) := by rw [IntKind.wrap_u64]; omega
      have e4 : ((Y * 16777619 : Nat) : Int).tmod 4294967296 = ((Y * 16777619 % 4294967296 : Nat) : Int) := by rw [Int.tmod_eq_emod_of_nonneg (by omega)]; omega
      have e5 : ((Y * 16777619 : Nat) : Int) % 4294967296 = ((Y * 16777619 % 4294967296 : Nat) : Int) := by omega
      obtain ⟨Z, hZ⟩ : ∃ Z, Y * 16777619 = Z := ⟨_, rfl⟩
      rw [hZ] at e3 e4 e5
      obtain ⟨V, hV⟩ : ∃ V, Z % 4294967296 = V := ⟨_, rfl⟩
      rw [hV] at e4 e5
      have HY := Lib.hid (And.intro hY (And.intro hZ hV))
      clear hY hl hr hZ hV
      go_wp2
      go_round
      case rel => exact ⟨k + 1, by omega, by go_num, by rw [take_succ' hx.out, fnv_snoc, HU.out]; unfold fs; rw [HY.out.1, HY.out.2.1, HY.out.2.2]⟩
      case measure => simp [intOf]; omega
    · have : k = m := by omega
      subst this
      have e9 : IntKind.u32.wrap ((fnv (l.take k) : Nat) : Int) = ((fnv (l.take k) : Nat) : Int) := by rw [IntKind.wrap_u32]; omega
      go_wp2
      go_ret
      exact ⟨by rw [List.take_of_length_le (by have := hr.len; rw [u8s_len] at this; omega)]; rfl, rfl⟩
set_option maxHeartbeats 1600000 in
theorem rseal_any (A : Option Addr) (n c : Nat) (l : List Nat) (w : World) (hn : n ≤ 140737488351232) (hr : Rd w 1 A n (u8s l)) (hl : ∀ x ∈ l, x < 256) :
    Calls Tryd.prog 74 #[.slice A n c] w fun e w' => ∃ A' c', e = .returned (.slice A' (n + 4) c') ∧ Own w' w.heap.size 5 1 A' (n + 4) c' (u8s (sealed l)) ∧ Ext w w' := by
  have S := Lib.hid (rsum_any A n c l w (by omega) hr hl)
  have hs := fnv_lt l
  unfold sealed
  generalize fnv l = s at *
  obtain ⟨b3, h3⟩ : ∃ b : Nat, s / 16777216 = b := ⟨_, rfl⟩
  obtain ⟨b2, h2⟩ : ∃ b : Nat, s / 65536 % 256 = b := ⟨_, rfl⟩
  obtain ⟨b1, h1⟩ : ∃ b : Nat, s / 256 % 256 = b := ⟨_, rfl⟩
  obtain ⟨b0, h0⟩ : ∃ b : Nat, s % 256 = b := ⟨_, rfl⟩
  have e3 : (s : Int) / 16777216 % 256 = (b3 : Int) := by omega
  have e3' : (s : Int) / 16777216 = (b3 : Int) := by omega
  have e2 : (s : Int) / 65536 % 256 = (b2 : Int) := by omega
  have e1 : (s : Int) / 256 % 256 = (b1 : Int) := by omega
  have e0 : (s : Int) % 256 = (b0 : Int) := by omega
  have hb3 : b3 < 256 := by omega
  have hf : four s = [b3, b2, b1, b0] := by unfold four; rw [h3, h2, h1, h0]
  rw [hf]
  clear h0 h1 h2 h3 hf hl
  have HR := Lib.hid hr
  clear hr
  go_enter Tryd.func74, Tryd.ntmps74
  go_wp2_with fail
  refine S.out.mono ?_
  rintro e w1 ⟨rfl, rfl⟩
  have hz : w.heap.size ≤ w.heap.size := Nat.le_refl _
  go_wp2_with (at_builtin; refine held ?_)
  refine Held.go (wp_app (m := n) (news := u8s l) eltU8 (base := w.heap.size) (n := 0) (c := 0) (xs := []) (World.ownsRow_lit (size := 1) _ #[] 0 (Nat.le_refl _) (by simp [maxLen]) rfl) (HR.out.ext ((Ext.refl w).alloc _)) (u8s_one _) (by omega) (.inr ⟨by omega, by omega⟩) (by simp) _ _ rfl rfl rfl rfl ?_)
  intro A2 c2 w2 o2 g2 _ _
  rw [List.nil_append, Nat.zero_add] at o2
  rw [Nat.zero_add]
  have o2 : Own w2 w.heap.size 5 1 A2 n c2 (u8s l) := o2
  have x2 : Ext w w2 := g2.ext ((Ext.refl w).alloc _) (fun g hg => by injection hg with hg; rw [← hg]; exact Nat.le_refl _)
  clear g2
  go_wp2_with (at_builtin; refine held ?_)
  refine Held.go (wp_app (m := 4) (news := u8s [b3, b2, b1, b0]) eltU8 (o2.alloc _) (Rd.new w2 #[.int .u8 (b3 : Int), .int .u8 (b2 : Int), .int .u8 (b1 : Int), .int .u8 (b0 : Int)] 5 (0, 0)) (u8s_one _) (by omega) (.inr ⟨by omega, by omega⟩) (by have := x2.size; rw [World.size_alloc]; omega) _ _ rfl rfl rfl rfl ?_)
  intro A3 c3 w3 o3 g3 _ _
  rw [← u8s_append] at o3
  have x3 := (o2.alloc (.cells #[.int .u8 (b3 : Int), .int .u8 (b2 : Int), .int .u8 (b1 : Int), .int .u8 (b0 : Int)] 5)).fr_ext (x2.alloc _) (Nat.le_refl _) (Fr.grows g3)
  clear g3 o2
  go_wp2_with fail
  go_returns
  exact ⟨A3, c3, rfl, o3, x3⟩
/-- What Open answers: the bytes, and the error's number. -/
def opened (l : List Nat) : List Nat × Nat :=
  if l.length < 4 then ([], 3) else if sealed (l.take (l.length - 4)) = l then (l.take (l.length - 4), 0) else ([], 4)
def OOut (w : World) (x : List Nat) (ev : Value) (e : Ending) (w' : World) : Prop :=
  ∃ A' c', e = .returned (.tuple #[.slice A' x.length c', ev]) ∧ Own w' w.heap.size 5 1 A' x.length c' (u8s x) ∧ Ext w w'
theorem opened_byte {l : List Nat} (hl : ∀ x ∈ l, x < 256) : ∀ x ∈ (opened l).1, x < 256 := by
  unfold opened
  split
  · simp
  · split
    · exact fun x hx => hl x (List.mem_of_mem_take hx)
    · simp
theorem opened_len (l : List Nat) : (opened l).1.length ≤ l.length := by
  unfold opened
  split
  · simp
  · split
    · simp
    · simp
theorem opened_err (l : List Nat) : (opened l).2 ≤ 16 := by
  unfold opened
  split
  · simp
  · split <;> simp
theorem open_any (A : Option Addr) (n c : Nat) (l : List Nat) (w : World) (hn : n ≤ 140737488351236) (hnc : n ≤ c) (hr : Rd w 1 A n (u8s l)) (hl : ∀ x ∈ l, x < 256) (E : Nat → Addr) (hE : Errs w E) :
    Calls Tryd.prog 73 #[.slice A n c] w (OOut w (opened l).1 (errV E (opened l).2)) := by
  have hlen : l.length = n := by have h := hr.len; rw [u8s_len] at h; omega
  unfold opened
  by_cases h4 : n < 4
  · rw [if_pos (by omega)]
    refine (open_few A n c w h4 (hE.sen 2 (by decide))).mono fun e w' h => ?_
    obtain ⟨rfl, k, rfl⟩ := h
    exact ⟨none, 0, rfl, Own.nil_, (Ext.refl w).drewN k⟩
  · rw [if_neg (by omega)]
    obtain ⟨m, rfl⟩ : ∃ m, n = m + 4 := ⟨n - 4, by omega⟩
    have e1 : l.length - 4 = m := by omega
    rw [e1]
    by_cases hs : sealed (l.take m) = l
    · rw [if_pos hs]
      refine (open_good A m c l w (by omega) hnc hr hl hs).mono fun e w' h => ?_
      obtain ⟨A', c', rfl, ho, hx⟩ := h
      have e2 : (l.take m).length = m := by rw [List.length_take]; omega
      exact ⟨A', c', by rw [e2]; rfl, by rw [e2]; exact ho, hx⟩
    · rw [if_neg hs]
      refine (open_slip A m c l w (by omega) hnc hr hl hs (hE.sen 3 (by decide))).mono fun e w' h => ?_
      obtain ⟨rfl, hx⟩ := h
      exact ⟨none, 0, rfl, Own.nil_, hx⟩
set_option maxRecDepth 8000 in
set_option maxHeartbeats 1600000 in
theorem ropen_any (A : Option Addr) (n c : Nat) (l : List Nat) (w : World) (hn : n ≤ 140737488351232) (hnc : n ≤ c) (hr : Rd w 1 A n (u8s l)) (hl : ∀ x ∈ l, x < 256) :
    Calls Tryd.prog 75 #[.slice A n c] w (OOut w (opened l).1 (.int .i64 ((opened l).2 : Nat))) := by
  have hlen : l.length = n := by have h := hr.len; rw [u8s_len] at h; omega
  unfold opened
  by_cases h4 : n < 4
  · rw [if_pos (by omega)]
    have h4' : (n : Int) < 4 := by omega
    clear hr hlen
    go_enter Tryd.func75, Tryd.ntmps75
    go_wp2_with fail
    go_returns
    exact ⟨none, 0, rfl, Own.nil_, Ext.refl w⟩
  · rw [if_neg (by omega)]
    obtain ⟨m, hm⟩ : ∃ m, n - 4 = m := ⟨_, rfl⟩
    have e1 : l.length - 4 = m := by omega
    rw [e1]
    obtain ⟨R, hR⟩ : ∃ R, (if sealed (l.take m) = l then (l.take m, 0) else (([] : List Nat), 4)) = R := ⟨_, rfl⟩
    rw [hR]
    have HRR := Lib.hid hR
    have r0 : (n : Int) - 4 = (m : Int) := by omega
    have h4' : ¬ (n : Int) < 4 := by omega
    have r1 := hr.u8take (k := m) (by omega)
    have hb1 : ∀ x ∈ l.take m, x < 256 := fun x hx => hl x (List.mem_of_mem_take hx)
    have BX := Lib.hid (fun w' (hx : Ext w w') => run_str (P := Tryd.prog) (w := w') (s := 9) Tryd.underlying54 Tryd.underlying5 Tryd.underlying9 c (hr.ext hx))
    have RF := Lib.hid (fun w' (hx : Ext w w') => (rseal_any A m m (l.take m) w' (by omega) (r1.ext hx) hb1).mono fun e w'' (h : ∃ A' c', e = .returned (.slice A' (m + 4) c') ∧ Own w'' w'.heap.size 5 1 A' (m + 4) c' (u8s (sealed (l.take m))) ∧ Ext w' w'') =>
      (by
        obtain ⟨A', c', he, ho, hx2⟩ := h
        exact ⟨A', c', he, run_str (P := Tryd.prog) (w := w'') (s := 9) Tryd.underlying54 Tryd.underlying5 Tryd.underlying9 c' ho.rd, run_str (P := Tryd.prog) (w := w''.drew) (s := 9) Tryd.underlying54 Tryd.underlying5 Tryd.underlying9 c' (ho.rd.ext ((Ext.refl _).drew)), BX.out _ (hx.trans hx2), BX.out _ (hx.trans hx2).drew, hx.trans hx2⟩ :
        ∃ A' c', e = .returned (.slice A' (m + 4) c') ∧ (convert 54 9 (.slice A' (m + 4) c')).run Tryd.prog w'' = .ok (.string (str (sealed (l.take m)))) w'' ∧ (convert 54 9 (.slice A' (m + 4) c')).run Tryd.prog w''.drew = .ok (.string (str (sealed (l.take m)))) w''.drew ∧ (convert 54 9 (.slice A n c)).run Tryd.prog w'' = .ok (.string (str l)) w'' ∧ (convert 54 9 (.slice A n c)).run Tryd.prog w''.drew = .ok (.string (str l)) w''.drew ∧ Ext w w''))
    have h3 := run_slice3 eltU8 A n c .i64 .i64 m m (Nat.le_refl _) (by omega)
    have i0 := BX.out w (Ext.refl _)
    have i1 := BX.out w.drew ((Ext.refl _).drew)
    have hmm : (0 : Int) ≤ m := by omega
    have hmc : (m : Int) ≤ c := by omega
    have hmc' : m ≤ c := by omega
    have e2 : (l.take m).length = m := by rw [List.length_take]; omega
    have HR1 := Lib.hid (And.intro r1 e2)
    obtain ⟨b, hb⟩ : ∃ b : Bool, ((str (sealed (l.take m))).toList == (str l).toList) = b := ⟨_, rfl⟩
    have HB : Hid (b = decide (sealed (l.take m) = l)) := by
      show b = _
      rw [← hb]
      by_cases h : sealed (l.take m) = l
      · rw [h]; simp
      · rw [decide_eq_false h, beq_eq_false_iff_ne]
        rw [ByteArray.toList_eq, ByteArray.toList_eq]
        exact fun h2 => h (str_inj (sealed_byte hb1) hl (Go.WideShapes.bytes_inj h2))
    clear hr hl hb1 r1 e2 hlen e1 hR
    generalize str (sealed (l.take m)) = sa at *
    generalize str l = sb at *
    go_enter Tryd.func75, Tryd.ntmps75
    go_upto_region 4 with (fail)
    go_cut [19] from 11 (fun s19 wx => s19 = .bool (!b) ∧ Ext w wx)
    case first =>
      go_wp2_with fail
      go_region_with (go_at_call 74; (with_reducible refine (RF.out _ (by first | exact Ext.refl _ | exact (Ext.refl _).drew)).mono ?_); rintro en vF ⟨AF, cF, rfl, qF, qG, qH, qI, xF⟩)
      all_goals
        go_wp2_with fail
        go_meet
        case rel => exact ⟨rfl, by first | exact xF | exact xF.drew⟩
    case rest =>
      obtain ⟨rfl, xC⟩ := hcut
      have XC := Lib.hid xC
      have z0 := xC.size
      clear xC i0 i1 h3 hb
      cases b with
      | true =>
        have hs : sealed (l.take m) = l := of_decide_eq_true HB.out.symm
        have hR := HRR.out
        rw [if_pos hs] at hR
        subst hR
        clear hs
        go_wp2_with (at_builtin; refine held ?_)
        refine Held.go (wp_app (m := m) (news := u8s (l.take m)) eltU8 (base := wc.heap.size) (n := 0) (c := 0) (xs := []) (World.ownsRow_lit (size := 1) _ #[] 0 (Nat.le_refl _) (by simp [maxLen]) rfl) (HR1.out.1.ext (XC.out.alloc _)) (u8s_one _) (by omega) (.inr ⟨by omega, by omega⟩) (by simp) _ _ rfl rfl rfl rfl ?_)
        intro A5 c5 v5 o5 g5 _ _
        rw [List.nil_append, Nat.zero_add] at o5
        rw [Nat.zero_add]
        have y5 : Ext wc v5 := g5.ext ((Ext.refl wc).alloc _) (fun g hg => by injection hg with hg; rw [← hg]; exact Nat.le_refl _)
        clear g5
        go_wp2_with fail
        go_returns
        exact ⟨A5, c5, by rw [HR1.out.2]; rfl, by rw [HR1.out.2]; exact o5.base_mono XC.out.size, XC.out.trans y5⟩
      | false =>
        have hs : ¬ sealed (l.take m) = l := of_decide_eq_false HB.out.symm
        have hR := HRR.out
        rw [if_neg hs] at hR
        subst hR
        clear hs
        go_wp2_with fail
        go_returns
        exact ⟨none, 0, rfl, Own.nil_, XC.out⟩
end Go.Proofs.YteflnnlihblpgaaDoor
namespace Go.Proofs.YteflnnlihblpgaaDoor
set_option maxRecDepth 100000
open Go.RowKit
set_option linter.unusedVariables false
theorem putN_splitT : ∀ (l m : List Int) (r t : List Nat), OkN l → OkN m → l.length ≤ m.length → putN m ++ t = putN l ++ r → m.take l.length = l ∧ r = putN (m.drop l.length) ++ t
  | [], m, r, t, _, _, _, h => ⟨by simp, by simpa [putN] using h.symm⟩
  | x :: l, [], _, _, _, _, hlen, _ => by simp at hlen
  | x :: l, y :: m, r, t, hl, hm, hlen, h => by
    have bx := hl x (by simp)
    have by_ := hm y (by simp)
    rw [putN_cons, putN_cons, List.append_assoc, List.append_assoc] at h
    have e1 := Wr.rd_num y.toNat (putN m ++ t) (by omega)
    rw [h, Wr.rd_num x.toNat _ (by omega)] at e1
    simp only [Option.some.injEq, Prod.mk.injEq] at e1
    have exy : x = y := by omega
    subst exy
    have h3 := List.append_cancel_left h
    obtain ⟨h4, h5⟩ := putN_splitT l m r t hl.tail hm.tail (by simpa using hlen) h3
    exact ⟨by rw [List.length_cons, List.take_succ_cons, h4], by rw [List.length_cons, List.drop_succ_cons]; exact h5⟩
def msOf (l : List Int) : Ms := ⟨l.getD 0 0, l.getD 1 0, l.getD 2 0, l.getD 3 0, l.getD 4 0, l.getD 5 0, l.getD 6 0, l.getD 7 0⟩
theorem msOf_of (m : Ms) : msOf m.nums = m := rfl
theorem eight_of {ns : List Int} (h : ns.length = 8) : ∃ a0 a1 a2 a3 a4 a5 a6 a7, ns = [a0, a1, a2, a3, a4, a5, a6, a7] := by
  match ns, h with
  | [a0, a1, a2, a3, a4, a5, a6, a7], _ => exact ⟨a0, a1, a2, a3, a4, a5, a6, a7, rfl⟩
theorem msOf_nums {ns : List Int} (h : ns.length = 8) : (msOf ns).nums = ns := by
  obtain ⟨a0, a1, a2, a3, a4, a5, a6, a7, rfl⟩ := eight_of h
  rfl
/-- What stands behind the numbers. -/
def tailM (es : List En) : List Nat := Wr.num (putL es).length ++ putL es
section
variable {l : List Nat} {at_ : Nat} {ns : List Int} {m : Ms} {es : List En}
theorem okNums (hf : m.form es = true) : OkN m.nums := fun x hx => by have := form_nums hf x hx; omega
theorem raw_at (hf : m.form es = true) (h : Part l at_ ns) (hl : ns.length ≤ 8) (hle : l = m.raw es) : m.nums.take ns.length = ns ∧ l.drop at_ = putN (m.nums.drop ns.length) ++ tailM es :=
  putN_splitT ns m.nums _ _ h.okN (okNums hf) hl (by rw [← h.eq]; exact hle.symm)
theorem raw_no_next (h : Part l at_ ns) (hl : ns.length < 8) (hno : ∀ x k, Wr.rd (l.drop at_) = some (x, k) → (1099511627776 : Int) < (x : Int)) (hf : m.form es = true) : l ≠ m.raw es := fun hle => by
  obtain ⟨_, h2⟩ := raw_at hf h (by omega) hle
  have h8 : m.nums.length = 8 := rfl
  cases hd : m.nums.drop ns.length with
  | nil =>
    have := congrArg List.length hd
    rw [List.length_drop, List.length_nil] at this
    omega
  | cons y t =>
    have hy : y ∈ m.nums := List.mem_of_mem_drop (i := ns.length) (by rw [hd]; simp)
    have hb := form_nums hf y hy
    rw [hd, putN_cons, List.append_assoc] at h2
    have h3 := Wr.rd_num y.toNat (putN t ++ tailM es) (by omega)
    rw [← h2] at h3
    have := hno _ _ h3
    omega
theorem raw_eight (h : Part l at_ ns) (hl : ns.length = 8) (hf : m.form es = true) (hle : l = m.raw es) : m = msOf ns ∧ l.drop at_ = tailM es := by
  obtain ⟨h1, h2⟩ := raw_at hf h (by omega) hle
  have h8 : m.nums.length = 8 := rfl
  rw [hl, List.take_of_length_le (by omega)] at h1
  rw [hl] at h2
  exact ⟨by rw [← h1]; rfl, h2⟩
theorem raw_bytes (h : Part l at_ ns) (hl : ns.length = 8) (hf : m.form es = true) (hle : l = m.raw es) : Wr.rd (l.drop at_) = some ((putL es).length, (Wr.num (putL es).length).length) ∧ l.length = at_ + (Wr.num (putL es).length).length + (putL es).length ∧ l.drop (at_ + (Wr.num (putL es).length).length) = putL es := by
  obtain ⟨h1, h2⟩ := raw_eight h hl hf hle
  have hb := putL_le (form_good hf)
  refine ⟨by rw [h2]; exact Wr.rd_num _ _ (by omega), ?_, ?_⟩
  · have h3 := congrArg List.length h.eq
    rw [List.length_append, h2, ← h.len] at h3
    unfold tailM at h3
    rw [List.length_append] at h3
    omega
  · rw [← List.drop_drop, h2]
    unfold tailM
    exact List.drop_left
theorem raw_no_bytes (h : Part l at_ ns) (hl : ns.length = 8) (hno : ∀ x k, Wr.rd (l.drop at_) = some (x, k) → (l.length : Int) < (x : Int) ∨ l.length < at_ + k + x) (hf : m.form es = true) : l ≠ m.raw es := fun hle => by
  obtain ⟨h1, h2, _⟩ := raw_bytes h hl hf hle
  have := hno _ _ h1
  omega
theorem raw_rest (h : Part l at_ ns) (hl : ns.length = 8) {x k : Nat} (hr : Wr.rd (l.drop at_) = some (x, k)) (hf : m.form es = true) (hle : l = m.raw es) : at_ + k + x = l.length ∧ (l.drop (at_ + k)).take x = putL es := by
  obtain ⟨h1, h2, h3⟩ := raw_bytes h hl hf hle
  rw [hr] at h1
  simp only [Option.some.injEq, Prod.mk.injEq] at h1
  obtain ⟨rfl, rfl⟩ := h1
  exact ⟨h2.symm, by rw [h3]; exact List.take_of_length_le (Nat.le_refl _)⟩
theorem raw_done (h : Part l at_ ns) (hl : ns.length = 8) (hb : ∀ c ∈ l, c < 256) {x k : Nat} (hr : Wr.rd (l.drop at_) = some (x, k)) (hx : at_ + k + x = l.length) (hp : (l.drop (at_ + k)).take x = putL es) : l = (msOf ns).raw es := by
  obtain ⟨h1, h2⟩ := Wr.rd_inv (fun c hc => hb c (List.mem_of_mem_drop hc)) hr
  rw [List.drop_drop] at h2
  rw [List.take_of_length_le (by rw [List.length_drop]; omega)] at hp
  have hxl : (putL es).length = x := by rw [← hp, List.length_drop]; omega
  unfold Ms.raw
  rw [msOf_nums hl, hxl, ← hp, ← h2]
  exact h.eq
theorem sealed_cut (r : List Nat) : (sealed r).take ((sealed r).length - 4) = r := by
  have h1 := sealed_len r
  rw [h1, Nat.add_sub_cancel]
  unfold sealed
  exact List.take_left
theorem opened_sealed (r : List Nat) : opened (sealed r) = (r, 0) := by
  unfold opened
  rw [if_neg (by have := sealed_len r; omega), sealed_cut, if_pos rfl]
theorem opened_put (h : l = m.put es) : (opened l).2 = 0 ∧ (opened l).1 = m.raw es := by
  rw [h]
  unfold Ms.put
  rw [opened_sealed]
  exact ⟨rfl, rfl⟩
theorem opened_good (h : (opened l).2 = 0) : l = sealed (opened l).1 := by
  unfold opened at h ⊢
  split at h
  · simp at h
  · rename_i h4
    rw [if_neg h4]
    split at h
    · rename_i hs
      rw [if_pos hs]
      exact hs.symm
    · simp at h
/-- The number of the error of bytes that are no message's. -/
def getErr (l : List Nat) : Nat := if (opened l).2 = 0 then 3 else (opened l).2
end
/-- What Get answers: the message whose bytes they are, or an error. -/
def MsgOut (l : List Nat) (base : Nat) (bad good : Value) (x : Ending) (w' : World) : Prop :=
  (∃ (m : Ms) (ss : List EnS) (B : Option Addr) (n d : Nat), ss.length = n ∧ m.form (ents ss) = true ∧ l = m.put (ents ss) ∧ x = .returned (.tuple #[.agg #[.int .i64 m.kd, .int .i64 m.fr, .int .i64 m.tw, .int .i64 m.jb, .int .i64 m.br, .int .i64 m.bn, .int .i64 m.ar, .int .i64 m.an, .slice B n d], good]) ∧ OLed w' base B n d ss) ∨
  ((∀ (m : Ms) (es : List En), m.form es = true → l ≠ m.put es) ∧ x = .returned (.tuple #[.agg #[.int .i64 0, .int .i64 0, .int .i64 0, .int .i64 0, .int .i64 0, .int .i64 0, .int .i64 0, .int .i64 0, .slice none 0 0], bad]))
/-- A message's bytes are but one message's. -/
theorem mput_inj {m k : Ms} {es fs : List En} (h1 : m.form es = true) (h2 : k.form fs = true) (h : m.put es = k.put fs) : m = k ∧ es = fs := by
  have e := (opened_put (l := m.put es) h).2
  rw [(opened_put (l := m.put es) rfl).2] at e
  obtain ⟨a, b⟩ := putN_splitT k.nums m.nums (tailM fs) (tailM es) (okNums h2) (okNums h1) (Nat.le_refl _) e
  have h8 : m.nums.length = k.nums.length := rfl
  rw [← h8, List.take_of_length_le (Nat.le_refl _)] at a
  rw [← h8, List.drop_eq_nil_of_le (Nat.le_refl _)] at b
  have b1 : tailM fs = tailM es := by simpa [putN] using b
  have hb := putL_le (form_good h1)
  have hc := putL_le (form_good h2)
  unfold tailM at b1
  have e1 := Wr.rd_num (putL es).length (putL es) (by omega)
  rw [← b1, Wr.rd_num (putL fs).length _ (by omega)] at e1
  simp only [Option.some.injEq, Prod.mk.injEq] at e1
  rw [e1.1] at b1
  have b2 := List.append_cancel_left b1
  exact ⟨by rw [← msOf_of m, a, msOf_of], putL_inj (form_good h1) (form_good h2) b2.symm⟩
end Go.Proofs.YteflnnlihblpgaaDoor
