/-
  Package order: Read of a ledger, walked.
-/
import Derived.Test.YteflnnlihblpgaaDoorOrPartL
import Derived.Test.YteflnnlihblpgaaDoorOrGet
import Derived.Test.YteflnnlihblpgaaDoorOrCopy
namespace Go.Proofs.YteflnnlihblpgaaDoor
set_option maxRecDepth 100000
open Go.RowKit
set_option linter.unusedVariables false
/-- What Read answers: the ledger whose bytes they are, or an error. -/
def ReadOut (l : List Nat) (base : Nat) (bad good : Value) (x : Ending) (w' : World) : Prop :=
  (∃ (ss : List EnS) (B : Option Addr) (n d : Nat), ss.length = n ∧ GoodL (ents ss) ∧ l = putL (ents ss) ∧ x = .returned (.tuple #[.slice B n d, good]) ∧ OLed w' base B n d ss) ∨
  ((∀ fs, GoodL fs → l ≠ putL fs) ∧ x = .returned (.tuple #[.slice none 0 0, bad]))
/-- Another block is written. -/
theorem OLed.fr {w w' : World} {base m d q : Nat} {B : Option Addr} {ss : List EnS} (h : OLed w base B m d ss) (hf : Fr w w' (· = q)) {cs : Array Value} {t : TypeId} {fr : Nat × Nat} (hq : w.heap[q]? = some (.cells cs t fr)) (h1 : 29 ≠ t) (h2 : 47 ≠ t) : OLed w' base B m d ss :=
  ⟨hf.own h.own (fun a ha e => h.own.away_t hq h1 a ha e), fun s hs => by
    have h3 : Own w' base 47 4 s.A s.n s.c (trows s.e.ts).flatten := hf.own (h.all s hs).2 (fun a ha e => ((h.all s hs).2 : Own ..).away_t hq h2 a ha e)
    exact ⟨⟨h3.rd, (h.all s hs).1.le, (h.all s hs).1.cap⟩, h3⟩⟩
/-- The reader on its way through a ledger. -/
structure RL (w wr : World) (g : Nat) (A : Option Addr) (n c at_ : Nat) (l : List Nat) (N : Nat) (B : Option Addr) (k d : Nat) (tt : List EnS) : Prop where
  rs : RdS wr g A n c at_ l
  ol : OLed wr w.heap.size B k d tt
  len : tt.length = k
  x : Ext w wr
  lo : w.heap.size ≤ g
  nB : 0 < n → ∀ a b, A = some a → B = some b → a.block ≠ b.block
  p : PartL l at_ N (ents tt)
section
variable {w wr w' : World} {g n c at_ N k d : Nat} {A B : Option Addr} {l : List Nat} {tt : List EnS}
theorem RL.ext (h : RL w wr g A n c at_ l N B k d tt) (hx : Ext wr w') : RL w w' g A n c at_ l N B k d tt :=
  ⟨h.rs.ext hx, h.ol.ext hx, h.len, h.x.trans hx, h.lo, h.nB, h.p⟩
/-- The state but for the bytes' part. -/
structure RL0 (w wr : World) (g : Nat) (A : Option Addr) (n c at_ : Nat) (l : List Nat) (B : Option Addr) (k d : Nat) (tt : List EnS) : Prop where
  rs : RdS wr g A n c at_ l
  ol : OLed wr w.heap.size B k d tt
  len : tt.length = k
  x : Ext w wr
  lo : w.heap.size ≤ g
  nB : 0 < n → ∀ a b, A = some a → B = some b → a.block ≠ b.block
theorem rl_app (h : RL0 w wr g A n c at_ l B k d tt) (hg : Grows wr w' B) {x : EnS} (hx : x.Lies wr) (hm : x.Mine w.heap.size wr) {B' : Option Addr} {d' : Nat} (ho : Own w' w.heap.size 29 10 B' (k + 1) d' ((erows tt).flatten ++ x.vals)) (hB : B' = B ∨ B' = some ⟨wr.heap.size, 0, none⟩) (hp : PartL l at_ N (ents tt ++ [x.e])) : RL w w' g A n c at_ l N B' (k + 1) d' (tt ++ [x]) := by
  have f1 := Fr.grows hg
  have nof : ∀ {q : Nat}, (∀ b, B = some b → b.block ≠ q) → ¬ B.map (·.block) = some q := fun hq e => by
    cases B with
    | none => cases e
    | some b => exact hq b rfl (by simpa using e)
  refine ⟨h.rs.frm f1 (nof (h.ol.own.away_t h.rs.blk (by decide))) (fun h0 a ha => nof (fun b hb e => h.nB h0 a b ha hb e.symm)), h.ol.snoc hg hx hm ho, by rw [List.length_append, h.len]; rfl, hg.ext h.x (fun q hq => h.ol.own.base_le q hq), h.lo, fun h0 a b ha hb => ?_, by rw [show ents (tt ++ [x]) = ents tt ++ [x.e] by simp [ents]]; exact hp⟩
  rcases hB with e | e
  · rw [e] at hb; exact h.nB h0 a b ha hb
  · rw [e] at hb
    injection hb with hb
    subst hb
    obtain ⟨a', ha', hlt, _⟩ := h.rs.rd.2 h0
    rw [ha] at ha'
    injection ha' with ha'
    subst ha'
    show a.block ≠ wr.heap.size
    omega
end
set_option maxHeartbeats 6400000 in
theorem readl_any (A : Option Addr) (n c : Nat) (l : List Nat) (w : World) (hr : Rd w 1 A n (u8s l)) (hl : ∀ x ∈ l, x < 256) (hn : n ≤ 140737488351232) {pb ps : Addr} (hB : Sen w 2 pb) (hS : Sen w 1 ps) : Calls Tryd.prog 32 #[.slice A n c] w fun x w' => ReadOut l w.heap.size (.iface 149 (.pointer (some pb))) .nilIface x w' ∧ Ext w w' := by
  have HSE := Lib.hid (fun W (hx : Ext w W) => And.intro (hB.ext hx) (hS.ext hx))
  have hnl := hr.len
  rw [u8s_len] at hnl
  have CR := Lib.hid (newr_any A n c l w hr hl hn)
  have HLB := Lib.hid hl
  clear hr hB hS hl
  go_enter Tryd.func32, Tryd.ntmps32
  go_upto_region 2 with (go_at_call 57; refine CR.out.mono ?_; rintro e w1 ⟨g, A1, c1, rfl, hg1, rs1, nA1, x1⟩)
  have HR1 := Lib.hid (And.intro rs1 (And.intro hg1 x1))
  clear CR rs1 nA1 hg1 x1
  by_cases hok : ∃ x k', Wr.rd (l.drop 0) = some (x, k') ∧ x ≤ 64
  rotate_left 1
  · have hno : ∀ x k', Wr.rd (l.drop 0) = some (x, k') → (64 : Int) < (x : Int) := fun x k' hr => by
      rcases Nat.lt_or_ge 64 x with h | h
      · omega
      · exact absurd ⟨x, k', hr, h⟩ hok
    have CN := Lib.hid (rnum_no HR1.out.1 64 hno (HSE.out w1 HR1.out.2.2).1)
    have HNO := Lib.hid (fun fs (hf : GoodL fs) => no_start (l := l) hno hf)
    clear hok hno
    unfold BytesNo at CN
    go_wp2_with (go_at_call 58; refine CN.out.mono ?_; rintro e w4 ⟨rfl, j, rfl⟩)
    go_returns
    exact ⟨.inr ⟨HNO.out, rfl⟩, HR1.out.2.2.drewN j⟩
  obtain ⟨N, k', hrd, hx⟩ := hok
  have CN := Lib.hid (rnum_ok HR1.out.1 hrd 64 (by omega))
  have hkb := Wr.rd_count hrd
  rw [List.length_drop] at hkb
  have f1 := Fr.store w1 ⟨g, 1, none⟩ (.int .i64 ((0 + k' : Nat) : Int))
  have HP : Hid (RL w (w1.setCell ⟨g, 1, none⟩ (.int .i64 ((0 + k' : Nat) : Int))) g A1 n c1 (0 + k') l N none 0 0 []) := Lib.hid ⟨HR1.out.1.put (0 + k') (by omega), OLed.nil_, rfl, Fr.ext HR1.out.2.2 f1 (fun i e => by have e : i = g := e; have := HR1.out.2.1; omega), HR1.out.2.1, fun _ _ _ _ hb => (by cases hb), PartL.start HLB.out hrd hx⟩
  clear hrd hkb f1 HR1
  obtain ⟨p, hp⟩ : ∃ p, 0 + k' = p := ⟨_, rfl⟩
  rw [hp] at CN HP
  clear hp
  go_upto_region 7 with (go_at_call 58; refine CN.out.mono ?_; rintro e w4 ⟨rfl, rfl⟩)
  generalize w1.setCell ⟨g, 1, none⟩ (.int .i64 (p : Int)) = W1 at *
  clear CN
  go_loopw [7, 8, 9, 10, 23] (fun v7 _ _ _ v23 wr => ∃ (k at_ d : Nat) (B : Option Addr) (tt : List EnS), v23 = .int .i64 (k : Int) ∧ v7 = .slice B k d ∧ k ≤ N ∧ Hid (RL w wr g A1 n c1 at_ l N B k d tt)) (fun _ _ _ _ v23 _ => N - (intOf v23).toNat)
  case atStart => exact ⟨0, p, 0, none, [], rfl, rfl, by omega, HP.out⟩
  case round =>
    obtain ⟨k, at_, d, B, tt, rfl, rfl, hk, HI⟩ := hrel
    clear HP
    by_cases hlt : k < N
    · have k0 : (0 : Int) ≤ k := by omega
      have k1 : (k : Int) < N := by omega
      by_cases hok : ∃ x k', Wr.rd (l.drop at_) = some (x, k') ∧ x ≤ n ∧ at_ + k' + x ≤ n
      rotate_left 1
      · have hno : ∀ x k', Wr.rd (l.drop at_) = some (x, k') → (n : Int) < (x : Int) ∨ n < at_ + k' + x := fun x k' hr => by
          rcases Nat.lt_or_ge n x with h | h
          · exact .inl (by omega)
          · rcases Nat.lt_or_ge n (at_ + k' + x) with h2 | h2
            · exact .inr h2
            · exact absurd ⟨x, k', hr, h, h2⟩ hok
        have CB := Lib.hid (rbytes_no HI.out.rs (n : Int) hno (HSE.out wr HI.out.x).1)
        have HNO := Lib.hid (fun fs (hf : GoodL fs) => HI.out.p.no_rec (by rw [ents_len, HI.out.len]; exact hlt) (by rw [hnl]; exact hno) hf)
        clear hok hno
        unfold BytesNo at CB
        go_wp2_with (go_at_call 62; refine CB.out.mono ?_; rintro e w4 ⟨rfl, j, rfl⟩)
        go_returns
        exact ⟨.inr ⟨HNO.out, rfl⟩, HI.out.x.drewN j⟩
      obtain ⟨x, k', hrd, hxn, hfit⟩ := hok
      have CB := Lib.hid (rbytes_ok HI.out.rs hrd (n : Int) (by omega) hfit)
      have HRD := Lib.hid (And.intro hrd hfit)
      clear hrd
      go_upto_region 11 with (go_at_call 62; refine CB.out.mono ?_; rintro e w4 ⟨A4, c4, rfl, o4, s4, f4⟩)
      have X4 : Ext w w4 := Fr.ext HI.out.x f4 (fun i e => by have e : i = g := e; have := HI.out.lo; omega)
      have HO4 := Lib.hid (HI.out.ol.fr f4 HI.out.rs.blk (by decide) (by decide))
      have CG := Lib.hid (get_any A4 x c4 ((l.drop (at_ + k')).take x) w4 o4.rd (fun y hy => HLB.out y (List.mem_of_mem_drop (List.mem_of_mem_take hy))) (by omega) (HSE.out w4 X4).1 (HSE.out w4 X4).2)
      have H4 := Lib.hid (And.intro s4 X4)
      clear CB o4 s4 f4 X4
      go_wp2_with (go_at_call 28; refine held ?_)
      refine Held.go (CG.out.mono ?_)
      rintro e w5 ⟨hg5, x5⟩
      rcases hg5 with ⟨s, hsf, hsl, rfl, hl5, hm5⟩ | ⟨hno, rfl⟩
      rotate_left 1
      · have HNO := Lib.hid (fun fs (hf : GoodL fs) => HI.out.p.no_get (by rw [ents_len, HI.out.len]; exact hlt) HRD.out.1 hno hf)
        have HX := Lib.hid ((H4.out.2.trans x5).alloc (.cells #[.int .i64 0, .int .i64 0, .int .i64 0, .int .i64 0, .int .i64 0, .int .i64 0, .int .i64 0, .int .i64 0, .slice none 0 0, .int .i64 0] 29))
        clear hno CG HI HO4 H4
        go_wp2_with fail
        go_returns
        exact ⟨.inr ⟨HNO.out, rfl⟩, HX.out⟩
      have X6 := (Ext.refl w5).alloc (.cells #[.int .i64 s.e.cl, .int .i64 s.e.nu, .int .i64 s.e.kd, .int .i64 s.e.id, .int .i64 s.e.sk, .int .i64 s.e.sq, .int .i64 s.e.st, .int .i64 s.e.pol, .slice s.A s.n s.c, .int .i64 s.e.at_] 29)
      have hpn := HI.out.p.snoc HLB.out HRD.out.1 (by rw [hnl]; exact HRD.out.2) hsf hsl
      have H6 := Lib.hid (And.intro (heap_alloc_new w5 (.cells #[.int .i64 s.e.cl, .int .i64 s.e.nu, .int .i64 s.e.kd, .int .i64 s.e.id, .int .i64 s.e.sk, .int .i64 s.e.sq, .int .i64 s.e.st, .int .i64 s.e.pol, .slice s.A s.n s.c, .int .i64 s.e.at_] 29)) (And.intro (H4.out.1.ext (x5.trans X6)) (And.intro (HO4.out.ext (x5.trans X6)) (And.intro (H4.out.2.trans (x5.trans X6)) (And.intro (hl5.ext X6) (And.intro ((hm5 : Own ..).ext X6) hpn))))))
      have H7 := Lib.hid (And.intro HI.out.len (And.intro HI.out.lo (And.intro HI.out.nB (show w.heap.size ≤ w4.heap.size from H4.out.2.size))))
      clear hpn hsf hsl hl5 hm5 x5 X6 CG HI HO4 H4 HRD
      go_upto_region 14 with (fail)
      generalize w5.alloc (.cells #[.int .i64 s.e.cl, .int .i64 s.e.nu, .int .i64 s.e.kd, .int .i64 s.e.id, .int .i64 s.e.sk, .int .i64 s.e.sq, .int .i64 s.e.st, .int .i64 s.e.pol, .slice s.A s.n s.c, .int .i64 s.e.at_] 29) = V8 at *
      generalize w5.heap.size = tb at *
      have e0 : V8.cell? ⟨tb, 0, none⟩ = some (.int .i64 s.e.cl) := block_cell (H6.out.1) 0
      have e1 : V8.cell? ⟨tb, 1, none⟩ = some (.int .i64 s.e.nu) := block_cell (H6.out.1) 1
      have e2 : V8.cell? ⟨tb, 2, none⟩ = some (.int .i64 s.e.kd) := block_cell (H6.out.1) 2
      have e3 : V8.cell? ⟨tb, 3, none⟩ = some (.int .i64 s.e.id) := block_cell (H6.out.1) 3
      have e4 : V8.cell? ⟨tb, 4, none⟩ = some (.int .i64 s.e.sk) := block_cell (H6.out.1) 4
      have e5 : V8.cell? ⟨tb, 5, none⟩ = some (.int .i64 s.e.sq) := block_cell (H6.out.1) 5
      have e6 : V8.cell? ⟨tb, 6, none⟩ = some (.int .i64 s.e.st) := block_cell (H6.out.1) 6
      have e7 : V8.cell? ⟨tb, 7, none⟩ = some (.int .i64 s.e.pol) := block_cell (H6.out.1) 7
      have e8 : V8.cell? ⟨tb, 8, none⟩ = some (.slice s.A s.n s.c) := block_cell (H6.out.1) 8
      have e9 : V8.cell? ⟨tb, 9, none⟩ = some (.int .i64 s.e.at_) := block_cell (H6.out.1) 9
      have RN := rd_entry s V8
      have X9 := (Ext.refl V8).alloc (.cells #[.int .i64 s.e.cl, .int .i64 s.e.nu, .int .i64 s.e.kd, .int .i64 s.e.id, .int .i64 s.e.sk, .int .i64 s.e.sq, .int .i64 s.e.st, .int .i64 s.e.pol, .slice s.A s.n s.c, .int .i64 s.e.at_] 29)
      go_wp2_with (at_builtin; refine held ?_)
      refine Held.go (wp_app (m := 1) (news := s.vals) eltEn (H6.out.2.2.1.ext X9).own RN (vals_one s) (by omega) (.inr ⟨by omega, by omega⟩) (H6.out.2.2.2.1.trans X9).size _ _ rfl rfl rfl rfl ?_)
      intro A3 c3 w3 o3 g3 hA3 _
      have HN : Hid (RL w w3 g A1 n c1 (at_ + k' + x) l N A3 (k + 1) c3 (tt ++ [s])) := Lib.hid (rl_app ⟨H6.out.2.1.ext X9, H6.out.2.2.1.ext X9, H7.out.1, H6.out.2.2.2.1.trans X9, H7.out.2.1, H7.out.2.2.1⟩ g3 (H6.out.2.2.2.2.1.ext X9) (Own.base_mono (Own.ext H6.out.2.2.2.2.2.1 X9) H7.out.2.2.2) o3 hA3 H6.out.2.2.2.2.2.2)
      clear o3 g3 hA3 RN X9 e0 e1 e2 e3 e4 e5 e6 e7 e8 e9
      go_wp2_with fail
      go_roundw
      case rel => exact ⟨k + 1, at_ + k' + x, c3, A3, tt ++ [s], by go_num, rfl, by omega, HN.out⟩
      case measure => simp [intOf]; omega
    · obtain rfl : N = k := by omega
      have hat := HI.out.rs.le
      by_cases hend : at_ < n
      · have CE := Lib.hid (rend_no HI.out.rs hend (HSE.out wr HI.out.x).1)
        have HNO := Lib.hid (fun fs (hf : GoodL fs) => HI.out.p.none_of (by rw [ents_len]; exact HI.out.len) (by rw [hnl]; exact hend) hf)
        go_wp2_with (go_at_call 59; refine CE.out.mono ?_; rintro e w4 ⟨rfl, j, rfl⟩)
        go_returns
        exact ⟨.inr ⟨HNO.out, rfl⟩, HI.out.x.drewN j⟩
      · obtain rfl : n = at_ := by omega
        have CE := Lib.hid (rend_ok HI.out.rs)
        have HD := Lib.hid (HI.out.p.done (by rw [ents_len]; exact HI.out.len) (by rw [hnl]; exact Nat.le_refl _))
        go_wp2_with (go_at_call 59; refine CE.out.mono ?_; rintro e w4 ⟨rfl, j, rfl⟩)
        go_returns
        exact ⟨.inl ⟨tt, B, N, d, HI.out.len, ⟨by rw [ents_len, HI.out.len]; exact HI.out.p.n64, HI.out.p.ok⟩, HD.out, rfl, HI.out.ol.ext ((Ext.refl wr).drewN j)⟩, HI.out.x.drewN j⟩
end Go.Proofs.YteflnnlihblpgaaDoor
