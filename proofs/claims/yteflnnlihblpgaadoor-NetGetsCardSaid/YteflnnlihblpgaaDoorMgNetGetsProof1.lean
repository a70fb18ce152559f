/-
  The document's Read of a ledger, walked.
-/
import Derived.Test.YteflnnlihblpgaaDoorMgNetGetsProof0
namespace Go.Proofs.YteflnnlihblpgaaDoor
set_option maxRecDepth 100000
open Go.RowKit
set_option linter.unusedVariables false
/-- No entry is written of nothing. -/
theorem put_some {e : En} (h : e.form = true) : e.put ≠ [] := fun hp => by
  obtain ⟨x, k, hr, _⟩ := put_next h (ns := []) (r := []) (fun x hx => absurd hx (by simp)) (by rw [nums_len, List.length_nil]; omega) (by rw [hp]; rfl)
  revert hr
  show Wr.rd [] = some (x, k) → False
  intro h; cases h
/-- The document's reader on its way through a ledger. -/
structure RM (w wr : World) (g : Nat) (A : Option Addr) (n c at_ : Nat) (l : List Nat) (B : Option Addr) (k d : Nat) (tt : List EnS) : Prop where
  rs : RmS wr g A n c at_ l
  ol : OLed wr w.heap.size B k d tt
  len : tt.length = k
  x : Ext w wr
  lo : w.heap.size ≤ g
  oA : 0 < n → ∀ a, A = some a → a.block < w.heap.size
section
variable {w wr w' : World} {g n c at_ N k d : Nat} {A B : Option Addr} {l : List Nat} {tt : List EnS}
theorem RM.ext (h : RM w wr g A n c at_ l B k d tt) (hx : Ext wr w') : RM w w' g A n c at_ l B k d tt :=
  ⟨h.rs.ext hx, h.ol.ext hx, h.len, h.x.trans hx, h.lo, h.oA⟩
theorem RM.app (h : RM w wr g A n c at_ l B k d tt) (hg : Grows wr w' B) {x : EnS} (hx : x.Lies wr) (hm : x.Mine w.heap.size wr) {B' : Option Addr} {d' : Nat} (ho : Own w' w.heap.size 29 10 B' (k + 1) d' ((erows tt).flatten ++ x.vals)) : RM w w' g A n c at_ l B' (k + 1) d' (tt ++ [x]) := by
  have f1 := Fr.grows hg
  have nof : ∀ {q : Nat}, (∀ b, B = some b → b.block ≠ q) → ¬ B.map (·.block) = some q := fun hq e => by
    cases B with
    | none => cases e
    | some b => exact hq b rfl (by simpa using e)
  exact ⟨h.rs.frm f1 (nof (h.ol.own.away_t h.rs.blk (by decide))) (fun h0 a ha => nof (fun b hb e => by
    have q1 := h.oA h0 a ha
    have q2 := h.ol.own.base_le b.block (by rw [hb]; rfl)
    omega)), h.ol.snoc hg hx hm ho, by rw [List.length_append, h.len]; rfl, hg.ext h.x (fun q hq => h.ol.own.base_le q hq), h.lo, h.oA⟩
end
set_option maxHeartbeats 6400000 in
theorem rread_any (A : Option Addr) (n c : Nat) (l : List Nat) (w : World) (hr : Rd w 1 A n (u8s l)) (hl : ∀ x ∈ l, x < 256) (hn : n ≤ 140737488351232) (hnc : n ≤ c) : Calls Tryd.prog 33 #[.slice A n c] w fun x w' => ReadOut l w.heap.size (.bool false) (.bool true) x w' ∧ Ext w w' := by
  have hnl := hr.len
  rw [u8s_len] at hnl
  have HLB := Lib.hid hl
  have X1 := (Ext.refl w).alloc (.cells #[.slice A n c, .int .i64 0] 115)
  have b1 := heap_alloc_new w (.cells #[.slice A n c, .int .i64 0] 115)
  have oA : 0 < n → ∀ a, A = some a → a.block < w.heap.size := fun h0 a ha => by
    obtain ⟨a', ha', hlt, _⟩ := hr.2 h0
    rw [ha] at ha'
    injection ha' with ha'
    rw [ha']
    exact hlt
  have HR1 : Hid (RmS (w.alloc (.cells #[.slice A n c, .int .i64 0] 115)) w.heap.size A n c 0 l ∧ Ext w (w.alloc (.cells #[.slice A n c, .int .i64 0] 115)) ∧ (0 < n → ∀ a, A = some a → a.block < w.heap.size)) := Lib.hid ⟨⟨b1, hr.ext X1, hnc, fun h0 a ha e => by have := oA h0 a ha; omega, by omega, hl, hn⟩, X1, oA⟩
  clear hr hl X1 b1 oA
  go_enter Tryd.func33, Tryd.ntmps33
  go_upto_region 2 with (fail)
  generalize w.alloc (.cells #[.slice A n c, .int .i64 0] 115) = W0 at *
  generalize hg : w.heap.size = g at *
  have HG := Lib.hid hg
  clear hg
  by_cases hok : ∃ x k', Wr.rd (l.drop 0) = some (x, k') ∧ x ≤ 64
  rotate_left 1
  · have hno : ∀ x k', Wr.rd (l.drop 0) = some (x, k') → (64 : Int) < (x : Int) := fun x k' hr => by
      rcases Nat.lt_or_ge 64 x with h | h
      · omega
      · exact absurd ⟨x, k', hr, h⟩ hok
    have CN := Lib.hid (mnum_no HR1.out.1 64 hno)
    have HNO := Lib.hid (fun fs (hf : GoodL fs) => no_start (l := l) hno hf)
    clear hok hno
    go_wp2_with (go_at_call 61; refine CN.out.mono ?_; rintro e w4 ⟨rfl, x4⟩)
    go_returns
    exact ⟨.inr ⟨HNO.out, rfl⟩, HR1.out.2.1.trans x4⟩
  obtain ⟨N, k', hrd, hx⟩ := hok
  have CN := Lib.hid (mnum_ok HR1.out.1 hrd 64 (by omega))
  have HPS := Lib.hid (PartL.start HLB.out hrd hx)
  have hx64 := hx
  clear hrd hx
  obtain ⟨p, hp⟩ : ∃ p, 0 + k' = p := ⟨_, rfl⟩
  rw [hp] at CN HPS
  clear hp
  go_upto_region 5 with (go_at_call 61; refine CN.out.mono ?_; rintro e w4 ⟨rfl, s4, f4⟩)
  have X4 : Ext w w4 := Fr.ext HR1.out.2.1 f4 (fun i e => by have e : i = g := e; have := HG.out; omega)
  have X5 := (Ext.refl w4).alloc (.cells #[] 29)
  have HP : Hid (RM w (w4.alloc (.cells #[] 29)) g A n c p l (some ⟨w4.heap.size, 0, none⟩) 0 0 []) := Lib.hid ⟨s4.ext X5, ⟨World.ownsRow_lit (size := 10) _ #[] 0 X4.size (by simp [maxLen]) rfl, by simp⟩, rfl, X4.trans X5, by have := HG.out; omega, by rw [HG.out]; exact HR1.out.2.2⟩
  clear CN s4 f4 X4 X5 HR1
  go_upto_region 6 with (fail)
  generalize w4.alloc (.cells #[] 29) = W1 at *
  generalize w4.heap.size = ob at *
  go_loopw [7, 8, 9, 10, 11] (fun v7 _ _ _ _ wr => ∃ (k at_ d : Nat) (B : Option Addr) (tt : List EnS), v7 = .slice B k d ∧ k ≤ N ∧ Hid (RM w wr g A n c at_ l B k d tt ∧ PartL l at_ N (ents tt))) (fun v7 _ _ _ _ _ => N - slen v7)
  case atStart => exact ⟨0, p, 0, _, [], rfl, by omega, HP.out, HPS.out⟩
  case round =>
    obtain ⟨k, at_, d, B, tt, rfl, hk, HI⟩ := hrel
    clear HP HPS
    by_cases hlt : k < N
    · have k1 : (k : Int) < N := by omega
      by_cases hok : ∃ x k', Wr.rd (l.drop at_) = some (x, k') ∧ x ≤ n ∧ at_ + k' + x ≤ n
      rotate_left 1
      · have hno : ∀ x k', Wr.rd (l.drop at_) = some (x, k') → (n : Int) < (x : Int) ∨ n < at_ + k' + x := fun x k' hr => by
          rcases Nat.lt_or_ge n x with h | h
          · exact .inl (by omega)
          · rcases Nat.lt_or_ge n (at_ + k' + x) with h2 | h2
            · exact .inr h2
            · exact absurd ⟨x, k', hr, h, h2⟩ hok
        have CB := Lib.hid (mbytes_no HI.out.1.rs (n : Int) hno)
        have HNO := Lib.hid (fun fs (hf : GoodL fs) => HI.out.2.no_rec (by rw [ents_len, HI.out.1.len]; exact hlt) (by rw [hnl]; exact hno) hf)
        have CG := Lib.hid (fun W => (rget_any none 0 0 [] W Rd.nil_ (by simp) (by omega) (Nat.le_refl _)).mono (fun x w' (h : GetOut [] W.heap.size (.bool false) (.bool true) x w' ∧ Ext W w') => And.intro (h.1.resolve_left (fun ⟨s, h1, h2, _⟩ => put_some h1 h2.symm)).2 h.2))
        have HX := Lib.hid HI.out.1.x
        clear hok hno HI
        go_wp2_with (first
          | (go_at_call 63; refine CB.out.mono ?_; rintro e w4 ⟨rfl, x4⟩)
          | (go_at_call 31; refine (CG.out _).mono ?_; rintro e w5 ⟨rfl, x5⟩))
        go_returns
        exact ⟨.inr ⟨HNO.out, rfl⟩, (HX.out.trans (x4.trans x5)).alloc _⟩
      obtain ⟨x, k', hrd, hxn, hfit⟩ := hok
      have CB := Lib.hid (mbytes_ok HI.out.1.rs hrd (n : Int) (by omega) hfit)
      have HRD := Lib.hid (And.intro hrd hfit)
      clear hrd
      go_upto_region 8 with (go_at_call 63; refine CB.out.mono ?_; rintro e w4 ⟨A4, c4, rfl, o4, s4, f4⟩)
      have X4 : Ext w w4 := Fr.ext HI.out.1.x f4 (fun i e => by have e : i = g := e; have := HI.out.1.lo; omega)
      have HO4 := Lib.hid (HI.out.1.ol.fr f4 HI.out.1.rs.blk (by decide) (by decide))
      have CG := Lib.hid (rget_any A4 x c4 ((l.drop (at_ + k')).take x) w4 o4.rd (fun y hy => HLB.out y (List.mem_of_mem_drop (List.mem_of_mem_take hy))) (by omega) o4.cap_le)
      have H4 := Lib.hid (And.intro s4 X4)
      clear CB o4 s4 f4 X4
      go_wp2_with (go_at_call 31; refine held ?_)
      refine Held.go (CG.out.mono ?_)
      rintro e w5 ⟨hg5, x5⟩
      rcases hg5 with ⟨s, hsf, hsl, rfl, hl5, hm5⟩ | ⟨hno, rfl⟩
      rotate_left 1
      · have HNO := Lib.hid (fun fs (hf : GoodL fs) => HI.out.2.no_get (by rw [ents_len, HI.out.1.len]; exact hlt) HRD.out.1 hno hf)
        have HX := Lib.hid ((H4.out.2.trans x5).alloc (.cells #[.int .i64 0, .int .i64 0, .int .i64 0, .int .i64 0, .int .i64 0, .int .i64 0, .int .i64 0, .int .i64 0, .slice none 0 0, .int .i64 0] 29))
        clear hno CG HI HO4 H4
        go_wp2_with fail
        go_returns
        exact ⟨.inr ⟨HNO.out, rfl⟩, HX.out⟩
      have X6 := (Ext.refl w5).alloc (.cells #[.int .i64 s.e.cl, .int .i64 s.e.nu, .int .i64 s.e.kd, .int .i64 s.e.id, .int .i64 s.e.sk, .int .i64 s.e.sq, .int .i64 s.e.st, .int .i64 s.e.pol, .slice s.A s.n s.c, .int .i64 s.e.at_] 29)
      have hpn := HI.out.2.snoc HLB.out HRD.out.1 (by rw [hnl]; exact HRD.out.2) hsf hsl
      have H6 := Lib.hid (And.intro (heap_alloc_new w5 (.cells #[.int .i64 s.e.cl, .int .i64 s.e.nu, .int .i64 s.e.kd, .int .i64 s.e.id, .int .i64 s.e.sk, .int .i64 s.e.sq, .int .i64 s.e.st, .int .i64 s.e.pol, .slice s.A s.n s.c, .int .i64 s.e.at_] 29)) (And.intro (H4.out.1.ext (x5.trans X6)) (And.intro (HO4.out.ext (x5.trans X6)) (And.intro (H4.out.2.trans (x5.trans X6)) (And.intro (hl5.ext X6) (And.intro ((hm5 : Own ..).ext X6) hpn))))))
      have H7 := Lib.hid (And.intro HI.out.1.len (And.intro HI.out.1.lo (And.intro HI.out.1.oA (show w.heap.size ≤ w4.heap.size from H4.out.2.size))))
      clear hpn hsf hsl hl5 hm5 x5 X6 CG HI HO4 H4 HRD
      go_upto_region 11 with (fail)
      generalize w5.alloc (.cells #[.int .i64 s.e.cl, .int .i64 s.e.nu, .int .i64 s.e.kd, .int .i64 s.e.id, .int .i64 s.e.sk, .int .i64 s.e.sq, .int .i64 s.e.st, .int .i64 s.e.pol, .slice s.A s.n s.c, .int .i64 s.e.at_] 29) = V8 at *
      generalize w5.heap.size = tb at *
      have e0 : V8.cell? ⟨tb, 0, none⟩ = some (.int .i64 s.e.cl) := block_cell (H6.out.1) 0
      have e1 : V8.cell? ⟨tb, 1, none⟩ = some (.int .i64 s.e.nu) := block_cell (H6.out.1) 1
      have e2 : V8.cell? ⟨tb, 2, none⟩ = some (.int .i64 s.e.kd) := block_cell (H6.out.1) 2
      have e3 : V8.cell? ⟨tb, 3, none⟩ = some (.int .i64 s.e.id) := block_cell (H6.out.1) 3
      have e4 : V8.cell? ⟨tb, 4, none⟩ = some (.int .i64 s.e.sk) := block_cell (H6.out.1) 4
      have e5 : V8.cell? ⟨tb, 5, none⟩ = some (.int .i64 s.e.sq) := block_cell (H6.out.1) 5
      have e6 : V8.cell? ⟨tb, 6, none⟩ = some (.int .i64 s.e.st) := block_cell (H6.out.1) 6
      have e7 : V8.cell? ⟨tb, 7, none⟩ = some (.int .i64 s.e.pol) := block_cell (H6.out.1) 7
      have e8 : V8.cell? ⟨tb, 8, none⟩ = some (.slice s.A s.n s.c) := block_cell (H6.out.1) 8
      have e9 : V8.cell? ⟨tb, 9, none⟩ = some (.int .i64 s.e.at_) := block_cell (H6.out.1) 9
      have RN := rd_entry s V8
      have X9 := (Ext.refl V8).alloc (.cells #[.int .i64 s.e.cl, .int .i64 s.e.nu, .int .i64 s.e.kd, .int .i64 s.e.id, .int .i64 s.e.sk, .int .i64 s.e.sq, .int .i64 s.e.st, .int .i64 s.e.pol, .slice s.A s.n s.c, .int .i64 s.e.at_] 29)
      go_wp2_with (at_builtin; refine held ?_)
      refine Held.go (wp_app (m := 1) (news := s.vals) eltEn (H6.out.2.2.1.ext X9).own RN (vals_one s) (by omega) (.inr ⟨by omega, by omega⟩) (H6.out.2.2.2.1.trans X9).size _ _ rfl rfl rfl rfl ?_)
      intro A3 c3 w3 o3 g3 hA3 _
      have HN : Hid (RM w w3 g A n c (at_ + k' + x) l A3 (k + 1) c3 (tt ++ [s])) := Lib.hid (RM.app ⟨H6.out.2.1.ext X9, H6.out.2.2.1.ext X9, H7.out.1, H6.out.2.2.2.1.trans X9, H7.out.2.1, H7.out.2.2.1⟩ g3 (H6.out.2.2.2.2.1.ext X9) (Own.base_mono (Own.ext H6.out.2.2.2.2.2.1 X9) H7.out.2.2.2) o3)
      have HPN := Lib.hid H6.out.2.2.2.2.2.2
      clear o3 g3 hA3 RN X9 H6 H7 e0 e1 e2 e3 e4 e5 e6 e7 e8 e9
      go_wp2_with fail
      go_roundw
      case rel => exact ⟨k + 1, at_ + k' + x, c3, A3, tt ++ [s], rfl, by omega, HN.out, by rw [show ents (tt ++ [s]) = ents tt ++ [s.e] by simp [ents]]; exact HPN.out⟩
      case measure => simp [slen]; omega
    · obtain rfl : N = k := by omega
      have hat := HI.out.1.rs.le
      have c1 : wr.cell? ⟨g, 1, none⟩ = some (.int .i64 (at_ : Int)) := block_cell HI.out.1.rs.blk 1
      by_cases hend : at_ < n
      · have HNO := Lib.hid (fun fs (hf : GoodL fs) => HI.out.2.none_of (by rw [ents_len]; exact HI.out.1.len) (by rw [hnl]; exact hend) hf)
        have nn : ((at_ : Int) != (n : Int)) = true := by simp; omega
        go_wp2_with fail
        go_returns
        exact ⟨.inr ⟨HNO.out, rfl⟩, HI.out.1.x⟩
      · obtain rfl : n = at_ := by omega
        have HD := Lib.hid (HI.out.2.done (by rw [ents_len]; exact HI.out.1.len) (by rw [hnl]; exact Nat.le_refl _))
        go_wp2_with fail
        go_returns
        exact ⟨.inl ⟨tt, B, N, d, HI.out.1.len, ⟨by rw [ents_len, HI.out.1.len]; exact HI.out.2.n64, HI.out.2.ok⟩, HD.out, rfl, HI.out.1.ol⟩, HI.out.1.x⟩
end Go.Proofs.YteflnnlihblpgaaDoor
