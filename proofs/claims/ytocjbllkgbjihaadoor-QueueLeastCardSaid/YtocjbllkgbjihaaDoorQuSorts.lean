/-
  QueueSorts, walked.
-/
import Derived.Test.YtocjbllkgbjihaaDoorQuSortS
import Derived.Test.YtocjbllkgbjihaaDoorQuRahead
namespace Go.Proofs.YtocjbllkgbjihaaDoor
set_option maxRecDepth 100000
open Go.RowKit Go.Maps
set_option linter.unusedVariables false
/-- The pairs of a script. -/
def prow (t : Int × Int) : List Value := [.int .i64 t.1, .int .i64 t.2]
def prows (ts : List (Int × Int)) : List (List Value) := ts.map prow
theorem prows_even (ts : List (Int × Int)) : Even 2 (prows ts) := by
  intro r hr
  obtain ⟨x, _, rfl⟩ := List.mem_map.1 hr
  rfl
theorem prows_at {ts : List (Int × Int)} {k : Nat} {x : Int × Int} (h : ts[k]? = some x) : (prows ts)[k]? = some (prow x) := by simp [prows, h]
theorem prows_len (ts : List (Int × Int)) : (prows ts).length = ts.length := by simp [prows]
theorem add_one_eq (p : Addr) : p.add 1 = ⟨p.block, p.off + 1, none⟩ := rfl
section
variable {w w' : World}
set_option maxHeartbeats 3200000 in
theorem sorts_any (A B : Option Addr) (n c m d : Nat) (ranks : List Int) (ts : List (Int × Int)) (w : World) (hr : Rd w 1 A n (ints ranks)) (hrl : ranks.length = n) (ht : Rd w 2 B m (prows ts).flatten) (htl : ts.length = m) (htr : ∀ t ∈ ts, i64 t.1 ∧ i64 t.2) (hm : m * 16 ≤ 140737488355328)
    {pg : Addr} (hG : Sen w 0 pg) (hnc : n ≤ c) (hc : c * 8 ≤ 140737488351232) :
    Calls Tryd.prog 3 #[.slice A n c, .slice B m d] w fun e w' => e = .returned (.bool true) ∧ Ext w w' := by
  have CA := Lib.hid (alive_any w)
  by_cases hbig : 4096 < n
  · have k0 : (4096 : Int) < n := by omega
    clear hr ht
    go_enter Tryd.func3, Tryd.ntmps3
    go_wp2_with (refine CA.out.mono ?_; rintro e w1 ⟨rfl, x1⟩)
    go_returns
    exact ⟨rfl, x1⟩
  · have k0 : ¬ (4096 : Int) < n := by omega
    have HA := Lib.hid (And.intro hr (And.intro hrl (And.intro ht (And.intro htl (And.intro htr (And.intro hm hG))))))
    clear hr ht hG htr
    go_enter Tryd.func3, Tryd.ntmps3
    go_wp2_with (go_at_call 8; refine CA.out.mono ?_; rintro e w1 ⟨rfl, x1⟩)
    have C0 := Lib.hid (qnew_any w1)
    have X1 := Lib.hid x1
    clear CA x1
    refine C0.out.mono ?_
    rintro e w2 ⟨g, F, rfl, q2, hF, x2⟩
    have H2 := Lib.hid (And.intro q2 (And.intro (fun b hb => Nat.le_trans X1.out.size (hF b hb)) (X1.out.trans x2)))
    clear C0 X1 q2 hF x2
    go_wp2_with (at_builtin; refine held ?_)
    have HL := H2.out.2.2.size
    have ho : Own (w2.alloc (.cells #[] 3)) w.heap.size 3 1 (some ⟨w2.heap.size, 0, none⟩) 0 0 [] := World.ownsRow_lit (size := 1) w2 #[] 0 HL (by simp [maxLen]) rfl
    have XA := (Ext.refl w2).alloc (.cells #[] 3)
    refine Held.go (wp_app (m := n) (news := ints ranks) eltI ho (HA.out.1.ext (H2.out.2.2.trans XA)) (ints_one _) (by omega) (.inr ⟨by omega, by omega⟩) (by simp; omega) _ _ rfl rfl rfl rfl ?_)
    intro A3 lc w3 o3 g3 hA3 _
    rw [Nat.zero_add, List.nil_append] at o3
    rw [Nat.zero_add]
    obtain ⟨lb, rfl, hlb⟩ : ∃ lb, A3 = some ⟨lb, 0, none⟩ ∧ w2.heap.size ≤ lb := by
      rcases hA3 with e | e
      · exact ⟨_, e, Nat.le_refl _⟩
      · exact ⟨_, e, by simp⟩
    have x3 : Ext w2 w3 := g3.ext XA (fun b hb => by injection hb with hb; rw [← hb]; exact Nat.le_refl _)
    obtain ⟨w4, r4, o4, x4, hs4⟩ := run_mkn (w := w3) eltB rfl w.heap.size .i64 .i64 (n : Int) (by omega) (by omega) (by omega) (Nat.le_trans HL x3.size)
    rw [Int.toNat_natCast] at r4 o4
    have hgl : lb < w3.heap.size := o3.lt
    have HS : Hid (SS w w4 g F 0 lb w3.heap.size n lc ranks (List.replicate n false) []) := Lib.hid
      ⟨H2.out.1.ext (x3.trans x4), o3.ext x4, by rw [show bools (List.replicate n false) = List.replicate n (.bool false) by simp [bools]]; exact o4, fun e => by have := H2.out.1.lt _ e; omega, fun e => by have := H2.out.1.lt _ e; have := x3.size; omega, by omega, H2.out.2.1, H2.out.2.2.trans (x3.trans x4)⟩
    clear ho XA o3 g3 hA3 hlb x3 o4 x4 hs4 HL H2 hgl
    generalize w3.heap.size = gb at *
    go_wp2_with fail
    clear r4
    go_loopw [37] (fun v37 wr => ∃ k : Nat, v37 = .int .i64 (k : Int) ∧ k ≤ n ∧ Hid (∃ F L, SS w wr g F (20000 * k) lb gb n lc ranks (List.replicate n false) L ∧ L.length = k ∧ Mem L (fun i => decide (i < k)) ranks)) (fun v37 _ => n - (intOf v37).toNat)
    case atStart => exact ⟨0, rfl, by omega, F, [], HS.out, rfl, (Mem.nil_ _).congr (fun i _ => by simp)⟩
    case round =>
      obtain ⟨k, rfl, hk, HI⟩ := hrel
      by_cases hlt : k < n
      · obtain ⟨F1, L1, h1, h2, h3⟩ := HI.out
        obtain ⟨r, hrk⟩ : ∃ r, ranks[k]? = some r := ⟨ranks[k]'(by omega), List.getElem?_eq_getElem _⟩
        obtain ⟨ad, rfl, _, z1⟩ := (HA.out.1.ext h1.x).at_ hlt
        have y1 := z1 k _ (ints_at' hrk)
        have C1 := Lib.hid (qpush_ok h1.qp ⟨(k : Int), r⟩ ⟨by show (_ : Int) ≤ (k : Int); omega, by show (k : Int) ≤ _; omega⟩ (h3.none_ (fun i e1 e2 => by simp at e2; have e3 : (k : Int) = (i : Int) := e1; omega)) (by omega) (by omega))
        have H1 := Lib.hid (And.intro h1 (And.intro h2 (And.intro h3 hrk)))
        have k1 : (0 : Int) ≤ k := by omega
        have k2 : (k : Int) < n := by omega
        clear h1 h2 h3 z1 hrk HI
        go_wp2_with (refine C1.out.mono ?_; rintro e w5 ⟨rfl, F5, L5, n5, p5⟩)
        go_roundw
        case rel =>
          refine ⟨k + 1, by go_num, by omega, F5, L5, ?_, by rw [p5.length_eq, List.length_cons, H1.out.2.1], (H1.out.2.2.1.push H1.out.2.2.2 p5).congr (fun i hi => by show (decide (i < k) || i == k) = decide (i < k + 1); by_cases e1 : i < k + 1 <;> by_cases e2 : i < k <;> by_cases e3 : i = k <;> simp [e1, e2, e3] <;> omega)⟩
          have := H1.out.1.q n5
          rwa [show 20000 * k + 20000 = 20000 * (k + 1) by omega] at this
        case measure => simp [intOf]; omega
      · obtain rfl : n = k := by omega
        go_wp2_with fail
        obtain ⟨F1, L1, h1, h2, h3⟩ := HI.out
        have h3' : Mem L1 (alive_ (List.replicate n false)) ranks := h3.congr (fun i hi => by
          have hi2 : i < n := by omega
          simp [alive_, hi2])
        have HS1 := Lib.hid (And.intro h1 (And.intro h2 h3'))
        clear h1 h2 h3 h3' HI HS
        go_loopw [10, 52] (fun v10 v52 wr => ∃ k left : Nat, v52 = .int .i64 (k : Int) ∧ v10 = .int .i64 (left : Int) ∧ k ≤ m ∧ left ≤ n ∧ Hid (∃ F last gone L, SS w wr g F (20000 * n + 20000 * k) lb gb n lc last gone L ∧ L.length = left ∧ Mem L (alive_ gone) last)) (fun _ v52 _ => m - (intOf v52).toNat)
        case atStart => exact ⟨0, n, rfl, rfl, by omega, by omega, F1, ranks, _, L1, HS1.out⟩
        case round =>
          obtain ⟨k2, left, rfl, rfl, hk2, hleft, HI⟩ := hrel
          by_cases hlt2 : k2 < m
          · obtain ⟨F2, last, gone, L2, h1, h2, h3⟩ := HI.out
            obtain ⟨t, htk⟩ : ∃ t, ts[k2]? = some t := ⟨ts[k2]'(by omega), List.getElem?_eq_getElem _⟩
            obtain ⟨a, r⟩ := t
            obtain ⟨q2, hq2⟩ : ∃ q2, k2 * 2 = q2 := ⟨_, rfl⟩
            obtain ⟨ad, rfl, _, z1⟩ := (HA.out.2.2.1.ext h1.x).2 (by omega)
            have y0 : wr.cell? (ad.add q2) = some (.int .i64 a) := (HA.out.2.2.1.ext h1.x).rowAt (prows_even ts) (prows_at htk) hq2 (i := 0) rfl
            have y1 : wr.cell? ⟨(ad.add q2).block, (ad.add q2).off + 1, none⟩ = some (.int .i64 r) := by rw [← add_one_eq, add_add']; exact (HA.out.2.2.1.ext h1.x).rowAt (prows_even ts) (prows_at htk) hq2 (i := 1) rfl
            have ia := HA.out.2.2.2.2.1 _ (List.mem_of_getElem? htk)
            have j1 : (0 : Int) ≤ k2 := by omega
            have j2 : (k2 : Int) < m := by omega
            have X5 := (Ext.refl wr).alloc (.cells #[.int .i64 a, .int .i64 r] 31)
            have hb5 := heap_alloc_new wr (.cells #[.int .i64 a, .int .i64 r] 31)
            have H3 := Lib.hid (And.intro (h1.ext X5) (And.intro h2 (And.intro h3 (And.intro hb5 ia))))
            have HLT := Lib.hid h1.qp.lt
            clear h1 h2 h3 z1 HI X5 hb5 htk ia
            go_upto_region 20 with (fail)
            generalize wr.alloc (.cells #[.int .i64 a, .int .i64 r] 31) = V at *
            generalize wr.heap.size = tb at *
            have t0 : V.cell? ⟨tb, 0, none⟩ = some (.int .i64 a) := block_cell H3.out.2.2.2.1 0
            have t1 : V.cell? ⟨tb, 1, none⟩ = some (.int .i64 r) := block_cell H3.out.2.2.2.1 1
            clear y0 y1
            have hgl := H3.out.1.glen
            have hll := H3.out.1.llen
            have a1 : -9223372036854775808 ≤ a := H3.out.2.2.2.2.1.1
            have a2 : a ≤ 9223372036854775807 := H3.out.2.2.2.2.1.2
            have a3 : -9223372036854775808 ≤ r := H3.out.2.2.2.2.2.1
            have a4 : r ≤ 9223372036854775807 := H3.out.2.2.2.2.2.2
            by_cases ha0 : a < 0
            · have b0 : ¬ (0 : Int) ≤ a := by omega
              have HN := Lib.hid (H3.out.2.2.1.none_ (a := a) (fun i e1 e2 => by omega))
              have CD := Lib.hid (qdrop_gone H3.out.1.qp H3.out.2.2.2.2.1 HN.out (HA.out.2.2.2.2.2.2.ext H3.out.1.x))
              have CT := Lib.hid (qturn_gone H3.out.1.qp H3.out.2.2.2.2.1 HN.out r (HA.out.2.2.2.2.2.2.ext H3.out.1.x))
              have END := Lib.hid (fun (W : World) (hx : Ext V W) => show ∃ F last gone L, SS w W g F (20000 * n + 20000 * (k2 + 1)) lb gb n lc last gone L ∧ L.length = left ∧ Mem L (alive_ gone) last from ⟨F2, last, gone, L2, by
                have h1 := H3.out.1.ext hx
                exact ⟨h1.qp.mono (by omega), h1.lo, h1.go, h1.nl, h1.ng, h1.ne, h1.bF, h1.x⟩, H3.out.2.1, H3.out.2.2.1⟩)
              by_cases h5 : r.tmod 5 = 0
              · have h5' : (r.tmod 5 == 0) = true := by simpa using h5
                go_wp2_with (go_at_call 11; refine CD.out.mono ?_; rintro e w6 ⟨rfl, x6⟩)
                go_roundw
                case rel => exact ⟨k2 + 1, left, by go_num, rfl, by omega, hleft, END.out _ x6⟩
                case measure => simp [intOf]; omega
              · have h5' : (r.tmod 5 == 0) = false := by simpa using h5
                go_wp2_with (go_at_call 12; refine CT.out.mono ?_; rintro e w6 ⟨rfl, x6⟩)
                go_roundw
                case rel => exact ⟨k2 + 1, left, by go_num, rfl, by omega, hleft, END.out _ x6⟩
                case measure => simp [intOf]; omega
            · have b0 : (0 : Int) ≤ a := by omega
              by_cases han : (n : Int) ≤ a
              · have b1 : ¬ a < (n : Int) := by omega
                have HN := Lib.hid (H3.out.2.2.1.none_ (a := a) (fun i e1 e2 => by omega))
                have CD := Lib.hid (qdrop_gone H3.out.1.qp H3.out.2.2.2.2.1 HN.out (HA.out.2.2.2.2.2.2.ext H3.out.1.x))
                have CT := Lib.hid (qturn_gone H3.out.1.qp H3.out.2.2.2.2.1 HN.out r (HA.out.2.2.2.2.2.2.ext H3.out.1.x))
                have END := Lib.hid (fun (W : World) (hx : Ext V W) => show ∃ F last gone L, SS w W g F (20000 * n + 20000 * (k2 + 1)) lb gb n lc last gone L ∧ L.length = left ∧ Mem L (alive_ gone) last from ⟨F2, last, gone, L2, by
                  have h1 := H3.out.1.ext hx
                  exact ⟨h1.qp.mono (by omega), h1.lo, h1.go, h1.nl, h1.ng, h1.ne, h1.bF, h1.x⟩, H3.out.2.1, H3.out.2.2.1⟩)
                by_cases h5 : r.tmod 5 = 0
                · have h5' : (r.tmod 5 == 0) = true := by simpa using h5
                  go_wp2_with (go_at_call 11; refine CD.out.mono ?_; rintro e w6 ⟨rfl, x6⟩)
                  go_roundw
                  case rel => exact ⟨k2 + 1, left, by go_num, rfl, by omega, hleft, END.out _ x6⟩
                  case measure => simp [intOf]; omega
                · have h5' : (r.tmod 5 == 0) = false := by simpa using h5
                  go_wp2_with (go_at_call 12; refine CT.out.mono ?_; rintro e w6 ⟨rfl, x6⟩)
                  go_roundw
                  case rel => exact ⟨k2 + 1, left, by go_num, rfl, by omega, hleft, END.out _ x6⟩
                  case measure => simp [intOf]; omega
              · have b1 : a < (n : Int) := by omega
                obtain ⟨i, rfl⟩ := Int.eq_ofNat_of_zero_le b0
                obtain ⟨gx, hgi⟩ : ∃ gx, gone[i]? = some gx := ⟨gone[i]'(by omega), List.getElem?_eq_getElem _⟩
                obtain ⟨lx, hli⟩ : ∃ lx, last[i]? = some lx := ⟨last[i]'(by omega), List.getElem?_eq_getElem _⟩
                have g0 : V.cell? ⟨gb, i, none⟩ = some (.bool gx) := H3.out.1.go.cellAt (by omega) (bools_at hgi)
                cases gx with
                | true =>
                  have HN := Lib.hid (H3.out.2.2.1.none_ (a := (i : Int)) (fun i2 e1 e2 => by
                    have e3 : i = i2 := by omega
                    subst e3
                    simp [alive_, hgi] at e2))
                  have CD := Lib.hid (qdrop_gone H3.out.1.qp H3.out.2.2.2.2.1 HN.out (HA.out.2.2.2.2.2.2.ext H3.out.1.x))
                  have CT := Lib.hid (qturn_gone H3.out.1.qp H3.out.2.2.2.2.1 HN.out r (HA.out.2.2.2.2.2.2.ext H3.out.1.x))
                  have END := Lib.hid (fun (W : World) (hx : Ext V W) => show ∃ F last gone L, SS w W g F (20000 * n + 20000 * (k2 + 1)) lb gb n lc last gone L ∧ L.length = left ∧ Mem L (alive_ gone) last from ⟨F2, last, gone, L2, by
                    have h1 := H3.out.1.ext hx
                    exact ⟨h1.qp.mono (by omega), h1.lo, h1.go, h1.nl, h1.ng, h1.ne, h1.bF, h1.x⟩, H3.out.2.1, H3.out.2.2.1⟩)
                  by_cases h5 : r.tmod 5 = 0
                  · have h5' : (r.tmod 5 == 0) = true := by simpa using h5
                    go_wp2_with (go_at_call 11; refine CD.out.mono ?_; rintro e w6 ⟨rfl, x6⟩)
                    go_roundw
                    case rel => exact ⟨k2 + 1, left, by go_num, rfl, by omega, hleft, END.out _ x6⟩
                    case measure => simp [intOf]; omega
                  · have h5' : (r.tmod 5 == 0) = false := by simpa using h5
                    go_wp2_with (go_at_call 12; refine CT.out.mono ?_; rintro e w6 ⟨rfl, x6⟩)
                    go_roundw
                    case rel => exact ⟨k2 + 1, left, by go_num, rfl, by omega, hleft, END.out _ x6⟩
                    case measure => simp [intOf]; omega
                | false =>
                  have HTB := Lib.hid (show ¬ F2 tb from fun e => by have := HLT.out _ e; omega)
                  obtain ⟨y, hy, hyi⟩ := H3.out.2.2.1.find (k := i) (by simp [alive_, hgi]) hli
                  obtain ⟨l', rfl⟩ : ∃ l', left = l' + 1 := ⟨left - 1, by have := List.length_pos_of_mem hy; have := H3.out.2.1; omega⟩
                  have CD := qdrop_ok H3.out.1.qp hy (by omega)
                  have CT := qturn_ok H3.out.1.qp hy r (by omega)
                  rw [hyi] at CD CT
                  have CD := Lib.hid CD
                  have CT := Lib.hid CT
                  have HY := Lib.hid (And.intro hyi (And.intro hgi hli))
                  have hin : i < n := by omega
                  clear hyi hy hli
                  by_cases h5 : r.tmod 5 = 0
                  · have h5' : (r.tmod 5 == 0) = true := by simpa using h5
                    go_wp2_with fail
                    refine CD.out.mono ?_
                    rintro e w6 ⟨rfl, F6, L6, n6, p6⟩
                    have s6 := H3.out.1.q n6
                    have u0 : w6.cell? ⟨gb, i, none⟩ = some (.bool false) := s6.go.cellAt hin (bools_at HY.out.2.1)
                    have u1 : w6.frozen? ⟨gb, i, none⟩ = false := s6.go.frozenAt i
                    have HE := Lib.hid (show ∃ F last gone L, SS w (w6.setCell ⟨gb, i, none⟩ (.bool true)) g F (20000 * n + 20000 * (k2 + 1)) lb gb n lc last gone L ∧ L.length = l' ∧ Mem L (alive_ gone) last from ⟨F6, last, gone.set i true, L6, by
                      have h1 := s6.putGone i true
                      exact ⟨h1.qp.mono (by omega), h1.lo, h1.go, h1.nl, h1.ng, h1.ne, h1.bF, h1.x⟩, by have := p6.length_eq; have := H3.out.2.1; simp at *; omega, (H3.out.2.2.1.out H3.out.1.qp.ids HY.out.1 p6).congr (fun q hq => by
                        show (alive_ gone q && !(q == i)) = alive_ (gone.set i true) q
                        unfold alive_
                        by_cases e : q = i
                        · subst e
                          rw [List.getElem?_set_self (by have := H3.out.1.glen; omega)]
                          simp
                        · rw [List.getElem?_set_ne (fun e2 => e e2.symm)]
                          simp [e])⟩)
                    clear CD CT s6 n6 p6
                    go_wp2_with fail
                    go_roundw
                    case rel => exact ⟨k2 + 1, l', by go_num, by go_num, by omega, by omega, HE.out⟩
                    case measure => simp [intOf]; omega
                  · have h5' : (r.tmod 5 == 0) = false := by simpa using h5
                    go_wp2_with fail
                    refine CT.out.mono ?_
                    rintro e w6 ⟨rfl, F6, L6, R6, n6, p6, p7⟩
                    have s6 := H3.out.1.q n6
                    have u0 : w6.cell? ⟨lb, i, none⟩ = some (.int .i64 lx) := s6.lo.cellAt hin (ints_at' HY.out.2.2)
                    have u1 : w6.frozen? ⟨lb, i, none⟩ = false := s6.lo.frozenAt i
                    have u2 : w6.cell? ⟨tb, 1, none⟩ = some (.int .i64 r) := block_cell (n6.blk H3.out.2.2.2.1 HTB.out) 1
                    have HE := Lib.hid (show ∃ F last gone L, SS w (w6.setCell ⟨lb, i, none⟩ (.int .i64 r)) g F (20000 * n + 20000 * (k2 + 1)) lb gb n lc last gone L ∧ L.length = l' + 1 ∧ Mem L (alive_ gone) last from ⟨F6, last.set i r, gone, L6, by
                      have h1 := s6.putLast i r
                      exact ⟨h1.qp.mono (by omega), h1.lo, h1.go, h1.nl, h1.ng, h1.ne, h1.bF, h1.x⟩, by have := p6.length_eq; have := p7.length_eq; have := H3.out.2.1; simp at *; omega, by
                        rw [← HY.out.1] at p7
                        exact H3.out.2.2.1.turn H3.out.1.qp.ids HY.out.1 (by simp [alive_, HY.out.2.1]) (by have := H3.out.1.llen; omega) p6 p7⟩)
                    clear CD CT s6 n6 p6 p7
                    go_wp2_with fail
                    go_roundw
                    case rel => exact ⟨k2 + 1, l' + 1, by go_num, rfl, by omega, by omega, HE.out⟩
                    case measure => simp [intOf]; omega
          · obtain rfl : m = k2 := by omega
            obtain ⟨F2, last, gone, L2, h1, h2, h3⟩ := HI.out
            have H4 := Lib.hid (And.intro h1 (And.intro h2 h3))
            clear h1 h2 h3 HI
            go_upto_region 34 with (fail)
            have X7 := (Ext.refl wr).alloc (.cells #[.int .i64 0, .int .i64 0] 34)
            have hb7 := heap_alloc_new wr (.cells #[.int .i64 0, .int .i64 0] 34)
            have HB : Hid (∃ F gone L bf, SS w (wr.alloc (.cells #[.int .i64 0, .int .i64 0] 34)) g F (20000 * n + 20000 * m + 20000 * 0) lb gb n lc last gone L ∧ L.length + 0 = left ∧ Mem L (alive_ gone) last ∧ (wr.alloc (.cells #[.int .i64 0, .int .i64 0] 34)).heap[wr.heap.size]? = some (.cells #[.int .i64 bf.id, .int .i64 bf.rank] 34 (0, 0)) ∧ (0 < 0 → ∀ y ∈ L, ah bf y = true) ∧ ¬ F wr.heap.size ∧ i64 bf.id) := Lib.hid
              ⟨F2, gone, L2, ⟨0, 0⟩, H4.out.1.ext X7, H4.out.2.1, H4.out.2.2, hb7, fun h => absurd h (by omega), fun e => absurd (H4.out.1.qp.lt _ e) (Nat.lt_irrefl _), by constructor <;> decide⟩
            have HNE := Lib.hid (And.intro (show wr.heap.size ≠ lb from by have := H4.out.1.lo.lt; omega) (And.intro (show wr.heap.size ≠ gb from by have := H4.out.1.go.lt; omega) H4.out.1.x.size))
            have HLG := Lib.hid H4.out.1.llen
            clear X7 hb7 H4
            generalize wr.alloc (.cells #[.int .i64 0, .int .i64 0] 34) = V at *
            generalize wr.heap.size = bb at *
            go_wp2_with fail
            go_loopw [16] (fun v16 wr => ∃ t : Nat, v16 = .int .i64 (t : Int) ∧ t ≤ left ∧ Hid (∃ F gone L bf, SS w wr g F (20000 * n + 20000 * m + 20000 * t) lb gb n lc last gone L ∧ L.length + t = left ∧ Mem L (alive_ gone) last ∧ wr.heap[bb]? = some (.cells #[.int .i64 bf.id, .int .i64 bf.rank] 34 (0, 0)) ∧ (0 < t → ∀ y ∈ L, ah bf y = true) ∧ ¬ F bb ∧ i64 bf.id)) (fun v16 _ => left - (intOf v16).toNat)
            case atStart => exact ⟨0, rfl, by omega, HB.out⟩
            case round =>
              obtain ⟨t, rfl, htl2, HI⟩ := hrel
              by_cases hlt3 : t < left
              · obtain ⟨F5, gone5, L5, bf, h1, h2, h3, h4, h5, h6, h7⟩ := HI.out
                obtain ⟨i, e1, e2, e3⟩ := (h3 (at_ L5 0)).1 (at_mem (by omega))
                obtain ⟨rk, erk⟩ : ∃ rk, (at_ L5 0).rank = rk := ⟨_, rfl⟩
                rw [erk] at e2
                have hx : (⟨(i : Int), rk⟩ : Th) = at_ L5 0 := th_eq ⟨e3.symm, erk.symm⟩
                have C1 := Lib.hid (qpop_ok h1.qp (m := left - t - 1) (by omega) (by omega) (Lib.hid hx))
                have hil : i < last.length := (List.getElem?_eq_some_iff.1 e2).1
                have hg5 : gone5[i]? = some false := by simpa [alive_] using e1
                have H5 := Lib.hid (And.intro h1 (And.intro h2 (And.intro h3 (And.intro h4 (And.intro h5 (And.intro h6 (And.intro h7 (And.intro hx (And.intro e2 (And.intro hg5 hil))))))))))
                have hin : i < n := by have := HLG.out; omega
                clear h1 h2 h3 h4 h5 h6 h7 hx e1 e2 e3 erk hil hg5 HI
                have l1 : (t : Int) < (left : Int) := by omega
                go_wp2_with fail
                refine C1.out.mono ?_
                rintro e w6 ⟨rfl, F6, L6, n6, p6⟩
                have s6 := H5.out.1.q n6
                have hbb := n6.blk H5.out.2.2.2.1 H5.out.2.2.2.2.2.1
                have hle : ∀ y ∈ L6, ah ⟨(i : Int), rk⟩ y = true := fun y hy => by
                  have hI2 := H5.out.1.qp.ids.perm p6.symm
                  have h1 := heap_least H5.out.1.qp.hp y (p6.mem_iff.1 (List.mem_cons_of_mem _ hy))
                  rw [← H5.out.2.2.2.2.2.2.2.1] at h1
                  exact ne_lt h1 (fun e => hI2.ne y hy e.symm)
                have X8 := (Ext.refl w6).alloc (.cells #[.int .i64 (i : Int), .int .i64 rk] 34)
                have hb8 := heap_alloc_new w6 (.cells #[.int .i64 (i : Int), .int .i64 rk] 34)
                have hnb : ¬ F6 bb := n6.out (block_lt H5.out.2.2.2.1) H5.out.2.2.2.2.2.1
                have HM6 := Lib.hid (H5.out.2.2.1.out H5.out.1.qp.ids rfl p6)
                have HL6 := Lib.hid (show L6.length + (t + 1) = left from by have h2 := p6.length_eq; rw [List.length_cons] at h2; have h3 := H5.out.2.1; omega)
                have HAH := Lib.hid (fun (h : 0 < t) => H5.out.2.2.2.2.1 h ⟨(i : Int), rk⟩ (by rw [H5.out.2.2.2.2.2.2.2.1]; exact at_mem (by have := H5.out.2.1; omega)))
                have H6 := Lib.hid (And.intro (s6.ext X8) (And.intro ((X8.block bb (block_lt hbb)).trans hbb) (And.intro hb8 (And.intro hle (And.intro hnb (And.intro (show bb ≠ w6.heap.size from by have := block_lt hbb; omega) (And.intro (fun e => absurd (n6.qp.lt _ e) (Nat.lt_irrefl _) : ¬ F6 w6.heap.size) (And.intro (show w6.heap.size ≠ gb from by have := s6.go.lt; omega) (show w6.heap.size ≠ lb from by have := s6.lo.lt; omega)))))))))
                clear C1 n6 p6 s6 hbb hle X8 hb8 hnb
                go_upto_region 38 with (fail)
                generalize w6.alloc (.cells #[.int .i64 (i : Int), .int .i64 rk] 34) = V6 at *
                generalize w6.heap.size = xb at *
                have x0 : V6.cell? ⟨xb, 0, none⟩ = some (.int .i64 (i : Int)) := block_cell H6.out.2.2.1 0
                have x1 : V6.cell? ⟨xb, 1, none⟩ = some (.int .i64 rk) := block_cell H6.out.2.2.1 1
                have x2 : V6.cell? ⟨bb, 0, none⟩ = some (.int .i64 bf.id) := block_cell H6.out.2.1 0
                have x3 : V6.cell? ⟨bb, 1, none⟩ = some (.int .i64 bf.rank) := block_cell H6.out.2.1 1
                have x4 : V6.cell? ⟨gb, i, none⟩ = some (.bool false) := H6.out.1.go.cellAt hin (bools_at H5.out.2.2.2.2.2.2.2.2.2.1)
                have x5 : V6.cell? ⟨lb, i, none⟩ = some (.int .i64 rk) := H6.out.1.lo.cellAt hin (ints_at' H5.out.2.2.2.2.2.2.2.2.1)
                have f0 : (0 : Int) ≤ (i : Int) := by omega
                have f1 : (i : Int) < (n : Int) := by omega
                have f2 : ((i : Int) < 0) = False := by simp
                have f3 : ((n : Int) ≤ (i : Int)) = False := by simp; omega
                by_cases ht0 : t = 0
                · have f4 : ((0 : Int) < (t : Int)) = False := by simp; omega
                  have f5 : (0 < t) = False := by simp; omega
                  clear ht0
                  go_quiet (fail)
                  have HX := Lib.hid (((Ext.refl V6).drewN nq))
                  clear x0 x1 x2 x3 x4 x5 f2 f3 f4 f5
                  generalize V6.drewN nq = W8 at *
                  have HQ : Hid (SS w W8 g F6 (20000 * n + 20000 * m + 20000 * t + 20000) lb gb n lc last gone5 L6 ∧ W8.heap[bb]? = some (.cells #[.int .i64 bf.id, .int .i64 bf.rank] 34 (0, 0)) ∧ W8.heap[xb]? = some (.cells #[.int .i64 (i : Int), .int .i64 rk] 34 (0, 0))) := Lib.hid (by
                    have h := HX.out
                    exact ⟨H6.out.1.ext h, (h.block bb (block_lt H6.out.2.1)).trans H6.out.2.1, (h.block xb (block_lt H6.out.2.2.1)).trans H6.out.2.2.1⟩)
                  have HE : Hid (∃ F gone L bf, SS w (((W8.setCell ⟨gb, i, none⟩ (.bool true)).setCell ⟨bb, 0, none⟩ (.int .i64 (i : Int))).setCell ⟨bb, 1, none⟩ (.int .i64 rk)) g F (20000 * n + 20000 * m + 20000 * (t + 1)) lb gb n lc last gone L ∧ L.length + (t + 1) = left ∧ Mem L (alive_ gone) last ∧ (((W8.setCell ⟨gb, i, none⟩ (.bool true)).setCell ⟨bb, 0, none⟩ (.int .i64 (i : Int))).setCell ⟨bb, 1, none⟩ (.int .i64 rk)).heap[bb]? = some (.cells #[.int .i64 bf.id, .int .i64 bf.rank] 34 (0, 0)) ∧ (0 < t + 1 → ∀ y ∈ L, ah bf y = true) ∧ ¬ F bb ∧ i64 bf.id) := Lib.hid (by
                    have s8 := HQ.out.1.putGone i true
                    have b8 := (Fr.store W8 ⟨gb, i, none⟩ (.bool true)).block bb (block_lt HQ.out.2.1) (fun e => HNE.out.2.1 e) |>.trans HQ.out.2.1
                    have s9 := s8.fr (Fr.store2 _ bb 0 1 (.int .i64 (i : Int)) (.int .i64 rk)) (fun k e => by rw [e]; exact HNE.out.2.2) (fun k hk e => H6.out.2.2.2.2.1 (e ▸ hk)) (fun e => HNE.out.1 e.symm) (fun e => HNE.out.2.1 e.symm)
                    refine ⟨F6, gone5.set i true, L6, ⟨(i : Int), rk⟩, ⟨s9.qp.mono (by omega), s9.lo, s9.go, s9.nl, s9.ng, s9.ne, s9.bF, s9.x⟩, HL6.out, HM6.out.congr (fun q hq => ?_), set2_blk b8, fun _ => H6.out.2.2.2.1, H6.out.2.2.2.2.1, show i64 (i : Int) from ⟨by omega, by omega⟩⟩
                    show (alive_ gone5 q && !(q == i)) = alive_ (gone5.set i true) q
                    unfold alive_
                    by_cases e : q = i
                    · subst e
                      rw [List.getElem?_set_self (by have := H5.out.1.glen; omega)]
                      simp
                    · rw [List.getElem?_set_ne (fun e2 => e e2.symm)]
                      simp [e])
                  have y0 : W8.cell? ⟨xb, 0, none⟩ = some (.int .i64 (i : Int)) := block_cell HQ.out.2.2 0
                  have y1 : W8.cell? ⟨xb, 1, none⟩ = some (.int .i64 rk) := block_cell HQ.out.2.2 1
                  have u0 : W8.cell? ⟨gb, i, none⟩ = some (.bool false) := HQ.out.1.go.cellAt hin (bools_at H5.out.2.2.2.2.2.2.2.2.2.1)
                  have u1 : W8.frozen? ⟨gb, i, none⟩ = false := HQ.out.1.go.frozenAt i
                  have v0 : W8.cell? ⟨bb, 0, none⟩ = some (.int .i64 bf.id) := block_cell HQ.out.2.1 0
                  have v1 : W8.cell? ⟨bb, 1, none⟩ = some (.int .i64 bf.rank) := block_cell HQ.out.2.1 1
                  have v2 := block_fz HQ.out.2.1 0
                  have v3 := block_fz HQ.out.2.1 1
                  have n1 : bb ≠ gb := HNE.out.2.1
                  have n2 : xb ≠ gb := H6.out.2.2.2.2.2.2.2.1
                  have n3 : bb ≠ xb := H6.out.2.2.2.2.2.1
                  go_wp2_with fail
                  go_roundw
                  case rel => exact ⟨t + 1, by go_num, by omega, HE.out⟩
                  case measure => simp [intOf]; omega
                · have f4 : ((0 : Int) < (t : Int)) = True := by simp; omega
                  have f5 : (0 < t) = True := by simp; omega
                  have HT := Lib.hid ht0
                  clear ht0
                  have HS1 : V6.drew.cell? ⟨xb, 0, none⟩ = some (.int .i64 (i : Int)) ∧ V6.drew.cell? ⟨xb, 1, none⟩ = some (.int .i64 rk) ∧ V6.drew.cell? ⟨bb, 0, none⟩ = some (.int .i64 bf.id) ∧ V6.drew.cell? ⟨bb, 1, none⟩ = some (.int .i64 bf.rank) ∧ V6.drew.cell? ⟨gb, i, none⟩ = some (.bool false) ∧ V6.drew.cell? ⟨lb, i, none⟩ = some (.int .i64 rk) := ⟨x0, x1, x2, x3, x4, x5⟩
                  refine d_region (fun W : World => W.cell? ⟨xb, 0, none⟩ = some (.int .i64 (i : Int)) ∧ W.cell? ⟨xb, 1, none⟩ = some (.int .i64 rk) ∧ W.cell? ⟨bb, 0, none⟩ = some (.int .i64 bf.id) ∧ W.cell? ⟨bb, 1, none⟩ = some (.int .i64 bf.rank) ∧ W.cell? ⟨gb, i, none⟩ = some (.bool false) ∧ W.cell? ⟨lb, i, none⟩ = some (.int .i64 rk)) [37, 38, 39, 40] (by kernel_rfl) ?_
                  refine d_take (i := 0) (v := ?_) [1, 2, 3, 4, 5, 6, 7, 8, 9, 10, 11, 12, 13, 14, 15, 16, 17, 18, 19, 20, 21, 22, 23, 24, 25, 26, 27, 28, 29, 30, 31, 32, 33, 34, 35, 36, 37, 38, 39, 40] (some 115) rfl (by rfl) (by kernel_rfl) (by kernel_rfl) (by kernel_rfl) (by kernel_rfl) (by kernel_rfl) (by kernel_rfl) (fun _ _ _ h => h) (.inl ⟨by rfl, ?_⟩) HS1 ?_
                  rotate_left 1
                  · (intro W hW; (try dsimp only at hW); go_simp; try with_reducible rfl)
                  try simp only [Act.put, List.setIfInBounds_toArray, List.set_cons_zero, List.set_cons_succ]
                  refine d_take (i := 1) (v := ?_) [2, 3, 4, 5, 6, 7, 8, 9, 10, 11, 12, 13, 14, 15, 16, 17, 18, 19, 20, 21, 22, 23, 24, 25, 26, 27, 28, 29, 30, 31, 32, 33, 34, 35, 36, 37, 38, 39, 40] (some 116) rfl (by rfl) (by kernel_rfl) (by kernel_rfl) (by kernel_rfl) (by kernel_rfl) (by kernel_rfl) (by kernel_rfl) (fun _ _ _ h => h) (.inl ⟨by rfl, ?_⟩) HS1 ?_
                  rotate_left 1
                  · (intro W hW; (try dsimp only at hW); go_simp; try with_reducible rfl)
                  try simp only [Act.put, List.setIfInBounds_toArray, List.set_cons_zero, List.set_cons_succ]
                  refine d_take (i := 2) (v := ?_) [3, 4, 5, 6, 7, 8, 9, 10, 11, 12, 13, 14, 15, 16, 17, 18, 19, 20, 21, 22, 23, 24, 25, 26, 27, 28, 29, 30, 31, 32, 33, 34, 35, 36, 37, 38, 39, 40] (some 117) rfl (by rfl) (by kernel_rfl) (by kernel_rfl) (by kernel_rfl) (by kernel_rfl) (by kernel_rfl) (by kernel_rfl) (fun _ _ _ h => h) (.inl ⟨by rfl, ?_⟩) HS1 ?_
                  rotate_left 1
                  · (intro W hW; (try dsimp only at hW); go_simp; try with_reducible rfl)
                  try simp only [Act.put, List.setIfInBounds_toArray, List.set_cons_zero, List.set_cons_succ]
                  refine d_take (i := 3) (v := ?_) [4, 5, 6, 7, 8, 9, 10, 11, 12, 13, 14, 15, 16, 17, 18, 19, 20, 21, 22, 23, 24, 25, 26, 27, 28, 29, 30, 31, 32, 33, 34, 35, 36, 37, 38, 39, 40] (some 118) rfl (by rfl) (by kernel_rfl) (by kernel_rfl) (by kernel_rfl) (by kernel_rfl) (by kernel_rfl) (by kernel_rfl) (fun _ _ _ h => h) (.inl ⟨by rfl, ?_⟩) HS1 ?_
                  rotate_left 1
                  · (intro W hW; (try dsimp only at hW); go_simp; try with_reducible rfl)
                  try simp only [Act.put, List.setIfInBounds_toArray, List.set_cons_zero, List.set_cons_succ]
                  refine d_take (i := 4) (v := ?_) [5, 6, 7, 8, 9, 10, 11, 12, 13, 14, 15, 16, 17, 18, 19, 20, 21, 22, 23, 24, 25, 26, 27, 28, 29, 30, 31, 32, 33, 34, 35, 36, 37, 38, 39, 40] (some 119) rfl (by rfl) (by kernel_rfl) (by kernel_rfl) (by kernel_rfl) (by kernel_rfl) (by kernel_rfl) (by kernel_rfl) (fun _ _ _ h => h) (.inl ⟨by rfl, ?_⟩) HS1 ?_
                  rotate_left 1
                  · (intro W hW; (try dsimp only at hW); go_simp; try with_reducible rfl)
                  try simp only [Act.put, List.setIfInBounds_toArray, List.set_cons_zero, List.set_cons_succ]
                  refine d_take (i := 5) (v := ?_) [6, 7, 8, 9, 10, 11, 12, 13, 14, 15, 16, 17, 18, 19, 20, 21, 22, 23, 24, 25, 26, 27, 28, 29, 30, 31, 32, 33, 34, 35, 36, 37, 38, 39, 40] (some 120) rfl (by rfl) (by kernel_rfl) (by kernel_rfl) (by kernel_rfl) (by kernel_rfl) (by kernel_rfl) (by kernel_rfl) (fun _ _ _ h => h) (.inl ⟨by rfl, ?_⟩) HS1 ?_
                  rotate_left 1
                  · (intro W hW; (try dsimp only at hW); go_simp; try with_reducible rfl)
                  try simp only [Act.put, List.setIfInBounds_toArray, List.set_cons_zero, List.set_cons_succ]
                  refine d_take (i := 6) (v := ?_) [7, 8, 9, 10, 11, 12, 13, 14, 15, 16, 17, 18, 19, 20, 21, 22, 23, 24, 25, 26, 27, 28, 29, 30, 31, 32, 33, 34, 35, 36, 37, 38, 39, 40] (some 121) rfl (by rfl) (by kernel_rfl) (by kernel_rfl) (by kernel_rfl) (by kernel_rfl) (by kernel_rfl) (by kernel_rfl) (fun _ _ _ h => h) (.inl ⟨by rfl, ?_⟩) HS1 ?_
                  rotate_left 1
                  · (intro W hW; (try dsimp only at hW); go_simp; try with_reducible rfl)
                  try simp only [Act.put, List.setIfInBounds_toArray, List.set_cons_zero, List.set_cons_succ]
                  refine d_take (i := 7) (v := ?_) [8, 9, 10, 11, 12, 13, 14, 15, 16, 17, 18, 19, 20, 21, 22, 23, 24, 25, 26, 27, 28, 29, 30, 31, 32, 33, 34, 35, 36, 37, 38, 39, 40] (some 122) rfl (by rfl) (by kernel_rfl) (by kernel_rfl) (by kernel_rfl) (by kernel_rfl) (by kernel_rfl) (by kernel_rfl) (fun _ _ _ h => h) (.inl ⟨by rfl, ?_⟩) HS1 ?_
                  rotate_left 1
                  · (intro W hW; (try dsimp only at hW); go_simp; try with_reducible rfl)
                  try simp only [Act.put, List.setIfInBounds_toArray, List.set_cons_zero, List.set_cons_succ]
                  refine d_take (i := 8) (v := ?_) [9, 12, 13, 14, 15, 16, 17, 18, 19, 20, 21, 22, 23, 24, 25, 26, 27, 28, 29, 30, 31, 32, 33, 34, 35, 36, 37, 38, 39, 40] (some 123) rfl (by rfl) (by kernel_rfl) (by kernel_rfl) (by kernel_rfl) (by kernel_rfl) (by kernel_rfl) (by kernel_rfl) (fun _ _ _ h => h) (.inl ⟨by rfl, ?_⟩) HS1 ?_
                  rotate_left 1
                  · (intro W hW; (try dsimp only at hW); go_simp; try with_reducible rfl)
                  try simp only [Act.put, List.setIfInBounds_toArray, List.set_cons_zero, List.set_cons_succ]
                  refine d_take (i := 9) (v := ?_) [12, 13, 14, 15, 16, 17, 18, 19, 20, 21, 22, 23, 24, 25, 26, 27, 28, 29, 30, 31, 32, 33, 34, 35, 36, 37, 38, 39, 40] (some 124) rfl (by rfl) (by kernel_rfl) (by kernel_rfl) (by kernel_rfl) (by kernel_rfl) (by kernel_rfl) (by kernel_rfl) (fun _ _ _ h => h) (.inl ⟨by rfl, ?_⟩) HS1 ?_
                  rotate_left 1
                  · (intro W hW; (try dsimp only at hW); go_simp; try with_reducible rfl)
                  try simp only [Act.put, List.setIfInBounds_toArray, List.set_cons_zero, List.set_cons_succ]
                  refine d_take (i := 10) (v := ?_) [11, 12, 13, 14, 15, 16, 17, 18, 19, 20, 21, 22, 23, 24, 25, 26, 27, 28, 29, 30, 31, 32, 33, 34, 35, 36, 37, 38, 39, 40] (some 125) rfl (by rfl) (by kernel_rfl) (by kernel_rfl) (by kernel_rfl) (by kernel_rfl) (by kernel_rfl) (by kernel_rfl) (fun _ _ _ h => h) (.inl ⟨by rfl, ?_⟩) HS1 ?_
                  rotate_left 1
                  · (intro W hW; (try dsimp only at hW); go_simp; try with_reducible rfl)
                  try simp only [Act.put, List.setIfInBounds_toArray, List.set_cons_zero, List.set_cons_succ]
                  refine d_take (i := 11) (v := ?_) [12, 13, 14, 15, 16, 17, 18, 19, 20, 21, 22, 23, 24, 25, 26, 27, 28, 29, 30, 31, 32, 33, 34, 35, 36, 37, 38, 39, 40] (some 126) rfl (by rfl) (by kernel_rfl) (by kernel_rfl) (by kernel_rfl) (by kernel_rfl) (by kernel_rfl) (by kernel_rfl) (fun _ _ _ h => h) (.inl ⟨by rfl, ?_⟩) HS1 ?_
                  rotate_left 1
                  · (intro W hW; (try dsimp only at hW); go_simp; try with_reducible rfl)
                  try simp only [Act.put, List.setIfInBounds_toArray, List.set_cons_zero, List.set_cons_succ]
                  refine d_take (i := 12) (v := ?_) [13, 14, 15, 16, 17, 18, 19, 20, 21, 22, 23, 24, 25, 26, 27, 28, 29, 30, 31, 32, 33, 34, 35, 36, 37, 38, 39, 40] (some 127) rfl (by rfl) (by kernel_rfl) (by kernel_rfl) (by kernel_rfl) (by kernel_rfl) (by kernel_rfl) (by kernel_rfl) (fun _ _ _ h => h) (.inl ⟨by rfl, ?_⟩) HS1 ?_
                  rotate_left 1
                  · (intro W hW; (try dsimp only at hW); go_simp; try with_reducible rfl)
                  try simp only [Act.put, List.setIfInBounds_toArray, List.set_cons_zero, List.set_cons_succ]
                  refine d_take (i := 13) (v := ?_) [14, 15, 16, 17, 18, 19, 20, 21, 22, 23, 24, 25, 26, 27, 28, 29, 30, 31, 32, 33, 34, 35, 36, 37, 38, 39, 40] (some 128) rfl (by rfl) (by kernel_rfl) (by kernel_rfl) (by kernel_rfl) (by kernel_rfl) (by kernel_rfl) (by kernel_rfl) (fun _ _ _ h => h) (.inl ⟨by rfl, ?_⟩) HS1 ?_
                  rotate_left 1
                  · (intro W hW; (try dsimp only at hW); go_simp; try with_reducible rfl)
                  try simp only [Act.put, List.setIfInBounds_toArray, List.set_cons_zero, List.set_cons_succ]
                  refine d_take (i := 14) (v := ?_) [15, 16, 17, 18, 19, 20, 21, 22, 23, 24, 25, 26, 27, 28, 29, 30, 31, 32, 33, 34, 35, 36, 37, 38, 39, 40] (some 129) rfl (by rfl) (by kernel_rfl) (by kernel_rfl) (by kernel_rfl) (by kernel_rfl) (by kernel_rfl) (by kernel_rfl) (fun _ _ _ h => h) (.inl ⟨by rfl, ?_⟩) HS1 ?_
                  rotate_left 1
                  · (intro W hW; (try dsimp only at hW); go_simp; try with_reducible rfl)
                  try simp only [Act.put, List.setIfInBounds_toArray, List.set_cons_zero, List.set_cons_succ]
                  refine d_take (i := 15) (v := ?_) [18, 19, 20, 21, 22, 23, 24, 25, 26, 27, 28, 29, 30, 31, 32, 33, 34, 35, 36, 37, 38, 39, 40] (some 130) rfl (by rfl) (by kernel_rfl) (by kernel_rfl) (by kernel_rfl) (by kernel_rfl) (by kernel_rfl) (by kernel_rfl) (fun _ _ _ h => h) (.inl ⟨by rfl, ?_⟩) HS1 ?_
                  rotate_left 1
                  · (intro W hW; (try dsimp only at hW); go_simp; try with_reducible rfl)
                  try simp only [Act.put, List.setIfInBounds_toArray, List.set_cons_zero, List.set_cons_succ]
                  refine d_take (i := 16) (v := ?_) [17, 18, 19, 20, 21, 22, 23, 24, 25, 26, 27, 28, 29, 30, 31, 32, 33, 34, 35, 36, 37, 38, 39, 40] (some 131) rfl (by rfl) (by kernel_rfl) (by kernel_rfl) (by kernel_rfl) (by kernel_rfl) (by kernel_rfl) (by kernel_rfl) (fun _ _ _ h => h) (.inl ⟨by rfl, ?_⟩) HS1 ?_
                  rotate_left 1
                  · (intro W hW; (try dsimp only at hW); go_simp; try with_reducible rfl)
                  try simp only [Act.put, List.setIfInBounds_toArray, List.set_cons_zero, List.set_cons_succ]
                  refine d_take (i := 17) (v := ?_) [18, 19, 20, 21, 22, 23, 24, 25, 26, 27, 28, 29, 30, 31, 32, 33, 34, 35, 36, 37, 38, 39, 40] (some 132) rfl (by rfl) (by kernel_rfl) (by kernel_rfl) (by kernel_rfl) (by kernel_rfl) (by kernel_rfl) (by kernel_rfl) (fun _ _ _ h => h) (.inl ⟨by rfl, ?_⟩) HS1 ?_
                  rotate_left 1
                  · (intro W hW; (try dsimp only at hW); go_simp; try with_reducible rfl)
                  try simp only [Act.put, List.setIfInBounds_toArray, List.set_cons_zero, List.set_cons_succ]
                  refine d_take (i := 18) (v := ?_) [19, 20, 21, 22, 23, 24, 25, 26, 27, 28, 29, 30, 31, 32, 33, 34, 35, 36, 37, 38, 39, 40] (some 133) rfl (by rfl) (by kernel_rfl) (by kernel_rfl) (by kernel_rfl) (by kernel_rfl) (by kernel_rfl) (by kernel_rfl) (fun _ _ _ h => h) (.inl ⟨by rfl, ?_⟩) HS1 ?_
                  rotate_left 1
                  · (intro W hW; (try dsimp only at hW); go_simp; try with_reducible rfl)
                  try simp only [Act.put, List.setIfInBounds_toArray, List.set_cons_zero, List.set_cons_succ]
                  refine d_take (i := 19) (v := ?_) [20, 21, 22, 23, 24, 25, 26, 27, 28, 29, 30, 31, 32, 33, 34, 35, 36, 37, 38, 39, 40] (some 134) rfl (by rfl) (by kernel_rfl) (by kernel_rfl) (by kernel_rfl) (by kernel_rfl) (by kernel_rfl) (by kernel_rfl) (fun _ _ _ h => h) (.inl ⟨by rfl, ?_⟩) HS1 ?_
                  rotate_left 1
                  · (intro W hW; (try dsimp only at hW); go_simp; try with_reducible rfl)
                  try simp only [Act.put, List.setIfInBounds_toArray, List.set_cons_zero, List.set_cons_succ]
                  refine d_take (i := 20) (v := ?_) [21, 22, 23, 24, 25, 26, 27, 28, 29, 30, 31, 32, 33, 34, 35, 36, 37, 38, 39, 40] (some 135) rfl (by rfl) (by kernel_rfl) (by kernel_rfl) (by kernel_rfl) (by kernel_rfl) (by kernel_rfl) (by kernel_rfl) (fun _ _ _ h => h) (.inl ⟨by rfl, ?_⟩) HS1 ?_
                  rotate_left 1
                  · (intro W hW; (try dsimp only at hW); go_simp; try with_reducible rfl)
                  try simp only [Act.put, List.setIfInBounds_toArray, List.set_cons_zero, List.set_cons_succ]
                  refine d_take (i := 21) (v := ?_) [22, 23, 24, 25, 26, 27, 28, 29, 30, 31, 32, 33, 34, 35, 36, 37, 38, 39, 40] (some 136) rfl (by rfl) (by kernel_rfl) (by kernel_rfl) (by kernel_rfl) (by kernel_rfl) (by kernel_rfl) (by kernel_rfl) (fun _ _ _ h => h) (.inl ⟨by rfl, ?_⟩) HS1 ?_
                  rotate_left 1
                  · (intro W hW; (try dsimp only at hW); go_simp; try with_reducible rfl)
                  try simp only [Act.put, List.setIfInBounds_toArray, List.set_cons_zero, List.set_cons_succ]
                  refine d_take (i := 22) (v := ?_) [23, 29, 30, 31, 32, 33, 34, 35, 36, 37, 38, 39, 40] (some 137) rfl (by rfl) (by kernel_rfl) (by kernel_rfl) (by kernel_rfl) (by kernel_rfl) (by kernel_rfl) (by kernel_rfl) (fun _ _ _ h => h) (.inl ⟨by rfl, ?_⟩) HS1 ?_
                  rotate_left 1
                  · (intro W hW; (try dsimp only at hW); go_simp; try with_reducible rfl)
                  try simp only [Act.put, List.setIfInBounds_toArray, List.set_cons_zero, List.set_cons_succ]
                  refine d_take (i := 23) (v := ?_) [29, 30, 31, 32, 33, 34, 35, 36, 37, 38, 39, 40] (some 138) rfl (by rfl) (by kernel_rfl) (by kernel_rfl) (by kernel_rfl) (by kernel_rfl) (by kernel_rfl) (by kernel_rfl) (fun _ _ _ h => h) (.inl ⟨by rfl, ?_⟩) HS1 ?_
                  rotate_left 1
                  · (intro W hW; (try dsimp only at hW); go_simp; try with_reducible rfl)
                  try simp only [Act.put, List.setIfInBounds_toArray, List.set_cons_zero, List.set_cons_succ]
                  refine d_take (i := 24) (v := ?_) [27, 28, 29, 30, 31, 32, 33, 34, 35, 36, 37, 38, 39, 40] (some 139) rfl (by rfl) (by kernel_rfl) (by kernel_rfl) (by kernel_rfl) (by kernel_rfl) (by kernel_rfl) (by kernel_rfl) (fun _ _ _ h => h) (.inl ⟨by rfl, ?_⟩) HS1 ?_
                  rotate_left 1
                  · (intro W hW; (try dsimp only at hW); go_simp; try with_reducible rfl)
                  try simp only [Act.put, List.setIfInBounds_toArray, List.set_cons_zero, List.set_cons_succ]
                  refine d_take (i := 25) (v := ?_) [26, 27, 28, 29, 30, 31, 32, 33, 34, 35, 36, 37, 38, 39, 40] (some 140) rfl (by rfl) (by kernel_rfl) (by kernel_rfl) (by kernel_rfl) (by kernel_rfl) (by kernel_rfl) (by kernel_rfl) (fun _ _ _ h => h) (.inl ⟨by rfl, ?_⟩) HS1 ?_
                  rotate_left 1
                  · (intro W hW; (try dsimp only at hW); go_simp; try with_reducible rfl)
                  try simp only [Act.put, List.setIfInBounds_toArray, List.set_cons_zero, List.set_cons_succ]
                  refine d_take (i := 26) (v := ?_) [27, 28, 29, 30, 31, 32, 33, 34, 35, 36, 37, 38, 39, 40] (some 141) rfl (by rfl) (by kernel_rfl) (by kernel_rfl) (by kernel_rfl) (by kernel_rfl) (by kernel_rfl) (by kernel_rfl) (fun _ _ _ h => h) (.inl ⟨by rfl, ?_⟩) HS1 ?_
                  rotate_left 1
                  · (intro W hW; (try dsimp only at hW); go_simp; try with_reducible rfl)
                  try simp only [Act.put, List.setIfInBounds_toArray, List.set_cons_zero, List.set_cons_succ]
                  refine d_take (i := 27) (v := ?_) [28, 29, 30, 31, 32, 33, 34, 35, 36, 37, 38, 39, 40] (some 142) rfl (by rfl) (by kernel_rfl) (by kernel_rfl) (by kernel_rfl) (by kernel_rfl) (by kernel_rfl) (by kernel_rfl) (fun _ _ _ h => h) (.inl ⟨by rfl, ?_⟩) HS1 ?_
                  rotate_left 1
                  · (intro W hW; (try dsimp only at hW); go_simp; try with_reducible rfl)
                  try simp only [Act.put, List.setIfInBounds_toArray, List.set_cons_zero, List.set_cons_succ]
                  refine d_take (i := 28) (v := ?_) [29, 30, 31, 32, 33, 34, 35, 36, 37, 38, 39, 40] (some 143) rfl (by rfl) (by kernel_rfl) (by kernel_rfl) (by kernel_rfl) (by kernel_rfl) (by kernel_rfl) (by kernel_rfl) (fun _ _ _ h => h) (.inl ⟨by rfl, ?_⟩) HS1 ?_
                  rotate_left 1
                  · (intro W hW; (try dsimp only at hW); go_simp; try with_reducible rfl)
                  try simp only [Act.put, List.setIfInBounds_toArray, List.set_cons_zero, List.set_cons_succ]
                  refine d_take (i := 29) (v := ?_) [30, 31, 32, 33, 34, 35, 36, 37, 38, 39, 40] (some 144) rfl (by rfl) (by kernel_rfl) (by kernel_rfl) (by kernel_rfl) (by kernel_rfl) (by kernel_rfl) (by kernel_rfl) (fun _ _ _ h => h) (.inl ⟨by rfl, ?_⟩) HS1 ?_
                  rotate_left 1
                  · (intro W hW; (try dsimp only at hW); go_simp; try with_reducible rfl)
                  try simp only [Act.put, List.setIfInBounds_toArray, List.set_cons_zero, List.set_cons_succ]
                  refine d_take (i := 30) (v := ?_) [31, 32, 33, 34, 35, 36, 37, 38, 39, 40] (some 145) rfl (by rfl) (by kernel_rfl) (by kernel_rfl) (by kernel_rfl) (by kernel_rfl) (by kernel_rfl) (by kernel_rfl) (fun _ _ _ h => h) (.inl ⟨by rfl, ?_⟩) HS1 ?_
                  rotate_left 1
                  · (intro W hW; (try dsimp only at hW); go_simp; try with_reducible rfl)
                  try simp only [Act.put, List.setIfInBounds_toArray, List.set_cons_zero, List.set_cons_succ]
                  refine d_take (i := 31) (v := ?_) [32, 33, 34, 35, 36, 37, 38, 39, 40] (some 146) rfl (by rfl) (by kernel_rfl) (by kernel_rfl) (by kernel_rfl) (by kernel_rfl) (by kernel_rfl) (by kernel_rfl) (fun _ _ _ h => h) (.inl ⟨by rfl, ?_⟩) HS1 ?_
                  rotate_left 1
                  · (intro W hW; (try dsimp only at hW); go_simp; try with_reducible rfl)
                  try simp only [Act.put, List.setIfInBounds_toArray, List.set_cons_zero, List.set_cons_succ]
                  refine d_take (i := 32) (v := ?_) [33, 34, 35, 36, 37, 38, 39, 40] (some 147) rfl (by rfl) (by kernel_rfl) (by kernel_rfl) (by kernel_rfl) (by kernel_rfl) (by kernel_rfl) (by kernel_rfl) (fun _ _ _ h => h) (.inl ⟨by rfl, ?_⟩) HS1 ?_
                  rotate_left 1
                  · (intro W hW; (try dsimp only at hW); go_simp; try with_reducible rfl)
                  try simp only [Act.put, List.setIfInBounds_toArray, List.set_cons_zero, List.set_cons_succ]
                  refine d_take (i := 33) (v := ?_) [34, 35, 36, 37, 38, 39, 40] (some 148) rfl (by rfl) (by kernel_rfl) (by kernel_rfl) (by kernel_rfl) (by kernel_rfl) (by kernel_rfl) (by kernel_rfl) (fun _ _ _ h => h) (.inl ⟨by rfl, ?_⟩) HS1 ?_
                  rotate_left 1
                  · (intro W hW; (try dsimp only at hW); go_simp; try with_reducible rfl)
                  try simp only [Act.put, List.setIfInBounds_toArray, List.set_cons_zero, List.set_cons_succ]
                  refine d_take (i := 34) (v := ?_) [35, 36, 37, 38, 39, 40] (some 149) rfl (by rfl) (by kernel_rfl) (by kernel_rfl) (by kernel_rfl) (by kernel_rfl) (by kernel_rfl) (by kernel_rfl) (fun _ _ _ h => h) (.inl ⟨by rfl, ?_⟩) HS1 ?_
                  rotate_left 1
                  · (intro W hW; (try dsimp only at hW); go_simp; try with_reducible rfl)
                  try simp only [Act.put, List.setIfInBounds_toArray, List.set_cons_zero, List.set_cons_succ]
                  refine d_take (i := 35) (v := ?_) [37, 38, 39, 40] (some 150) rfl (by rfl) (by kernel_rfl) (by kernel_rfl) (by kernel_rfl) (by kernel_rfl) (by kernel_rfl) (by kernel_rfl) (fun _ _ _ h => h) (.inl ⟨by rfl, ?_⟩) HS1 ?_
                  rotate_left 1
                  · (intro W hW; (try dsimp only at hW); go_simp; try with_reducible rfl)
                  try simp only [Act.put, List.setIfInBounds_toArray, List.set_cons_zero, List.set_cons_succ]
                  refine d_take (i := 36) (v := ?_) [37, 38, 39, 40] (some 151) rfl (by rfl) (by kernel_rfl) (by kernel_rfl) (by kernel_rfl) (by kernel_rfl) (by kernel_rfl) (by kernel_rfl) (fun _ _ _ h => h) (.inl ⟨by rfl, ?_⟩) HS1 ?_
                  rotate_left 1
                  · (intro W hW; (try dsimp only at hW); go_simp; try with_reducible rfl)
                  try simp only [Act.put, List.setIfInBounds_toArray, List.set_cons_zero, List.set_cons_succ]
                  have C3 := Lib.hid (rahead_any bf ⟨(i : Int), rk⟩ V6.drew)
                  rw [HAH.out (by have := HT.out; omega)] at C3
                  refine d_call (i := 37) (by kernel_rfl) rfl (by rfl) (fun K hK => ?_)
                  simp only [List.getElem_toArray, List.getElem_cons_succ, List.getElem_cons_zero]
                  go_simp
                  refine C3.out.mono ?_
                  rintro e W8 ⟨rfl, x8⟩
                  have HX := Lib.hid ((Ext.refl V6).drew.trans x8)
                  go_simp
                  refine hK.out _ _ (fun h => absurd h (by decide)) ?_
                  clear hK K C3 x8 HS1
                  try simp only [Act.put, List.setIfInBounds_toArray, List.set_cons_zero, List.set_cons_succ]
                  refine d_call (i := 38) (by kernel_rfl) rfl (by rfl) (fun K hK => ?_)
                  simp only [List.getElem_toArray, List.getElem_cons_succ, List.getElem_cons_zero]
                  go_simp
                  refine hK.out _ _ (fun h => absurd h (by decide)) ?_
                  clear hK K 
                  try simp only [Act.put, List.setIfInBounds_toArray, List.set_cons_zero, List.set_cons_succ]
                  refine d_call (i := 39) (by kernel_rfl) rfl (by rfl) (fun K hK => ?_)
                  simp only [List.getElem_toArray, List.getElem_cons_succ, List.getElem_cons_zero]
                  go_simp
                  refine hK.out _ _ (fun h => absurd h (by decide)) ?_
                  clear hK K 
                  try simp only [Act.put, List.setIfInBounds_toArray, List.set_cons_zero, List.set_cons_succ]
                  refine d_call (i := 40) (by kernel_rfl) rfl (by rfl) (fun K hK => ?_)
                  simp only [List.getElem_toArray, List.getElem_cons_succ, List.getElem_cons_zero]
                  go_simp
                  refine hK.out _ _ (fun h => absurd h (by decide)) ?_
                  clear hK K 
                  try simp only [Act.put, List.setIfInBounds_toArray, List.set_cons_zero, List.set_cons_succ]
                  refine d_done (by kernel_rfl) ?_ _
                  clear x0 x1 x2 x3 x4 x5 f2 f3 f4 f5
                  have HQ : Hid (SS w W8 g F6 (20000 * n + 20000 * m + 20000 * t + 20000) lb gb n lc last gone5 L6 ∧ W8.heap[bb]? = some (.cells #[.int .i64 bf.id, .int .i64 bf.rank] 34 (0, 0)) ∧ W8.heap[xb]? = some (.cells #[.int .i64 (i : Int), .int .i64 rk] 34 (0, 0))) := Lib.hid (by
                    have h := HX.out
                    exact ⟨H6.out.1.ext h, (h.block bb (block_lt H6.out.2.1)).trans H6.out.2.1, (h.block xb (block_lt H6.out.2.2.1)).trans H6.out.2.2.1⟩)
                  have HE : Hid (∃ F gone L bf, SS w (((W8.setCell ⟨gb, i, none⟩ (.bool true)).setCell ⟨bb, 0, none⟩ (.int .i64 (i : Int))).setCell ⟨bb, 1, none⟩ (.int .i64 rk)) g F (20000 * n + 20000 * m + 20000 * (t + 1)) lb gb n lc last gone L ∧ L.length + (t + 1) = left ∧ Mem L (alive_ gone) last ∧ (((W8.setCell ⟨gb, i, none⟩ (.bool true)).setCell ⟨bb, 0, none⟩ (.int .i64 (i : Int))).setCell ⟨bb, 1, none⟩ (.int .i64 rk)).heap[bb]? = some (.cells #[.int .i64 bf.id, .int .i64 bf.rank] 34 (0, 0)) ∧ (0 < t + 1 → ∀ y ∈ L, ah bf y = true) ∧ ¬ F bb ∧ i64 bf.id) := Lib.hid (by
                    have s8 := HQ.out.1.putGone i true
                    have b8 := (Fr.store W8 ⟨gb, i, none⟩ (.bool true)).block bb (block_lt HQ.out.2.1) (fun e => HNE.out.2.1 e) |>.trans HQ.out.2.1
                    have s9 := s8.fr (Fr.store2 _ bb 0 1 (.int .i64 (i : Int)) (.int .i64 rk)) (fun k e => by rw [e]; exact HNE.out.2.2) (fun k hk e => H6.out.2.2.2.2.1 (e ▸ hk)) (fun e => HNE.out.1 e.symm) (fun e => HNE.out.2.1 e.symm)
                    refine ⟨F6, gone5.set i true, L6, ⟨(i : Int), rk⟩, ⟨s9.qp.mono (by omega), s9.lo, s9.go, s9.nl, s9.ng, s9.ne, s9.bF, s9.x⟩, HL6.out, HM6.out.congr (fun q hq => ?_), set2_blk b8, fun _ => H6.out.2.2.2.1, H6.out.2.2.2.2.1, show i64 (i : Int) from ⟨by omega, by omega⟩⟩
                    show (alive_ gone5 q && !(q == i)) = alive_ (gone5.set i true) q
                    unfold alive_
                    by_cases e : q = i
                    · subst e
                      rw [List.getElem?_set_self (by have := H5.out.1.glen; omega)]
                      simp
                    · rw [List.getElem?_set_ne (fun e2 => e e2.symm)]
                      simp [e])
                  have y0 : W8.cell? ⟨xb, 0, none⟩ = some (.int .i64 (i : Int)) := block_cell HQ.out.2.2 0
                  have y1 : W8.cell? ⟨xb, 1, none⟩ = some (.int .i64 rk) := block_cell HQ.out.2.2 1
                  have u0 : W8.cell? ⟨gb, i, none⟩ = some (.bool false) := HQ.out.1.go.cellAt hin (bools_at H5.out.2.2.2.2.2.2.2.2.2.1)
                  have u1 : W8.frozen? ⟨gb, i, none⟩ = false := HQ.out.1.go.frozenAt i
                  have v0 : W8.cell? ⟨bb, 0, none⟩ = some (.int .i64 bf.id) := block_cell HQ.out.2.1 0
                  have v1 : W8.cell? ⟨bb, 1, none⟩ = some (.int .i64 bf.rank) := block_cell HQ.out.2.1 1
                  have v2 := block_fz HQ.out.2.1 0
                  have v3 := block_fz HQ.out.2.1 1
                  have n1 : bb ≠ gb := HNE.out.2.1
                  have n2 : xb ≠ gb := H6.out.2.2.2.2.2.2.2.1
                  have n3 : bb ≠ xb := H6.out.2.2.2.2.2.1
                  go_wp2_with fail
                  go_roundw
                  case rel => exact ⟨t + 1, by go_num, by omega, HE.out⟩
                  case measure => simp [intOf]; omega
              · obtain rfl : left = t := by omega
                obtain ⟨F5, gone5, L5, bf, h1, h2, h3, h4, h5, h6, h7⟩ := HI.out
                obtain rfl : L5 = [] := List.eq_nil_of_length_eq_zero (by omega)
                have C1 := Lib.hid (qpop_gone h1.qp (HA.out.2.2.2.2.2.2.ext h1.x))
                have H5 := Lib.hid h1
                clear h1 h2 h3 h4 h5 h6 h7 HI
                go_wp2_with fail
                refine C1.out.mono ?_
                rintro e w6 ⟨rfl, x6⟩
                clear C1
                have X7 := x6.trans ((Ext.refl w6).alloc (.cells #[.int .i64 0, .int .i64 0] 34))
                have s7 := H5.out.ext X7
                have C2 := Lib.hid (qlen_any s7.qp)
                have eg := (HA.out.2.2.2.2.2.2.ext s7.x).2.1
                have HXX := Lib.hid s7.x
                have hes := err_same
                clear X7 s7 x6
                go_wp2_with fail
                refine C2.out.mono ?_
                rintro e w7 ⟨rfl, rfl⟩
                go_wp2_with fail
                go_returns
                exact ⟨rfl, HXX.out⟩
end
end Go.Proofs.YtocjbllkgbjihaaDoor
