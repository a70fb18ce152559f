/-
  The document's Read, walked.
-/
import Derived.Test.YtbinimejjenmlaaDoorCrcRc
import Derived.Deep.Cut
import Derived.Deep.RegionHeld3
namespace Go.Proofs.YtbinimejjenmlaaDoor
open Go.RowKit
set_option linter.unusedVariables false
theorem str_back (l : List Nat) (hl : ∀ x ∈ l, x < 256) : (str l).data.toList.map UInt8.toNat = l := by
  simp only [str, List.map_map]
  conv => rhs; rw [← List.map_id l]
  refine List.map_congr_left fun x hx => ?_
  have := hl x hx
  simp [Function.comp]
  omega
theorem str_eq {l m : List Nat} (hl : ∀ x ∈ l, x < 256) (hm : ∀ x ∈ m, x < 256) (h : str l = str m) : l = m := by
  rw [← str_back l hl, ← str_back m hm, h]
theorem wb_bw {a b c d : Nat} (ha : a < 256) (hb : b < 256) (hc : c < 256) (hd : d < 256) : wb (bw a b c d) = [a, b, c, d] := by
  have h : ∀ x, x = bw a b c d → x % 256 = a ∧ x / 256 % 256 = b ∧ x / 65536 % 256 = c ∧ x / 16777216 = d := by
    intro x hx
    unfold bw at hx
    omega
  obtain ⟨h1, h2, h3, h4⟩ := h _ rfl
  unfold wb
  rw [h1, h2, h3, h4]
def RNo2 (k : Nat) : Ending := .returned (.tuple #[.slice none 0 0, .int .i64 0, .int .i64 (k : Int)])
set_option maxHeartbeats 800000 in
theorem rread_short (A : Option Addr) (m c : Nat) (w : World) (hm : m < 4) :
    Calls Tryd.prog 15 #[.slice A m c] w fun e w' => e = RNo2 0 ∧ Ext w w' := by
  unfold RNo2
  go_enter Tryd.func15, Tryd.ntmps15
  go_wp2_with fail
  go_returns
  exact ⟨rfl, Ext.refl w⟩
/-- The four bytes of a stream's beginning. -/
theorem heads {w : World} {A : Option Addr} {m : Nat} {a b c d : Nat} {l : List Nat} (hr : Rd w 1 A m (u8s (a :: b :: c :: d :: l))) (hA : ∀ x, A = some x → x.spot = none) :
    ∃ g o, A = some ⟨g, o, none⟩ ∧ w.cell? ⟨g, o, none⟩ = some (.int .u8 (a : Int)) ∧ w.cell? ⟨g, o + 1, none⟩ = some (.int .u8 (b : Int)) ∧ w.cell? ⟨g, o + 2, none⟩ = some (.int .u8 (c : Int)) ∧ w.cell? ⟨g, o + 3, none⟩ = some (.int .u8 (d : Int)) := by
  have hl := hr.len
  rw [u8s_len] at hl
  simp only [List.length_cons] at hl
  obtain ⟨ad, rfl, _, hc⟩ := hr.at_ (k := 0) (by omega)
  obtain ⟨g, o, sp⟩ := ad
  obtain rfl : sp = none := hA _ rfl
  have k0 := hc 0 _ rfl
  have k1 := hc 1 _ rfl
  have k2 := hc 2 _ rfl
  have k3 := hc 3 _ rfl
  simp [Addr.add] at k0 k1 k2 k3
  exact ⟨g, o, rfl, k0, k1, k2, k3⟩
theorem bw_i {a b c d x : Nat} (h : bw a b c d = x) : (a : Int) + 256 * (b : Int) + 65536 * (c : Int) + 16777216 * (d : Int) = (x : Int) := by
  unfold bw at h
  omega
set_option maxHeartbeats 1600000 in
theorem rread_stop (A : Option Addr) (m c : Nat) (a b c1 d : Nat) (l : List Nat) (w : World) (hr : Rd w 1 A m (u8s (a :: b :: c1 :: d :: l))) (hs : ∀ x ∈ a :: b :: c1 :: d :: l, x < 256) (hA : ∀ x, A = some x → x.spot = none) (hm : m ≤ 140737488351232)
    (k : Nat) (hx : 32768 < bw a b c1 d ∧ k = 8 ∨ bw a b c1 d ≤ 32768 ∧ m < bw a b c1 d + 8 ∧ k = 0) :
    Calls Tryd.prog 15 #[.slice A m c] w fun e w' => e = RNo2 k ∧ Ext w w' := by
  have hl := hr.len
  rw [u8s_len] at hl
  simp only [List.length_cons] at hl
  obtain ⟨g, o, rfl, k0, k1, k2, k3⟩ := heads hr hA
  have ha : a < 256 := hs _ (by simp)
  have hb : b < 256 := hs _ (by simp)
  have hc : c1 < 256 := hs _ (by simp)
  have hd : d < 256 := hs _ (by simp)
  obtain ⟨x, hxx⟩ : ∃ x, bw a b c1 d = x := ⟨_, rfl⟩
  have e1 := bw_i hxx
  rw [hxx] at hx
  have hm4 : ¬ (m : Int) < 4 := by omega
  have m0 : (0 : Int) < m := by omega
  have m1 : (1 : Int) < m := by omega
  have m2 : (2 : Int) < m := by omega
  have m3 : (3 : Int) < m := by omega
  unfold RNo2
  clear hr hs hxx
  rcases hx with ⟨hx, rfl⟩ | ⟨hx, hx2, rfl⟩
  · go_enter Tryd.func15, Tryd.ntmps15
    go_wp2_with fail
    go_quiet (fail)
    go_wp2_with fail
    go_returns
    exact ⟨rfl, (Ext.refl w).drewN _⟩
  · go_enter Tryd.func15, Tryd.ntmps15
    go_wp2_with fail
    go_quiet (fail)
    go_wp2_with fail
    go_returns
    exact ⟨rfl, (Ext.refl w).drewN _⟩
set_option maxRecDepth 8000 in
set_option maxHeartbeats 3200000 in
theorem rread_ok (A : Option Addr) (m c : Nat) (a b c1 d : Nat) (l : List Nat) (e0 e1 e2 e3 : Nat) (l2 : List Nat) (w : World) (hr : Rd w 1 A m (u8s (a :: b :: c1 :: d :: l))) (hs : ∀ x ∈ a :: b :: c1 :: d :: l, x < 256) (hA : ∀ x, A = some x → x.spot = none) (hm2 : m ≤ 140737488351232) (hx : bw a b c1 d ≤ 32768) (hw : bw a b c1 d + 8 ≤ m) (hmc : m ≤ c)
    (hd : (a :: b :: c1 :: d :: l).drop (bw a b c1 d + 4) = e0 :: e1 :: e2 :: e3 :: l2) (hne : Crc.sum ((a :: b :: c1 :: d :: l).take (bw a b c1 d + 4)) = bw e0 e1 e2 e3) :
    Calls Tryd.prog 15 #[.slice A m c] w fun e w' => ∃ A' c', e = .returned (.tuple #[.slice A' (bw a b c1 d) c', .int .i64 (((bw a b c1 d : Nat) : Int) + 8), .int .i64 0]) ∧ (∃ base, w.heap.size ≤ base ∧ Own w' base 5 1 A' (bw a b c1 d) c' (u8s (l.take (bw a b c1 d)))) ∧ Ext w w' := by
  have hl := hr.len
  rw [u8s_len] at hl
  simp only [List.length_cons] at hl
  obtain ⟨g, o, rfl, k0, k1, k2, k3⟩ := heads hr hA
  have ha : a < 256 := hs _ (by simp)
  have hb : b < 256 := hs _ (by simp)
  have hc : c1 < 256 := hs _ (by simp)
  have hdd : d < 256 := hs _ (by simp)
  have hP := (hr.u8off (k := 4) (by omega)).u8take (k := bw a b c1 d) (by omega)
  rw [show (a :: b :: c1 :: d :: l).drop 4 = l from rfl] at hP
  have hTa := hr.u8take (k := bw a b c1 d + 4) (by omega)
  have hTb := (hr.u8off (k := bw a b c1 d + 4) (by omega)).u8take (k := 4) (by omega)
  have hl1 : ∀ x ∈ (a :: b :: c1 :: d :: l).take (bw a b c1 d + 4), x < 256 := fun x hx => hs x (List.mem_of_mem_take hx)
  have hl2 : ∀ x ∈ e0 :: e1 :: e2 :: e3 :: l2, x < 256 := fun x hx => hs x (List.mem_of_mem_drop (by rw [hd]; exact hx))
  rw [hd, show (e0 :: e1 :: e2 :: e3 :: l2).take 4 = [e0, e1, e2, e3] from rfl] at hTb
  have h4 := hl2 e0 (by simp)
  have h5 := hl2 e1 (by simp)
  have h6 := hl2 e2 (by simp)
  have h7 := hl2 e3 (by simp)
  have hSl := Crc.sum_lt _ hl1
  have hstr : str (wb (Crc.sum ((a :: b :: c1 :: d :: l).take (bw a b c1 d + 4)))) = str [e0, e1, e2, e3] := by rw [hne, wb_bw h4 h5 h6 h7]
  obtain ⟨x, hxx⟩ : ∃ x, bw a b c1 d = x := ⟨_, rfl⟩
  have b1 := bw_i hxx
  rw [hxx] at hx hw hP hTa hTb hl1 hSl hstr ⊢
  have hm4 : ¬ (m : Int) < 4 := by omega
  have m0 : (0 : Int) < m := by omega
  have m1 : (1 : Int) < m := by omega
  have m2 : (2 : Int) < m := by omega
  have m3 : (3 : Int) < m := by omega
  generalize (a :: b :: c1 :: d :: l).take (x + 4) = L1 at *
  obtain ⟨S, hS⟩ : ∃ S, Crc.sum L1 = S := ⟨_, rfl⟩
  rw [hS] at hSl hstr
  obtain ⟨en, hen⟩ : ∃ en, x + 4 = en := ⟨_, rfl⟩
  obtain ⟨ef, hef⟩ : ∃ ef, x + 8 = ef := ⟨_, rfl⟩
  have i1 : (x : Int) + 4 = (en : Int) := by omega
  have i2 : (x : Int) + 8 = (ef : Int) := by omega
  have i3 : ef - en = 4 := by omega
  rw [hen] at hTa hTb
  have j1 : en ≤ m := by omega
  have j2 : en ≤ c := by omega
  have j3 : ¬ c = en := by omega
  have j4 : (0 : Int) ≤ (en : Int) := by omega
  have j5 : (en : Int) ≤ (m : Int) := by omega
  have j6 : (en : Int) ≤ (c : Int) := by omega
  have j7 : (en : Int) ≤ (ef : Int) := by omega
  have j8 : (ef : Int) ≤ (c : Int) := by omega
  have j9 : ef ≤ c := by omega
  have j10 : en ≤ ef := by omega
  have I2 := Lib.hid i2
  have SM := Lib.hid (fun w' (h : Rd w' 1 (some ⟨g, o, none⟩) en (u8s L1)) => (hS ▸ rsum_any (some ⟨g, o, none⟩) en c L1 w' (by omega) h hl1 : Calls Tryd.prog 22 #[.slice (some ⟨g, o, none⟩) en c] w' fun e w'' => e = .returned (.int .u32 (S : Nat)) ∧ w' = w''))
  have BX := Lib.hid (fun w' (hx : Ext w w') => run_str (P := Tryd.prog) (w := w') (s := 9) Tryd.underlying22 Tryd.underlying5 Tryd.underlying9 (c - en) (hTb.ext hx))
  have RT := Lib.hid (fun w' (hx : Ext w w') => (SM.out w' (hTa.ext hx)).mono fun e w'' (h : e = .returned (.int .u32 (S : Nat)) ∧ w' = w'') => (⟨h.1, h.2, h.2 ▸ hx⟩ : e = .returned (.int .u32 (S : Nat)) ∧ w' = w'' ∧ Ext w w''))
  have RF := Lib.hid (fun w' (hx : Ext w w') => (rfour_any S hSl w').mono fun e w'' (h : e = .returned (.slice (some ⟨w'.heap.size, 0, none⟩) 4 4) ∧ Own w'' w'.heap.size 5 1 (some ⟨w'.heap.size, 0, none⟩) 4 4 (u8s (wb S)) ∧ Ext w' w'') =>
    (⟨_, h.1, run_str (P := Tryd.prog) (w := w'') (s := 9) Tryd.underlying22 Tryd.underlying5 Tryd.underlying9 4 h.2.1.rd, run_str (P := Tryd.prog) (w := w''.drew) (s := 9) Tryd.underlying22 Tryd.underlying5 Tryd.underlying9 4 (h.2.1.rd.ext ((Ext.refl _).drew)), BX.out _ (hx.trans h.2.2), BX.out _ (hx.trans h.2.2).drew, hx.trans h.2.2⟩ :
      ∃ A', e = .returned (.slice A' 4 4) ∧ (convert 22 9 (.slice A' 4 4)).run Tryd.prog w'' = .ok (.string (str (wb S))) w'' ∧ (convert 22 9 (.slice A' 4 4)).run Tryd.prog w''.drew = .ok (.string (str (wb S))) w''.drew ∧
        (convert 22 9 (.slice (some ⟨g, o + en, none⟩) 4 (c - en))).run Tryd.prog w'' = .ok (.string (str [e0, e1, e2, e3])) w'' ∧ (convert 22 9 (.slice (some ⟨g, o + en, none⟩) 4 (c - en))).run Tryd.prog w''.drew = .ok (.string (str [e0, e1, e2, e3])) w''.drew ∧ Ext w w''))
  have HP := Lib.hid hP
  generalize str (wb S) = sa at *
  generalize str [e0, e1, e2, e3] = sb at *
  subst hstr
  clear hr hs hxx hP hTa hTb hl1 hl2 hd hne hS hen hef SM hl
  go_enter Tryd.func15, Tryd.ntmps15
  go_wp2_with fail
  go_quiet (fail)
  go_upto_region 8 with (fail)
  have XW : Ext w (w.drewN nq) := (Ext.refl w).drewN nq
  generalize w.drewN nq = W at *
  have wE : IntKind.i64.wrap (en : Int) = (en : Int) := by rw [IntKind.wrap_i64]; omega
  have wF : IntKind.i64.wrap (ef : Int) = (ef : Int) := by rw [IntKind.wrap_i64]; omega
  have c0 := BX.out W XW
  have c9 := BX.out W.drew XW.drew
  have XX := Lib.hid XW
  rename ¬ m < ef => hmef
  clear hmef
  go_cut [52] from 38 (fun s52 wx => s52 = .bool false ∧ Ext w wx)
  case first =>
    go_wp2_with fail
    go_region_with (first
      | (go_at_call 22; (with_reducible refine (RT.out _ (by first | exact XX.out | exact XX.out.drew)).mono ?_); rintro en1 vS ⟨rfl, rfl, xS⟩)
      | (go_at_call 21; (with_reducible refine (RF.out _ (by first | exact XX.out | exact XX.out.drew)).mono ?_); rintro en2 vF ⟨AF, rfl, qF, qG, qH, qI, xF⟩))
    all_goals
      go_wp2_with fail
      go_meet
      case rel => exact ⟨rfl, by first | exact xF | exact xF.drew⟩
  case rest =>
    obtain ⟨rfl, xC⟩ := hcut
    have XC := Lib.hid xC
    have z0 := xC.size
    have k4 : 4 ≤ en := by omega
    have k4' : (4 : Int) ≤ (en : Int) := by omega
    have k4'' : ¬ c = 4 := by omega
    have K4 : en - 4 = x := by omega
    clear xC c0 c9 RF RT BX wE wF
    go_wp2_with (at_builtin; refine held ?_)
    refine Held.go (wp_app (m := x) (news := u8s (l.take x)) eltU8 (base := wc.heap.size) (n := 0) (c := 0) (xs := []) (World.ownsRow_lit (size := 1) _ #[] 0 (Nat.le_refl _) (by simp [maxLen]) rfl) (HP.out.ext (XC.out.alloc _)) (u8s_one _) (by omega) (.inr ⟨by omega, by omega⟩) (by simp) _ _ rfl rfl rfl rfl ?_)
    intro A5 c5 v5 o5 g5 _ _
    rw [List.nil_append, Nat.zero_add] at o5
    rw [Nat.zero_add]
    have y5 : Ext wc v5 := g5.ext ((Ext.refl wc).alloc _) (fun g hg => by injection hg with hg; rw [← hg]; exact Nat.le_refl _)
    clear g5
    go_wp2_with fail
    go_returns
    exact ⟨A5, c5, by rw [I2.out]; rfl, ⟨_, Nat.le_trans XC.out.size (Nat.le_refl _), o5⟩, XC.out.trans y5⟩
set_option maxRecDepth 8000 in
set_option maxHeartbeats 3200000 in
theorem rread_bad (A : Option Addr) (m c : Nat) (a b c1 d : Nat) (l : List Nat) (e0 e1 e2 e3 : Nat) (l2 : List Nat) (w : World) (hr : Rd w 1 A m (u8s (a :: b :: c1 :: d :: l))) (hs : ∀ x ∈ a :: b :: c1 :: d :: l, x < 256) (hA : ∀ x, A = some x → x.spot = none) (hm2 : m ≤ 140737488351232) (hx : bw a b c1 d ≤ 32768) (hw : bw a b c1 d + 8 ≤ m) (hmc : m ≤ c)
    (hd : (a :: b :: c1 :: d :: l).drop (bw a b c1 d + 4) = e0 :: e1 :: e2 :: e3 :: l2) (hne : Crc.sum ((a :: b :: c1 :: d :: l).take (bw a b c1 d + 4)) ≠ bw e0 e1 e2 e3) :
    Calls Tryd.prog 15 #[.slice A m c] w fun e w' => e = RNo2 4 ∧ Ext w w' := by
  have hl := hr.len
  rw [u8s_len] at hl
  simp only [List.length_cons] at hl
  obtain ⟨g, o, rfl, k0, k1, k2, k3⟩ := heads hr hA
  have ha : a < 256 := hs _ (by simp)
  have hb : b < 256 := hs _ (by simp)
  have hc : c1 < 256 := hs _ (by simp)
  have hdd : d < 256 := hs _ (by simp)
  have hP := (hr.u8off (k := 4) (by omega)).u8take (k := bw a b c1 d) (by omega)
  rw [show (a :: b :: c1 :: d :: l).drop 4 = l from rfl] at hP
  have hTa := hr.u8take (k := bw a b c1 d + 4) (by omega)
  have hTb := (hr.u8off (k := bw a b c1 d + 4) (by omega)).u8take (k := 4) (by omega)
  have hl1 : ∀ x ∈ (a :: b :: c1 :: d :: l).take (bw a b c1 d + 4), x < 256 := fun x hx => hs x (List.mem_of_mem_take hx)
  have hl2 : ∀ x ∈ e0 :: e1 :: e2 :: e3 :: l2, x < 256 := fun x hx => hs x (List.mem_of_mem_drop (by rw [hd]; exact hx))
  rw [hd, show (e0 :: e1 :: e2 :: e3 :: l2).take 4 = [e0, e1, e2, e3] from rfl] at hTb
  have h4 := hl2 e0 (by simp)
  have h5 := hl2 e1 (by simp)
  have h6 := hl2 e2 (by simp)
  have h7 := hl2 e3 (by simp)
  have hSl := Crc.sum_lt _ hl1
  have hstr : str (wb (Crc.sum ((a :: b :: c1 :: d :: l).take (bw a b c1 d + 4)))) ≠ str [e0, e1, e2, e3] := fun h => by
    have h8 := str_eq (wb_lt hSl) (by intro x hx; simp at hx; omega) h
    refine hne ?_
    rw [← wb_bw h4 h5 h6 h7] at h8
    have h9 : bw e0 e1 e2 e3 < 4294967296 := by unfold bw; omega
    generalize Crc.sum ((a :: b :: c1 :: d :: l).take (bw a b c1 d + 4)) = X at *
    generalize bw e0 e1 e2 e3 = Y at *
    simp only [wb, List.cons.injEq, and_true] at h8
    omega
  obtain ⟨x, hxx⟩ : ∃ x, bw a b c1 d = x := ⟨_, rfl⟩
  have b1 := bw_i hxx
  rw [hxx] at hx hw hP hTa hTb hl1 hSl hstr 
  have hm4 : ¬ (m : Int) < 4 := by omega
  have m0 : (0 : Int) < m := by omega
  have m1 : (1 : Int) < m := by omega
  have m2 : (2 : Int) < m := by omega
  have m3 : (3 : Int) < m := by omega
  generalize (a :: b :: c1 :: d :: l).take (x + 4) = L1 at *
  obtain ⟨S, hS⟩ : ∃ S, Crc.sum L1 = S := ⟨_, rfl⟩
  rw [hS] at hSl hstr
  obtain ⟨en, hen⟩ : ∃ en, x + 4 = en := ⟨_, rfl⟩
  obtain ⟨ef, hef⟩ : ∃ ef, x + 8 = ef := ⟨_, rfl⟩
  have i1 : (x : Int) + 4 = (en : Int) := by omega
  have i2 : (x : Int) + 8 = (ef : Int) := by omega
  have i3 : ef - en = 4 := by omega
  rw [hen] at hTa hTb
  have j1 : en ≤ m := by omega
  have j2 : en ≤ c := by omega
  have j3 : ¬ c = en := by omega
  have j4 : (0 : Int) ≤ (en : Int) := by omega
  have j5 : (en : Int) ≤ (m : Int) := by omega
  have j6 : (en : Int) ≤ (c : Int) := by omega
  have j7 : (en : Int) ≤ (ef : Int) := by omega
  have j8 : (ef : Int) ≤ (c : Int) := by omega
  have j9 : ef ≤ c := by omega
  have j10 : en ≤ ef := by omega
  have I2 := Lib.hid i2
  have SM := Lib.hid (fun w' (h : Rd w' 1 (some ⟨g, o, none⟩) en (u8s L1)) => (hS ▸ rsum_any (some ⟨g, o, none⟩) en c L1 w' (by omega) h hl1 : Calls Tryd.prog 22 #[.slice (some ⟨g, o, none⟩) en c] w' fun e w'' => e = .returned (.int .u32 (S : Nat)) ∧ w' = w''))
  have BX := Lib.hid (fun w' (hx : Ext w w') => run_str (P := Tryd.prog) (w := w') (s := 9) Tryd.underlying22 Tryd.underlying5 Tryd.underlying9 (c - en) (hTb.ext hx))
  have RT := Lib.hid (fun w' (hx : Ext w w') => (SM.out w' (hTa.ext hx)).mono fun e w'' (h : e = .returned (.int .u32 (S : Nat)) ∧ w' = w'') => (⟨h.1, h.2, h.2 ▸ hx⟩ : e = .returned (.int .u32 (S : Nat)) ∧ w' = w'' ∧ Ext w w''))
  have RF := Lib.hid (fun w' (hx : Ext w w') => (rfour_any S hSl w').mono fun e w'' (h : e = .returned (.slice (some ⟨w'.heap.size, 0, none⟩) 4 4) ∧ Own w'' w'.heap.size 5 1 (some ⟨w'.heap.size, 0, none⟩) 4 4 (u8s (wb S)) ∧ Ext w' w'') =>
    (⟨_, h.1, run_str (P := Tryd.prog) (w := w'') (s := 9) Tryd.underlying22 Tryd.underlying5 Tryd.underlying9 4 h.2.1.rd, run_str (P := Tryd.prog) (w := w''.drew) (s := 9) Tryd.underlying22 Tryd.underlying5 Tryd.underlying9 4 (h.2.1.rd.ext ((Ext.refl _).drew)), BX.out _ (hx.trans h.2.2), BX.out _ (hx.trans h.2.2).drew, hx.trans h.2.2⟩ :
      ∃ A', e = .returned (.slice A' 4 4) ∧ (convert 22 9 (.slice A' 4 4)).run Tryd.prog w'' = .ok (.string (str (wb S))) w'' ∧ (convert 22 9 (.slice A' 4 4)).run Tryd.prog w''.drew = .ok (.string (str (wb S))) w''.drew ∧
        (convert 22 9 (.slice (some ⟨g, o + en, none⟩) 4 (c - en))).run Tryd.prog w'' = .ok (.string (str [e0, e1, e2, e3])) w'' ∧ (convert 22 9 (.slice (some ⟨g, o + en, none⟩) 4 (c - en))).run Tryd.prog w''.drew = .ok (.string (str [e0, e1, e2, e3])) w''.drew ∧ Ext w w''))
  have HP := Lib.hid hP
  generalize str (wb S) = sa at *
  generalize str [e0, e1, e2, e3] = sb at *
  have q1 : (sa.toList == sb.toList) = false := by
    rw [beq_eq_false_iff_ne, ByteArray.toList_eq, ByteArray.toList_eq]
    exact fun h => hstr (Go.WideShapes.bytes_inj h)
  unfold RNo2
  clear hr hs hxx hP hTa hTb hl1 hl2 hd hne hS hen hef SM hl
  go_enter Tryd.func15, Tryd.ntmps15
  go_wp2_with fail
  go_quiet (fail)
  go_upto_region 8 with (fail)
  have XW : Ext w (w.drewN nq) := (Ext.refl w).drewN nq
  generalize w.drewN nq = W at *
  have wE : IntKind.i64.wrap (en : Int) = (en : Int) := by rw [IntKind.wrap_i64]; omega
  have wF : IntKind.i64.wrap (ef : Int) = (ef : Int) := by rw [IntKind.wrap_i64]; omega
  have c0 := BX.out W XW
  have c9 := BX.out W.drew XW.drew
  have XX := Lib.hid XW
  rename ¬ m < ef => hmef
  clear hmef
  go_cut [52] from 38 (fun s52 wx => s52 = .bool true ∧ Ext w wx)
  case first =>
    go_wp2_with fail
    go_region_with (first
      | (go_at_call 22; (with_reducible refine (RT.out _ (by first | exact XX.out | exact XX.out.drew)).mono ?_); rintro en1 vS ⟨rfl, rfl, xS⟩)
      | (go_at_call 21; (with_reducible refine (RF.out _ (by first | exact XX.out | exact XX.out.drew)).mono ?_); rintro en2 vF ⟨AF, rfl, qF, qG, qH, qI, xF⟩))
    all_goals
      go_wp2_with fail
      go_meet
      case rel => exact ⟨rfl, by first | exact xF | exact xF.drew⟩
  case rest =>
    obtain ⟨rfl, xC⟩ := hcut
    have XC := Lib.hid xC
    clear xC c0 c9 wE wF
    go_wp2_with fail
    go_returns
    exact ⟨rfl, XC.out⟩
end Go.Proofs.YtbinimejjenmlaaDoor
