/-
  The document's frame, walked; the statement CrcFrames, walked.
-/
import Derived.Test.YtbinimejjenmlaaDoorCrcSlipP
import Derived.Test.YtbinimejjenmlaaDoorApart
import Derived.Deep.Cut
import Derived.Deep.RegionHeld3
namespace Go.Proofs.YtbinimejjenmlaaDoor
open Go.RowKit
set_option linter.unusedVariables false
set_option maxHeartbeats 800000 in
theorem rfour_any (x : Nat) (hx : x < 4294967296) (w : World) :
    Calls Tryd.prog 21 #[.int .u32 (x : Int)] w fun e w' => e = .returned (.slice (some ⟨w.heap.size, 0, none⟩) 4 4) ∧ Own w' w.heap.size 5 1 (some ⟨w.heap.size, 0, none⟩) 4 4 (u8s (wb x)) ∧ Ext w w' := by
  have ho : Own (w.alloc (.cells #[.int .u8 ((x : Int) % 256), .int .u8 ((x : Int) / 256 % 256), .int .u8 ((x : Int) / 65536 % 256), .int .u8 ((x : Int) / 16777216)] 5)) w.heap.size 5 1 (some ⟨w.heap.size, 0, none⟩) 4 4 (u8s (wb x)) := World.ownsRow_lit (size := 1) w _ 4 (Nat.le_refl _) (by simp [maxLen]) rfl
  have HO := Lib.hid ho
  clear ho
  have w0 : IntKind.u8.wrap ((x : Int) % 256) = (x : Int) % 256 := by rw [IntKind.wrap_u8]; omega
  have w1 : IntKind.u8.wrap ((x : Int) / 256 % 256) = (x : Int) / 256 % 256 := by rw [IntKind.wrap_u8]; omega
  have w2 : IntKind.u8.wrap ((x : Int) / 65536 % 256) = (x : Int) / 65536 % 256 := by rw [IntKind.wrap_u8]; omega
  have w3 : IntKind.u8.wrap ((x : Int) / 16777216) = (x : Int) / 16777216 := by rw [IntKind.wrap_u8]; omega
  go_enter Tryd.func21, Tryd.ntmps21
  go_wp2_with fail
  go_returns
  exact ⟨rfl, HO.out, (Ext.refl w).alloc _⟩
set_option maxHeartbeats 1600000 in
theorem rframe_any (A : Option Addr) (n c : Nat) (l : List Nat) (w : World) (hr : Rd w 1 A n (u8s l)) (hl : ∀ x ∈ l, x < 256) (hn : n ≤ 32768) :
    Calls Tryd.prog 12 #[.slice A n c] w fun e w' => ∃ A' c', e = .returned (.slice A' (n + 8) c') ∧ Own w' w.heap.size 5 1 A' (n + 8) c' (u8s (frm l)) ∧ Ext w w' := by
  have hlen : l.length = n := by have := hr.len; rw [u8s_len] at this; exact this
  have HR := Lib.hid hr
  have HL := Lib.hid hl
  have HN := Lib.hid hlen
  have w1 : IntKind.u32.wrap (n : Int) = (n : Int) := by rw [IntKind.wrap_u32]; omega
  have F1 := Lib.hid (rfour_any n (by omega) w)
  clear hr hl hlen
  go_enter Tryd.func12, Tryd.ntmps12
  go_wp2_with fail
  refine F1.out.mono ?_
  rintro e u1 ⟨rfl, o1, hx1⟩
  have hs1 := hx1.size
  go_wp2_with (at_builtin; refine held ?_)
  refine Held.go (wp_app (m := n) (news := u8s l) eltU8 o1 (HR.out.ext hx1) (u8s_one _) (by omega) (.inr ⟨by omega, by omega⟩) (by omega) _ _ rfl rfl rfl rfl ?_)
  intro A2 c2 u2 o2 g2 hA2 _
  rw [← u8s_append] at o2
  have hx2 := o1.fr_ext hx1 (Nat.le_refl _) (Fr.grows g2)
  have hs2 := hx2.size
  have hall : ∀ x ∈ wb n ++ l, x < 256 := fun x hx => by
    rcases List.mem_append.1 hx with h | h
    · exact wb_lt (by omega) x h
    · exact HL.out x h
  have SU := Lib.hid (rsum_any A2 (4 + n) c2 (wb n ++ l) u2 (by omega) o2.rd hall)
  have hsl := Crc.sum_lt (wb n ++ l) hall
  have PU := Lib.hid (rfour_any (Crc.sum (wb n ++ l)) hsl u2)
  have HO := Lib.hid o2
  have HX := Lib.hid hx2
  clear o1 hx1 hs1 g2 hA2 hall hsl o2 hx2
  go_wp2_with fail
  refine SU.out.mono ?_
  rintro e u3 ⟨rfl, rfl⟩
  go_wp2_with fail
  refine PU.out.mono ?_
  rintro e u4 ⟨rfl, o4, hx4⟩
  go_wp2_with (at_builtin; refine held ?_)
  refine Held.go (wp_app (m := 4) (news := u8s (wb (Crc.sum (wb n ++ l)))) eltU8 (HO.out.ext hx4) o4.rd (u8s_one _) (by omega) (.inr ⟨by omega, by omega⟩) (by have := hx4.size; omega) _ _ rfl rfl rfl rfl ?_)
  intro A5 c5 u5 o5 g5 _ _
  rw [← u8s_append] at o5
  have hx5 := (HO.out.ext hx4).fr_ext (HX.out.trans hx4) (Nat.le_refl _) (Fr.grows g5)
  clear g5 o4
  go_wp2_with fail
  go_returns
  refine ⟨A5, c5, ?_, ?_, hx5⟩
  · show Ending.returned (.slice A5 (4 + n + 4) c5) = _
    rw [show 4 + n + 4 = n + 8 by omega]
  · have e : 4 + n + 4 = n + 8 := by omega
    rw [e] at o5
    unfold frm
    rw [HN.out]
    exact o5
set_option maxRecDepth 8000 in
set_option maxHeartbeats 1600000 in
theorem frames_no (A B : Option Addr) (n c m d : Nat) (l : List Nat) (w : World) (hn : 32768 < n) (hn2 : n ≤ 140737488351232) (hr : Rd w 1 A n (u8s l)) (E : Nat → Addr) (hE : Errs w E) :
    Calls Tryd.prog 3 #[.slice A n c, .slice B m d] w fun e w' => e = .returned (.bool true) ∧ Ext w w' := by
  have HR := Lib.hid hr
  have HE := Lib.hid hE
  have hn3 : (32768 : Int) < n := by omega
  clear hr hE
  go_enter Tryd.func3, Tryd.ntmps3
  go_wp2_with fail
  refine (alive_any _).mono ?_
  rintro e u0 ⟨rfl, e0⟩
  go_wp2_with fail
  refine (bytes_any A n c l u0 hn2 (HR.out.ext e0)).mono ?_
  rintro e u1 ⟨rfl, rb, e1⟩
  have x1 := e0.trans e1
  go_wp2_with fail
  refine (frame_no _ n _ u1 ((HE.out.ext x1).sen 0 (by decide)) hn).mono ?_
  rintro e u2 ⟨rfl, e2⟩
  have x2 := x1.trans e2
  have HB := Lib.hid (rb.ext e2)
  clear rb
  go_wp2_with fail
  refine (kept_any _ n c A l u2 hn2 HB.out (HR.out.ext x2)).mono ?_
  rintro e u3 ⟨rfl, k, rfl⟩
  go_wp2_with fail
  refine (num_at E 7 _ _ (HE.out.ext (x2.drewN k)) rfl).mono ?_
  rintro e u4 ⟨rfl, e4⟩
  go_wp2_with fail
  go_returns
  exact ⟨rfl, (x2.drewN k).trans e4⟩
/-- A frame with something behind it, read. -/
theorem frm_read {l lb : List Nat} (hl : ∀ x ∈ l, x < 256) (hlb : ∀ x ∈ lb, x < 256) (hn : l.length ≤ 32768) :
    ∃ a b c d l' e0 e1 e2 e3, frm l ++ lb = a :: b :: c :: d :: l' ∧ bw a b c d = l.length ∧ (frm l ++ lb).drop (l.length + 4) = e0 :: e1 :: e2 :: e3 :: lb ∧ Crc.sum ((frm l ++ lb).take (l.length + 4)) = bw e0 e1 e2 e3 ∧ l'.take l.length = l ∧ ∀ x ∈ frm l ++ lb, x < 256 := by
  obtain ⟨B, hB⟩ : ∃ B, wb l.length ++ l = B := ⟨_, rfl⟩
  have hBl : B.length = l.length + 4 := by rw [← hB]; simp [wb_len]; omega
  have hBb : ∀ x ∈ B, x < 256 := fun x hx => by
    rw [← hB] at hx
    rcases List.mem_append.1 hx with h | h
    · exact wb_lt (by omega) x h
    · exact hl x h
  have hS := Crc.sum_lt B hBb
  have hbn : bw (l.length % 256) (l.length / 256 % 256) (l.length / 65536 % 256) (l.length / 16777216) = l.length := bw_wb (by omega)
  have hf : frm l = B ++ wb (Crc.sum B) := by unfold frm; rw [hB]
  refine ⟨_, _, _, _, l ++ wb (Crc.sum B) ++ lb, Crc.sum B % 256, Crc.sum B / 256 % 256, Crc.sum B / 65536 % 256, Crc.sum B / 16777216, ?_, hbn, ?_, ?_, ?_, ?_⟩
  · rw [hf, ← hB]; rfl
  · rw [hf, List.append_assoc, List.drop_left' hBl]; rfl
  · rw [hf, List.append_assoc, List.take_left' hBl, bw_wb hS]
  · rw [List.append_assoc, List.take_left' rfl]
  · intro x hx
    rw [hf] at hx
    rcases List.mem_append.1 hx with h | h
    · rcases List.mem_append.1 h with h | h
      · exact hBb x h
      · exact wb_lt hS x h
    · exact hlb x h
set_option maxRecDepth 8000 in
set_option maxHeartbeats 3200000 in
theorem frames_ok (A B : Option Addr) (n c m d : Nat) (l lb : List Nat) (w : World) (hn : n ≤ 32768) (hr : Rd w 1 A n (u8s l)) (hl : ∀ x ∈ l, x < 256) (hm : m ≤ 140737488351232) (hb : Rd w 1 B m (u8s lb)) (hlb : ∀ x ∈ lb, x < 256) :
    Calls Tryd.prog 3 #[.slice A n c, .slice B m d] w fun e w' => e = .returned (.bool true) ∧ Ext w w' := by
  have HR := Lib.hid hr
  have HL := Lib.hid hl
  have HB := Lib.hid hb
  have hlen : l.length = n := by have := hr.len; rwa [u8s_len] at this
  have HN := Lib.hid hlen
  have HF := Lib.hid (frm_read (lb := lb) hl hlb (by omega))
  clear hr hl hb hlb hlen
  go_enter Tryd.func3, Tryd.ntmps3
  go_wp2_with fail
  refine (alive_any _).mono ?_
  rintro e u0 ⟨rfl, e0⟩
  go_wp2_with fail
  refine (bytes_any A n c l u0 (by omega) (HR.out.ext e0)).mono ?_
  rintro e u1 ⟨rfl, rb, e1⟩
  have x1 := e0.trans e1
  go_wp2_with fail
  refine (frame_ok _ n _ l u1 rb.unmark HL.out hn).mono ?_
  rintro e u2 ⟨A2, c2, rfl, o2, e2⟩
  have x2 := x1.trans e2
  have HK := Lib.hid (rb.ext e2)
  clear rb
  go_wp2_with fail
  refine (kept_any _ n c A l u2 (by omega) HK.out (HR.out.ext x2)).mono ?_
  rintro e u3 ⟨rfl, k, rfl⟩
  have x3 := x2.drewN k
  have o3 : Own (u2.drewN k) u1.heap.size 5 1 A2 (n + 8) c2 (u8s (frm l)) := o2.drewN k
  have z3 := x1.size
  clear o2 HK
  generalize u2.drewN k = W at *
  generalize u1.heap.size = base at *
  have ST := fun (C : Option Addr) (j cj : Nat) (lj : List Nat) (w' : World) (h : Rd w' 1 C j (u8s lj)) => run_str (P := Tryd.prog) (w := w') (s := 9) Tryd.underlying22 Tryd.underlying5 Tryd.underlying9 cj h
  have BX := Lib.hid (fun w' (hx : Ext W w') => (⟨ST A2 (n + 8) c2 (frm l) w' (o3.rd.ext hx), hx⟩ : (convert 22 9 (.slice A2 (n + 8) c2)).run Tryd.prog w' = .ok (.string (str (frm l))) w' ∧ Ext W w'))
  have RF := Lib.hid (fun w' (hx : Ext W w') => (rframe_any A n c l w' (HR.out.ext (x3.trans hx)) HL.out hn).mono fun e w'' (h : ∃ A' c', e = .returned (.slice A' (n + 8) c') ∧ Own w'' w'.heap.size 5 1 A' (n + 8) c' (u8s (frm l)) ∧ Ext w' w'') =>
    (by
      obtain ⟨A', c', he, ho, hx2⟩ := h
      exact ⟨A', c', he, ST A' (n + 8) c' (frm l) w'' ho.rd, ST A' (n + 8) c' (frm l) w''.drew (ho.rd.ext ((Ext.refl _).drew)), (BX.out _ (hx.trans hx2)).1, (BX.out _ (hx.trans hx2).drew).1, hx.trans hx2⟩ :
      ∃ A' c', e = .returned (.slice A' (n + 8) c') ∧ (convert 22 9 (.slice A' (n + 8) c')).run Tryd.prog w'' = .ok (.string (str (frm l))) w'' ∧ (convert 22 9 (.slice A' (n + 8) c')).run Tryd.prog w''.drew = .ok (.string (str (frm l))) w''.drew ∧ (convert 22 9 (.slice A2 (n + 8) c2)).run Tryd.prog w'' = .ok (.string (str (frm l))) w'' ∧ (convert 22 9 (.slice A2 (n + 8) c2)).run Tryd.prog w''.drew = .ok (.string (str (frm l))) w''.drew ∧ Ext W w''))
  have HS := Lib.hid ST
  have HO := Lib.hid o3
  have HX := Lib.hid x3
  obtain ⟨i0, i1⟩ := BX.out W (Ext.refl _)
  obtain ⟨i2, i3⟩ := BX.out W.drew ((Ext.refl _).drew)
  clear ST o3 x3 x1 x2 e0 e1 e2
  go_upto_region 9 with (fail)
  go_cut [44] from 35 (fun s44 wx => s44 = .bool false ∧ Ext W wx)
  case first =>
    go_wp2_with fail
    go_region_with (go_at_call 12; (with_reducible refine (RF.out _ (by first | exact Ext.refl _ | exact (Ext.refl _).drew)).mono ?_); rintro en vF ⟨AF, cF, rfl, qF, qG, qH, qI, xF⟩)
    all_goals
      go_wp2_with fail
      go_meet
      case rel => exact ⟨rfl, by first | exact xF | exact xF.drew⟩
  case rest =>
    obtain ⟨rfl, xF⟩ := hcut
    clear i0 i1 i2 i3
    have XF := Lib.hid xF
    have z4 := xF.size
    clear xF
    go_wp2_with (at_builtin; refine held ?_)
    refine Held.go (wp_app (m := n + 8) (news := u8s (frm l)) eltU8 (base := wc.heap.size) (n := 0) (c := 0) (xs := []) (World.ownsRow_lit (size := 1) _ #[] 0 (Nat.le_refl _) (by simp [maxLen]) rfl) (HO.out.rd.ext (XF.out.alloc _)) (u8s_one _) (by omega) (.inr ⟨by omega, by omega⟩) (by simp) _ _ rfl rfl rfl rfl ?_)
    intro A5 c5 v5 o5 g5 _ _
    rw [List.nil_append, Nat.zero_add] at o5
    rw [Nat.zero_add]
    have y5 : Ext wc v5 := g5.ext ((Ext.refl wc).alloc _) (fun g hg => by injection hg with hg; rw [← hg]; exact Nat.le_refl _)
    have x5 := HX.out.trans (XF.out.trans y5)
    clear g5
    go_wp2_with (at_builtin; refine held ?_)
    refine Held.go (wp_app (m := m) (news := u8s lb) eltU8 o5 (HB.out.ext x5) (u8s_one _) (by omega) (.inr ⟨by omega, by omega⟩) y5.size _ _ rfl rfl rfl rfl ?_)
    intro A6 c6 v6 o6 g6 _ _
    rw [← u8s_append] at o6
    have y6 := o5.fr_ext y5 (Nat.le_refl _) (Fr.grows g6)
    clear g6 o5 y5 x5
    obtain ⟨M, hM⟩ : ∃ M, n + 8 + m = M := ⟨_, rfl⟩
    rw [hM] at o6
    rw [hM]
    obtain ⟨g, rfl⟩ := o6.head (by omega)
    have x6 : Ext w v6 := HX.out.trans (XF.out.trans y6)
    obtain ⟨a, b, c', d', l', e0, e1, e2, e3, f1, f2, f3, f4, f5, f6⟩ := HF.out
    have ho2 := o6.rd
    rw [f1] at ho2 f3 f4 f6
    rw [HN.out] at f2 f3 f4 f5
    have RK := Lib.hid (read_ok g 0 M c6 a b c' d' l' e0 e1 e2 e3 lb v6 ho2 f6 (by omega) (by rw [f2]; exact hn) (by rw [f2]; omega) o6.cap_le (by rw [f2]; exact f3) (by rw [f2]; exact f4))
    rw [f2, f5] at RK
    have HO6 := Lib.hid o6
    have X6 := Lib.hid x6
    have hgl := o6.lt
    have hg6 := o6.base_le g rfl
    have hM2 : M = n + 8 + m := hM.symm
    have HM := Lib.hid hM2
    clear f1 f2 f3 f4 f5 f6 ho2 o6 x6 hM hM2 RF BX
    have hMm : M ≤ 140737488400000 := by have := HM.out; omega
    go_wp2_with fail
    refine RK.out.mono ?_
    rintro e v7 ⟨A7, c7, rfl, ⟨b7, hb7, o7'⟩, y7⟩
    have o7 := o7'.base_mono hb7
    have x7 := X6.out.trans y7
    have s1 := HS.out A7 n c7 l v7 o7.rd
    have s2 := HS.out A n c l v7 (HR.out.ext x7)
    have AP := Lib.hid (apart_any (some ⟨g, 0, none⟩) A7 M c6 n c7 v6.heap.size (frm l ++ lb) l v7 (HO6.out.rd.ext y7) o7 HL.out (by omega) y7.size (fun a ha e => by
        injection ha with ha
        subst ha
        have := o7.base_le _ e
        have h2 : v6.heap.size ≤ g := this
        omega))
    have hX7 := Lib.hid x7
    have HB7 := Lib.hid (fun k hk => o7.base_le k hk)
    clear o7 o7' y7 x7 hb7
    go_wp2_with fail
    refine AP.out.mono ?_
    rintro e v8 ⟨rfl, f8⟩
    go_wp2_with fail
    go_returns
    exact ⟨rfl, Fr.ext hX7.out f8 (fun i hi => Nat.le_trans X6.out.size (HB7.out i hi))⟩
theorem frames_any (A B : Option Addr) (n c m d : Nat) (l lb : List Nat) (w : World) (hn : n ≤ 140737488351232) (hr : Rd w 1 A n (u8s l)) (hl : ∀ x ∈ l, x < 256) (hm : m ≤ 140737488351232) (hb : Rd w 1 B m (u8s lb)) (hlb : ∀ x ∈ lb, x < 256) (E : Nat → Addr) (hE : Errs w E) :
    Calls Tryd.prog 3 #[.slice A n c, .slice B m d] w fun e w' => e = .returned (.bool true) ∧ Ext w w' := by
  by_cases h : n ≤ 32768
  · exact frames_ok A B n c m d l lb w h hr hl hm hb hlb
  · exact frames_no A B n c m d l w (by omega) hn hr E hE
end Go.Proofs.YtbinimejjenmlaaDoor
