/-
  Split, walked: the program's and the document's.
-/
import Derived.Test.YtbinimejjenmlaaDoorCrcSpl
import Derived.Test.YtbinimejjenmlaaDoorCrcRr
import Derived.Test.YtbinimejjenmlaaDoorPay
namespace Go.Proofs.YtbinimejjenmlaaDoor
open Go.RowKit
set_option linter.unusedVariables false
/-- What a Split answers, with its error as ev. -/
def SOut (w : World) (l : List Nat) (ev : Value) (e : Ending) (w' : World) : Prop :=
  ∃ A' c' vs, e = .returned (.tuple #[.slice A' (splP l).length c', .int .i64 (splN l : Nat), ev]) ∧ Ls w' w.heap.size A' (splP l).length c' vs (splP l) ∧ Ext w w' ∧ Fre w.heap.size vs
theorem fre_nil (b : Nat) : Fre b [] := fun B n c h => by simp at h
theorem fre_snoc {b : Nat} {vs : List Value} {A : Option Addr} {n c : Nat} (h : Fre b vs) (ha : ∀ a, A = some a → b ≤ a.block) : Fre b (vs ++ [.slice A n c]) := fun B m d hm => by
  rcases List.mem_append.1 hm with h1 | h1
  · exact h B m d h1
  · simp only [List.mem_singleton, Value.slice.injEq] at h1
    exact ha B h1.1.symm
theorem sout_nil {w w' : World} {l : List Nat} {ev : Value} (h1 : splP l = []) (h2 : splN l = 0) (hx : Ext w w') : SOut w l ev (.returned (.tuple #[.slice none 0 0, .int .i64 0, ev])) w' := by
  refine ⟨none, 0, [], ?_, ?_, hx, fre_nil _⟩
  · rw [h1, h2]; rfl
  · rw [h1]; exact Ls.nil_ _ _
theorem Own.blk {w : World} {base n c : Nat} {e : TypeId} {size : Nat} {A : Option Addr} {xs : List Value} (h : Own w base e size A n c xs) {a : Addr} (ha : A = some a) : a.block < w.heap.size := by
  rcases h.2 with ⟨h', _⟩ | ⟨g, cap, cur, h', _, hgg, _⟩
  · injection h' with h1 _ _
    rw [ha] at h1
    cases h1
  · injection h' with h1 _ _
    rw [ha] at h1
    injection h1 with h1
    subst h1
    exact (Array.getElem?_eq_some_iff.1 hgg).1
theorem Rd.spot {w : World} {A : Option Addr} {m : Nat} {xs : List Value} (hr : Rd w 1 A m xs) (hm : 0 < m) (a : Addr) (ha : A = some a) : a.spot = none := by
  obtain ⟨ad, h1, _, h2⟩ := hr.2 hm
  rw [ha] at h1
  injection h1 with h1
  subst h1
  have hl := hr.len
  obtain ⟨x, hx⟩ : ∃ x, xs[0]? = some x := ⟨xs[0]'(by omega), List.getElem?_eq_getElem _⟩
  have h3 := World.cell?_spot (h2 0 x hx)
  simpa [Addr.add] using h3
theorem read_any0 (A : Option Addr) (m c : Nat) (l : List Nat) (w : World) (hr : Rd w 1 A m (u8s l)) (hs : ∀ x ∈ l, x < 256) (hm : m ≤ 140737488351232) (hmc : m ≤ c) (E : Nat → Addr) (h8 : Sen w 0 (E 0)) (h4 : Sen w 4 (E 4)) :
    Calls Tryd.prog 13 #[.slice A m c] w (ROut w E (rc l)) := by
  by_cases hm4 : m < 4
  · have hlen : l.length = m := by have := hr.len; rwa [u8s_len] at this
    rw [rc_short (by omega)]
    exact (read_short A m c w hm4).mono fun e w' ⟨he, hx⟩ => ⟨none, 0, he, Own.nil_, hx⟩
  · exact read_any A m c l w hr hs hm hmc (fun a ha => hr.spot (by omega) a ha) E h8 h4
/-- What the document's Read answers. -/
def ROut2 (w : World) (r : RC) (e : Ending) (w' : World) : Prop :=
  ∃ A' c', e = .returned (.tuple #[.slice A' r.p.length c', .int .i64 (r.n : Nat), .int .i64 (r.e : Nat)]) ∧ Own w' w.heap.size 5 1 A' r.p.length c' (u8s r.p) ∧ Ext w w'
theorem rout2_ok {w w' : World} {p : List Nat} {e : Ending} {A' : Option Addr} {c' : Nat} (he : e = .returned (.tuple #[.slice A' p.length c', .int .i64 ((p.length : Int) + 8), .int .i64 0])) (ho : ∃ base, w.heap.size ≤ base ∧ Own w' base 5 1 A' p.length c' (u8s p)) (hx : Ext w w') : ROut2 w (.ok p) e w' := by
  obtain ⟨base, hb, ho⟩ := ho
  have e8 : ((p.length : Int) + 8) = ((p.length + 8 : Nat) : Int) := (Int.natCast_add _ _).symm
  rw [e8] at he
  exact ⟨A', c', he, ho.base_mono hb, hx⟩
theorem rread_any0 (A : Option Addr) (m c : Nat) (l : List Nat) (w : World) (hr : Rd w 1 A m (u8s l)) (hs : ∀ x ∈ l, x < 256) (hm : m ≤ 140737488351232) (hmc : m ≤ c) :
    Calls Tryd.prog 15 #[.slice A m c] w (ROut2 w (rc l)) := by
  have hlen : l.length = m := by have := hr.len; rwa [u8s_len] at this
  by_cases hm4 : m < 4
  · rw [rc_short (by omega)]
    exact (rread_short A m c w hm4).mono fun e w' ⟨he, hx⟩ => ⟨none, 0, he, Own.nil_, hx⟩
  · have hA : ∀ a, A = some a → a.spot = none := fun a ha => hr.spot (by omega) a ha
    obtain ⟨a, b, c1, d, r, rfl⟩ := four_of (l := l) (by omega)
    by_cases hl : 32768 < bw a b c1 d
    · have e : rc (a :: b :: c1 :: d :: r) = .large := by rw [rc_cons, if_pos hl]
      rw [e]
      exact (rread_stop A m c a b c1 d r w hr hs hA hm 8 (.inl ⟨hl, rfl⟩)).mono fun e w' ⟨he, hx⟩ => ⟨none, 0, he, Own.nil_, hx⟩
    · have hlen' : r.length + 4 = m := by simpa using hlen
      by_cases hw : m < bw a b c1 d + 8
      · have e : rc (a :: b :: c1 :: d :: r) = .stop := by rw [rc_cons, if_neg hl, if_pos (by omega)]
        rw [e]
        exact (rread_stop A m c a b c1 d r w hr hs hA hm 0 (.inr ⟨by omega, hw, rfl⟩)).mono fun e w' ⟨he, hx⟩ => ⟨none, 0, he, Own.nil_, hx⟩
      · obtain ⟨e0, e1, e2, e3, l2, hd⟩ := four_of (l := (a :: b :: c1 :: d :: r).drop (bw a b c1 d + 4)) (by rw [List.length_drop, hlen]; omega)
        by_cases hS : Crc.sum ((a :: b :: c1 :: d :: r).take (bw a b c1 d + 4)) = bw e0 e1 e2 e3
        · have e : rc (a :: b :: c1 :: d :: r) = .ok (r.take (bw a b c1 d)) := by
            rw [rc_cons, if_neg hl, if_neg (by omega), if_pos (by rw [hd]; exact hS)]
          have hl2 : (r.take (bw a b c1 d)).length = bw a b c1 d := by rw [List.length_take]; omega
          have RK := rread_ok A m c a b c1 d r e0 e1 e2 e3 l2 w hr hs hA hm (by omega) (by omega) hmc hd hS
          rw [e]
          clear e hS hd hs hr hlen hw hl
          generalize r.take (bw a b c1 d) = p at *
          generalize bw a b c1 d = x at *
          subst hl2
          refine RK.mono ?_
          intro e w' h
          obtain ⟨A', c', he, hb, hx⟩ := h
          exact rout2_ok he hb hx
        · have e : rc (a :: b :: c1 :: d :: r) = .bad := by
            rw [rc_cons, if_neg hl, if_neg (by omega), if_neg (by rw [hd]; exact hS)]
          rw [e]
          exact (rread_bad A m c a b c1 d r e0 e1 e2 e3 l2 w hr hs hA hm (by omega) (by omega) hmc hd hS).mono fun e w' ⟨he, hx⟩ => ⟨none, 0, he, Own.nil_, hx⟩
set_option maxHeartbeats 3200000 in
theorem split_any (A : Option Addr) (m c : Nat) (l : List Nat) (w : World) (hr : Rd w 1 A m (u8s l)) (hs : ∀ x ∈ l, x < 256) (hm : m ≤ 60000000000000) (hmc : m ≤ c) (E : Nat → Addr) (h8 : Sen w 0 (E 0)) (h4 : Sen w 4 (E 4)) :
    Calls Tryd.prog 16 #[.slice A m c] w (SOut w l (errV E (splE l))) := by
  have HL := Lib.hid (show l.length = m by have := hr.len; rwa [u8s_len] at this)
  have RA := Lib.hid (fun (k : Nat) (hk : k ≤ m) (w' : World) (hx : Ext w w') (B : Option Addr) (hB : (if c = k then A else A.map (·.add k)) = B) => (by
    have h1 := hr.u8cut (k := k) (cap := c) hk hmc
    rw [hB] at h1
    exact read_any0 B (m - k) (c - k) (l.drop k) w' (h1.ext hx) (fun x hx => hs x (List.mem_of_mem_drop hx)) (by omega) (by omega) E (h8.ext hx) (h4.ext hx) :
    Calls Tryd.prog 13 #[.slice B (m - k) (c - k)] w' (ROut w' E (rc (l.drop k)))))
  have HM := Lib.hid hm
  clear hr hs h8 h4 hm
  go_enter Tryd.func16, Tryd.ntmps16
  go_wp2_with fail
  go_loopw [5, 6] (fun vo va wr => ∃ A' c' vs ps k, vo = .slice A' (List.length ps) c' ∧ va = .int .i64 ((k : Nat) : Int) ∧ Ls wr w.heap.size A' (List.length ps) c' vs ps ∧ Ext w wr ∧ Hid (SplAt l k ps) ∧ Hid (Fre w.heap.size vs)) (fun _ va _ => m - (intOf va).toNat)
  case atStart => exact ⟨none, 0, [], [], 0, rfl, rfl, Ls.nil_ _ _, Ext.refl w, SplAt.start l, fre_nil _⟩
  case round =>
    obtain ⟨A', c', vs, ps, k, rfl, rfl, hls, hx, hsp, hfre⟩ := hrel
    have hk : k ≤ m := by have := hsp.out.2.1; have h2 := HL.out; omega
    have k0 : (0 : Int) ≤ k := by omega
    have k1 : (k : Int) ≤ m := by omega
    have RB := Lib.hid (RA.out k hk wr hx)
    obtain ⟨r, hrc⟩ : ∃ r, rc (l.drop k) = r := ⟨_, rfl⟩
    rw [hrc] at RB
    have HC := Lib.hid hrc
    have HS := Lib.hid hls
    have HX := Lib.hid hx
    have RS := Lib.hid (fun (h : c = k) => (read_short A (m - k) 0 wr (by omega) : Calls Tryd.prog 13 #[.slice A (m - k) 0] wr fun e w' => e = RNo .nilIface ∧ Ext wr w'))
    have HT := Lib.hid (fun (h : c = k) => (rc_short (l := l.drop k) (by rw [List.length_drop, HL.out]; omega)))
    clear hrc hls hx
    go_wp2_with fail
    case inl h =>
      refine (RS.out h).mono ?_
      rintro e w1 ⟨rfl, hy⟩
      unfold RNo
      have HT := Lib.hid (HT.out h)
      clear h
      go_wp2_with fail
      go_returns
      obtain ⟨e1, e2, e3⟩ := hsp.out.stop HT.out
      rw [e3]
      exact ⟨A', c', vs, by rw [e1, e2]; rfl, by rw [e1]; exact HS.out.ext hy, HX.out.trans hy, hfre.out⟩
    rename ¬ c = k => h
    refine (RB.out _ (if_neg h)).mono ?_
    clear h
    rintro e w1 ⟨A1, c1, rfl, ho, hy⟩
    cases r with
    | stop =>
      simp only [RC.p, RC.n, RC.e, errV, List.length_nil]
      go_wp2_with fail
      go_returns
      obtain ⟨e1, e2, e3⟩ := hsp.out.stop HC.out
      rw [e3]
      exact ⟨A', c', vs, by rw [e1, e2]; rfl, by rw [e1]; exact HS.out.ext hy, HX.out.trans hy, hfre.out⟩
    | large =>
      simp only [RC.p, RC.n, RC.e, errV, List.length_nil]
      go_wp2_with fail
      go_returns
      obtain ⟨e1, e2, e3⟩ := hsp.out.large HC.out
      rw [e3]
      exact sout_nil e1 e2 (HX.out.trans hy)
    | bad =>
      simp only [RC.p, RC.n, RC.e, errV, List.length_nil]
      go_wp2_with fail
      go_returns
      obtain ⟨e1, e2, e3⟩ := hsp.out.bad HC.out
      rw [e3]
      exact sout_nil e1 e2 (HX.out.trans hy)
    | ok p =>
      simp only [RC.p, RC.n, RC.e, errV,]
      simp only [RC.p] at ho
      obtain ⟨q, hq⟩ : ∃ q, p.length + 8 = q := ⟨_, rfl⟩
      rw [hq]
      have HN := Lib.hid (hsp.out.next HC.out)
      rw [hq] at HN
      have hkq : k + q ≤ m := by have := HN.out.2.1; have h2 := HL.out; omega
      have hq0 : ¬ (q : Int) = 0 := by omega
      have hps : 8 * ps.length ≤ m := by have := tot_len ps; have h2 := hsp.out.1; omega
      have HQ := Lib.hid hq
      have HK := Lib.hid (And.intro hk (And.intro hkq hps))
      have HO := Lib.hid ho
      have HY := Lib.hid hy
      clear hq hk hkq hps k0 k1 ho hy
      go_wp2_with (at_builtin; refine held ?_)
      have hm' := HM.out
      have hps' := HK.out.2.2
      have hyb : Ext wr (w1.alloc (.cells #[.slice A1 p.length c1] 22)) := HY.out.alloc _
      refine Held.go (wp_app (m := 1) (news := [.slice A1 p.length c1]) eltLs (HS.out.own.ext hyb) (Rd.new w1 #[.slice A1 p.length c1] 22 (0, 0)) (slice_one _ _ _) (by omega) (.inr ⟨by omega, by omega⟩) (by have := HX.out.size; have h2 := hyb.size; omega) _ _ rfl rfl rfl rfl ?_)
      intro A2 c2 w2 ho2 hg hA2 _
      have hsn := HS.out.snoc (p := p) (d := c1) hyb (HO.out.rd.ext ((Ext.refl w1).alloc _)) (fun _ b hb e => by
        subst hb
        have h1 := HO.out.base_le _ rfl
        cases A' with
        | none => cases e
        | some a =>
          injection e with e
          have h2 : a.block < wr.heap.size := HS.out.own.blk rfl
          have h3 : wr.heap.size ≤ b.block := h1
          have h4 : a.block = b.block := e
          omega) ho2 hg hA2
      have hx2 := HS.out.own.fr_ext HX.out (Nat.le_refl _) ((Fr.of_ext hyb _).trans (Fr.grows hg) (fun i hi h => h))
      clear ho2 hg hA2 hyb hm' hps'
      have hb9 : k + q ≤ 60000000000000 := by have h1 := HM.out; have h2 := HK.out.2.1; omega
      go_wp2_with fail
      go_roundw
      case rel => exact ⟨A2, c2, _, ps ++ [p], k + q, by rw [List.length_append]; rfl, by go_num, by rw [List.length_append]; exact hsn, hx2, HN.out, fre_snoc hfre.out (fun a ha => Nat.le_trans HX.out.size (HO.out.base_le _ (by rw [ha]; rfl)))⟩
      case measure =>
        have h2 := HK.out.2.1
        have h3 := HQ.out
        simp [intOf]
        omega
set_option maxHeartbeats 3200000 in
theorem rsplit_any (A : Option Addr) (m c : Nat) (l : List Nat) (w : World) (hr : Rd w 1 A m (u8s l)) (hs : ∀ x ∈ l, x < 256) (hm : m ≤ 60000000000000) (hmc : m ≤ c) :
    Calls Tryd.prog 17 #[.slice A m c] w (SOut w l (.int .i64 (splE l : Nat))) := by
  have HL := Lib.hid (show l.length = m by have := hr.len; rwa [u8s_len] at this)
  have RA := Lib.hid (fun (k : Nat) (hk : k ≤ m) (w' : World) (hx : Ext w w') (B : Option Addr) (hB : (if c = k then A else A.map (·.add k)) = B) => (by
    have h1 := hr.u8cut (k := k) (cap := c) hk hmc
    rw [hB] at h1
    exact rread_any0 B (m - k) (c - k) (l.drop k) w' (h1.ext hx) (fun x hx => hs x (List.mem_of_mem_drop hx)) (by omega) (by omega) :
    Calls Tryd.prog 15 #[.slice B (m - k) (c - k)] w' (ROut2 w' (rc (l.drop k)))))
  have HM := Lib.hid hm
  clear hr hs hm
  go_enter Tryd.func17, Tryd.ntmps17
  go_wp2_with fail
  go_loopw [5, 6] (fun vo va wr => ∃ A' c' vs ps k, vo = .slice A' (List.length ps) c' ∧ va = .int .i64 ((k : Nat) : Int) ∧ Ls wr w.heap.size A' (List.length ps) c' vs ps ∧ Ext w wr ∧ Hid (SplAt l k ps) ∧ Hid (Fre w.heap.size vs)) (fun _ va _ => m - (intOf va).toNat)
  case atStart => exact ⟨some ⟨w.heap.size, 0, none⟩, 0, [], [], 0, rfl, rfl, ⟨World.ownsRow_lit (size := 1) w #[] 0 (Nat.le_refl _) (by simp [maxLen]) rfl, At.nil_ _ _⟩, (Ext.refl w).alloc _, SplAt.start l, fre_nil _⟩
  case round =>
    obtain ⟨A', c', vs, ps, k, rfl, rfl, hls, hx, hsp, hfre⟩ := hrel
    have hk : k ≤ m := by have := hsp.out.2.1; have h2 := HL.out; omega
    have k0 : (0 : Int) ≤ k := by omega
    have k1 : (k : Int) ≤ m := by omega
    have RB := Lib.hid (RA.out k hk wr hx)
    obtain ⟨r, hrc⟩ : ∃ r, rc (l.drop k) = r := ⟨_, rfl⟩
    rw [hrc] at RB
    have HC := Lib.hid hrc
    have HS := Lib.hid hls
    have HX := Lib.hid hx
    have RS := Lib.hid (fun (h : c = k) => (rread_short A (m - k) 0 wr (by omega) : Calls Tryd.prog 15 #[.slice A (m - k) 0] wr fun e w' => e = RNo2 0 ∧ Ext wr w'))
    have HT := Lib.hid (fun (h : c = k) => (rc_short (l := l.drop k) (by rw [List.length_drop, HL.out]; omega)))
    clear hrc hls hx
    go_wp2_with fail
    case inl h =>
      refine (RS.out h).mono ?_
      rintro e w1 ⟨rfl, hy⟩
      unfold RNo2
      have HT := Lib.hid (HT.out h)
      clear h
      go_wp2_with fail
      go_returns
      obtain ⟨e1, e2, e3⟩ := hsp.out.stop HT.out
      rw [e3]
      exact ⟨A', c', vs, by rw [e1, e2]; rfl, by rw [e1]; exact HS.out.ext hy, HX.out.trans hy, hfre.out⟩
    rename ¬ c = k => h
    refine (RB.out _ (if_neg h)).mono ?_
    clear h
    rintro e w1 ⟨A1, c1, rfl, ho, hy⟩
    cases r with
    | stop =>
      simp only [RC.p, RC.n, RC.e,  List.length_nil]
      go_wp2_with fail
      go_returns
      obtain ⟨e1, e2, e3⟩ := hsp.out.stop HC.out
      rw [e3]
      exact ⟨A', c', vs, by rw [e1, e2]; rfl, by rw [e1]; exact HS.out.ext hy, HX.out.trans hy, hfre.out⟩
    | large =>
      simp only [RC.p, RC.n, RC.e,  List.length_nil]
      go_wp2_with fail
      go_returns
      obtain ⟨e1, e2, e3⟩ := hsp.out.large HC.out
      rw [e3]
      exact sout_nil e1 e2 (HX.out.trans hy)
    | bad =>
      simp only [RC.p, RC.n, RC.e,  List.length_nil]
      go_wp2_with fail
      go_returns
      obtain ⟨e1, e2, e3⟩ := hsp.out.bad HC.out
      rw [e3]
      exact sout_nil e1 e2 (HX.out.trans hy)
    | ok p =>
      simp only [RC.p, RC.n, RC.e, ]
      simp only [RC.p] at ho
      obtain ⟨q, hq⟩ : ∃ q, p.length + 8 = q := ⟨_, rfl⟩
      rw [hq]
      have HN := Lib.hid (hsp.out.next HC.out)
      rw [hq] at HN
      have hkq : k + q ≤ m := by have := HN.out.2.1; have h2 := HL.out; omega
      have hq0 : ¬ (q : Int) = 0 := by omega
      have hps : 8 * ps.length ≤ m := by have := tot_len ps; have h2 := hsp.out.1; omega
      have HQ := Lib.hid hq
      have HK := Lib.hid (And.intro hk (And.intro hkq hps))
      have HO := Lib.hid ho
      have HY := Lib.hid hy
      clear hq hk hkq hps k0 k1 ho hy
      go_wp2_with (at_builtin; refine held ?_)
      have hm' := HM.out
      have hps' := HK.out.2.2
      have hyb : Ext wr (w1.alloc (.cells #[.slice A1 p.length c1] 22)) := HY.out.alloc _
      refine Held.go (wp_app (m := 1) (news := [.slice A1 p.length c1]) eltLs (HS.out.own.ext hyb) (Rd.new w1 #[.slice A1 p.length c1] 22 (0, 0)) (slice_one _ _ _) (by omega) (.inr ⟨by omega, by omega⟩) (by have := HX.out.size; have h2 := hyb.size; omega) _ _ rfl rfl rfl rfl ?_)
      intro A2 c2 w2 ho2 hg hA2 _
      have hsn := HS.out.snoc (p := p) (d := c1) hyb (HO.out.rd.ext ((Ext.refl w1).alloc _)) (fun _ b hb e => by
        subst hb
        have h1 := HO.out.base_le _ rfl
        cases A' with
        | none => cases e
        | some a =>
          injection e with e
          have h2 : a.block < wr.heap.size := HS.out.own.blk rfl
          have h3 : wr.heap.size ≤ b.block := h1
          have h4 : a.block = b.block := e
          omega) ho2 hg hA2
      have hx2 := HS.out.own.fr_ext HX.out (Nat.le_refl _) ((Fr.of_ext hyb _).trans (Fr.grows hg) (fun i hi h => h))
      clear ho2 hg hA2 hyb hm' hps'
      have hb9 : k + q ≤ 60000000000000 := by have h1 := HM.out; have h2 := HK.out.2.1; omega
      go_wp2_with fail
      go_roundw
      case rel => exact ⟨A2, c2, _, ps ++ [p], k + q, by rw [List.length_append]; rfl, by go_num, by rw [List.length_append]; exact hsn, hx2, HN.out, fre_snoc hfre.out (fun a ha => Nat.le_trans HX.out.size (HO.out.base_le _ (by rw [ha]; rfl)))⟩
      case measure =>
        have h2 := HK.out.2.1
        have h3 := HQ.out
        simp [intOf]
        omega
end Go.Proofs.YtbinimejjenmlaaDoor
