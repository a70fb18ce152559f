/-
  Package wire: a Reader's Num, Bytes, Text, End; a Writer's Bytes.
-/
import Derived.Test.YteflnnlihblpgaaDoorOwRead
import Derived.Test.YteflnnlihblpgaaDoorOwSp
import Derived.Deep.RegionHeld3
namespace Go.Proofs.YteflnnlihblpgaaDoor
open Go.RowKit
set_option linter.unusedVariables false
theorem number_some {w : World} {g n c at_ : Nat} {A : Option Addr} {l : List Nat} (h : RdS w g A n c at_ l) {x k : Nat} (hr : Wr.rd (l.drop at_) = some (x, k)) :
    Calls Tryd.prog 81 #[.pointer (some ⟨g, 0, none⟩), .int .i64 (at_ : Int)] w fun e w' => e = .returned (.tuple #[.int .i64 (x : Int), .int .i64 ((at_ + k : Nat) : Int), .bool true]) ∧ w = w' :=
  (number_any w h).mono fun e w' ⟨he, hw⟩ => by unfold NumR at he; rw [hr] at he; exact ⟨he, hw⟩
theorem number_none {w : World} {g n c at_ : Nat} {A : Option Addr} {l : List Nat} (h : RdS w g A n c at_ l) (hr : Wr.rd (l.drop at_) = none) :
    Calls Tryd.prog 81 #[.pointer (some ⟨g, 0, none⟩), .int .i64 (at_ : Int)] w fun e w' => (∃ a b : Int, e = .returned (.tuple #[.int .i64 a, .int .i64 b, .bool false])) ∧ w = w' :=
  (number_any w h).mono fun e w' ⟨he, hw⟩ => by unfold NumR at he; rw [hr] at he; exact ⟨he, hw⟩
def BytesNo (p : Addr) (v : Value) : Ending := .returned (.tuple #[v, .iface 149 (.pointer (some p))])
set_option maxHeartbeats 800000 in
theorem rnum_ok {w : World} {g n c at_ : Nat} {A : Option Addr} {l : List Nat} (h : RdS w g A n c at_ l) {x k : Nat} (hr : Wr.rd (l.drop at_) = some (x, k)) (most : Int) (hm : (x : Int) ≤ most) :
    Calls Tryd.prog 58 #[.pointer (some ⟨g, 0, none⟩), .int .i64 most] w fun e w' => e = .returned (.tuple #[.int .i64 (x : Int), .nilIface]) ∧ w' = w.setCell ⟨g, 1, none⟩ (.int .i64 ((at_ + k : Nat) : Int)) := by
  have N := Lib.hid (number_some h hr)
  have c1 := h.c1
  have f1 := h.fr 1
  obtain ⟨p, hp⟩ : ∃ p, at_ + k = p := ⟨_, rfl⟩
  rw [hp] at N ⊢
  have hm' : ¬ most < (x : Int) := by omega
  clear h hr hp hm
  go_enter Tryd.func58, Tryd.ntmps58
  go_wp2_with fail
  refine N.out.mono ?_
  rintro e w1 ⟨rfl, rfl⟩
  go_wp2_with fail
  go_returns
  exact ⟨rfl, rfl⟩
set_option maxHeartbeats 800000 in
theorem rnum_no {w : World} {g n c at_ : Nat} {A : Option Addr} {l : List Nat} (h : RdS w g A n c at_ l) (most : Int) (hr : ∀ x k, Wr.rd (l.drop at_) = some (x, k) → most < (x : Int)) {p : Addr} (hS : Sen w 2 p) :
    Calls Tryd.prog 58 #[.pointer (some ⟨g, 0, none⟩), .int .i64 most] w fun e w' => e = BytesNo p (.int .i64 0) ∧ ∃ j, w' = w.drewN j := by
  have c1 := h.c1
  have c3 := hS.2.1
  unfold BytesNo
  cases hrd : Wr.rd (l.drop at_) with
  | none =>
    have N := Lib.hid (number_none h hrd)
    clear h hr hrd hS
    go_enter Tryd.func58, Tryd.ntmps58
    go_wp2_with fail
    refine N.out.mono ?_
    rintro e w1 ⟨⟨a, b, rfl⟩, rfl⟩
    go_wp2_with fail
    go_quiet (fail)
    go_wp2_with fail
    go_returns
    exact ⟨rfl, _, rfl⟩
  | some y =>
    obtain ⟨x, k⟩ := y
    have hm := hr x k hrd
    have N := Lib.hid (number_some h hrd)
    clear h hr hrd hS
    go_enter Tryd.func58, Tryd.ntmps58
    go_wp2_with fail
    refine N.out.mono ?_
    rintro e w1 ⟨rfl, rfl⟩
    go_wp2_with fail
    go_quiet (fail)
    go_wp2_with fail
    go_returns
    exact ⟨rfl, _, rfl⟩
set_option maxHeartbeats 1600000 in
theorem rbytes_ok {w : World} {g n c at_ : Nat} {A : Option Addr} {l : List Nat} (h : RdS w g A n c at_ l) {x k : Nat} (hr : Wr.rd (l.drop at_) = some (x, k)) (most : Int) (hm : (x : Int) ≤ most) (hfit : at_ + k + x ≤ n) :
    Calls Tryd.prog 62 #[.pointer (some ⟨g, 0, none⟩), .int .i64 most] w fun e w' => ∃ A' c', e = .returned (.tuple #[.slice A' x c', .nilIface]) ∧ Own w' w.heap.size 5 1 A' x c' (u8s ((l.drop (at_ + k)).take x)) ∧ RdS w' g A n c (at_ + k + x) l ∧ Fr w w' (· = g) := by
  have N := Lib.hid (number_some h hr)
  have c0 := h.c0
  have c1 := h.c1
  have f1 := h.fr 1
  have hcap := h.cap
  have hsm := h.small
  obtain ⟨p, hp⟩ : ∃ p, at_ + k = p := ⟨_, rfl⟩
  rw [hp] at N hfit ⊢
  obtain ⟨q, hq⟩ : ∃ q, p + x = q := ⟨_, rfl⟩
  rw [hq] at hfit ⊢
  have HP := Lib.hid (h.put q hfit)
  have hF : Fr w (w.setCell ⟨g, 1, none⟩ (.int .i64 (q : Int))) (· = g) := Fr.store w ⟨g, 1, none⟩ _
  have HF := Lib.hid hF
  have hz : (w.setCell ⟨g, 1, none⟩ (.int .i64 (q : Int))).heap.size = w.heap.size := World.size_setCell _ _ _
  have hc0 := HP.out.c0
  have hc1 := HP.out.c1
  have r1 : (p : Int) + (x : Int) = (q : Int) := by omega
  have r2 : q - p = x := by omega
  have m1 : ¬ most < (x : Int) := by omega
  have m2 : ¬ (n : Int) - (p : Int) < (x : Int) := by omega
  have p0 : (0 : Int) ≤ p := by omega
  have p1 : (p : Int) ≤ q := by omega
  have p2 : (q : Int) ≤ c := by omega
  have p3 : p ≤ q := by omega
  have p4 : q ≤ c := by omega
  have hx := HP.out.len
  have RT : Rd (w.setCell ⟨g, 1, none⟩ (.int .i64 (q : Int))) 1 (if c = p then A else A.map (·.add p)) x (u8s ((l.drop p).take x)) := by
    have := (HP.out.rd.u8cut (k := p) (cap := c) (by omega) hcap).u8take (k := x) (by omega)
    exact this
  have hF9 : Hid (Fr w (w.setCell ⟨g, 1, none⟩ (.int .i64 (q : Int))) (· = g)) := hF
  clear h hr hp hq hm hF hx
  go_enter Tryd.func62, Tryd.ntmps62
  go_wp2_with fail
  refine N.out.mono ?_
  rintro e w1 ⟨rfl, rfl⟩
  go_wp2_with fail
  generalize w.setCell ⟨g, 1, none⟩ (.int .i64 (q : Int)) = W at *
  clear c0 c1 f1 N
  by_cases hc : c = p
  · rw [if_pos hc] at RT
    have CL := Lib.hid (fun w' (hx : Ext W w') (cp : Nat) => clone_any A x cp ((l.drop p).take x) w' (RT.ext hx) (by omega))
    subst hc
    have WX : Ext W W.drew := (Ext.refl W).drew
    have r5 : c - c = 0 := Nat.sub_self c
    clear RT
    go_region_held3 (fun w' => w'.cell? ⟨g, 0, none⟩ = some (.slice A n c) ∧ w'.cell? ⟨g, 1, none⟩ = some (.int .i64 (q : Int))) (go_keep) (first
      | (go_at_call 80; (with_reducible refine (CL.out _ (by with_reducible assumption) _).mono ?_); rintro en1 vA ⟨A', c', rfl, oA, xA⟩; have k0 := (WX.trans xA).cell (p := ⟨g, 0, none⟩) (HP.out.lt); have k1 := (WX.trans xA).cell (p := ⟨g, 1, none⟩) (HP.out.lt); rw [hc0] at k0; rw [hc1] at k1))
    all_goals
      go_wp2_with fail
      go_returns
      exact ⟨A', c', rfl, oA.base_mono (by show w.heap.size ≤ W.heap.size; omega), HP.out.ext (WX.trans xA), hF9.out.trans (Fr.of_ext (WX.trans xA) (· = g)) (fun _ _ h => h)⟩
  · rw [if_neg hc] at RT
    have CL := Lib.hid (fun w' (hx : Ext W w') (cp : Nat) => clone_any (A.map (·.add p)) x cp ((l.drop p).take x) w' (RT.ext hx) (by omega))
    have WX : Ext W W.drew := (Ext.refl W).drew
    clear RT
    go_region_held3 (fun w' => w'.cell? ⟨g, 0, none⟩ = some (.slice A n c) ∧ w'.cell? ⟨g, 1, none⟩ = some (.int .i64 (q : Int))) (go_keep) (first
      | (go_at_call 80; (with_reducible refine (CL.out _ (by with_reducible assumption) _).mono ?_); rintro en1 vA ⟨A', c', rfl, oA, xA⟩; have k0 := (WX.trans xA).cell (p := ⟨g, 0, none⟩) (HP.out.lt); have k1 := (WX.trans xA).cell (p := ⟨g, 1, none⟩) (HP.out.lt); rw [hc0] at k0; rw [hc1] at k1))
    all_goals
      go_wp2_with fail
      go_returns
      exact ⟨A', c', rfl, oA.base_mono (by show w.heap.size ≤ W.heap.size; omega), HP.out.ext (WX.trans xA), hF9.out.trans (Fr.of_ext (WX.trans xA) (· = g)) (fun _ _ h => h)⟩
set_option maxHeartbeats 1600000 in
theorem rbytes_no {w : World} {g n c at_ : Nat} {A : Option Addr} {l : List Nat} (h : RdS w g A n c at_ l) (most : Int) (hr : ∀ x k, Wr.rd (l.drop at_) = some (x, k) → most < (x : Int) ∨ n < at_ + k + x) {p : Addr} (hS : Sen w 2 p) :
    Calls Tryd.prog 62 #[.pointer (some ⟨g, 0, none⟩), .int .i64 most] w fun e w' => e = BytesNo p (.slice none 0 0) ∧ ∃ j, w' = w.drewN j := by
  have c0 := h.c0
  have c1 := h.c1
  have c3 := hS.2.1
  have hle := h.le
  have hsm := h.small
  have hlen := h.len
  unfold BytesNo
  cases hrd : Wr.rd (l.drop at_) with
  | none =>
    have N := Lib.hid (number_none h hrd)
    clear h hr hrd hS hlen
    go_enter Tryd.func62, Tryd.ntmps62
    go_wp2_with fail
    refine N.out.mono ?_
    rintro e w1 ⟨⟨a, b, rfl⟩, rfl⟩
    go_wp2_with fail
    go_quiet (fail)
    go_wp2_with fail
    go_returns
    exact ⟨rfl, _, rfl⟩
  | some y =>
    obtain ⟨x, k⟩ := y
    have hm := hr x k hrd
    have hk := Wr.rd_count hrd
    rw [List.length_drop, hlen] at hk
    have N := Lib.hid (number_some h hrd)
    obtain ⟨q, hq⟩ : ∃ q, at_ + k = q := ⟨_, rfl⟩
    rw [hq] at N hm
    have hqn : q ≤ n := by omega
    have q0 : (0 : Int) ≤ q := by omega
    clear h hr hrd hS hlen hk hq
    by_cases h1 : most < (x : Int)
    · clear hm
      go_enter Tryd.func62, Tryd.ntmps62
      go_wp2_with fail
      refine N.out.mono ?_
      rintro e w1 ⟨rfl, rfl⟩
      go_wp2_with fail
      go_quiet (fail)
      go_wp2_with fail
      go_returns
      exact ⟨rfl, _, rfl⟩
    · have h2 : (n : Int) - (q : Int) < (x : Int) := by omega
      clear hm
      go_enter Tryd.func62, Tryd.ntmps62
      go_wp2_with fail
      refine N.out.mono ?_
      rintro e w1 ⟨rfl, rfl⟩
      go_wp2_with fail
      go_quiet (fail)
      go_wp2_with fail
      go_returns
      exact ⟨rfl, _, rfl⟩
set_option maxHeartbeats 800000 in
theorem rleft_any {w : World} {g n c at_ : Nat} {A : Option Addr} {l : List Nat} (h : RdS w g A n c at_ l) :
    Calls Tryd.prog 82 #[.pointer (some ⟨g, 0, none⟩)] w fun e w' => e = .returned (.int .i64 ((n - at_ : Nat) : Int)) ∧ ∃ j, w' = w.drewN j := by
  have c0 := h.c0
  have c1 := h.c1
  have hle := h.le
  have hsm := h.small
  have e1 : (n : Int) - (at_ : Int) = ((n - at_ : Nat) : Int) := by omega
  clear h
  go_enter Tryd.func82, Tryd.ntmps82
  go_wp2_with fail
  go_quiet (fail)
  go_wp2_with fail
  go_returns
  exact ⟨rfl, _, rfl⟩
set_option maxHeartbeats 800000 in
theorem rend_ok {w : World} {g n c : Nat} {A : Option Addr} {l : List Nat} (h : RdS w g A n c n l) :
    Calls Tryd.prog 59 #[.pointer (some ⟨g, 0, none⟩)] w fun e w' => e = .returned .nilIface ∧ ∃ j, w' = w.drewN j := by
  have L := Lib.hid (rleft_any h)
  rw [Nat.sub_self] at L
  clear h
  go_enter Tryd.func59, Tryd.ntmps59
  go_wp2_with fail
  refine L.out.mono ?_
  rintro e w1 ⟨rfl, j, rfl⟩
  go_wp2_with fail
  go_returns
  exact ⟨rfl, j, rfl⟩
set_option maxHeartbeats 800000 in
theorem rend_no {w : World} {g n c at_ : Nat} {A : Option Addr} {l : List Nat} (h : RdS w g A n c at_ l) (hlt : at_ < n) {p : Addr} (hS : Sen w 2 p) :
    Calls Tryd.prog 59 #[.pointer (some ⟨g, 0, none⟩)] w fun e w' => e = .returned (.iface 149 (.pointer (some p))) ∧ ∃ j, w' = w.drewN j := by
  have L := Lib.hid (rleft_any h)
  obtain ⟨q, hq⟩ : ∃ q, n - at_ = q := ⟨_, rfl⟩
  rw [hq] at L
  have q0 : (0 : Int) < q := by omega
  have c3 := fun j => (hS.drewN j).2.1
  clear h hS hq
  go_enter Tryd.func59, Tryd.ntmps59
  go_wp2_with fail
  refine L.out.mono ?_
  rintro e w1 ⟨rfl, j, rfl⟩
  have c4 := c3 j
  clear c3
  go_wp2_with fail
  go_returns
  exact ⟨rfl, j, rfl⟩
set_option maxHeartbeats 800000 in
theorem wbytes_any (B : Option Addr) (m d : Nat) (l : List Nat) (w0 w : World) {g n c : Nat} {A : Option Addr} {bs : List Nat} (h : WrS w g A n c bs false) (hr : Rd w0 1 B m (u8s l)) (hx0 : Ext w0 w) (hg : w0.heap.size ≤ g) (hm : m ≤ 1048576) (hn : n ≤ 1099511627776) :
    Calls Tryd.prog 64 #[.pointer (some ⟨g, 0, none⟩), .slice B m d] w fun e w' => e = .returned (.tuple #[]) ∧ ∃ A' n' c', WrS w' g A' n' c' (bs ++ Wr.num m ++ l) false ∧ Below g w w' := by
  have N1 := Lib.hid (wnum_any m w h (by omega) hn)
  have hge := h.own.base_le
  have hln : (Wr.num m).length ≤ 9 := Wr.num_len 8 _ (by rw [show (128 : Nat) ^ (8 + 1) = 9223372036854775808 by decide]; omega)
  have hbl := h.len
  have hgw := h.lt
  clear h
  go_enter Tryd.func64, Tryd.ntmps64
  go_wp2_with fail
  refine N1.out.mono ?_
  rintro e w1 ⟨rfl, A1, n1, c1, h1, hf1, hA1⟩
  have hx1 := below_of_fr hf1 hgw (fun k hk => hge k hk)
  have hr1 := hr.ext (Below.ext_of hx0 hx1 hg)
  have c0 := h1.c0
  have f0 := h1.fr 0
  have glt := h1.lt
  have hl1 := h1.len
  rw [List.length_append, hbl] at hl1
  clear N1 hge hf1 hA1
  go_wp2_with (at_builtin; refine held ?_)
  refine Held.go (wp_app (m := m) (news := u8s l) eltU8 h1.own hr1 (u8s_one _) (by omega) (.inr ⟨by omega, by omega⟩) (by omega) _ _ rfl rfl rfl rfl ?_)
  intro A2 c2 w2 hown2 hg2 hA2 _
  have hk2 : w2.heap[g]? = w1.heap[g]? := hg2.block g glt (fun e => by
    have := h1.own.base_le g e.symm
    omega)
  rw [← u8s_append] at hown2
  have hs2 := h1.put hown2 hk2
  have d0 : w2.cell? ⟨g, 0, none⟩ = some (.slice A1 n1 c1) := by rw [cell_of_row w2 g 0 _ _ _ (hk2.trans h1.blk)]; rfl
  have d1 : w2.frozen? ⟨g, 0, none⟩ = false := by have := hk2.trans h1.blk; simp only [World.frozen?, this]; simp
  have hx2 : Below g w (w2.setCell ⟨g, 0, none⟩ (.slice A2 (n1 + m) c2)) := by
    refine (Below.grown hx1 hg2 (by omega) (fun k hk => ?_)).setCell (Nat.le_refl _) _
    have := h1.own.base_le k hk
    omega
  clear hown2 hg2 hk2 c0 f0 h1 hr1 hA2 hx1
  go_wp2_with fail
  go_returns
  exact ⟨rfl, A2, n1 + m, c2, hs2, hx2⟩
end Go.Proofs.YteflnnlihblpgaaDoor
