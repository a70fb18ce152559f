/-
  The statement WireWrites, walked.
-/
import Derived.Test.YtelnnlfbfbbnaaaDoorWrState
import Derived.Test.YtelnnlfbfbbnaaaDoorWrScript
import Derived.Test.YtelnnlfbfbbnaaaDoorMask
import Derived.Deep.RegionHeld3
import Derived.Deep.RegionLaw
import Derived.Deep.Cut
namespace Go.Proofs.YtelnnlfbfbbnaaaDoor
open Go.RowKit
set_option linter.unusedVariables false
/-- The box of a call. -/
def Bx (w : World) (ob : Nat) (o : OpV) : Prop := w.heap[ob]? = some (.cells #[.int .i64 o.K, .int .i64 o.Q, .int .i64 o.N, .slice o.A o.n o.c] 38 (0, 0))
theorem Bx.lt {w : World} {ob : Nat} {o : OpV} (h : Bx w ob o) : ob < w.heap.size := (Array.getElem?_eq_some_iff.1 h).1
theorem Bx.fr {w w' : World} {ob : Nat} {o : OpV} {P : Nat → Prop} (h : Bx w ob o) (hf : Fr w w' P) (hp : ¬ P ob) : Bx w' ob o := (hf.block ob h.lt hp).trans h
theorem Bx.ext {w w' : World} {ob : Nat} {o : OpV} (h : Bx w ob o) (hx : Ext w w') : Bx w' ob o := (hx.block ob h.lt).trans h
theorem Bx.c2 {w : World} {ob : Nat} {o : OpV} (h : Bx w ob o) : w.cell? ⟨ob, 2, none⟩ = some (.int .i64 o.N) := by rw [cell_of_row _ _ _ _ _ _ h]; rfl
theorem Bx.c3 {w : World} {ob : Nat} {o : OpV} (h : Bx w ob o) : w.cell? ⟨ob, 3, none⟩ = some (.slice o.A o.n o.c) := by rw [cell_of_row _ _ _ _ _ _ h]; rfl
/-- What a round begins and ends with. -/
structure WrInv (w0 w : World) (q3 q4 q5 lo k j S M cap : Nat) (os : List OpV) (Z Y : Zs) : Prop where
  two : W2 w q3 q4 q5 lo k j Z Y
  zp : Z.ps = Z.bs
  yp : Y.ps = Y.bs
  zq : Z.q = Z.sp
  yq : Y.q = Y.sp
  ext : Ext w0 w
  ops : Own w w0.heap.size 38 4 (some ⟨S, 0, none⟩) M cap (opCells os)
  sl : S < lo
  s3 : S ≠ q3
  s4 : S ≠ q4
  s5 : S ≠ q5
  sg : S ≠ Z.g
  sh : S ≠ Y.g
  g0 : w0.heap.size ≤ Z.g
  h0 : w0.heap.size ≤ Y.g
  zb : ∀ x ∈ Z.bs, x < 256
  yb : ∀ x ∈ Y.bs, x < 256
section
variable {w0 w w' : World} {q3 q4 q5 lo k j S M cap : Nat} {os : List OpV} {Z Y : Zs}
theorem WrInv.symm (h : WrInv w0 w q3 q4 q5 lo k j S M cap os Z Y) : WrInv w0 w q3 q4 q5 lo j k S M cap os Y Z :=
  ⟨h.two.symm, h.yp, h.zp, h.yq, h.zq, h.ext, h.ops, h.sl, h.s3, h.s4, h.s5, h.sh, h.sg, h.h0, h.g0, h.yb, h.zb⟩
theorem WrInv.ex (h : WrInv w0 w q3 q4 q5 lo k j S M cap os Z Y) (hx : Ext w w') : WrInv w0 w' q3 q4 q5 lo k j S M cap os Z Y :=
  ⟨h.two.ext hx, h.zp, h.yp, h.zq, h.yq, h.ext.trans hx, h.ops.ext hx, h.sl, h.s3, h.s4, h.s5, h.sg, h.sh, h.g0, h.h0, h.zb, h.yb⟩
/-- A call on writer k and what is put in the list beside it. -/
theorem WrInv.put (h : WrInv w0 w q3 q4 q5 lo k j S M cap os Z Y) {Z' : Zs} (ht : W2 w' q3 q4 q5 lo k j Z' Y) (hg : Z'.g = Z.g) (hp : Z'.ps = Z'.bs) (hq : Z'.q = Z'.sp) {P : Nat → Prop} (hf : Fr w w' P)
    (hP : ∀ i, P i → i = Z.g ∨ i = q4 ∨ i = q5 ∨ lo ≤ i) (hb : ∀ x ∈ Z'.bs, x < 256) : WrInv w0 w' q3 q4 q5 lo k j S M cap os Z' Y := by
  have hlo : w0.heap.size ≤ lo := by have := h.two.a.gq; have := h.two.a.q34; have := h.two.a.q45; have := h.two.a.q5l; have := h.g0; omega
  have h3 := h.two.a.gq
  have h4 := h.two.a.q34
  have h5 := h.two.a.q45
  have h6 := h.g0
  refine ⟨ht, hp, h.yp, hq, h.yq, Fr.ext h.ext hf (fun i hi => ?_), hf.own h.ops (fun a ha hi => ?_), h.sl, h.s3, h.s4, h.s5, by rw [hg]; exact h.sg, h.sh, by rw [hg]; exact h.g0, h.h0, hb, h.yb⟩
  · rcases hP i hi with h | h | h | h <;> omega
  · injection ha with ha
    subst ha
    have := h.sl
    have := h.s4
    have := h.s5
    have := h.sg
    rcases hP _ hi with h | h | h | h <;> (have h : _ := h; simp only at h; omega)
end
/-- What writes to a block of another kind leaves the state. -/
theorem WrInv.off {w0 w w' : World} {q3 q4 q5 lo k j S M cap : Nat} {os : List OpV} {Z Y : Zs} (h : WrInv w0 w q3 q4 q5 lo k j S M cap os Z Y) {x : Nat} (hf : Fr w w' (· = x)) (hx : lo ≤ x)
    (h1 : ∀ a, Z.A = some a → a.block ≠ x) (h2 : ∀ a, Z.B = some a → a.block ≠ x) (h3 : ∀ a, Y.A = some a → a.block ≠ x) (h4 : ∀ a, Y.B = some a → a.block ≠ x) : WrInv w0 w' q3 q4 q5 lo k j S M cap os Z Y := by
  have e1 := h.two.a.gq
  have e2 := h.two.a.q34
  have e3 := h.two.a.q45
  have e4 := h.two.a.q5l
  have e5 := h.two.b.gq
  have e6 := h.g0
  have e7 := h.sl
  refine ⟨⟨h.two.a.fr hf (by omega) (by omega) (by omega) (by omega) h1 h2, h.two.b.fr hf (by omega) (by omega) (by omega) (by omega) h3 h4, h.two.kj, h.two.g, h.two.AA, h.two.AB, h.two.BA, h.two.BB⟩,
    h.zp, h.yp, h.zq, h.yq, Fr.ext h.ext hf (fun i hi => by omega), hf.own h.ops (fun a ha hi => ?_), h.sl, h.s3, h.s4, h.s5, h.sg, h.sh, h.g0, h.h0, h.zb, h.yb⟩
  injection ha with ha
  subst ha
  have hi : S = x := hi
  omega
def extra : List OpV := [opK 4 0 0, opK 4 1 0, opK 1 0 5, opK 4 0 0]
/-- The state, whichever of the two is named first. -/
def WrAny (w0 w : World) (q3 q4 q5 lo S M cap : Nat) (os : List OpV) (b : Nat) : Prop := ∃ Z Y, WrInv w0 w q3 q4 q5 lo 0 1 S M cap os Z Y ∧ Z.n ≤ b ∧ Y.n ≤ b
theorem WrAny.at_ {w0 w : World} {q3 q4 q5 lo S M cap b : Nat} {os : List OpV} (h : WrAny w0 w q3 q4 q5 lo S M cap os b) {k : Nat} (hk : k < 2) : ∃ j Z Y, WrInv w0 w q3 q4 q5 lo k j S M cap os Z Y ∧ Z.n ≤ b ∧ Y.n ≤ b ∧ (k = 0 ∧ j = 1 ∨ k = 1 ∧ j = 0) := by
  obtain ⟨Z, Y, h, h1, h2⟩ := h
  obtain rfl | rfl : k = 0 ∨ k = 1 := by omega
  · exact ⟨1, Z, Y, h, h1, h2, .inl ⟨rfl, rfl⟩⟩
  · exact ⟨0, Y, Z, h.symm, h2, h1, .inr ⟨rfl, rfl⟩⟩
theorem WrAny.of {w0 w : World} {q3 q4 q5 lo k j S M cap b : Nat} {os : List OpV} {Z Y : Zs} (h : WrInv w0 w q3 q4 q5 lo k j S M cap os Z Y) (h1 : Z.n ≤ b) (h2 : Y.n ≤ b) (hk : k = 0 ∧ j = 1 ∨ k = 1 ∧ j = 0) : WrAny w0 w q3 q4 q5 lo S M cap os b := by
  rcases hk with ⟨rfl, rfl⟩ | ⟨rfl, rfl⟩
  · exact ⟨Z, Y, h, h1, h2⟩
  · exact ⟨Y, Z, h.symm, h2, h1⟩
section
variable {w0 W v1 w2 w3 : World} {q3 q4 q5 lo k j S M cap : Nat} {os : List OpV} {Z Y : Zs}
/-- A call and what it puts. -/
theorem WrInv.round (h : WrInv w0 W q3 q4 q5 lo k j S M cap os Z Y) {A1 : Option Addr} {n2 c2 m cap3 g3 : Nat} {bs2 : List Nat} (hw : WrS v1 Z.g A1 n2 c2 bs2 Z.sp) (hf : Fr W v1 (fun b => b = Z.g ∨ Z.A.map (·.block) = some b))
    (hA : ∀ a, A1 = some a → Z.A.map (·.block) = some a.block ∨ W.heap.size ≤ a.block) (x2 : Ext v1 w2) (ho : Own w3 lo 5 1 (some ⟨g3, 0, none⟩) m cap3 (u8s bs2))
    (hg : w2.grownBy w3 (Value.slice Z.B Z.m Z.d).ownBlock) (hat : (Value.slice Z.B Z.m Z.d).ownBlock = some g3 ∨ g3 = w2.heap.size) (hb2 : ∀ x ∈ bs2, x < 256) :
    WrInv w0 (w3.setCell ⟨q4, k, none⟩ (.slice (some ⟨g3, 0, none⟩) m cap3)) q3 q4 q5 lo k j S M cap os ⟨Z.g, A1, n2, c2, bs2, Z.sp, some ⟨g3, 0, none⟩, m, cap3, bs2, Z.q⟩ Y ∧
    Fr W (w3.setCell ⟨q4, k, none⟩ (.slice (some ⟨g3, 0, none⟩) m cap3)) (fun b => b = Z.g ∨ Z.A.map (·.block) = some b ∨ Z.B.map (·.block) = some b ∨ b = q4) := by
  have T1 := h.two.call hw hf hA
  rw [ownBlock_slice] at hg hat
  have f2 : Fr v1 w3 (fun b => Z.B.map (·.block) = some b) := (Fr.of_ext x2 (fun b => Z.B.map (·.block) = some b)).trans (Fr.grows hg) (fun _ _ h => h)
  have T2 := T1.app ho f2 (fun a ha => by
    injection ha with ha
    subst ha
    rcases hat with h | h
    · exact .inl h
    · right
      have := x2.size
      show _ ≤ g3
      omega)
  have f3 : Fr W (w3.setCell ⟨q4, k, none⟩ (.slice (some ⟨g3, 0, none⟩) m cap3)) (fun b => b = Z.g ∨ Z.A.map (·.block) = some b ∨ Z.B.map (·.block) = some b ∨ b = q4) :=
    ((hf.mono (fun i _ h => by rcases h with h | h; exact .inl h; exact .inr (.inl h))).trans f2 (fun i _ h => .inr (.inr (.inl h)))).trans (Fr.store w3 _ _) (fun i _ h => .inr (.inr (.inr h)))
  refine ⟨h.put T2 rfl rfl h.zq f3 (fun i hi => ?_) hb2, f3⟩
  rcases hi with hi | hi | hi | hi
  · exact .inl hi
  · obtain ⟨a, ha, rfl⟩ := Option.map_eq_some_iff.1 hi
    exact .inr (.inr (.inr (h.two.a.alo a ha)))
  · obtain ⟨a, ha, rfl⟩ := Option.map_eq_some_iff.1 hi
    exact .inr (.inr (.inr (h.two.a.blo a ha)))
  · exact .inr (.inl hi)
end
theorem WrInv.callx {w0 W v1 : World} {q3 q4 q5 lo k j S M cap : Nat} {os : List OpV} {Z Y : Zs} (h : WrInv w0 W q3 q4 q5 lo k j S M cap os Z Y) (hf : Fr W v1 (fun b => b = Z.g ∨ Z.A.map (·.block) = some b)) : Ext w0 v1 :=
  Fr.ext h.ext hf (fun i hi => by
    have h1 := h.two.a.gq
    have h2 := h.two.a.q34
    have h3 := h.two.a.q45
    have h4 := h.two.a.q5l
    have h5 := h.g0
    rcases hi with rfl | hi
    · exact h5
    · obtain ⟨a, ha, rfl⟩ := Option.map_eq_some_iff.1 hi
      have := h.two.a.alo a ha
      omega)
/-- Two new writers, three new blocks. -/
theorem w2_start {u w' : World} {ga gb lo : Nat} (h1 : WrS u ga none 0 0 [] false) (h2 : WrS u gb none 0 0 [] false) (hne : ga < gb)
    (hx : Ext (((u.alloc (.cells #[.pointer (some ⟨ga, 0, none⟩), .pointer (some ⟨gb, 0, none⟩)] 34)).alloc (.cells #[.slice none 0 0, .slice none 0 0] 35)).alloc (.cells #[.bool false, .bool false] 36)) w')
    (hl : u.heap.size + 2 < lo) (hw : lo ≤ w'.heap.size) :
    W2 w' u.heap.size (u.heap.size + 1) (u.heap.size + 1 + 1) lo 0 1 ⟨ga, none, 0, 0, [], false, none, 0, 0, [], false⟩ ⟨gb, none, 0, 0, [], false, none, 0, 0, [], false⟩ := by
  have l1 := h1.lt
  have l2 := h2.lt
  have b3 : w'.heap[u.heap.size]? = some (.cells #[.pointer (some ⟨ga, 0, none⟩), .pointer (some ⟨gb, 0, none⟩)] 34 (0, 0)) := by
    exact (hx.block _ (by simp; omega)).trans ((Below.heap_alloc _ _ _ (by simp; omega)).trans ((Below.heap_alloc _ _ _ (by simp)).trans (heap_alloc_new u _)))
  have b4 : w'.heap[u.heap.size + 1]? = some (.cells #[.slice none 0 0, .slice none 0 0] 35 (0, 0)) := by
    refine (hx.block _ (by simp)).trans ((Below.heap_alloc _ _ _ (by simp)).trans ?_)
    have := heap_alloc_new (u.alloc (.cells #[.pointer (some ⟨ga, 0, none⟩), .pointer (some ⟨gb, 0, none⟩)] 34)) (.cells #[.slice none 0 0, .slice none 0 0] 35)
    rwa [World.size_alloc] at this
  have b5 : w'.heap[u.heap.size + 1 + 1]? = some (.cells #[.bool false, .bool false] 36 (0, 0)) := by
    refine (hx.block _ (by simp)).trans ?_
    have := heap_alloc_new ((u.alloc (.cells #[.pointer (some ⟨ga, 0, none⟩), .pointer (some ⟨gb, 0, none⟩)] 34)).alloc (.cells #[.slice none 0 0, .slice none 0 0] 35)) (.cells #[.bool false, .bool false] 36)
    rwa [World.size_alloc, World.size_alloc] at this
  have xu : Ext u w' := (((Ext.refl u).alloc _).alloc _).alloc _ |>.trans hx
  have fz : ∀ q k cs t, w'.heap[q]? = some (.cells cs t (0, 0)) → w'.frozen? ⟨q, k, none⟩ = false := fun q k cs t h => by simp only [World.frozen?, h]; simp
  have nn : ∀ (a : Addr), (none : Option Addr) = some a → False := fun a h => by cases h
  exact ⟨⟨h1.ext xu, l1, Nat.lt_succ_self _, Nat.lt_succ_self _, by omega, hw, fun a h => (nn a h).elim, by rw [cell_of_row _ _ _ _ _ _ b3]; rfl, by rw [cell_of_row _ _ _ _ _ _ b4]; rfl, by rw [cell_of_row _ _ _ _ _ _ b5]; rfl,
      fz _ _ _ _ b4, fz _ _ _ _ b5, Own.nil_, fun a b h => (nn a h).elim⟩,
    ⟨h2.ext xu, l2, Nat.lt_succ_self _, Nat.lt_succ_self _, by omega, hw, fun a h => (nn a h).elim, by rw [cell_of_row _ _ _ _ _ _ b3]; rfl, by rw [cell_of_row _ _ _ _ _ _ b4]; rfl, by rw [cell_of_row _ _ _ _ _ _ b5]; rfl,
      fz _ _ _ _ b4, fz _ _ _ _ b5, Own.nil_, fun a b h => (nn a h).elim⟩, by omega, by show ga ≠ gb; omega, fun a b h => (nn a h).elim, fun a b h => (nn a h).elim, fun a b h => (nn a h).elim, fun a b h => (nn a h).elim⟩
theorem step_keep {a i : Nat} (h : a ≤ i * 1048594) : a ≤ (i + 1) * 1048594 := Nat.le_trans h (Nat.mul_le_mul_right _ (Nat.le_succ i))
theorem step_more {a b c i : Nat} (hc : c = a + b) (h : a ≤ i * 1048594) (hb : b ≤ 1048594) : c ≤ (i + 1) * 1048594 := by rw [hc, Nat.succ_mul]; exact Nat.add_le_add h hb
theorem u8_xor99 (x : Nat) (hx : x < 256) : Go.bits .xor .u8 (x : Int) 99 = ((x ^^^ 99 : Nat) : Int) := u8_xor_nat x 99 hx (by decide)
set_option maxRecDepth 8000 in
set_option maxHeartbeats 6400000 in
theorem writes_any (A : Option Addr) (n c : Nat) (w : World) (hs : Script w A n) (hn : n ≤ 209715) {p : Addr} (hS : Sen w 0 p) :
    Calls Tryd.prog 4 #[.slice A n c] w fun e w' => e = .returned (.bool true) ∧ Ext w w' := by
  obtain ⟨os, hol, hor, hok⟩ := script_opv hs
  have SE := Lib.hid (fun w' (hx : Ext w w') => hS.ext hx)
  have ES := err_same
  have EN := err_same_ne
  have HO := Lib.hid (And.intro hol (And.intro hor hok))
  obtain ⟨iu, hiu, hzu, hsu, hbu⟩ := info_parts infoU8
  clear hs hS hol hor hok
  go_enter Tryd.func4, Tryd.ntmps4
  go_wp2_with fail
  refine (alive_any _).mono ?_
  rintro e u0 ⟨rfl, e0⟩
  go_wp2_with fail
  refine (new_any _).mono ?_
  rintro e u1 ⟨rfl, hv1, e1⟩
  go_wp2_with fail
  refine (new_any _).mono ?_
  rintro e u2 ⟨rfl, hv2, e2⟩
  have z0 := e0.size
  have z1 := e1.size
  have z2 := e2.size
  have z3 := hv1.lt
  have z4 := hv2.lt
  have V1 := hv1.ext e2
  have X2 := (e0.trans e1).trans e2
  generalize u0.heap.size = ga at *
  generalize u1.heap.size = gb at *
  have HV := Lib.hid (And.intro V1 (And.intro hv2 X2))
  clear V1 hv1 hv2 X2 e0 e1 e2
  go_wp2_with (at_builtin; refine held ?_)
  have hU3 := Lib.hid (fun lo w' => w2_start (lo := lo) (w' := w') HV.out.1 HV.out.2.1 z3)
  have XU := ((HV.out.2.2.alloc (.cells #[.pointer (some ⟨ga, 0, none⟩), .pointer (some ⟨gb, 0, none⟩)] 34)).alloc (.cells #[.slice none 0 0, .slice none 0 0] 35)).alloc (.cells #[.bool false, .bool false] 36)
  have hsz : (((u2.alloc (.cells #[.pointer (some ⟨ga, 0, none⟩), .pointer (some ⟨gb, 0, none⟩)] 34)).alloc (.cells #[.slice none 0 0, .slice none 0 0] 35)).alloc (.cells #[.bool false, .bool false] 36)).heap.size = u2.heap.size + 1 + 1 + 1 := by simp
  rw [← hsz]
  generalize hU : ((u2.alloc (.cells #[.pointer (some ⟨ga, 0, none⟩), .pointer (some ⟨gb, 0, none⟩)] 34)).alloc (.cells #[.slice none 0 0, .slice none 0 0] 35)).alloc (.cells #[.bool false, .bool false] 36) = U at *
  refine Held.go (wp_app (m := n) (news := opCells os) eltOp (base := w.heap.size) (n := 0) (c := 0) (xs := []) (World.ownsRow_lit (size := 4) _ #[] 0 XU.size (by simp [maxLen]) rfl) (HO.out.2.1.ext (XU.alloc _)) (opCells_one _) (by omega) (.inr ⟨by omega, by omega⟩) (by have := XU.size; simp; omega) _ _ rfl rfl rfl rfl ?_)
  intro A2 c2 w2 o2 g2 hA2 _
  rw [List.nil_append, Nat.zero_add] at o2
  rw [Nat.zero_add]
  have x2 : Ext U w2 := g2.ext ((Ext.refl U).alloc _) (fun g hg => by injection hg with hg; rw [← hg]; exact Nat.le_refl _)
  have o2 : Own w2 w.heap.size 38 4 A2 n c2 (opCells os) := o2
  have y2 : ∀ a, A2 = some a → U.heap.size ≤ a.block := fun a ha => by
    rcases hA2 with h | h <;> rw [h] at ha <;> injection ha with ha <;> subst ha
    · exact Nat.le_refl _
    · simp
  clear g2 hA2
  go_wp2_with (at_builtin; refine held ?_)
  have zx := (XU.trans x2).size
  refine Held.go (wp_app (m := 4) (news := opCells extra) eltOp (o2.alloc _) (Rd.newN (by rfl) (by rfl)) (opCells_one _) (by omega) (.inr ⟨by omega, by omega⟩) (by simp; omega) _ _ rfl rfl rfl rfl ?_)
  intro A3 cap w3 o3 g3 hA3 _
  rw [← opCells_append] at o3
  obtain ⟨S, rfl⟩ := o3.head (by omega)
  have x3 : Ext U w3 := g3.ext (x2.alloc _) (fun g hg => by
    obtain ⟨a, ha, rfl⟩ := Option.map_eq_some_iff.1 hg
    exact y2 a ha)
  have hS3 : U.heap.size ≤ S := by
    rcases hA3 with h | h
    · exact y2 _ h.symm
    · injection h with h
      injection h with h
      rw [h]
      have := x2.size
      simp
      omega
  have hSl : S < w3.heap.size := o3.lt
  have hmem : ∀ o ∈ os ++ extra, o.ok w := fun o ho => by
    rcases List.mem_append.1 ho with h | h
    · exact HO.out.2.2 o h
    · simp only [extra, List.mem_cons, List.not_mem_nil, or_false] at h
      rcases h with rfl | rfl | rfl | rfl <;> exact opK_ok w _ _ _ (by omega)
  have hlen : (os ++ extra).length = n + 4 := by rw [List.length_append, HO.out.1]; rfl
  have T0 := hU3.out w3.heap.size w3 x3 (by omega) (Nat.le_refl _)
  have I0 : WrInv w w3 u2.heap.size (u2.heap.size + 1) (u2.heap.size + 1 + 1) w3.heap.size 0 1 S (n + 4) cap (os ++ extra) _ _ :=
    ⟨T0, rfl, rfl, rfl, rfl, XU.trans x3, o3, hSl, by omega, by omega, by omega, by show S ≠ ga; omega, by show S ≠ gb; omega, z0, by show _ ≤ gb; omega, (fun x h => by cases h), (fun x h => by cases h)⟩
  have A0 : WrAny w w3 u2.heap.size (u2.heap.size + 1) (u2.heap.size + 1 + 1) w3.heap.size S (n + 4) cap (os ++ extra) (0 * 1048594) := ⟨_, _, I0, by show 0 ≤ _; omega, by show 0 ≤ _; omega⟩
  generalize os ++ extra = osx at *
  have HL := Lib.hid (And.intro hmem hlen)
  clear hmem hlen T0 I0 x3 hS3 hSl g3 hA3 o3 y2 x2 o2 zx hU XU hsz hU3 HO HV z0 z1 z2 z3 z4
  obtain ⟨M, hM⟩ : ∃ M, n + 4 = M := ⟨_, rfl⟩
  have hM' : (n : Int) + 4 = (M : Int) := by omega
  rw [hM] at A0 HL
  have hM2 : M ≤ 209719 := by omega
  clear hM
  generalize u2.heap.size + 1 + 1 = q5 at *
  generalize u2.heap.size + 1 = q4 at *
  generalize u2.heap.size = q3 at *
  generalize w3.heap.size = lo at *
  have HA := Lib.hid A0
  clear A0
  go_wp2_with fail
  go_loopw [38] (fun vi wr => ∃ (i : Nat), vi = .int .i64 (i : Int) ∧ i ≤ M ∧ Hid (WrAny w wr q3 q4 q5 lo S M cap osx (i * 1048594))) (fun vi _ => M - (intOf vi).toNat)
  case atStart => exact ⟨0, rfl, by omega, HA.out⟩
  case round =>
    obtain ⟨i, rfl, hi, HI⟩ := hrel
    obtain ⟨V, hV⟩ : ∃ V, V = wr := ⟨_, rfl⟩
    subst hV
    clear HA
    by_cases h1 : i < M
    · obtain ⟨o, ho⟩ : ∃ o, osx[i]? = some o := ⟨osx[i]'(by rw [HL.out.2]; exact h1), List.getElem?_eq_getElem _⟩
      have hok := HL.out.1 o (List.mem_of_getElem? ho)
      obtain ⟨k, hk2, hkQ⟩ : ∃ k : Nat, k < 2 ∧ o.Q % 2 = (k : Int) := ⟨(o.Q % 2).toNat, by omega, by omega⟩
      obtain ⟨j, Z, Y, I, hZn, hYn, hkj⟩ := HI.out.at_ hk2
      have hand : Go.bits .and .i64 o.Q 1 = (k : Int) := (mask_core o.Q 1 2 (by decide) (by decide)).trans hkQ
      obtain ⟨i0, hi0⟩ : ∃ i0 : Nat, i * 4 = i0 := ⟨_, rfl⟩
      obtain ⟨k0, k1, k2, k3⟩ := ops_at I.ops ho hi0
      have y0 : (0 : Int) ≤ k := by omega
      have y1 : (k : Int) < 2 := by omega
      have z0 : (0 : Int) ≤ i := by omega
      have z1 : (i : Int) < M := by omega
      have c3 := I.two.a.c3
      have hbox := heap_alloc_new V (.cells #[.int .i64 o.K, .int .i64 o.Q, .int .i64 o.N, .slice o.A o.n o.c] 38)
      have IA := I.ex ((Ext.refl V).alloc (.cells #[.int .i64 o.K, .int .i64 o.Q, .int .i64 o.N, .slice o.A o.n o.c] 38))
      have c3x := IA.two.a.c3
      have hobA := I.two.a.Alt
      have hobB := I.two.a.Blt
      have hobg := I.two.a.ws.lt
      have hob4 := cell_lt I.two.a.c4
      have hob5 := cell_lt I.two.a.c5
      have HB := Lib.hid (And.intro hZn (And.intro hYn (And.intro hkj (And.intro hok (And.intro hobA (And.intro hobB (And.intro hobg (And.intro hob4 hob5))))))))
      clear hZn hYn hkj hok hobA hobB hobg hob4 hob5 I hk2 hkQ ho HI
      go_upto_region 14 with (fail)
      have BX : Bx (V.alloc (.cells #[.int .i64 o.K, .int .i64 o.Q, .int .i64 o.N, .slice o.A o.n o.c] 38)) V.heap.size o := hbox
      have hXA : Ext V (V.alloc (.cells #[.int .i64 o.K, .int .i64 o.Q, .int .i64 o.N, .slice o.A o.n o.c] 38)) := (Ext.refl V).alloc _
      have hob : V.heap.size < (V.alloc (.cells #[.int .i64 o.K, .int .i64 o.Q, .int .i64 o.N, .slice o.A o.n o.c] 38)).heap.size := by simp
      generalize V.alloc (.cells #[.int .i64 o.K, .int .i64 o.Q, .int .i64 o.N, .slice o.A o.n o.c] 38) = W at *
      generalize V.heap.size = ob at *
      clear hbox k0 k1 k2 k3 c3 hi0 c3x hand hXA
      obtain ⟨g, A1, n1, cA, bs, sp, B, m1, d1x, ps, q⟩ := Z
      obtain rfl : ps = bs := IA.zp
      obtain rfl : q = sp := IA.zq
      have hm1 : m1 = n1 := by
        have h1 := IA.two.a.put.len
        have h2 := IA.two.a.ws.len
        rw [u8s_len] at h1
        have h1 : ps.length = m1 * 1 := h1
        have h2 : ps.length = n1 := h2
        omega
      subst hm1
      have hn1 : m1 ≤ i * 1048594 := HB.out.1
      have c4 : W.cell? ⟨q4, k, none⟩ = some (.slice B m1 d1x) := IA.two.a.c4
      have c5 : W.cell? ⟨q5, k, none⟩ = some (.bool q) := IA.two.a.c5
      have f5 : W.frozen? ⟨q5, k, none⟩ = false := IA.two.a.f5
      have hnob : ¬ (ob = g ∨ A1.map (·.block) = some ob) := fun h => by
        rcases h with h | h
        · have : g < ob := HB.out.2.2.2.2.2.2.1
          omega
        · obtain ⟨a, ha, hab⟩ := Option.map_eq_some_iff.1 h
          have : a.block < ob := HB.out.2.2.2.2.1 a ha
          omega
      have hnob2 : ¬ (ob = g ∨ A1.map (·.block) = some ob ∨ B.map (·.block) = some ob ∨ ob = q4) := fun h => by
        rcases h with h | h | h | h
        · exact hnob (.inl h)
        · exact hnob (.inr h)
        · obtain ⟨a, ha, hab⟩ := Option.map_eq_some_iff.1 h
          have : a.block < ob := HB.out.2.2.2.2.2.1 a ha
          omega
        · have : q4 < ob := HB.out.2.2.2.2.2.2.2.1
          omega
      have IH := Lib.hid (And.intro IA BX)
      have HN := Lib.hid (And.intro hnob hnob2)
      have hws : WrS W g A1 m1 cA ps q := IA.two.a.ws
      clear IA BX hnob hnob2
      have hmb : m1 ≤ 549755813888 := by omega
      have EW : Ext w W := IH.out.1.ext
      have hokr := HB.out.2.2.2.1
      have hol := hokr.len
      have hoc : o.n ≤ 1048576 := Nat.le_trans hokr.le hokr.small
      have hob8 := hokr.byte
      have OR := Lib.hid (fun w' (hx : Ext w w') => hokr.rd.ext hx)
      have b2 := IH.out.2.c2
      have b3 := IH.out.2.c3
      clear hokr
      by_cases hK1 : o.K = 1
      · by_cases hN : o.N < 0
        · have CN := Lib.hid (wnum_no o.N W hws hN)
          go_wp2_with fail
          refine CN.out.mono ?_
          rintro e v1 ⟨rfl, rfl⟩
          have F1 : Fr W (W.setCell ⟨g, 1, none⟩ (.bool true)) (· = g) := Fr.store W ⟨g, 1, none⟩ (.bool true)
          have T1 : W2 (W.setCell ⟨g, 1, none⟩ (.bool true)) q3 q4 q5 lo k j ⟨g, A1, m1, cA, ps, true, B, m1, d1x, ps, q⟩ Y :=
            IH.out.1.two.call (A' := A1) ⟨heap_setCell_same W g 1 _ _ _ hws.blk, hws.own.same fun b hb _ => heap_setCell_other W ⟨g, 1, none⟩ b _ (by simp; omega)⟩ (F1.mono (fun i _ h => .inl h)) (fun a ha => .inl (by show A1.map _ = _; rw [ha]; rfl))
          have B1 := IH.out.2.fr F1 (fun h => HN.out.1 (.inl h))
          generalize W.setCell ⟨g, 1, none⟩ (.bool true) = v1 at *
          have b2 := B1.c2
          have c5 : v1.cell? ⟨q5, k, none⟩ = some (.bool q) := T1.a.c5
          have f5 : v1.frozen? ⟨q5, k, none⟩ = false := T1.a.f5
          have F2 : Fr W (v1.setCell ⟨q5, k, none⟩ (.bool true)) (fun b => b = g ∨ b = q5) := (F1.mono (fun i _ h => .inl h)).trans (Fr.store v1 ⟨q5, k, none⟩ (.bool true)) (fun i _ h => .inr h)
          have I2 := Lib.hid (IH.out.1.put (T1.mark true) rfl rfl rfl F2 (fun i h => by rcases h with h | h; exact .inl h; exact .inr (.inr (.inl h))) IH.out.1.zb)
          clear T1 B1 F1 F2 CN hws
          go_wp2_with fail
          go_roundw
          case rel => exact ⟨i + 1, by go_num, by omega, WrAny.of I2.out (step_keep hn1) (step_keep HB.out.2.1) HB.out.2.2.1⟩
          case measure => simp [intOf]; omega
        · obtain ⟨x, hx⟩ := Int.eq_ofNat_of_zero_le (show 0 ≤ o.N by omega)
          have hxb : x ≤ 9223372036854775807 := by have := HB.out.2.2.2.1.iN; omega
          have CN := Lib.hid (wnum_any x W hws hxb (by omega))
          have RN := Lib.hid (fun w' (_ : Ext w w') => refnum_any x w' hxb)
          have hnl := numlen9 hxb
          have hnp := Wr.num_pos x
          rw [hx] at b2 hN
          clear hws
          go_wp2_with fail
          refine CN.out.mono ?_
          rintro e v1 ⟨rfl, A2, n2, c2, hw2, hf2, hA2⟩
          clear CN
          have HC := Lib.hid (And.intro hw2 (And.intro hf2 hA2))
          have T1 := IH.out.1.two.call hw2 hf2 hA2
          have B1 := IH.out.2.fr hf2 HN.out.1
          have XV : Ext w v1 := IH.out.1.callx hf2
          have hn2 : n2 = m1 + (Wr.num x).length := by
            have h1 := hw2.len
            have h2 : ps.length = m1 := (show WrS _ g A1 m1 cA ps q from IH.out.1.two.a.ws).len
            rw [List.length_append, h2] at h1
            try rw [List.length_append, hol] at h1
            exact h1.symm
          have c4 : v1.cell? ⟨q4, k, none⟩ = some (.slice B m1 d1x) := T1.a.c4
          have b2 := B1.c2
          rw [hx] at b2
          have HT := Lib.hid (And.intro T1 B1)
          have RM := Lib.hid (fun w' (hx : Ext v1 w') => RN.out w' (XV.trans hx))
          clear RN
          clear hw2 hf2 hA2 T1 B1
          go_wp2_with fail
          generalize v1 = Bw at *
          have BC := Lib.hid (fun w' (hx : Ext Bw w') => And.intro ((hx.cell (p := ⟨q4, k, none⟩) (cell_lt HT.out.1.a.c4)).trans HT.out.1.a.c4) ((hx.cell (p := ⟨ob, 2, none⟩) HT.out.2.lt).trans b2))
          obtain ⟨d0, d1⟩ := BC.out _ (Ext.refl Bw)
          have f4 := fun w' (hx : Ext Bw w') => (World.frozen?_of_block (a := ⟨q4, k, none⟩) (hx.block q4 (cell_lt HT.out.1.a.c4))).trans HT.out.1.a.f4
          have F4 := Lib.hid f4
          clear f4
          have hnb4 : some (⟨q4, k, none⟩ : Addr).block ≠ (Value.slice B m1 d1x).ownBlock := fun h => by
            rw [ownBlock_slice] at h
            obtain ⟨a, ha, hab⟩ := Option.map_eq_some_iff.1 h.symm
            have h1 := HT.out.1.a.blo a ha
            have h2 := HT.out.1.a.q5l
            have h3 := HT.out.1.a.q45
            have h4 : a.block = q4 := hab
            omega
          have hnbo : some (⟨ob, 2, none⟩ : Addr).block ≠ (Value.slice B m1 d1x).ownBlock := fun h => by
            rw [ownBlock_slice] at h
            obtain ⟨a, ha, hab⟩ := Option.map_eq_some_iff.1 h.symm
            have h1 : a.block < ob := HB.out.2.2.2.2.2.1 a ha
            have h4 : a.block = ob := hab
            omega
          have NB := Lib.hid (And.intro hnb4 hnbo)
          clear hnb4 hnbo
          have s0 : Bw.drew.cell? ⟨q4, k, none⟩ = some (.slice B m1 d1x) := d0
          have s1 : Bw.drew.cell? ⟨ob, 2, none⟩ = some (.int .i64 (x : Int)) := d1
          have xb : Ext Bw Bw.drew := (Ext.refl Bw).drew
          have hlw := HT.out.1.a.lw
          go_region_law
            (first
              | (have hq := HT.out.1.a.put.ext x2
                 have hc2 := World.ownsRow.cells orr (g := gr) rfl
                 have hb1 := x2.size
                 refine step_append_lies _ (by rfl) _ _ _ (by rfl) _ 5 iu _ 1 1 Tryd.underlying26 hiu hzu hsu hbu rfl (by omega) _ m1 _ (by rfl) hq _ _ _ (u8s (Wr.num x)) (by rfl) (by rw [u8s_len]; simp) hc2 (u8s_one _) (by omega) (by simp [maxLen]; omega) (by omega) (by omega) _ rfl ?_
                 intro g3 cap3 w3 hown3 hgrow hat hlt3
                 have n0 := (hgrow.cell_far ⟨q4, k, none⟩ (cell_lt d0) NB.out.1).trans d0
                 have f4 : w3.frozen? ⟨q4, k, none⟩ = false := (hgrow.frozen_far ⟨q4, k, none⟩ (cell_lt d0) NB.out.1).trans (F4.out _ x2)
                 have n1 := (hgrow.cell_far ⟨ob, 2, none⟩ (cell_lt d1) NB.out.2).trans d1)
              | (go_simp; go_at_call 15; (with_reducible refine (RM.out _ (by with_reducible assumption)).mono ?_); rintro e w2 ⟨Ar, cr, rfl, orr, xr⟩; have x2 : Ext Bw w2 := Ext.trans (by with_reducible assumption) xr; obtain ⟨gr, rfl⟩ := orr.head (by omega); obtain ⟨d0, d1⟩ := BC.out _ x2))
          all_goals
              have hown3 : Own w3 lo 5 1 (some ⟨g3, 0, none⟩) (m1 + (Wr.num x).length) cap3 (u8s (ps ++ (Wr.num x))) := by rw [u8s_append]; exact hown3
              obtain ⟨I2, F2⟩ := IH.out.1.round HC.out.1 HC.out.2.1 HC.out.2.2 x2 hown3 hgrow hat (fun z hz => by
                rcases List.mem_append.1 hz with h | h
                · exact IH.out.1.zb z h
                · first | exact Wr.num_byte _ z h | (rcases List.mem_append.1 h with h | h; exact Wr.num_byte _ z h; exact hob8 z h))
              have HI2 := Lib.hid (And.intro I2 F2)
              clear I2 F2 hown3 hat hlt3
              go_wp2_with fail
              go_roundw
              case rel => exact ⟨i + 1, by go_num, by omega, WrAny.of HI2.out.1 (step_more hn2 hn1 (by omega)) (step_keep HB.out.2.1) HB.out.2.2.1⟩
              case measure => simp [intOf]; omega
      · have hK1b : (o.K == 1) = false := by simp [hK1]
        by_cases hK2 : o.K = 2
        · have sb := run_str (P := Tryd.prog) (w := W) (s := 9) Tryd.underlying26 Tryd.underlying5 Tryd.underlying9 o.c (OR.out W EW)
          have CN := gtext_any o.l W hws hob8 (by omega) hmb
          rw [hol] at CN
          have CN := Lib.hid CN
          have RN := Lib.hid (fun w' (hx : Ext w w') => refbytes_any o.A o.n o.c o.l w' (OR.out w' hx) (by omega))
          have hnl := numlen9 (x := o.n) (by omega)
          have hnp := Wr.num_pos o.n
          clear hws
          go_wp2_with fail
          refine CN.out.mono ?_
          rintro e v1 ⟨rfl, A2, n2, c2, hw2, hf2, hA2⟩
          clear CN sb
          have HC := Lib.hid (And.intro hw2 (And.intro hf2 hA2))
          have T1 := IH.out.1.two.call hw2 hf2 hA2
          have B1 := IH.out.2.fr hf2 HN.out.1
          have XV : Ext w v1 := IH.out.1.callx hf2
          have hn2 : n2 = m1 + ((Wr.num o.n).length + o.n) := by
            have h1 := hw2.len
            have h2 : ps.length = m1 := (show WrS _ g A1 m1 cA ps q from IH.out.1.two.a.ws).len
            rw [List.length_append, h2] at h1
            try rw [List.length_append, hol] at h1
            exact h1.symm
          have c4 : v1.cell? ⟨q4, k, none⟩ = some (.slice B m1 d1x) := T1.a.c4
          have b3 := B1.c3
          skip
          have HT := Lib.hid (And.intro T1 B1)
          have RM := Lib.hid (fun w' (hx : Ext v1 w') => RN.out w' (XV.trans hx))
          clear RN
          clear hw2 hf2 hA2 T1 B1
          go_wp2_with fail
          generalize v1 = Bw at *
          have BC := Lib.hid (fun w' (hx : Ext Bw w') => And.intro ((hx.cell (p := ⟨q4, k, none⟩) (cell_lt HT.out.1.a.c4)).trans HT.out.1.a.c4) ((hx.cell (p := ⟨ob, 3, none⟩) HT.out.2.lt).trans b3))
          obtain ⟨d0, d1⟩ := BC.out _ (Ext.refl Bw)
          have f4 := fun w' (hx : Ext Bw w') => (World.frozen?_of_block (a := ⟨q4, k, none⟩) (hx.block q4 (cell_lt HT.out.1.a.c4))).trans HT.out.1.a.f4
          have F4 := Lib.hid f4
          clear f4
          have hnb4 : some (⟨q4, k, none⟩ : Addr).block ≠ (Value.slice B m1 d1x).ownBlock := fun h => by
            rw [ownBlock_slice] at h
            obtain ⟨a, ha, hab⟩ := Option.map_eq_some_iff.1 h.symm
            have h1 := HT.out.1.a.blo a ha
            have h2 := HT.out.1.a.q5l
            have h3 := HT.out.1.a.q45
            have h4 : a.block = q4 := hab
            omega
          have hnbo : some (⟨ob, 3, none⟩ : Addr).block ≠ (Value.slice B m1 d1x).ownBlock := fun h => by
            rw [ownBlock_slice] at h
            obtain ⟨a, ha, hab⟩ := Option.map_eq_some_iff.1 h.symm
            have h1 : a.block < ob := HB.out.2.2.2.2.2.1 a ha
            have h4 : a.block = ob := hab
            omega
          have NB := Lib.hid (And.intro hnb4 hnbo)
          clear hnb4 hnbo
          have s0 : Bw.drew.cell? ⟨q4, k, none⟩ = some (.slice B m1 d1x) := d0
          have s1 : Bw.drew.cell? ⟨ob, 3, none⟩ = some (.slice o.A o.n o.c) := d1
          have xb : Ext Bw Bw.drew := (Ext.refl Bw).drew
          have hlw := HT.out.1.a.lw
          go_region_law
            (first
              | (have hq := HT.out.1.a.put.ext x2
                 have hc2 := World.ownsRow.cells orr (g := gr) rfl
                 have hb1 := x2.size
                 refine step_append_lies _ (by rfl) _ _ _ (by rfl) _ 5 iu _ 1 1 Tryd.underlying26 hiu hzu hsu hbu rfl (by omega) _ m1 _ (by rfl) hq _ _ _ (u8s (Wr.num o.n ++ o.l)) (by rfl) (by rw [u8s_len]; simp [hol]) hc2 (u8s_one _) (by omega) (by simp [maxLen]; omega) (by omega) (by omega) _ rfl ?_
                 intro g3 cap3 w3 hown3 hgrow hat hlt3
                 have n0 := (hgrow.cell_far ⟨q4, k, none⟩ (cell_lt d0) NB.out.1).trans d0
                 have f4 : w3.frozen? ⟨q4, k, none⟩ = false := (hgrow.frozen_far ⟨q4, k, none⟩ (cell_lt d0) NB.out.1).trans (F4.out _ x2)
                 have n1 := (hgrow.cell_far ⟨ob, 3, none⟩ (cell_lt d1) NB.out.2).trans d1)
              | (go_simp; go_at_call 17; (with_reducible refine (RM.out _ (by with_reducible assumption)).mono ?_); rintro e w2 ⟨Ar, cr, rfl, orr, xr⟩; have x2 : Ext Bw w2 := Ext.trans (by with_reducible assumption) xr; obtain ⟨gr, rfl⟩ := orr.head (by omega); obtain ⟨d0, d1⟩ := BC.out _ x2))
          all_goals
              have hown3 : Own w3 lo 5 1 (some ⟨g3, 0, none⟩) (m1 + ((Wr.num o.n).length + o.n)) cap3 (u8s (ps ++ (Wr.num o.n ++ o.l))) := by rw [u8s_append]; exact hown3
              obtain ⟨I2, F2⟩ := IH.out.1.round HC.out.1 HC.out.2.1 HC.out.2.2 x2 hown3 hgrow hat (fun z hz => by
                rcases List.mem_append.1 hz with h | h
                · exact IH.out.1.zb z h
                · first | exact Wr.num_byte _ z h | (rcases List.mem_append.1 h with h | h; exact Wr.num_byte _ z h; exact hob8 z h))
              have HI2 := Lib.hid (And.intro I2 F2)
              clear I2 F2 hown3 hat hlt3
              go_wp2_with fail
              go_roundw
              case rel => exact ⟨i + 1, by go_num, by omega, WrAny.of HI2.out.1 (step_more hn2 hn1 (by omega)) (step_keep HB.out.2.1) HB.out.2.2.1⟩
              case measure => simp [intOf]; omega
        · have hK2b : (o.K == 2) = false := by simp [hK2]
          by_cases hK3 : o.K = 3
          · have CB := Lib.hid (bytesO_any o.A o.n o.c o.l W (by omega) (OR.out W EW))
            clear c5 f5
            go_wp2_with fail
            refine CB.out.mono ?_
            rintro e Wb ⟨gz, rfl, hgz, hoz, xz⟩
            have IZ := IH.out.1.ex xz
            have BZ := IH.out.2.ext xz
            have hnz : ¬ (gz = g ∨ A1.map (·.block) = some gz ∨ B.map (·.block) = some gz ∨ gz = q4) := fun h => by
              rcases h with h | h | h | h
              · have := hws.lt; omega
              · obtain ⟨a, ha, hab⟩ := Option.map_eq_some_iff.1 h
                have := IH.out.1.two.a.Alt a ha
                omega
              · obtain ⟨a, ha, hab⟩ := Option.map_eq_some_iff.1 h
                have := IH.out.1.two.a.Blt a ha
                omega
              · have := cell_lt IH.out.1.two.a.c4
                have e : (⟨q4, k, none⟩ : Addr).block = q4 := rfl
                omega
            have hws : WrS Wb g A1 m1 cA ps q := IZ.two.a.ws
            have CN := Lib.hid (gbytes_any (some ⟨gz, 0, none⟩) o.n (o.n + 6) o.l Wb hws hoz.rd.unmark (by omega) hmb (fun b hb => by
              injection hb with hb
              subst hb
              exact ⟨fun h => hnz (.inl h), fun a ha h => hnz (.inr (.inl (by rw [ha]; exact congrArg some h)))⟩))
            have RN := Lib.hid (fun w' (hx : Ext w w') => refbytes_any o.A o.n o.c o.l w' (OR.out w' hx) (by omega))
            have hnl := numlen9 (x := o.n) (by omega)
            have hnp := Wr.num_pos o.n
            have hx2w : Ext W Wb := xz
            have HY := Lib.hid (show lo ≤ gz ∧ (∀ a, Y.A = some a → a.block ≠ gz) ∧ (∀ a, Y.B = some a → a.block ≠ gz) from ⟨by rw [hgz]; exact IH.out.1.two.a.lw, fun a ha h => by have := IH.out.1.two.b.Alt a ha; omega, fun a ha h => by have := IH.out.1.two.b.Blt a ha; omega⟩)
            have HZ := Lib.hid (And.intro hoz (And.intro hnz hx2w))
            have b3 := BZ.c3
            have b2 := BZ.c2
            have c4 : Wb.cell? ⟨q4, k, none⟩ = some (.slice B m1 d1x) := IZ.two.a.c4
            have IH0 := IH
            have IH := Lib.hid (And.intro IZ BZ)
            have EW : Ext w Wb := IZ.ext
            clear hws hoz hnz hx2w xz IZ BZ hgz CB IH0
            go_wp2_with fail
            refine CN.out.mono ?_
            rintro e v1 ⟨rfl, A2, n2, c2, hw2, hf2, hA2⟩
            clear CN
            have HC := Lib.hid (And.intro hw2 (And.intro hf2 hA2))
            have T1 := IH.out.1.two.call hw2 hf2 hA2
            have B1 := IH.out.2.fr hf2 HN.out.1
            have XV : Ext w v1 := IH.out.1.callx hf2
            have hn2 : n2 = m1 + ((Wr.num o.n).length + o.n) := by
              have h1 := hw2.len
              have h2 : ps.length = m1 := (show WrS _ g A1 m1 cA ps q from IH.out.1.two.a.ws).len
              rw [List.length_append, h2] at h1
              try rw [List.length_append, hol] at h1
              exact h1.symm
            have c4 : v1.cell? ⟨q4, k, none⟩ = some (.slice B m1 d1x) := T1.a.c4
            have b3 := B1.c3
            skip
            have HT := Lib.hid (And.intro T1 B1)
            have RM := Lib.hid (fun w' (hx : Ext v1 w') => RN.out w' (XV.trans hx))
            clear RN
            clear hw2 hf2 hA2 T1 B1
            go_wp2_with fail
            generalize v1 = Bw at *
            have BC := Lib.hid (fun w' (hx : Ext Bw w') => And.intro ((hx.cell (p := ⟨q4, k, none⟩) (cell_lt HT.out.1.a.c4)).trans HT.out.1.a.c4) ((hx.cell (p := ⟨ob, 3, none⟩) HT.out.2.lt).trans b3))
            obtain ⟨d0, d1⟩ := BC.out _ (Ext.refl Bw)
            have f4 := fun w' (hx : Ext Bw w') => (World.frozen?_of_block (a := ⟨q4, k, none⟩) (hx.block q4 (cell_lt HT.out.1.a.c4))).trans HT.out.1.a.f4
            have F4 := Lib.hid f4
            clear f4
            have hnb4 : some (⟨q4, k, none⟩ : Addr).block ≠ (Value.slice B m1 d1x).ownBlock := fun h => by
              rw [ownBlock_slice] at h
              obtain ⟨a, ha, hab⟩ := Option.map_eq_some_iff.1 h.symm
              have h1 := HT.out.1.a.blo a ha
              have h2 := HT.out.1.a.q5l
              have h3 := HT.out.1.a.q45
              have h4 : a.block = q4 := hab
              omega
            have hnbo : some (⟨ob, 3, none⟩ : Addr).block ≠ (Value.slice B m1 d1x).ownBlock := fun h => by
              rw [ownBlock_slice] at h
              obtain ⟨a, ha, hab⟩ := Option.map_eq_some_iff.1 h.symm
              have h1 : a.block < ob := HB.out.2.2.2.2.2.1 a ha
              have h4 : a.block = ob := hab
              omega
            have NB := Lib.hid (And.intro hnb4 hnbo)
            clear hnb4 hnbo
            have s0 : Bw.drew.cell? ⟨q4, k, none⟩ = some (.slice B m1 d1x) := d0
            have s1 : Bw.drew.cell? ⟨ob, 3, none⟩ = some (.slice o.A o.n o.c) := d1
            have xb : Ext Bw Bw.drew := (Ext.refl Bw).drew
            have hlw := HT.out.1.a.lw
            go_region_law
              (first
                | (have hq := HT.out.1.a.put.ext x2
                   have hc2 := World.ownsRow.cells orr (g := gr) rfl
                   have hb1 := x2.size
                   refine step_append_lies _ (by rfl) _ _ _ (by rfl) _ 5 iu _ 1 1 Tryd.underlying26 hiu hzu hsu hbu rfl (by omega) _ m1 _ (by rfl) hq _ _ _ (u8s (Wr.num o.n ++ o.l)) (by rfl) (by rw [u8s_len]; simp [hol]) hc2 (u8s_one _) (by omega) (by simp [maxLen]; omega) (by omega) (by omega) _ rfl ?_
                   intro g3 cap3 w3 hown3 hgrow hat hlt3
                   have n0 := (hgrow.cell_far ⟨q4, k, none⟩ (cell_lt d0) NB.out.1).trans d0
                   have f4 : w3.frozen? ⟨q4, k, none⟩ = false := (hgrow.frozen_far ⟨q4, k, none⟩ (cell_lt d0) NB.out.1).trans (F4.out _ x2)
                   have n1 := (hgrow.cell_far ⟨ob, 3, none⟩ (cell_lt d1) NB.out.2).trans d1)
                | (go_simp; go_at_call 17; (with_reducible refine (RM.out _ (by with_reducible assumption)).mono ?_); rintro e w2 ⟨Ar, cr, rfl, orr, xr⟩; have x2 : Ext Bw w2 := Ext.trans (by with_reducible assumption) xr; obtain ⟨gr, rfl⟩ := orr.head (by omega); obtain ⟨d0, d1⟩ := BC.out _ x2))
            all_goals
                have hown3 : Own w3 lo 5 1 (some ⟨g3, 0, none⟩) (m1 + ((Wr.num o.n).length + o.n)) cap3 (u8s (ps ++ (Wr.num o.n ++ o.l))) := by rw [u8s_append]; exact hown3
                obtain ⟨I2, F2⟩ := IH.out.1.round HC.out.1 HC.out.2.1 HC.out.2.2 x2 hown3 hgrow hat (fun z hz => by
                  rcases List.mem_append.1 hz with h | h
                  · exact IH.out.1.zb z h
                  · first | exact Wr.num_byte _ z h | (rcases List.mem_append.1 h with h | h; exact Wr.num_byte _ z h; exact hob8 z h))
                have HI2 := Lib.hid (And.intro I2 F2)
                have hOFF : (∀ a, A2 = some a → a.block ≠ gz) ∧ (∀ a, (some ⟨g3, 0, none⟩ : Option Addr) = some a → a.block ≠ gz) := by
                  have hl0 := HZ.out.1.lt
                  have hl1 := HC.out.2.1.size
                  have hl2 := x2.size
                  refine ⟨fun a ha h => ?_, fun a ha h => ?_⟩
                  · rcases HC.out.2.2 a ha with h5 | h5
                    · exact HZ.out.2.1 (.inr (.inl (by rw [h5, h])))
                    · omega
                  · injection ha with ha
                    subst ha
                    have h : g3 = gz := h
                    rw [ownBlock_slice] at hat
                    rcases hat with h5 | h5
                    · exact HZ.out.2.1 (.inr (.inr (.inl (by rw [h5, h]))))
                    · omega
                have HO1 := Lib.hid (And.intro hOFF.1 (And.intro hOFF.2 HY.out))
                clear hOFF HY
                clear I2 F2 hown3 hat hlt3
                have oz := HI2.out.2.own HZ.out.1 (fun a ha h => by
                  injection ha with ha
                  subst ha
                  exact HZ.out.2.1 h)
                have bz := HI2.out.1.ext
                have b3 := (IH.out.2.fr HI2.out.2 HN.out.2).c3
                generalize w3.setCell ⟨q4, k, none⟩ (.slice (some ⟨g3, 0, none⟩) (m1 + ((Wr.num o.n).length + o.n)) cap3) = V2 at *
                have KP := Lib.hid (kept_any gz o.n o.c o.A o.l V2 (by omega) oz.rd (OR.out V2 bz))
                have HK := Lib.hid (And.intro HI2.out.1 oz)
                clear oz bz HI2
                go_wp2_with fail
                refine KP.out.mono ?_
                rintro e V3 ⟨rfl, jj, rfl⟩
                have hi3 := HK.out.1.ex ((Ext.refl V2).drewN jj)
                have ho3 := HK.out.2.drewN jj
                have h83 : ∀ x ∈ o.l ++ marks6, x < 256 := fun x hx => by
                  rcases List.mem_append.1 hx with h | h
                  · exact hob8 x h
                  · simp [marks6] at h; omega
                generalize V2.drewN jj = V3 at *
                have H3 := Lib.hid (And.intro hi3 (And.intro ho3 h83))
                clear hi3 ho3 h83 KP HK b3
                go_wp2_with fail
                go_loopw [110] (fun  vi wr => ∃ (t : Nat) (l : List Nat), vi = .int .i64 (t : Int) ∧ t ≤ o.n ∧ Hid ((∀ x ∈ l, x < 256) ∧ Own wr W.heap.size 5 1 (some ⟨gz, 0, none⟩) (o.n + 6) (o.n + 6) (u8s l) ∧ Fr V3 wr (· = gz))) (fun  vi _ => o.n - (intOf vi).toNat)
                case atStart => exact ⟨0, _, rfl, by omega, H3.out.2.2, H3.out.2.1, Fr.refl _ _⟩
                case round =>
                  obtain ⟨t, l, rfl, ht, HL⟩ := hrel
                  by_cases hlt : t < o.n
                  · obtain ⟨ad, x, e, hx, hc⟩ := HL.out.2.1.rd.byte (k := t) (by omega)
                    injection e with e
                    subst e
                    have hx8 := HL.out.1 x (mem_of_at hx.out)
                    have hc : wr.cell? ⟨gz, t, none⟩ = some (.int .u8 (x : Int)) := by
                      rwa [show (⟨gz, 0, none⟩ : Addr).add t = ⟨gz, t, none⟩ by unfold Addr.add; split <;> simp_all] at hc
                    have hfr := HL.out.2.1.frozenAt t
                    have e1 := u8_xor99 x hx8
                    have hx9 : x ^^^ 99 < 256 := Nat.xor_lt_two_pow (n := 8) hx8 (by decide)
                    have k0 : (0 : Int) ≤ t := by omega
                    have k1 : (t : Int) < o.n := by omega
                    have ho2 := HL.out.2.1.stored t (.int .u8 ((x ^^^ 99 : Nat) : Int))
                    have hset : (u8s l).set t (.int .u8 ((x ^^^ 99 : Nat) : Int)) = u8s (l.set t (x ^^^ 99)) := by simp [u8s, List.map_set]
                    rw [hset] at ho2
                    have hl2 : ∀ z ∈ l.set t (x ^^^ 99), z < 256 := fun z hz => by
                      rcases List.mem_or_eq_of_mem_set hz with h | rfl
                      · exact HL.out.1 z h
                      · exact hx9
                    have hx2 : Fr V3 (wr.setCell ⟨gz, t, none⟩ (.int .u8 ((x ^^^ 99 : Nat) : Int))) (· = gz) := HL.out.2.2.trans (Fr.store wr ⟨gz, t, none⟩ _) (fun i _ h => h)
                    have HF := Lib.hid (And.intro hl2 (And.intro ho2 hx2))
                    clear ho2 hset hl2 hx2 hx hx8 ht
                    generalize l.set t (x ^^^ 99) = l2 at *
                    generalize x ^^^ 99 = y at *
                    go_wp2_with fail
                    go_roundw
                    case rel => exact ⟨t + 1, l2, by go_num, by omega, HF.out.1, HF.out.2.1, HF.out.2.2⟩
                    case measure => simp [intOf]; omega
                  · obtain rfl : t = o.n := by omega
                    have I4 := Lib.hid (H3.out.1.off HL.out.2.2 HO1.out.2.2.1 HO1.out.1 HO1.out.2.1 HO1.out.2.2.2.1 HO1.out.2.2.2.2)
                    clear HL
                    go_wp2_with fail
                    go_roundw
                    case rel => exact ⟨i + 1, by go_num, by omega, WrAny.of I4.out (step_more hn2 hn1 (by omega)) (step_keep HB.out.2.1) HB.out.2.2.1⟩
                    case measure => simp [intOf]; omega
          · have hK3b : (o.K == 3) = false := by simp [hK3]
            by_cases hK4 : o.K = 4
            · cases q with
              | true =>
                have DN := Lib.hid (done_no W hws (SE.out _ EW))
                have c9 := (SE.out _ EW).2.1
                go_wp2_with fail
                refine DN.out.mono ?_
                rintro e v1 ⟨rfl, jj, rfl⟩
                go_wp2_with fail
                go_roundw
                case rel => exact ⟨i + 1, by go_num, by omega, WrAny.of (IH.out.1.ex ((Ext.refl W).drewN jj)) (step_keep hn1) (step_keep HB.out.2.1) HB.out.2.2.1⟩
                case measure => simp [intOf]; omega
              | false =>
                have DN := Lib.hid (done_any W hws (by omega))
                clear hws
                go_wp2_with fail
                refine DN.out.mono ?_
                rintro e v1 ⟨A2, c2, rfl, ho1, x1⟩
                have IV := IH.out.1.ex x1
                have c4 : v1.cell? ⟨q4, k, none⟩ = some (.slice B m1 d1x) := IV.two.a.c4
                have c5 : v1.cell? ⟨q5, k, none⟩ = some (.bool false) := IV.two.a.c5
                have s1 := fun jj => run_str (P := Tryd.prog) (w := v1.drewN jj) (s := 9) Tryd.underlying26 Tryd.underlying5 Tryd.underlying9 c2 (ho1.rd.drewN jj)
                have s2 := fun jj => run_str (P := Tryd.prog) (w := v1.drewN jj) (s := 9) Tryd.underlying26 Tryd.underlying5 Tryd.underlying9 d1x ((show Rd v1 1 B m1 (u8s ps) from IV.two.a.put.rd).drewN jj)
                have h8 : ∀ x ∈ ps, x < 256 := IH.out.1.zb
                have HV := Lib.hid (And.intro IV (And.intro ho1 (And.intro x1 h8)))
                clear IV ho1 x1 h8 DN
                go_wp2_with fail
                go_quiet (fail)
                clear s1 s2
                go_wp2_with (at_builtin; refine held ?_)
                refine Held.go (wp_app (m := 3) (news := u8s [1, 2, 3]) eltU8 ((HV.out.2.1.drewN _).alloc _) (Rd.new _ _ _ _) (u8s_one _) (by omega) (.inr ⟨by omega, by omega⟩) (by have := HV.out.2.2.1.size; simp; omega) _ _ rfl rfl rfl rfl ?_)
                intro A3 c3 w3 o3 g3 hA3 _
                rw [← u8s_append] at o3
                have x3 : Ext W w3 := ((HV.out.2.1.drewN _).alloc _).fr_ext ((HV.out.2.2.1.drewN _).alloc _) (Nat.le_refl _) (Fr.grows g3)
                obtain ⟨gb, rfl⟩ := o3.head (by omega)
                have h83 : ∀ x ∈ ps ++ [1, 2, 3], x < 256 := fun x hx => by
                  rcases List.mem_append.1 hx with h | h
                  · exact HV.out.2.2.2 x h
                  · simp at h; omega
                have H3 := Lib.hid (And.intro h83 (And.intro o3 x3))
                clear h83 o3 x3 g3 hA3 c4 c5
                obtain ⟨T, hT⟩ : ∃ T, m1 + 3 = T := ⟨_, rfl⟩
                have hTi : (m1 : Int) + 3 = (T : Int) := by omega
                rw [hT] at H3
                have hT2 : T ≤ 549755813891 := by omega
                clear hT
                go_wp2_with fail
                go_loopw [154] (fun  vi wr => ∃ (t : Nat) (l : List Nat), vi = .int .i64 (t : Int) ∧ t ≤ T ∧ Hid ((∀ x ∈ l, x < 256) ∧ Own wr W.heap.size 5 1 (some ⟨gb, 0, none⟩) T c3 (u8s l) ∧ Ext W wr)) (fun  vi _ => T - (intOf vi).toNat)
                case atStart => exact ⟨0, _, rfl, by omega, H3.out.1, H3.out.2.1, H3.out.2.2⟩
                case round =>
                  obtain ⟨t, l, rfl, ht, HL⟩ := hrel
                  by_cases hlt : t < T
                  · obtain ⟨ad, x, e, hx, hc⟩ := HL.out.2.1.rd.byte (k := t) (by omega)
                    injection e with e
                    subst e
                    have hx8 := HL.out.1 x (mem_of_at hx.out)
                    have hc : wr.cell? ⟨gb, t, none⟩ = some (.int .u8 (x : Int)) := by
                      rwa [show (⟨gb, 0, none⟩ : Addr).add t = ⟨gb, t, none⟩ by unfold Addr.add; split <;> simp_all] at hc
                    have hfr := HL.out.2.1.frozenAt t
                    have e1 := u8_xor99 x hx8
                    have hx9 : x ^^^ 99 < 256 := Nat.xor_lt_two_pow (n := 8) hx8 (by decide)
                    have k0 : (0 : Int) ≤ t := by omega
                    have k1 : (t : Int) < T := by omega
                    have ho2 := HL.out.2.1.stored t (.int .u8 ((x ^^^ 99 : Nat) : Int))
                    have hset : (u8s l).set t (.int .u8 ((x ^^^ 99 : Nat) : Int)) = u8s (l.set t (x ^^^ 99)) := by simp [u8s, List.map_set]
                    rw [hset] at ho2
                    have hl2 : ∀ z ∈ l.set t (x ^^^ 99), z < 256 := fun z hz => by
                      rcases List.mem_or_eq_of_mem_set hz with h | rfl
                      · exact HL.out.1 z h
                      · exact hx9
                    have hx2 : Ext W (wr.setCell ⟨gb, t, none⟩ (.int .u8 ((x ^^^ 99 : Nat) : Int))) := HL.out.2.2.setCell (p := ⟨gb, t, none⟩) (by show W.heap.size ≤ gb; exact HL.out.2.1.base_le gb rfl) _
                    have HF := Lib.hid (And.intro hl2 (And.intro ho2 hx2))
                    clear ho2 hset hl2 hx2 hx hx8 ht
                    generalize l.set t (x ^^^ 99) = l2 at *
                    generalize x ^^^ 99 = y at *
                    go_wp2_with fail
                    go_roundw
                    case rel => exact ⟨t + 1, l2, by go_num, by omega, HF.out.1, HF.out.2.1, HF.out.2.2⟩
                    case measure => simp [intOf]; omega
                  · obtain rfl : t = T := by omega
                    go_wp2_with fail
                    go_roundw
                    case rel => exact ⟨i + 1, by go_num, by omega, WrAny.of (IH.out.1.ex HL.out.2.2) (step_keep hn1) (step_keep HB.out.2.1) HB.out.2.2.1⟩
                    case measure => simp [intOf]; omega
            · have hK4b : (o.K == 4) = false := by simp [hK4]
              go_wp2_with fail
              go_roundw
              case rel => exact ⟨i + 1, by go_num, by omega, WrAny.of IH.out.1 (step_keep hn1) (step_keep HB.out.2.1) HB.out.2.2.1⟩
              case measure => simp [intOf]; omega
    · obtain rfl : i = M := by omega
      have HF := Lib.hid HI.out
      go_wp2_with fail
      go_returns
      obtain ⟨Z, Y, h, _⟩ := HF.out
      exact ⟨rfl, h.ext⟩
end Go.Proofs.YtelnnlfbfbbnaaaDoor
