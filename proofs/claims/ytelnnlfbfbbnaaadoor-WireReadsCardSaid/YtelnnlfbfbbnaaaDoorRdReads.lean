/-
  The statement WireReads, walked.
-/
import Derived.Test.YtelnnlfbfbbnaaaDoorRdRound
import Derived.Test.YtelnnlfbfbbnaaaDoorErrV
import Derived.Test.YtelnnlfbfbbnaaaDoorMask
import Derived.StillTailTactics
import Derived.Deep.Cut
namespace Go.Proofs.YtelnnlfbfbbnaaaDoor
open Go.RowKit
set_option linter.unusedVariables false
theorem u8_xor55 (x : Nat) (hx : x < 256) : Go.bits .xor .u8 (x : Int) 55 = ((x ^^^ 55 : Nat) : Int) := u8_xor_nat x 55 hx (by decide)
theorem u8_xor99 (x : Nat) (hx : x < 256) : Go.bits .xor .u8 (x : Int) 99 = ((x ^^^ 99 : Nat) : Int) := u8_xor_nat x 99 hx (by decide)
set_option maxRecDepth 8000 in
set_option maxHeartbeats 6400000 in
theorem reads_any (B : Nat → Option Addr) (n d : Nat → Nat) (l : Nat → List Nat) (A : Option Addr) (N C : Nat) (os : List OpV) (w : World) (hB : ∀ k, k < 2 → Rd w 1 (B k) (n k) (u8s (l k)) ∧ (∀ x ∈ l k, x < 256) ∧ n k ≤ d k ∧ d k ≤ 140737488351232)
    (hor : Rd w 4 A N (opCells os)) (hol : os.length = N) (hN : N * 48 ≤ 140737488351232) (E : Nat → Addr) (hE : Errs w E) :
    Calls Tryd.prog 6 #[.agg #[.slice (B 0) (n 0) (d 0), .slice (B 1) (n 1) (d 1)], .slice A N C] w fun e w' => e = .returned (.bool true) ∧ Ext w w' := by
  have HE := Lib.hid hE
  have HO := Lib.hid (And.intro hol hor)
  have HB := Lib.hid hB
  clear hE hol hor hB
  go_enter Tryd.func6, Tryd.ntmps6
  go_wp2_with fail
  refine (alive_any _).mono ?_
  rintro e u0 ⟨rfl, e0⟩
  have hbx := (e0.block w.heap.size (by simp)).trans (heap_alloc_new w (.cells #[.slice (B 0) (n 0) (d 0), .slice (B 1) (n 1) (d 1)] 35))
  have X0 : Ext w u0 := ((Ext.refl w).alloc _).trans e0
  have HX := Lib.hid (And.intro hbx X0)
  have z0 := e0.size
  rw [World.size_alloc] at z0
  clear hbx X0 e0
  go_wp2_with fail
  have T5 : Two ((u0.alloc (.cells #[.pointer none, .pointer none] 46)).alloc (.cells #[.pointer none, .pointer none] 48)) u0.heap.size 46 :=
    ⟨_, _, (Below.heap_alloc _ _ _ (by simp)).trans (heap_alloc_new u0 _)⟩
  have T6 : Two ((u0.alloc (.cells #[.pointer none, .pointer none] 46)).alloc (.cells #[.pointer none, .pointer none] 48)) (u0.heap.size + 1) 48 := by
    refine ⟨.pointer none, .pointer none, ?_⟩
    have := heap_alloc_new (u0.alloc (.cells #[.pointer none, .pointer none] 46)) (.cells #[.pointer none, .pointer none] 48)
    rwa [World.size_alloc] at this
  have XU := ((Ext.refl u0).alloc (.cells #[.pointer none, .pointer none] 46)).alloc (.cells #[.pointer none, .pointer none] 48)
  have zU : ((u0.alloc (.cells #[.pointer none, .pointer none] 46)).alloc (.cells #[.pointer none, .pointer none] 48)).heap.size = u0.heap.size + 2 := by simp
  generalize (u0.alloc (.cells #[.pointer none, .pointer none] 46)).alloc (.cells #[.pointer none, .pointer none] 48) = U at *
  have R1 : Rd1 w U ⟨u0.heap.size, u0.heap.size + 1, fun _ => 0, fun _ => 0, fun _ => none, fun _ => 0, B, n, d, l⟩ 0 w.heap.size :=
    ⟨⟨HX.out.2.trans XU, fun k hk => absurd hk (Nat.not_lt_zero k), fun k hk => absurd hk (Nat.not_lt_zero k), fun k hk => absurd hk (Nat.not_lt_zero k), fun k hk => absurd hk (Nat.not_lt_zero k), ⟨by show w.heap.size ≤ u0.heap.size; omega, by show u0.heap.size < _; omega⟩, ⟨by show w.heap.size ≤ u0.heap.size + 1; omega, by show u0.heap.size + 1 < _; omega⟩,
      fun k hk => absurd hk (Nat.not_lt_zero k), fun k _ hk => absurd hk (Nat.not_lt_zero k), fun k _ hk => absurd hk (Nat.not_lt_zero k), fun k hk => absurd hk (Nat.not_lt_zero k), fun k _ hk => absurd hk (Nat.not_lt_zero k), fun k hk => absurd hk (Nat.not_lt_zero k)⟩,
      T5, T6, (XU.block _ (by omega)).trans HX.out.1, by show w.heap.size < u0.heap.size; omega, by show u0.heap.size < u0.heap.size + 1; omega⟩
  have HR := Lib.hid R1
  clear R1 T5 T6 XU zU HX
  generalize u0.heap.size + 1 = q6 at *
  generalize u0.heap.size = q5 at *
  generalize hq2 : w.heap.size = q2 at *
  have HQ2 := Lib.hid hq2
  clear hq2 z0
  go_loopw [30] (fun v30 wr => ∃ (t : Nat) (g h : Nat → Nat) (Af : Nat → Option Addr) (cf : Nat → Nat), v30 = .int .i64 (t : Int) ∧ t ≤ 2 ∧ Hid (Rd1 w wr ⟨q5, q6, g, h, Af, cf, B, n, d, l⟩ t q2)) (fun v30 _ => 2 - (intOf v30).toNat)
  case atStart => exact ⟨0, _, _, _, _, rfl, by omega, HR.out⟩
  case round =>
    obtain ⟨t, g, h, Af, cf, rfl, ht, HI⟩ := hrel
    clear HR
    by_cases hlt : t < 2
    · have c2 := box_cell HI.out.bx hlt
      have t0 : (0 : Int) ≤ t := by omega
      have t1 : (t : Int) < 2 := by omega
      have hbt := HB.out t hlt
      obtain ⟨BASE, hbase⟩ : ∃ x, wr.heap.size = x := ⟨_, rfl⟩
      have c2 : wr.cell? ⟨q2, t, none⟩ = some (.slice (B t) (n t) (d t)) := box_cell HI.out.bx hlt
      have HT := Lib.hid (And.intro hbt.1 (And.intro hbt.2.1 hbt.2.2.1))
      have hdb := hbt.2.2.2
      have hnb : n t ≤ 140737488351232 := by have := hbt.2.2.1; omega
      clear hbt
      have CB := Lib.hid (bytesO_any (B t) (n t) (d t) (l t) wr hnb (HT.out.1.ext HI.out.inv.ext))
      go_wp2_with fail
      refine CB.out.mono ?_
      rintro e Wb ⟨gz, rfl, hgz, hoz, xz⟩
      clear CB c2
      have CN := Lib.hid (newr_any (some ⟨gz, 0, none⟩) (n t) (n t + 6) (l t) Wb hoz.rd.unmark HT.out.2.1 hnb)
      have HZ := Lib.hid (And.intro hoz (And.intro hgz xz))
      have HBS := Lib.hid hbase
      clear hoz hgz xz hbase
      go_wp2_with fail
      refine CN.out.mono ?_
      rintro e We ⟨gr, A', c', rfl, hgr, hrs, hA', xe⟩
      clear CN
      obtain ⟨⟨v5, s5⟩, f5, s3, ⟨v6, s6⟩, f6, s7, s8, hox, hwx, hend⟩ := round1 (D := ⟨q5, q6, g, h, Af, cf, B, n, d, l⟩) HI.out hlt HZ.out.1 HZ.out.2.1 HZ.out.2.2 hgr hrs hA' xe HT.out.1 HT.out.2.2 rfl rfl rfl
      dsimp only at s5 f5 s3 s6 f6 s7 s8 hox hwx hend
      simp only [World.size_setCell] at s7 s8 hox hwx hend
      have KP := Lib.hid (kept_any gz (n t) (d t) (B t) (l t) _ hnb hox.rd (HT.out.1.ext hwx))
      rw [HBS.out] at hox
      have HND := Lib.hid (And.intro hox (And.intro hwx hend))
      clear hox hwx hend hgr hrs hA' xe HZ
      go_upto_region 11 with (fail)
      generalize (((We.setCell ⟨q5, t, none⟩ (.pointer (some ⟨gr, 0, none⟩))).alloc (.cells #[.slice (B t) (n t) (d t), .int .i64 0] 51)).setCell ⟨q6, t, none⟩ (.pointer (some ⟨We.heap.size, 0, none⟩))) = W5 at *
      clear s5 f5 s3 s6 f6
      go_wp2_with fail
      refine KP.out.mono ?_
      rintro e W6 ⟨rfl, jj, rfl⟩
      have ho6 := HND.out.1.drewN jj
      have hend6 := fun W7 (hf : Fr (W5.drewN jj) W7 (· = gz)) => HND.out.2.2 W7 ((Fr.of_ext ((Ext.refl W5).drewN jj) (· = gz)).trans hf (fun _ _ h => h))
      have H6 := Lib.hid (And.intro ho6 hend6)
      clear ho6 hend6 HND KP s7 s8
      generalize W5.drewN jj = V at *
      have h86 : ∀ x ∈ l t ++ marks6, x < 256 := fun x hx => by
        rcases List.mem_append.1 hx with h | h
        · exact HT.out.2.1 x h
        · simp [marks6] at h; omega
      have H86 := Lib.hid h86
      clear h86
      go_wp2_with fail
      go_loopw [62] (fun  vi wr => ∃ (z : Nat) (k : List Nat), vi = .int .i64 (z : Int) ∧ z ≤ n t ∧ Hid ((∀ x ∈ k, x < 256) ∧ Own wr BASE 5 1 (some ⟨gz, 0, none⟩) (n t + 6) (n t + 6) (u8s k) ∧ Fr V wr (· = gz))) (fun  vi _ => n t - (intOf vi).toNat)
      case atStart => exact ⟨0, _, rfl, by omega, H86.out, H6.out.1, Fr.refl _ _⟩
      case round =>
        obtain ⟨z, k, rfl, hz, HL⟩ := hrel
        by_cases hzt : z < n t
        · obtain ⟨ad, x, e, hx, hc⟩ := HL.out.2.1.rd.byte (k := z) (by omega)
          injection e with e
          subst e
          have hx8 := HL.out.1 x (mem_of_at hx.out)
          have hc : wr.cell? ⟨gz, z, none⟩ = some (.int .u8 (x : Int)) := by
            rwa [show (⟨gz, 0, none⟩ : Addr).add z = ⟨gz, z, none⟩ by unfold Addr.add; split <;> simp_all] at hc
          have hfr := HL.out.2.1.frozenAt z
          have e1 := u8_xor55 x hx8
          have hx9 : x ^^^ 55 < 256 := Nat.xor_lt_two_pow (n := 8) hx8 (by decide)
          have k0 : (0 : Int) ≤ z := by omega
          have k1 : (z : Int) < n t := by omega
          have ho2 := HL.out.2.1.stored z (.int .u8 ((x ^^^ 55 : Nat) : Int))
          have hset : (u8s k).set z (.int .u8 ((x ^^^ 55 : Nat) : Int)) = u8s (k.set z (x ^^^ 55)) := by simp [u8s, List.map_set]
          rw [hset] at ho2
          have hl2 : ∀ y ∈ k.set z (x ^^^ 55), y < 256 := fun y hy => by
            rcases List.mem_or_eq_of_mem_set hy with h | rfl
            · exact HL.out.1 y h
            · exact hx9
          have hx2 : Fr V (wr.setCell ⟨gz, z, none⟩ (.int .u8 ((x ^^^ 55 : Nat) : Int))) (· = gz) := HL.out.2.2.trans (Fr.store wr ⟨gz, z, none⟩ _) (fun i _ h => h)
          have HF := Lib.hid (And.intro hl2 (And.intro ho2 hx2))
          clear ho2 hset hl2 hx2 hx hx8 hz
          generalize k.set z (x ^^^ 55) = l2 at *
          generalize x ^^^ 55 = y at *
          go_wp2_with fail
          go_roundw
          case rel => exact ⟨z + 1, l2, by go_num, by omega, HF.out.1, HF.out.2.1, HF.out.2.2⟩
          case measure => simp [intOf]; omega
        · obtain rfl : z = n t := by omega
          go_wp2_with fail
          go_roundw
          case rel => exact ⟨t + 1, _, _, _, _, by go_num, by omega, H6.out.2 _ HL.out.2.2⟩
          case measure => simp [intOf]; omega
    · obtain rfl : t = 2 := by omega
      have HI2 := Lib.hid HI.out.inv
      have hgr := fun k hk => (HI.out.inv.rs k hk).lt
      have hhr := fun k hk => (HI.out.inv.rm k hk).lt
      have hop := HO.out.2.ext HI.out.inv.ext
      have zwr := HI.out.inv.ext.size
      have XW := HI.out.inv.ext
      clear HI
      generalize hD : (⟨q5, q6, g, h, Af, cf, B, n, d, l⟩ : RD) = D at *
      have hq5 : D.q5 = q5 := by rw [← hD]
      have hq6 : D.q6 = q6 := by rw [← hD]
      have HDQ := Lib.hid (And.intro hq5 hq6)
      clear hD hq5 hq6
      obtain ⟨V, hV⟩ : ∃ V, V = wr := ⟨_, rfl⟩
      subst hV
      have hNb : N ≤ 2932031007402 := by omega
      go_wp2_with (at_builtin; refine held ?_)
      refine Held.go (wp_app (m := N) (news := opCells os) eltOp (base := V.heap.size) (n := 0) (c := 0) (xs := []) (World.ownsRow_lit (size := 4) _ #[] 0 (Nat.le_refl _) (by simp [maxLen]) rfl) (hop.ext ((Ext.refl V).alloc _)) (opCells_one _) (by omega) (.inr ⟨by omega, by omega⟩) (by simp) _ _ rfl rfl rfl rfl ?_)
      intro A2 c2 w2 o2 g2 hA2 _
      rw [List.nil_append, Nat.zero_add] at o2
      rw [Nat.zero_add]
      have x2 : Ext V w2 := g2.ext ((Ext.refl V).alloc _) (fun g hg => by injection hg with hg; rw [← hg]; exact Nat.le_refl _)
      have z2 := x2.size
      have y2 : ∀ b, A2.map (·.block) = some b → V.heap.size ≤ b := o2.base_le
      clear g2 hA2 hop
      go_wp2_with (at_builtin; refine held ?_)
      refine Held.go (wp_app (m := 2) (news := opCells extraR) eltOp (o2.alloc _) (Rd.newN (by rfl) (by rfl)) (opCells_one _) (by omega) (.inr ⟨by omega, by omega⟩) (by simp; omega) _ _ rfl rfl rfl rfl ?_)
      intro A3 cap w3 o3 g3 hA3 _
      rw [← opCells_append] at o3
      obtain ⟨S, rfl⟩ := o3.head (by omega)
      have x3 : Ext V w3 := g3.ext (x2.alloc _) y2
      have hS3 : V.heap.size ≤ S := o3.base_le S rfl
      have hlen : (os ++ extraR).length = N + 2 := by rw [List.length_append, HO.out.1]; rfl
      have hSg : ∀ k, k < 2 → S ≠ D.g k ∧ S ≠ D.h k := fun k hk => by have := hgr k hk; have := hhr k hk; omega
      obtain ⟨M, hM⟩ : ∃ M, N + 2 = M := ⟨_, rfl⟩
      have hM' : (N : Int) + 2 = (M : Int) := by omega
      have hM2 : M ≤ 2932031007404 := by omega
      rw [hM] at hlen o3
      have HS := Lib.hid (And.intro (HI2.out.ex x3) (And.intro (o3.base_mono zwr) (And.intro hlen hSg)))
      clear hgr hhr zwr x2 x3 z2 y2 o2 o3 g3 hA3 hS3 hlen hSg HI2 hM hNb HO HB
      generalize os ++ extraR = osx at *
      go_wp2_with fail
      go_loopw [81] (fun vi wr => ∃ (i : Nat) (s : Nat → Nat), vi = .int .i64 (i : Int) ∧ i ≤ M ∧ Hid (RInv w wr D 2 s s ∧ Own wr w.heap.size 38 4 (some ⟨S, 0, none⟩) M cap (opCells osx))) (fun vi _ => M - (intOf vi).toNat)
      case atStart => exact ⟨0, _, rfl, by omega, HS.out.1, HS.out.2.1⟩
      case round =>
        obtain ⟨i, s, rfl, hi, HI⟩ := hrel
        obtain ⟨U, hU⟩ : ∃ U, U = wr := ⟨_, rfl⟩
        subst hU
        by_cases hiM : i < M
        · obtain ⟨o, ho⟩ : ∃ o, osx[i]? = some o := ⟨osx[i]'(by rw [HS.out.2.2.1]; exact hiM), List.getElem?_eq_getElem _⟩
          obtain ⟨k, hk2, hkQ⟩ : ∃ k : Nat, k < 2 ∧ o.Q % 2 = (k : Int) := ⟨(o.Q % 2).toNat, by omega, by omega⟩
          have hand : Go.bits .and .i64 o.Q 1 = (k : Int) := (mask_core o.Q 1 2 (by decide) (by decide)).trans hkQ
          obtain ⟨i0, hi0⟩ : ∃ i0 : Nat, i * 4 = i0 := ⟨_, rfl⟩
          obtain ⟨k0, k1, k2, k3⟩ := ops_at HI.out.2 ho hi0
          have y0 : (0 : Int) ≤ k := by omega
          have y1 : (k : Int) < 2 := by omega
          have z0 : (0 : Int) ≤ i := by omega
          have z1 : (i : Int) < M := by omega
          have hbox := heap_alloc_new U (.cells #[.int .i64 o.K, .int .i64 o.Q, .int .i64 o.N, .slice o.A o.n o.c] 38)
          have EX := (Ext.refl U).alloc (.cells #[.int .i64 o.K, .int .i64 o.Q, .int .i64 o.N, .slice o.A o.n o.c] 38)
          have HW := Lib.hid (And.intro hbox EX)
          clear hkQ ho hbox EX
          go_upto_region 23 with (fail)
          have hobf : ∀ k, k < 2 → U.heap.size ≠ D.g k ∧ U.heap.size ≠ D.h k := fun k hk => by
            have h1 := (HI.out.1.rs k hk).lt
            have h2 := (HI.out.1.rm k hk).lt
            omega
          have I0 : RSt w (U.alloc (.cells #[.int .i64 o.K, .int .i64 o.Q, .int .i64 o.N, .slice o.A o.n o.c] 38)) D s s S M cap osx U.heap.size o :=
            ⟨HI.out.1.ex HW.out.2, HI.out.2.ext HW.out.2, HS.out.2.2.2, HW.out.1, hobf⟩
          have hwo : (U.alloc (.cells #[.int .i64 o.K, .int .i64 o.Q, .int .i64 o.N, .slice o.A o.n o.c] 38)).heap.size = U.heap.size + 1 := by simp
          generalize U.alloc (.cells #[.int .i64 o.K, .int .i64 o.Q, .int .i64 o.N, .slice o.A o.n o.c] 38) = W at *
          generalize U.heap.size = ob at *
          have J := Lib.hid I0
          have HWO := Lib.hid hwo
          clear hwo
          clear k0 k1 k2 k3 hi0 hand hobf I0 HW HI
          have b2 := J.out.b2
          have b0 := J.out.b0
          have c5 : W.cell? ⟨q5, k, none⟩ = some (.pointer (some ⟨D.g k, 0, none⟩)) := by rw [← HDQ.out.1]; exact J.out.inv.c5 k hk2
          have c6 : W.cell? ⟨q6, k, none⟩ = some (.pointer (some ⟨D.h k, 0, none⟩)) := by rw [← HDQ.out.2]; exact J.out.inv.c6 k hk2
          have SE := Lib.hid (fun w' (hx : Ext w w') => (HE.out.ext hx).sen 1 (by decide))
          have NE := Lib.hid (fun w' (hx : Ext w w') => (show Calls Tryd.prog 24 #[.iface 86 (.pointer (some (E 1)))] w' fun e w'' => e = .returned (.int .i64 3) ∧ Ext w' w'' from num_errV E 3 w' (HE.out.ext hx) (by omega)))
          obtain ⟨sk, hsk⟩ : ∃ sk, s k = sk := ⟨_, rfl⟩
          have RS := Lib.hid (fun w' (h : RSt w w' D s s S M cap osx ob o) => (show RdS w' (D.g k) (D.A k) (D.n k) (D.c k) sk (D.l k) by rw [← hsk]; exact h.inv.rs k hk2))
          have RM := Lib.hid (fun w' s' (h : RSt w w' D s' s S M cap osx ob o) => (show RmS w' (D.h k) (D.B k) (D.n k) (D.d k) sk (D.l k) by rw [← hsk]; exact h.inv.rm k hk2))
          have HSK := Lib.hid hsk
          clear hsk
          by_cases hK1 : o.K = 1
          · by_cases hok : ∃ x kk, Wr.rd ((D.l k).drop sk) = some (x, kk) ∧ (x : Int) ≤ o.N
            · as_aux_lemma =>
                obtain ⟨x, kk, hrd, hxm⟩ := hok
                have HRD := Lib.hid (And.intro hrd hxm)
                clear hrd hxm
                have hp : sk + kk ≤ D.n k := by have := Wr.rd_count HRD.out.1; rw [List.length_drop, (RS.out W J.out).len] at this; have := (RS.out W J.out).le; omega
                obtain ⟨p, hpp⟩ : ∃ p, sk + kk = p := ⟨_, rfl⟩
                have HPP := Lib.hid (And.intro hp hpp)
                obtain ⟨s1, hs1⟩ : ∃ s1, upd s k p = s1 := ⟨_, rfl⟩
                have HS1 := Lib.hid hs1
                clear hp hpp hs1
                have CN := Lib.hid (fun w' (hx : RSt w w' D s s S M cap osx ob o) => (rnum_ok (RS.out w' hx) HRD.out.1 o.N HRD.out.2).mono fun e w'' (h : e = .returned (.tuple #[.int .i64 (x : Int), .nilIface]) ∧ w'' = w'.setCell ⟨D.g k, 1, none⟩ (.int .i64 ((sk + kk : Nat) : Int))) =>
                  (by
                    obtain ⟨he, rfl⟩ := h
                    refine ⟨he, ?_⟩
                    rw [HPP.out.2, ← HS1.out]
                    exact hx.rcall hk2 ((RS.out w' hx).put p (by rw [← HPP.out.2]; exact HPP.out.1)) (Fr.store w' ⟨D.g k, 1, none⟩ _) :
                    e = .returned (.tuple #[.int .i64 (x : Int), .nilIface]) ∧ RSt w w'' D s1 s S M cap osx ob o))
                have CM := Lib.hid (fun w' (hx : RSt w w' D s1 s S M cap osx ob o) => (mnum_ok (RM.out w' s1 hx) HRD.out.1 o.N HRD.out.2).mono fun e w'' (h : e = .returned (.tuple #[.int .i64 (x : Int), .int .i64 0]) ∧ RmS w'' (D.h k) (D.B k) (D.n k) (D.d k) (sk + kk) (D.l k) ∧ Fr w' w'' (· = D.h k)) =>
                  (by
                    obtain ⟨he, hr, hf⟩ := h
                    refine ⟨he, ?_⟩
                    have := hx.mcall hk2 hr hf
                    rw [HPP.out.2, HS1.out] at this
                    exact this :
                    e = .returned (.tuple #[.int .i64 (x : Int), .int .i64 0]) ∧ RSt w w'' D s1 s1 S M cap osx ob o))
                go_upto_region 25 with (fail)
                have j1 := J.out.ex (Ext.refl W).drew
                go_region_held3 (fun w' => w'.cell? ⟨q5, k, none⟩ = some (.pointer (some ⟨D.g k, 0, none⟩)) ∧ w'.cell? ⟨ob, 2, none⟩ = some (.int .i64 o.N)) (go_keep) (first
                  | (go_at_call 22; (with_reducible refine (CN.out _ (by with_reducible assumption)).mono ?_); rintro en vF ⟨rfl, jF⟩; have k0 := jF.inv.c5 k hk2; have k1 := jF.b2; rw [HDQ.out.1] at k0))
                have JF := Lib.hid jF
                clear jF k0 k1 c5 c6 b2 j1
                have c5 : vF.cell? ⟨q5, k, none⟩ = some (.pointer (some ⟨D.g k, 0, none⟩)) := by rw [← HDQ.out.1]; exact JF.out.inv.c5 k hk2
                have c6 : vF.cell? ⟨q6, k, none⟩ = some (.pointer (some ⟨D.h k, 0, none⟩)) := by rw [← HDQ.out.2]; exact JF.out.inv.c6 k hk2
                have b2 := JF.out.b2
                go_wp2_with fail
                have j1 := JF.out.ex (Ext.refl vF).drew
                go_region_held3 (fun w' => w'.cell? ⟨q6, k, none⟩ = some (.pointer (some ⟨D.h k, 0, none⟩)) ∧ w'.cell? ⟨ob, 2, none⟩ = some (.int .i64 o.N)) (go_keep) (first
                  | (go_at_call 23; (with_reducible refine (CM.out _ (by with_reducible assumption)).mono ?_); rintro en vG ⟨rfl, jG⟩; have k0 := jG.inv.c6 k hk2; have k1 := jG.b2; rw [HDQ.out.2] at k0))
                have JG := Lib.hid jG
                clear jG k0 k1 c5 c6 b2 j1
                go_wp2_with fail
                refine (num_nil _).mono ?_
                rintro e vH ⟨rfl, xH⟩
                have JH := Lib.hid (JG.out.ex xH)
                clear xH
                go_wp2_with fail
                go_roundw
                case rel => exact ⟨i + 1, s1, by go_num, by omega, JH.out.inv, JH.out.own⟩
                case measure => simp [intOf]; omega
            · as_aux_lemma =>
                have hno : ∀ x kk, Wr.rd ((D.l k).drop sk) = some (x, kk) → o.N < (x : Int) := fun x kk h => Int.not_le.1 (fun h2 => hok ⟨x, kk, h, h2⟩)
                have CN := Lib.hid (fun w' (hx : RSt w w' D s s S M cap osx ob o) => (rnum_no (RS.out w' hx) o.N hno (SE.out w' hx.inv.ext)).mono fun e w'' (h : e = BytesNo (E 1) (.int .i64 0) ∧ ∃ j, w'' = w'.drewN j) =>
                  (by
                    obtain ⟨he, j, rfl⟩ := h
                    exact ⟨he, hx.ex ((Ext.refl w').drewN j)⟩ :
                    e = .returned (.tuple #[.int .i64 0, .iface 86 (.pointer (some (E 1)))]) ∧ RSt w w'' D s s S M cap osx ob o))
                have CM := Lib.hid (fun w' (hx : RSt w w' D s s S M cap osx ob o) => (mnum_no (RM.out w' s hx) o.N hno).mono fun e w'' (h : e = .returned (.tuple #[.int .i64 0, .int .i64 3]) ∧ Ext w' w'') => (⟨h.1, hx.ex h.2⟩ : e = .returned (.tuple #[.int .i64 0, .int .i64 3]) ∧ RSt w w'' D s s S M cap osx ob o))
                clear hno hok
                go_upto_region 25 with (fail)
                have j1 := J.out.ex (Ext.refl W).drew
                go_region_held3 (fun w' => w'.cell? ⟨q5, k, none⟩ = some (.pointer (some ⟨D.g k, 0, none⟩)) ∧ w'.cell? ⟨ob, 2, none⟩ = some (.int .i64 o.N)) (go_keep) (first
                  | (go_at_call 22; (with_reducible refine (CN.out _ (by with_reducible assumption)).mono ?_); rintro en vF ⟨rfl, jF⟩; have k0 := jF.inv.c5 k hk2; have k1 := jF.b2; rw [HDQ.out.1] at k0))
                have JF := Lib.hid jF
                clear jF k0 k1 c5 c6 b2 j1
                have c5 : vF.cell? ⟨q5, k, none⟩ = some (.pointer (some ⟨D.g k, 0, none⟩)) := by rw [← HDQ.out.1]; exact JF.out.inv.c5 k hk2
                have c6 : vF.cell? ⟨q6, k, none⟩ = some (.pointer (some ⟨D.h k, 0, none⟩)) := by rw [← HDQ.out.2]; exact JF.out.inv.c6 k hk2
                have b2 := JF.out.b2
                go_wp2_with fail
                have j1 := JF.out.ex (Ext.refl vF).drew
                go_region_held3 (fun w' => w'.cell? ⟨q6, k, none⟩ = some (.pointer (some ⟨D.h k, 0, none⟩)) ∧ w'.cell? ⟨ob, 2, none⟩ = some (.int .i64 o.N)) (go_keep) (first
                  | (go_at_call 23; (with_reducible refine (CM.out _ (by with_reducible assumption)).mono ?_); rintro en vG ⟨rfl, jG⟩; have k0 := jG.inv.c6 k hk2; have k1 := jG.b2; rw [HDQ.out.2] at k0))
                have JG := Lib.hid jG
                clear jG k0 k1 c5 c6 b2 j1
                go_wp2_with fail
                refine (NE.out _ JG.out.inv.ext).mono ?_
                rintro e vH ⟨rfl, xH⟩
                have JH := Lib.hid (JG.out.ex xH)
                clear xH
                go_wp2_with fail
                go_roundw
                case rel => exact ⟨i + 1, s, by go_num, by omega, JH.out.inv, JH.out.own⟩
                case measure => simp [intOf]; omega
          · have hK1b : (o.K == 1) = false := by simp [hK1]
            by_cases hK2 : o.K = 2
            · by_cases hok : ∃ x kk, Wr.rd ((D.l k).drop sk) = some (x, kk) ∧ (x : Int) ≤ o.N ∧ sk + kk + x ≤ D.n k
              · as_aux_lemma =>
                  obtain ⟨x, kk, hrd, hxm, hfit⟩ := hok
                  have HRD := Lib.hid (And.intro hrd (And.intro hxm hfit))
                  clear hrd hxm hfit
                  have hp : sk + kk + x ≤ D.n k := by exact HRD.out.2.2
                  obtain ⟨p, hpp⟩ : ∃ p, sk + kk + x = p := ⟨_, rfl⟩
                  have HPP := Lib.hid (And.intro hp hpp)
                  obtain ⟨s1, hs1⟩ : ∃ s1, upd s k p = s1 := ⟨_, rfl⟩
                  have HS1 := Lib.hid hs1
                  clear hp hpp hs1
                  obtain ⟨L, hL⟩ : ∃ L, ((D.l k).drop (sk + kk)).take x = L := ⟨_, rfl⟩
                  have HLL := Lib.hid hL
                  clear hL
                  have CN := Lib.hid (fun w' (hx : RSt w w' D s s S M cap osx ob o) => (rtext_ok (RS.out w' hx) HRD.out.1 o.N HRD.out.2.1 HRD.out.2.2).mono fun e w'' (h : e = .returned (.tuple #[.string (str (((D.l k).drop (sk + kk)).take x)), .nilIface]) ∧ RdS w'' (D.g k) (D.A k) (D.n k) (D.c k) (sk + kk + x) (D.l k) ∧ Fr w' w'' (· = D.g k)) =>
                    (by
                      obtain ⟨he, hr, hf⟩ := h
                      rw [HLL.out] at he
                      have := hx.rcall hk2 hr hf
                      rw [HPP.out.2, HS1.out] at this
                      exact ⟨he, this⟩ :
                      e = .returned (.tuple #[.string (str L), .nilIface]) ∧ RSt w w'' D s1 s S M cap osx ob o))
                  have CM := Lib.hid (fun w' (hx : RSt w w' D s1 s S M cap osx ob o) => (mbytes_ok (RM.out w' s1 hx) HRD.out.1 o.N HRD.out.2.1 HRD.out.2.2).mono fun e w'' (h : ∃ A' c', e = .returned (.tuple #[.slice A' x c', .int .i64 0]) ∧ Own w'' w'.heap.size 5 1 A' x c' (u8s (((D.l k).drop (sk + kk)).take x)) ∧ RmS w'' (D.h k) (D.B k) (D.n k) (D.d k) (sk + kk + x) (D.l k) ∧ Fr w' w'' (· = D.h k)) =>
                    (by
                      obtain ⟨A', c', he, ho, hr, hf⟩ := h
                      rw [HLL.out] at ho
                      have := hx.mcall hk2 hr hf
                      rw [HPP.out.2, HS1.out] at this
                      exact ⟨A', c', he, ho, hf, this⟩ :
                      ∃ A' c', e = .returned (.tuple #[.slice A' x c', .int .i64 0]) ∧ Own w'' w'.heap.size 5 1 A' x c' (u8s L) ∧ Fr w' w'' (· = D.h k) ∧ RSt w w'' D s1 s1 S M cap osx ob o))
                  go_upto_region 30 with (fail)
                  have j1 := J.out.ex (Ext.refl W).drew
                  go_region_held3 (fun w' => w'.cell? ⟨q5, k, none⟩ = some (.pointer (some ⟨D.g k, 0, none⟩)) ∧ w'.cell? ⟨ob, 2, none⟩ = some (.int .i64 o.N)) (go_keep) (first
                    | (go_at_call 25; (with_reducible refine (CN.out _ (by with_reducible assumption)).mono ?_); rintro en vF ⟨rfl, jF⟩; have k0 := jF.inv.c5 k hk2; have k1 := jF.b2; rw [HDQ.out.1] at k0))
                  have JF := Lib.hid jF
                  clear jF k0 k1 c5 c6 b2 j1
                  have c5 : vF.cell? ⟨q5, k, none⟩ = some (.pointer (some ⟨D.g k, 0, none⟩)) := by rw [← HDQ.out.1]; exact JF.out.inv.c5 k hk2
                  have c6 : vF.cell? ⟨q6, k, none⟩ = some (.pointer (some ⟨D.h k, 0, none⟩)) := by rw [← HDQ.out.2]; exact JF.out.inv.c6 k hk2
                  have b2 := JF.out.b2
                  go_wp2_with fail
                  have j1 := JF.out.ex (Ext.refl vF).drew
                  go_region_held3 (fun w' => w'.cell? ⟨q6, k, none⟩ = some (.pointer (some ⟨D.h k, 0, none⟩)) ∧ w'.cell? ⟨ob, 2, none⟩ = some (.int .i64 o.N)) (go_keep) (first
                    | (go_at_call 26; (with_reducible refine (CM.out _ (by with_reducible assumption)).mono ?_); rintro en vG ⟨Am, cm, rfl, om, fm, jG⟩; have k0 := jG.inv.c6 k hk2; have k1 := jG.b2; rw [HDQ.out.2] at k0))
                  have JG := Lib.hid (And.intro jG (And.intro om fm))
                  clear jG k0 k1 c5 c6 b2 j1
                  have r0 := run_str (P := Tryd.prog) (w := vG) (s := 9) Tryd.underlying26 Tryd.underlying5 Tryd.underlying9 cm om.rd
                  clear om fm
                  go_wp2_with fail
                  refine (num_nil _).mono ?_
                  rintro e vH ⟨rfl, xH⟩
                  have JH := Lib.hid (JG.out.1.ex xH)
                  clear xH r0
                  go_wp2_with fail
                  go_roundw
                  case rel => exact ⟨i + 1, s1, by go_num, by omega, JH.out.inv, JH.out.own⟩
                  case measure => simp [intOf]; omega
              · as_aux_lemma =>
                  have hno : ∀ x kk, Wr.rd ((D.l k).drop sk) = some (x, kk) → o.N < (x : Int) ∨ D.n k < sk + kk + x := fun x kk h => by
                    by_cases h1 : o.N < (x : Int)
                    · exact .inl h1
                    · right
                      exact Nat.not_le.1 (fun h2 => hok ⟨x, kk, h, Int.not_lt.1 h1, h2⟩)
                  have CN := Lib.hid (fun w' (hx : RSt w w' D s s S M cap osx ob o) => (rtext_no (RS.out w' hx) o.N hno (SE.out w' hx.inv.ext)).mono fun e w'' (h : e = BytesNo (E 1) (.string (str [])) ∧ ∃ j, w'' = w'.drewN j) =>
                    (by
                      obtain ⟨he, j, rfl⟩ := h
                      exact ⟨he, hx.ex ((Ext.refl w').drewN j)⟩ :
                      e = .returned (.tuple #[.string (str []), .iface 86 (.pointer (some (E 1)))]) ∧ RSt w w'' D s s S M cap osx ob o))
                  have CM := Lib.hid (fun w' (hx : RSt w w' D s s S M cap osx ob o) => (mbytes_no (RM.out w' s hx) o.N hno).mono fun e w'' (h : e = .returned (.tuple #[.slice none 0 0, .int .i64 3]) ∧ Ext w' w'') => (⟨h.1, hx.ex h.2⟩ : e = .returned (.tuple #[.slice none 0 0, .int .i64 3]) ∧ RSt w w'' D s s S M cap osx ob o))
                  clear hno hok
                  go_upto_region 30 with (fail)
                  have j1 := J.out.ex (Ext.refl W).drew
                  go_region_held3 (fun w' => w'.cell? ⟨q5, k, none⟩ = some (.pointer (some ⟨D.g k, 0, none⟩)) ∧ w'.cell? ⟨ob, 2, none⟩ = some (.int .i64 o.N)) (go_keep) (first
                    | (go_at_call 25; (with_reducible refine (CN.out _ (by with_reducible assumption)).mono ?_); rintro en vF ⟨rfl, jF⟩; have k0 := jF.inv.c5 k hk2; have k1 := jF.b2; rw [HDQ.out.1] at k0))
                  have JF := Lib.hid jF
                  clear jF k0 k1 c5 c6 b2 j1
                  have c5 : vF.cell? ⟨q5, k, none⟩ = some (.pointer (some ⟨D.g k, 0, none⟩)) := by rw [← HDQ.out.1]; exact JF.out.inv.c5 k hk2
                  have c6 : vF.cell? ⟨q6, k, none⟩ = some (.pointer (some ⟨D.h k, 0, none⟩)) := by rw [← HDQ.out.2]; exact JF.out.inv.c6 k hk2
                  have b2 := JF.out.b2
                  go_wp2_with fail
                  have j1 := JF.out.ex (Ext.refl vF).drew
                  go_region_held3 (fun w' => w'.cell? ⟨q6, k, none⟩ = some (.pointer (some ⟨D.h k, 0, none⟩)) ∧ w'.cell? ⟨ob, 2, none⟩ = some (.int .i64 o.N)) (go_keep) (first
                    | (go_at_call 26; (with_reducible refine (CM.out _ (by with_reducible assumption)).mono ?_); rintro en vG ⟨rfl, jG⟩; have k0 := jG.inv.c6 k hk2; have k1 := jG.b2; rw [HDQ.out.2] at k0))
                  have JG := Lib.hid jG
                  clear jG k0 k1 c5 c6 b2 j1
                  have r0 := run_str (P := Tryd.prog) (w := vG) (s := 9) Tryd.underlying26 Tryd.underlying5 Tryd.underlying9 0 (A := none) (n := 0) (l := []) ⟨rfl, fun h => absurd h (by omega)⟩
                  go_wp2_with fail
                  refine (NE.out _ JG.out.inv.ext).mono ?_
                  rintro e vH ⟨rfl, xH⟩
                  have JH := Lib.hid (JG.out.ex xH)
                  clear xH
                  go_wp2_with fail
                  go_roundw
                  case rel => exact ⟨i + 1, s, by go_num, by omega, JH.out.inv, JH.out.own⟩
                  case measure => simp [intOf]; omega
            · have hK2b : (o.K == 2) = false := by simp [hK2]
              by_cases hK3 : o.K = 3
              · by_cases hok : ∃ x kk, Wr.rd ((D.l k).drop sk) = some (x, kk) ∧ (x : Int) ≤ o.N ∧ sk + kk + x ≤ D.n k
                · as_aux_lemma =>
                    obtain ⟨x, kk, hrd, hxm, hfit⟩ := hok
                    have HRD := Lib.hid (And.intro hrd (And.intro hxm hfit))
                    clear hrd hxm hfit
                    have hp : sk + kk + x ≤ D.n k := by exact HRD.out.2.2
                    obtain ⟨p, hpp⟩ : ∃ p, sk + kk + x = p := ⟨_, rfl⟩
                    have HPP := Lib.hid (And.intro hp hpp)
                    obtain ⟨s1, hs1⟩ : ∃ s1, upd s k p = s1 := ⟨_, rfl⟩
                    have HS1 := Lib.hid hs1
                    clear hp hpp hs1
                    obtain ⟨L, hL⟩ : ∃ L, ((D.l k).drop (sk + kk)).take x = L := ⟨_, rfl⟩
                    have HLL := Lib.hid hL
                    clear hL
                    have CN := Lib.hid (fun w' (hx : RSt w w' D s s S M cap osx ob o) => (rbytes_ok (RS.out w' hx) HRD.out.1 o.N HRD.out.2.1 HRD.out.2.2).mono fun e w'' (h : ∃ A' c', e = .returned (.tuple #[.slice A' x c', .nilIface]) ∧ Own w'' w'.heap.size 5 1 A' x c' (u8s (((D.l k).drop (sk + kk)).take x)) ∧ RdS w'' (D.g k) (D.A k) (D.n k) (D.c k) (sk + kk + x) (D.l k) ∧ Fr w' w'' (· = D.g k)) =>
                      (by
                        obtain ⟨A', c', he, ho, hr, hf⟩ := h
                        rw [HLL.out] at ho
                        have := hx.rcall hk2 hr hf
                        rw [HPP.out.2, HS1.out] at this
                        exact ⟨A', c', he, ho, this⟩ :
                        ∃ A' c', e = .returned (.tuple #[.slice A' x c', .nilIface]) ∧ Own w'' w'.heap.size 5 1 A' x c' (u8s L) ∧ RSt w w'' D s1 s S M cap osx ob o))
                    have CM := Lib.hid (fun w' (hx : RSt w w' D s1 s S M cap osx ob o) => (mbytes_ok (RM.out w' s1 hx) HRD.out.1 o.N HRD.out.2.1 HRD.out.2.2).mono fun e w'' (h : ∃ A' c', e = .returned (.tuple #[.slice A' x c', .int .i64 0]) ∧ Own w'' w'.heap.size 5 1 A' x c' (u8s (((D.l k).drop (sk + kk)).take x)) ∧ RmS w'' (D.h k) (D.B k) (D.n k) (D.d k) (sk + kk + x) (D.l k) ∧ Fr w' w'' (· = D.h k)) =>
                      (by
                        obtain ⟨A', c', he, ho, hr, hf⟩ := h
                        rw [HLL.out] at ho
                        have := hx.mcall hk2 hr hf
                        rw [HPP.out.2, HS1.out] at this
                        exact ⟨A', c', he, ho, hf, this⟩ :
                        ∃ A' c', e = .returned (.tuple #[.slice A' x c', .int .i64 0]) ∧ Own w'' w'.heap.size 5 1 A' x c' (u8s L) ∧ Fr w' w'' (· = D.h k) ∧ RSt w w'' D s1 s1 S M cap osx ob o))
                    go_upto_region 35 with (fail)
                    have j1 := J.out.ex (Ext.refl W).drew
                    go_region_held3 (fun w' => w'.cell? ⟨q5, k, none⟩ = some (.pointer (some ⟨D.g k, 0, none⟩)) ∧ w'.cell? ⟨ob, 2, none⟩ = some (.int .i64 o.N)) (go_keep) (first
                      | (go_at_call 27; (with_reducible refine (CN.out _ (by with_reducible assumption)).mono ?_); rintro en vF ⟨An, cn, rfl, on, jF⟩; have k0 := jF.inv.c5 k hk2; have k1 := jF.b2; rw [HDQ.out.1] at k0))
                    have JF := Lib.hid jF
                    clear jF k0 k1 c5 c6 b2 j1
                    have c5 : vF.cell? ⟨q5, k, none⟩ = some (.pointer (some ⟨D.g k, 0, none⟩)) := by rw [← HDQ.out.1]; exact JF.out.inv.c5 k hk2
                    have c6 : vF.cell? ⟨q6, k, none⟩ = some (.pointer (some ⟨D.h k, 0, none⟩)) := by rw [← HDQ.out.2]; exact JF.out.inv.c6 k hk2
                    have b2 := JF.out.b2
                    go_wp2_with fail
                    have j1 := JF.out.ex (Ext.refl vF).drew
                    go_region_held3 (fun w' => w'.cell? ⟨q6, k, none⟩ = some (.pointer (some ⟨D.h k, 0, none⟩)) ∧ w'.cell? ⟨ob, 2, none⟩ = some (.int .i64 o.N)) (go_keep) (first
                      | (go_at_call 26; (with_reducible refine (CM.out _ (by with_reducible assumption)).mono ?_); rintro en vG ⟨Am, cm, rfl, om, fm, jG⟩; have k0 := jG.inv.c6 k hk2; have k1 := jG.b2; rw [HDQ.out.2] at k0))
                    have JG := Lib.hid (And.intro jG (And.intro om fm))
                    clear jG k0 k1 c5 c6 b2 j1
                    have r0 := run_str (P := Tryd.prog) (w := vG) (s := 9) Tryd.underlying26 Tryd.underlying5 Tryd.underlying9 cm om.rd
                    clear om fm
                    have onG := JG.out.2.2.own on.drew (fun a ha e => by
                      have h1 := on.base_le a.block (by rw [ha]; rfl)
                      have h2 := (J.out.inv.rm k hk2).lt
                      have e : a.block = D.h k := e
                      simp at h1
                      omega)
                    have r1 := run_str (P := Tryd.prog) (w := vG) (s := 9) Tryd.underlying26 Tryd.underlying5 Tryd.underlying9 cn onG.rd
                    have hxb : x ≤ 140737488351232 := by have h1 := HRD.out.2.2; have h2 := (J.out.inv.rm k hk2).small; omega
                    have HL8 := Lib.hid (show ∀ y ∈ L, y < 256 from fun y hy => (J.out.inv.rm k hk2).byte y (by rw [← HLL.out] at hy; exact List.mem_of_mem_drop (List.mem_of_mem_take hy)))
                    have HON := Lib.hid onG
                    clear on onG
                    go_wp2_with fail
                    refine (num_nil _).mono ?_
                    rintro e vH ⟨rfl, xH⟩
                    have JH := Lib.hid (JG.out.1.ex xH)
                    have ho5 : Own vH W.heap.size 5 1 An x cn (u8s L) := HON.out.ext xH
                    have HO5 := Lib.hid ho5
                    have HZW := Lib.hid (show W.heap.size ≤ vH.heap.size by have h1 := JH.out.lt; have h2 := HWO.out; omega)
                    clear xH r0 r1 ho5
                    go_wp2_with (at_builtin; refine held ?_)
                    refine Held.go (wp_app (m := 2) (news := u8s [1, 2]) eltU8 (base := W.heap.size) (HO5.out.alloc _) (Rd.new _ _ _ _) (u8s_one _) (by omega) (.inr ⟨by omega, by omega⟩) (by have := HZW.out; simp; omega) _ _ rfl rfl rfl rfl ?_)
                    intro A3 c3 w3 o3 g3 hA3 _
                    rw [← u8s_append] at o3
                    have JX := Lib.hid (RSt.off J.out (JH.out.ex ((Ext.refl vH).alloc _)) (Fr.grows g3) (fun i hi => HO5.out.base_le i hi))
                    obtain ⟨gb, rfl⟩ := o3.head (by omega)
                    have hbb := o3.base_le gb rfl
                    obtain ⟨T, hT⟩ : ∃ T, x + 2 = T := ⟨_, rfl⟩
                    have hTi : (x : Int) + 2 = (T : Int) := by omega
                    rw [hT] at o3
                    have hTb : T ≤ 140737488351234 := by omega
                    have H83 := Lib.hid (show ∀ y ∈ L ++ [1, 2], y < 256 from fun y hy => by
                      rcases List.mem_append.1 hy with h | h
                      · exact HL8.out y h
                      · simp at h; omega)
                    have H3 := Lib.hid o3
                    have HBB := Lib.hid hbb
                    clear o3 g3 hA3 hbb hT
                    go_wp2_with fail
                    go_loopw [185] (fun  vi wr => ∃ (z : Nat) (k : List Nat), vi = .int .i64 (z : Int) ∧ z ≤ T ∧ Hid ((∀ x ∈ k, x < 256) ∧ Own wr W.heap.size 5 1 (some ⟨gb, 0, none⟩) T c3 (u8s k) ∧ Fr w3 wr (· = gb))) (fun  vi _ => T - (intOf vi).toNat)
                    case atStart => exact ⟨0, _, rfl, by omega, H83.out, H3.out, Fr.refl _ _⟩
                    case round =>
                      obtain ⟨z, k, rfl, hz, HL⟩ := hrel
                      by_cases hzt : z < T
                      · obtain ⟨ad, x, e, hx, hc⟩ := HL.out.2.1.rd.byte (k := z) (by omega)
                        injection e with e
                        subst e
                        have hx8 := HL.out.1 x (mem_of_at hx.out)
                        have hc : wr.cell? ⟨gb, z, none⟩ = some (.int .u8 (x : Int)) := by
                          rwa [show (⟨gb, 0, none⟩ : Addr).add z = ⟨gb, z, none⟩ by unfold Addr.add; split <;> simp_all] at hc
                        have hfr := HL.out.2.1.frozenAt z
                        have e1 := u8_xor99 x hx8
                        have hx9 : x ^^^ 99 < 256 := Nat.xor_lt_two_pow (n := 8) hx8 (by decide)
                        have k0 : (0 : Int) ≤ z := by omega
                        have k1 : (z : Int) < T := by omega
                        have ho2 := HL.out.2.1.stored z (.int .u8 ((x ^^^ 99 : Nat) : Int))
                        have hset : (u8s k).set z (.int .u8 ((x ^^^ 99 : Nat) : Int)) = u8s (k.set z (x ^^^ 99)) := by simp [u8s, List.map_set]
                        rw [hset] at ho2
                        have hl2 : ∀ y ∈ k.set z (x ^^^ 99), y < 256 := fun y hy => by
                          rcases List.mem_or_eq_of_mem_set hy with h | rfl
                          · exact HL.out.1 y h
                          · exact hx9
                        have hx2 : Fr w3 (wr.setCell ⟨gb, z, none⟩ (.int .u8 ((x ^^^ 99 : Nat) : Int))) (· = gb) := HL.out.2.2.trans (Fr.store wr ⟨gb, z, none⟩ _) (fun i _ h => h)
                        have HF := Lib.hid (And.intro hl2 (And.intro ho2 hx2))
                        clear ho2 hset hl2 hx2 hx hx8 hz
                        generalize k.set z (x ^^^ 99) = l2 at *
                        generalize x ^^^ 99 = y at *
                        go_wp2_with fail
                        go_roundw
                        case rel => exact ⟨z + 1, l2, by go_num, by omega, HF.out.1, HF.out.2.1, HF.out.2.2⟩
                        case measure => simp [intOf]; omega
                      · obtain rfl : z = T := by omega
                        have JY := Lib.hid (RSt.off J.out JX.out HL.out.2.2 (fun i hi => by rw [hi]; exact HBB.out))
                        clear HL
                        go_wp2_with fail
                        go_roundw
                        case rel => exact ⟨i + 1, s1, by go_num, by omega, JY.out.inv, JY.out.own⟩
                        case measure => simp [intOf]; omega
                · as_aux_lemma =>
                    have hno : ∀ x kk, Wr.rd ((D.l k).drop sk) = some (x, kk) → o.N < (x : Int) ∨ D.n k < sk + kk + x := fun x kk h => by
                      by_cases h1 : o.N < (x : Int)
                      · exact .inl h1
                      · right
                        exact Nat.not_le.1 (fun h2 => hok ⟨x, kk, h, Int.not_lt.1 h1, h2⟩)
                    have CN := Lib.hid (fun w' (hx : RSt w w' D s s S M cap osx ob o) => (rbytes_no (RS.out w' hx) o.N hno (SE.out w' hx.inv.ext)).mono fun e w'' (h : e = BytesNo (E 1) (.slice none 0 0) ∧ ∃ j, w'' = w'.drewN j) =>
                      (by
                        obtain ⟨he, j, rfl⟩ := h
                        exact ⟨he, hx.ex ((Ext.refl w').drewN j)⟩ :
                        e = .returned (.tuple #[.slice none 0 0, .iface 86 (.pointer (some (E 1)))]) ∧ RSt w w'' D s s S M cap osx ob o))
                    have CM := Lib.hid (fun w' (hx : RSt w w' D s s S M cap osx ob o) => (mbytes_no (RM.out w' s hx) o.N hno).mono fun e w'' (h : e = .returned (.tuple #[.slice none 0 0, .int .i64 3]) ∧ Ext w' w'') => (⟨h.1, hx.ex h.2⟩ : e = .returned (.tuple #[.slice none 0 0, .int .i64 3]) ∧ RSt w w'' D s s S M cap osx ob o))
                    clear hno hok
                    go_upto_region 35 with (fail)
                    have j1 := J.out.ex (Ext.refl W).drew
                    go_region_held3 (fun w' => w'.cell? ⟨q5, k, none⟩ = some (.pointer (some ⟨D.g k, 0, none⟩)) ∧ w'.cell? ⟨ob, 2, none⟩ = some (.int .i64 o.N)) (go_keep) (first
                      | (go_at_call 27; (with_reducible refine (CN.out _ (by with_reducible assumption)).mono ?_); rintro en vF ⟨rfl, jF⟩; have k0 := jF.inv.c5 k hk2; have k1 := jF.b2; rw [HDQ.out.1] at k0))
                    have JF := Lib.hid jF
                    clear jF k0 k1 c5 c6 b2 j1
                    have c5 : vF.cell? ⟨q5, k, none⟩ = some (.pointer (some ⟨D.g k, 0, none⟩)) := by rw [← HDQ.out.1]; exact JF.out.inv.c5 k hk2
                    have c6 : vF.cell? ⟨q6, k, none⟩ = some (.pointer (some ⟨D.h k, 0, none⟩)) := by rw [← HDQ.out.2]; exact JF.out.inv.c6 k hk2
                    have b2 := JF.out.b2
                    go_wp2_with fail
                    have j1 := JF.out.ex (Ext.refl vF).drew
                    go_region_held3 (fun w' => w'.cell? ⟨q6, k, none⟩ = some (.pointer (some ⟨D.h k, 0, none⟩)) ∧ w'.cell? ⟨ob, 2, none⟩ = some (.int .i64 o.N)) (go_keep) (first
                      | (go_at_call 26; (with_reducible refine (CM.out _ (by with_reducible assumption)).mono ?_); rintro en vG ⟨rfl, jG⟩; have k0 := jG.inv.c6 k hk2; have k1 := jG.b2; rw [HDQ.out.2] at k0))
                    have JG := Lib.hid jG
                    clear jG k0 k1 c5 c6 b2 j1
                    have r0 := run_str (P := Tryd.prog) (w := vG) (s := 9) Tryd.underlying26 Tryd.underlying5 Tryd.underlying9 0 (A := none) (n := 0) (l := []) ⟨rfl, fun h => absurd h (by omega)⟩
                    go_wp2_with fail
                    refine (NE.out _ JG.out.inv.ext).mono ?_
                    rintro e vH ⟨rfl, xH⟩
                    have JH := Lib.hid (JG.out.ex xH)
                    skip
                    have HZW := Lib.hid (show W.heap.size ≤ vH.heap.size by have h1 := JH.out.lt; have h2 := HWO.out; omega)
                    clear xH
                    go_wp2_with (at_builtin; refine held ?_)
                    refine Held.go (wp_app (m := 2) (news := u8s [1, 2]) eltU8 (base := W.heap.size) ((show Own vH W.heap.size 5 1 none 0 0 (u8s ([] : List Nat)) from Own.nil_).alloc _) (Rd.new _ _ _ _) (u8s_one _) (by omega) (.inr ⟨by omega, by omega⟩) (by have := HZW.out; simp; omega) _ _ rfl rfl rfl rfl ?_)
                    intro A3 c3 w3 o3 g3 hA3 _
                    rw [← u8s_append] at o3
                    have JX := Lib.hid (RSt.off J.out (JH.out.ex ((Ext.refl vH).alloc _)) (Fr.grows g3) (fun i hi => (show Own vH W.heap.size 5 1 none 0 0 (u8s ([] : List Nat)) from Own.nil_).base_le i hi))
                    obtain ⟨gb, rfl⟩ := o3.head (by omega)
                    have hbb := o3.base_le gb rfl
                    obtain ⟨T, hT⟩ : ∃ T, (0 : Nat) + 2 = T := ⟨_, rfl⟩
                    have hTi : ((0 : Nat) : Int) + 2 = (T : Int) := by omega
                    rw [hT] at o3
                    have hTb : T ≤ 140737488351234 := by omega
                    have H83 := Lib.hid (show ∀ y ∈ ([] : List Nat) ++ [1, 2], y < 256 from fun y hy => by
                      rcases List.mem_append.1 hy with h | h
                      · exact (fun y (hy : y ∈ ([] : List Nat)) => by cases hy) y h
                      · simp at h; omega)
                    have H3 := Lib.hid o3
                    have HBB := Lib.hid hbb
                    clear o3 g3 hA3 hbb hT
                    go_wp2_with fail
                    go_loopw [185] (fun  vi wr => ∃ (z : Nat) (k : List Nat), vi = .int .i64 (z : Int) ∧ z ≤ T ∧ Hid ((∀ x ∈ k, x < 256) ∧ Own wr W.heap.size 5 1 (some ⟨gb, 0, none⟩) T c3 (u8s k) ∧ Fr w3 wr (· = gb))) (fun  vi _ => T - (intOf vi).toNat)
                    case atStart => exact ⟨0, _, rfl, by omega, H83.out, H3.out, Fr.refl _ _⟩
                    case round =>
                      obtain ⟨z, k, rfl, hz, HL⟩ := hrel
                      by_cases hzt : z < T
                      · obtain ⟨ad, x, e, hx, hc⟩ := HL.out.2.1.rd.byte (k := z) (by omega)
                        injection e with e
                        subst e
                        have hx8 := HL.out.1 x (mem_of_at hx.out)
                        have hc : wr.cell? ⟨gb, z, none⟩ = some (.int .u8 (x : Int)) := by
                          rwa [show (⟨gb, 0, none⟩ : Addr).add z = ⟨gb, z, none⟩ by unfold Addr.add; split <;> simp_all] at hc
                        have hfr := HL.out.2.1.frozenAt z
                        have e1 := u8_xor99 x hx8
                        have hx9 : x ^^^ 99 < 256 := Nat.xor_lt_two_pow (n := 8) hx8 (by decide)
                        have k0 : (0 : Int) ≤ z := by omega
                        have k1 : (z : Int) < T := by omega
                        have ho2 := HL.out.2.1.stored z (.int .u8 ((x ^^^ 99 : Nat) : Int))
                        have hset : (u8s k).set z (.int .u8 ((x ^^^ 99 : Nat) : Int)) = u8s (k.set z (x ^^^ 99)) := by simp [u8s, List.map_set]
                        rw [hset] at ho2
                        have hl2 : ∀ y ∈ k.set z (x ^^^ 99), y < 256 := fun y hy => by
                          rcases List.mem_or_eq_of_mem_set hy with h | rfl
                          · exact HL.out.1 y h
                          · exact hx9
                        have hx2 : Fr w3 (wr.setCell ⟨gb, z, none⟩ (.int .u8 ((x ^^^ 99 : Nat) : Int))) (· = gb) := HL.out.2.2.trans (Fr.store wr ⟨gb, z, none⟩ _) (fun i _ h => h)
                        have HF := Lib.hid (And.intro hl2 (And.intro ho2 hx2))
                        clear ho2 hset hl2 hx2 hx hx8 hz
                        generalize k.set z (x ^^^ 99) = l2 at *
                        generalize x ^^^ 99 = y at *
                        go_wp2_with fail
                        go_roundw
                        case rel => exact ⟨z + 1, l2, by go_num, by omega, HF.out.1, HF.out.2.1, HF.out.2.2⟩
                        case measure => simp [intOf]; omega
                      · obtain rfl : z = T := by omega
                        have JY := Lib.hid (RSt.off J.out JX.out HL.out.2.2 (fun i hi => by rw [hi]; exact HBB.out))
                        clear HL
                        go_wp2_with fail
                        go_roundw
                        case rel => exact ⟨i + 1, s, by go_num, by omega, JY.out.inv, JY.out.own⟩
                        case measure => simp [intOf]; omega
              · have hK3b : (o.K == 3) = false := by simp [hK3]
                by_cases hK4 : o.K = 4
                · as_aux_lemma =>
                    have RK := RM.out W s J.out
                    have d0 := RK.c0
                    have d1 := RK.c1
                    have hle := RK.le
                    have hsm := RK.small
                    obtain ⟨lf, hlf⟩ : ∃ lf, D.n k - sk = lf := ⟨_, rfl⟩
                    have q1 : (D.n k : Int) - (sk : Int) = (lf : Int) := by omega
                    have hlfb : lf ≤ 140737488351232 := by omega
                    have HLF := Lib.hid (And.intro hlf hle)
                    have EN := err_same_ne
                    have LC := Lib.hid (fun w' (h : RSt w w' D s s S M cap osx ob o) => (rleft_any (RS.out w' h)).mono fun e w'' (q : e = .returned (.int .i64 ((D.n k - sk : Nat) : Int)) ∧ ∃ j, w'' = w'.drewN j) =>
                      (by
                        obtain ⟨he, j, rfl⟩ := q
                        exact ⟨he, h.ex ((Ext.refl w').drewN j)⟩ :
                        e = .returned (.int .i64 ((D.n k - sk : Nat) : Int)) ∧ RSt w w'' D s s S M cap osx ob o))
                    rw [hlf] at LC
                    clear RK hlf hle hsm
                    by_cases h0 : lf = 0
                    · subst h0
                      have EC := Lib.hid (fun w' (h : RSt w w' D s s S M cap osx ob o) => (rend_ok (show RdS w' (D.g k) (D.A k) (D.n k) (D.c k) (D.n k) (D.l k) by have h := RS.out w' h; rwa [show sk = D.n k by have := HLF.out; omega] at h)).mono fun e w'' (q : e = .returned .nilIface ∧ ∃ j, w'' = w'.drewN j) =>
                        (by
                          obtain ⟨he, j, rfl⟩ := q
                          exact ⟨he, h.ex ((Ext.refl w').drewN j)⟩ :
                          e = .returned .nilIface ∧ RSt w w'' D s s S M cap osx ob o))
                      go_upto_region 46 with (fail)
                      go_quiet (fail)
                      go_wp2_with fail
                      refine (EC.out _ (J.out.ex ((Ext.refl W).drewN _))).mono ?_
                      rintro e vE ⟨rfl, jE⟩
                      have JE := Lib.hid jE
                      clear c5 c6 EC jE d0 d1 b2
                      have c5 : vE.cell? ⟨q5, k, none⟩ = some (.pointer (some ⟨D.g k, 0, none⟩)) := by rw [← HDQ.out.1]; exact JE.out.inv.c5 k hk2
                      have c6 : vE.cell? ⟨q6, k, none⟩ = some (.pointer (some ⟨D.h k, 0, none⟩)) := by rw [← HDQ.out.2]; exact JE.out.inv.c6 k hk2
                      skip
                      go_wp2_with fail
                      refine (LC.out vE JE.out).mono ?_
                      rintro e vL ⟨rfl, jL⟩
                      have JL := Lib.hid jL
                      clear c5 c6 jL
                      go_wp2_with fail
                      go_roundw
                      case rel => exact ⟨i + 1, s, by go_num, by omega, JL.out.inv, JL.out.own⟩
                      case measure => simp [intOf]; omega
                    · have EC := Lib.hid (fun w' (h : RSt w w' D s s S M cap osx ob o) => (rend_no (RS.out w' h) (by have := HLF.out; omega) (SE.out w' h.inv.ext)).mono fun e w'' (q : e = .returned (.iface 86 (.pointer (some (E 1)))) ∧ ∃ j, w'' = w'.drewN j) =>
                        (by
                          obtain ⟨he, j, rfl⟩ := q
                          exact ⟨he, h.ex ((Ext.refl w').drewN j)⟩ :
                          e = .returned (.iface 86 (.pointer (some (E 1)))) ∧ RSt w w'' D s s S M cap osx ob o))
                      have l0 : ((lf : Int) == 0) = false := by simp; omega
                      have l1 : (0 : Int) < (lf : Int) := by omega
                      go_upto_region 46 with (fail)
                      go_quiet (fail)
                      go_wp2_with fail
                      refine (EC.out _ (J.out.ex ((Ext.refl W).drewN _))).mono ?_
                      rintro e vE ⟨rfl, jE⟩
                      have JE := Lib.hid jE
                      clear c5 c6 EC jE d0 d1 b2
                      have c5 : vE.cell? ⟨q5, k, none⟩ = some (.pointer (some ⟨D.g k, 0, none⟩)) := by rw [← HDQ.out.1]; exact JE.out.inv.c5 k hk2
                      have c6 : vE.cell? ⟨q6, k, none⟩ = some (.pointer (some ⟨D.h k, 0, none⟩)) := by rw [← HDQ.out.2]; exact JE.out.inv.c6 k hk2
                      skip
                      go_wp2_with fail
                      refine (LC.out vE JE.out).mono ?_
                      rintro e vL ⟨rfl, jL⟩
                      have JL := Lib.hid jL
                      clear c5 c6 jL
                      have c9 := (SE.out vL JL.out.inv.ext).2.1
                      go_wp2_with fail
                      go_roundw
                      case rel => exact ⟨i + 1, s, by go_num, by omega, JL.out.inv, JL.out.own⟩
                      case measure => simp [intOf]; omega
                · have hK4b : (o.K == 4) = false := by simp [hK4]
                  go_wp2_with fail
                  go_roundw
                  case rel => exact ⟨i + 1, s, by go_num, by omega, J.out.inv, J.out.own⟩
                  case measure => simp [intOf]; omega
        · obtain rfl : i = M := by omega
          go_wp2_with fail
          go_returns
          exact ⟨rfl, HI.out.1.ext⟩
end Go.Proofs.YtelnnlfbfbbnaaaDoor
