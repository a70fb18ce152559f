/-
  The document's net: Get, walked.
-/
import Derived.Test.YteflnnlihblpgaaDoorMgNetGetsProof1
namespace Go.Proofs.YteflnnlihblpgaaDoor
set_option maxRecDepth 100000
open Go.RowKit
set_option linter.unusedVariables false
/-- The reader on its way, the numbers. -/
structure RMg (w wr : World) (g : Nat) (A : Option Addr) (n c at_ : Nat) (l : List Nat) (B : Option Addr) (L d : Nat) (ns : List Int) : Prop where
  rs : RmS wr g A n c at_ l
  own : Own wr w.heap.size 3 1 B L d (ints ns)
  x : Ext w wr
  lt : w.heap.size ≤ g
  oA : 0 < n → ∀ a, A = some a → a.block < w.heap.size
  p : Part l at_ ns
section
variable {w wr w' : World} {g n c at_ L d : Nat} {A B : Option Addr} {l : List Nat} {ns : List Int}
theorem RMg.app (h : RMg w wr g A n c at_ l B L d ns) {x k : Nat} {w1 : World} (hr : Wr.rd (l.drop at_) = some (x, k)) (hx : x ≤ 1099511627776) (h1 : RmS w1 g A n c (at_ + k) l) (hf : Fr wr w1 (· = g)) (hg : Grows (w1.alloc (.cells #[.int .i64 (x : Int)] 3)) w' B) {B' : Option Addr} {d' : Nat} (ho : Own w' w.heap.size 3 1 B' (L + 1) d' (ints ns ++ ints [(x : Int)])) : RMg w w' g A n c (at_ + k) l B' (L + 1) d' (ns ++ [(x : Int)]) := by
  have X4 := (Ext.refl w1).alloc (.cells #[.int .i64 (x : Int)] 3)
  have o1 := (hf.own h.own (fun a ha e => h.own.away_t h.rs.blk (by decide) a ha e)).ext X4
  have x1 : Ext w (w1.alloc (.cells #[.int .i64 (x : Int)] 3)) := (Fr.ext h.x hf (fun i e => by have e : i = g := e; have := h.lt; omega)).trans X4
  have h2 := h1.ext X4
  have f2 := Fr.grows hg
  have nof : ∀ {q : Nat}, (∀ b, B = some b → b.block ≠ q) → ¬ B.map (·.block) = some q := fun hq e => by
    cases B with
    | none => cases e
    | some b => exact hq b rfl (by simpa using e)
  exact ⟨h2.frm f2 (nof (o1.away_t h2.blk (by decide))) (fun h0 a ha => nof (fun b hb e => by
    have q1 := h.oA h0 a ha
    have q2 := o1.base_le b.block (by rw [hb]; rfl)
    omega)), by rw [ints_app']; exact ho, hg.ext x1 (fun q hq => o1.base_le q hq), h.lt, h.oA, h.p.next h.rs.byte hr hx⟩
end
theorem putL_ne (es : List En) : [] ≠ putL es := fun h => by
  have h1 := congrArg List.length h
  unfold putL at h1
  rw [List.length_append, List.length_nil] at h1
  have := Wr.num_pos es.length
  omega
set_option maxHeartbeats 12800000 in
theorem rmget_any (A : Option Addr) (n c : Nat) (l : List Nat) (w : World) (hr : Rd w 1 A n (u8s l)) (hl : ∀ x ∈ l, x < 256) (hn : n ≤ 140737488351232) (hnc : n ≤ c) : Calls Tryd.prog 44 #[.slice A n c] w fun x w' => MsgOut l w.heap.size (.int .i64 (getErr l : Nat)) (.int .i64 0) x w' ∧ Ext w w' := by
  have hlen : l.length = n := by have h := hr.len; rw [u8s_len] at h; omega
  have X0 := (Ext.refl w).alloc (.cells #[.int .i64 0, .int .i64 0, .int .i64 0, .int .i64 0, .int .i64 0, .int .i64 0, .int .i64 0, .int .i64 0, .slice none 0 0] 76)
  have HV := Lib.hid (And.intro (heap_alloc_new w (.cells #[.int .i64 0, .int .i64 0, .int .i64 0, .int .i64 0, .int .i64 0, .int .i64 0, .int .i64 0, .int .i64 0, .slice none 0 0] 76)) (And.intro X0 (hr.ext X0)))
  have HL := Lib.hid hl
  clear X0 hr hl
  go_enter Tryd.func44, Tryd.ntmps44
  go_upto_region 1 with (fail)
  generalize w.alloc (.cells #[.int .i64 0, .int .i64 0, .int .i64 0, .int .i64 0, .int .i64 0, .int .i64 0, .int .i64 0, .int .i64 0, .slice none 0 0] 76) = V at *
  obtain ⟨rb, hrb⟩ : ∃ rb, w.heap.size = rb := ⟨_, rfl⟩
  simp only [hrb]
  have HRB := Lib.hid hrb
  rw [hrb] at HV
  clear hrb
  have CO := Lib.hid (ropen_any A n c l V hn hnc HV.out.2.2 HL.out)
  unfold OOut at CO
  obtain ⟨l0, hl0⟩ : ∃ l0, (opened l).1 = l0 := ⟨_, rfl⟩
  obtain ⟨e0, he0⟩ : ∃ e0, (opened l).2 = e0 := ⟨_, rfl⟩
  obtain ⟨n0, hn0⟩ : ∃ n0, l0.length = n0 := ⟨_, rfl⟩
  rw [hl0, he0, hn0] at CO
  have HO := Lib.hid (And.intro hl0 (And.intro he0 hn0))
  have hn0m : n0 ≤ 140737488351232 := by have h := opened_len l; rw [hl0, hn0, hlen] at h; omega
  have HB0 := Lib.hid (show ∀ x ∈ l0, x < 256 by rw [← hl0]; exact opened_byte HL.out)
  clear hl0 he0 hn0
  go_upto_region 2 with (go_at_call 75; refine CO.out.mono ?_; rintro _ w1 ⟨A1, c1, rfl, o1, x1⟩)
  have HX1 := Lib.hid (And.intro (HV.out.2.1.trans x1) ((x1.block rb (block_lt HV.out.1)).trans HV.out.1))
  have HO1 := Lib.hid (And.intro o1 (show rb < w1.heap.size from Nat.lt_of_lt_of_le (block_lt HV.out.1) x1.size))
  clear o1 x1 CO
  by_cases h0 : e0 = 0
  · have HG0 : Hid ((opened l).2 = 0) := Lib.hid (HO.out.2.1.trans h0)
    have hgo : getErr l = 3 := by unfold getErr; rw [HG0.out]; rfl
    have HGE := Lib.hid hgo
    subst h0
    clear hgo
    rw [show ((0 : Nat) : Int) = 0 from rfl]
    have XR := (Ext.refl w1).alloc (.cells #[.slice A1 n0 c1, .int .i64 0] 115)
    have b1 := heap_alloc_new w1 (.cells #[.slice A1 n0 c1, .int .i64 0] 115)
    have XI := (Ext.refl (w1.alloc (.cells #[.slice A1 n0 c1, .int .i64 0] 115))).alloc (.cells #[] 3)
    have o2 : Own ((w1.alloc (.cells #[.slice A1 n0 c1, .int .i64 0] 115)).alloc (.cells #[] 3)) w1.heap.size 3 1 (some ⟨w1.heap.size + 1, 0, none⟩) 0 0 (ints []) := (by
      have h := World.ownsRow_lit (base := w1.heap.size) (e := 3) (size := 1) (w1.alloc (.cells #[.slice A1 n0 c1, .int .i64 0] 115)) #[] 0 XR.size (by simp [maxLen]) rfl
      simp only [World.size_alloc] at h
      exact h)
    have HG : Hid (RMg w1 ((w1.alloc (.cells #[.slice A1 n0 c1, .int .i64 0] 115)).alloc (.cells #[] 3)) w1.heap.size A1 n0 c1 0 l0 (some ⟨w1.heap.size + 1, 0, none⟩) 0 0 []) := Lib.hid (by
      have hro := HO1.out.1.rd
      refine ⟨⟨(XI.block _ (block_lt b1)).trans b1, (hro.ext XR).ext XI, HO1.out.1.cap_le, fun h0 a ha e => ?_, by omega, HB0.out, hn0m⟩, o2, XR.trans XI, Nat.le_refl _, fun h0 a ha => ?_, Part.nil⟩
      · obtain ⟨a', ha', hlt, _⟩ := hro.2 h0
        rw [ha] at ha'
        injection ha' with ha'
        rw [ha'] at e
        omega
      · obtain ⟨a', ha', hlt, _⟩ := hro.2 h0
        rw [ha] at ha'
        injection ha' with ha'
        rw [ha']
        exact hlt)
    clear XR b1 XI o2
    go_upto_region 6 with (fail)
    generalize (w1.alloc (.cells #[.slice A1 n0 c1, .int .i64 0] 115)).alloc (.cells #[] 3) = W0 at *
    obtain ⟨g, hg⟩ : ∃ g, w1.heap.size = g := ⟨_, rfl⟩
    rw [hg] at HG
    simp only [hg]
    have HGG := Lib.hid hg
    clear hg
    go_loopw [7, 8, 9] (fun v7 _ _ wr => ∃ (at_ L d : Nat) (B : Option Addr) (ns : List Int), v7 = .slice B L d ∧ L ≤ 8 ∧ Hid (ns.length = L ∧ RMg w1 wr g A1 n0 c1 at_ l0 B L d ns)) (fun v7 _ _ _ => 8 - slen v7)
    case atStart => exact ⟨0, 0, 0, _, [], rfl, by omega, rfl, HG.out⟩
    case round =>
      obtain ⟨at_, L, d, B, ns, rfl, hL, HI⟩ := hrel
      clear HG
      by_cases hlt : L < 8
      · have hL3 : (L : Int) < 8 := by omega
        by_cases hok : ∃ x k', Wr.rd (l0.drop at_) = some (x, k') ∧ x ≤ 1099511627776
        · obtain ⟨x, k', hrd, hx⟩ := hok
          have CN := Lib.hid (mnum_ok HI.out.2.rs hrd 1099511627776 (by omega))
          have HRR := Lib.hid hrd
          clear hrd
          go_upto_region 10 with (go_at_call 61; refine CN.out.mono ?_; rintro e w4 ⟨rfl, s4, f4⟩)
          have X4 := (Ext.refl w4).alloc (.cells #[.int .i64 (x : Int)] 3)
          have o4 : Own (w4.alloc (.cells #[.int .i64 (x : Int)] 3)) w1.heap.size 3 1 B L d (ints ns) := (f4.own HI.out.2.own (fun a ha e => HI.out.2.own.away_t HI.out.2.rs.blk (by decide) a ha e)).ext X4
          have RN : Rd (w4.alloc (.cells #[.int .i64 (x : Int)] 3)) 1 (some ⟨w4.heap.size, 0, none⟩) 1 (ints [(x : Int)]) := Rd.new w4 #[.int .i64 (x : Int)] 3 (0, 0)
          have hsz : w1.heap.size ≤ (w4.alloc (.cells #[.int .i64 (x : Int)] 3)).heap.size := by have h1 := HI.out.2.x.size; have h2 := f4.size; rw [World.size_alloc]; omega
          have H4 := Lib.hid (And.intro s4 f4)
          clear s4 f4 X4 CN
          go_wp2_with (at_builtin; refine held ?_)
          refine Held.go (wp_app (m := 1) (news := ints [(x : Int)]) eltIn o4 RN (ints_one' _) (by omega) (.inr ⟨by omega, by omega⟩) hsz _ _ rfl rfl rfl rfl ?_)
          intro A3 c3 w3 o3 g3 _ _
          have HN := Lib.hid (HI.out.2.app HRR.out hx H4.out.1 H4.out.2 g3 o3)
          have HLN := Lib.hid HI.out.1
          clear o3 g3 o4 RN hsz HI H4 HRR
          go_wp2_with fail
          go_roundw
          case rel => exact ⟨at_ + k', L + 1, c3, A3, ns ++ [(x : Int)], rfl, by omega, by rw [List.length_append, HLN.out]; rfl, HN.out⟩
          case measure => simp [slen]; omega
        · have hno : ∀ x k', Wr.rd (l0.drop at_) = some (x, k') → (1099511627776 : Int) < (x : Int) := fun x k' hr => by
            rcases Nat.lt_or_ge 1099511627776 x with h | h
            · omega
            · exact absurd ⟨x, k', hr, h⟩ hok
          have CN := Lib.hid (mnum_no HI.out.2.rs 1099511627776 hno)
          have HNO := Lib.hid (fun (m : Ms) (es : List En) (hf : m.form es = true) (hle : l = m.put es) => raw_no_next HI.out.2.p (by rw [HI.out.1]; exact hlt) hno hf (HO.out.1.symm.trans (opened_put hle).2))
          clear hok hno
          go_upto_region 8 with (go_at_call 61; refine CN.out.mono ?_; rintro e w4 ⟨rfl, x4⟩)
          have HX := Lib.hid (HI.out.2.x.trans x4)
          have HRS := Lib.hid (And.intro ((HX.out.block _ HO1.out.2).trans HX1.out.2) (HX1.out.1.trans HX.out))
          clear CN HI x4
          have r0 : w4.cell? ⟨rb, 0, none⟩ = some (.int .i64 0) := block_cell (HRS.out.1) 0
          have r1 : w4.cell? ⟨rb, 1, none⟩ = some (.int .i64 0) := block_cell (HRS.out.1) 1
          have r2 : w4.cell? ⟨rb, 2, none⟩ = some (.int .i64 0) := block_cell (HRS.out.1) 2
          have r3 : w4.cell? ⟨rb, 3, none⟩ = some (.int .i64 0) := block_cell (HRS.out.1) 3
          have r4 : w4.cell? ⟨rb, 4, none⟩ = some (.int .i64 0) := block_cell (HRS.out.1) 4
          have r5 : w4.cell? ⟨rb, 5, none⟩ = some (.int .i64 0) := block_cell (HRS.out.1) 5
          have r6 : w4.cell? ⟨rb, 6, none⟩ = some (.int .i64 0) := block_cell (HRS.out.1) 6
          have r7 : w4.cell? ⟨rb, 7, none⟩ = some (.int .i64 0) := block_cell (HRS.out.1) 7
          have r8 : w4.cell? ⟨rb, 8, none⟩ = some (.slice none 0 0) := block_cell (HRS.out.1) 8
          have q0 := block_fz (HRS.out.1) 0
          have q1 := block_fz (HRS.out.1) 1
          have q2 := block_fz (HRS.out.1) 2
          have q3 := block_fz (HRS.out.1) 3
          have q4 := block_fz (HRS.out.1) 4
          have q5 := block_fz (HRS.out.1) 5
          have q6 := block_fz (HRS.out.1) 6
          have q7 := block_fz (HRS.out.1) 7
          have q8 := block_fz (HRS.out.1) 8
          go_wp2_with fail
          have hz := st9 (W := w4) (HRS.out.1) (.int .i64 0) (.int .i64 0) (.int .i64 0) (.int .i64 0) (.int .i64 0) (.int .i64 0) (.int .i64 0) (.int .i64 0) (.slice none 0 0)
          have HZ := Lib.hid (And.intro hz.1 (Fr.ext (HRS.out.2) hz.2 (fun i e => by have e : i = rb := e; have := HRB.out; omega)))
          clear hz r0 q0 r1 q1 r2 q2 r3 q3 r4 q4 r5 q5 r6 q6 r7 q7 r8 q8
          generalize (((((((((w4.setCell ⟨rb, 0, none⟩ (.int .i64 0)).setCell ⟨rb, 1, none⟩ (.int .i64 0)).setCell ⟨rb, 2, none⟩ (.int .i64 0)).setCell ⟨rb, 3, none⟩ (.int .i64 0)).setCell ⟨rb, 4, none⟩ (.int .i64 0)).setCell ⟨rb, 5, none⟩ (.int .i64 0)).setCell ⟨rb, 6, none⟩ (.int .i64 0)).setCell ⟨rb, 7, none⟩ (.int .i64 0)).setCell ⟨rb, 8, none⟩ (.slice none 0 0)) = Z at *
          have z0 : Z.cell? ⟨rb, 0, none⟩ = some (.int .i64 0) := block_cell (HZ.out.1) 0
          have z1 : Z.cell? ⟨rb, 1, none⟩ = some (.int .i64 0) := block_cell (HZ.out.1) 1
          have z2 : Z.cell? ⟨rb, 2, none⟩ = some (.int .i64 0) := block_cell (HZ.out.1) 2
          have z3 : Z.cell? ⟨rb, 3, none⟩ = some (.int .i64 0) := block_cell (HZ.out.1) 3
          have z4 : Z.cell? ⟨rb, 4, none⟩ = some (.int .i64 0) := block_cell (HZ.out.1) 4
          have z5 : Z.cell? ⟨rb, 5, none⟩ = some (.int .i64 0) := block_cell (HZ.out.1) 5
          have z6 : Z.cell? ⟨rb, 6, none⟩ = some (.int .i64 0) := block_cell (HZ.out.1) 6
          have z7 : Z.cell? ⟨rb, 7, none⟩ = some (.int .i64 0) := block_cell (HZ.out.1) 7
          have z8 : Z.cell? ⟨rb, 8, none⟩ = some (.slice none 0 0) := block_cell (HZ.out.1) 8
          refine bodyPost_ret (v := .tuple #[.agg #[.int .i64 0, .int .i64 0, .int .i64 0, .int .i64 0, .int .i64 0, .int .i64 0, .int .i64 0, .int .i64 0, .slice none 0 0], .int .i64 3]) (by simp [results, Tryd.results44, go_sem, z0, z1, z2, z3, z4, z5, z6, z7, z8]) rfl ?_
          exact ⟨.inr ⟨HNO.out, by rw [HGE.out]; rfl⟩, HZ.out.2⟩
      · obtain rfl : L = 8 := by omega
        obtain ⟨gB, rfl⟩ := HI.out.2.own.head (by omega)
        obtain ⟨a0, a1, a2, a3, a4, a5, a6, a7, rfl⟩ := eight_of HI.out.1
        have HG := Lib.hid HI.out.2
        clear HI hL hlt
        by_cases hok : ∃ x k', Wr.rd (l0.drop at_) = some (x, k') ∧ x ≤ n0 ∧ at_ + k' + x ≤ n0
        · obtain ⟨x, k', hrd, hx, hfit⟩ := hok
          have CB := Lib.hid (mbytes_ok HG.out.rs hrd (n0 : Int) (by omega) hfit)
          have HRD := Lib.hid hrd
          clear hrd
          go_upto_region 12 with (go_at_call 63; refine CB.out.mono ?_; rintro _ w5 ⟨A4, c4, rfl, o4, rs4, f4⟩)
          have HX5 := Lib.hid (Fr.ext HG.out.x f4 (fun i e => by have e : i = g := e; have := HG.out.lt; omega))
          have HOI := Lib.hid (f4.own HG.out.own (fun a ha e => HG.out.own.away_t HG.out.rs.blk (by decide) a ha e))
          have HP := Lib.hid HG.out.p
          have HBY := Lib.hid HG.out.rs.byte
          have HR4 := Lib.hid rs4
          have CL := Lib.hid (rread_any A4 x c4 ((l0.drop (at_ + k')).take x) w5 o4.rd (fun y hy => HBY.out y (List.mem_of_mem_drop (List.mem_of_mem_take hy))) (by omega) o4.cap_le)
          clear CB o4 rs4 f4 HG
          go_upto_region 13 with (go_at_call 33; refine CL.out.mono ?_; rintro _ w6 ⟨hro, x6⟩; rcases hro with ⟨ss, B, q, d, hql, hgl, hle, rfl, ol⟩ | ⟨hnl, rfl⟩)
          · have HW := Lib.hid (HX5.out.trans x6)
            have HOW := Lib.hid (HOI.out.ext x6)
            have HOL := Lib.hid (And.intro hql (And.intro hgl (And.intro hle (And.intro ol (show w1.heap.size ≤ w5.heap.size from HX5.out.size)))))
            have hq : q ≤ 64 := by have h1 := hgl.1; rw [ents_len] at h1; omega
            have HR6 := Lib.hid (HR4.out.ext x6)
            clear hql hgl hle ol CL x6 HOI HR4
            have HCL := fun (i : Nat) (v : Int) (hv : ([a0, a1, a2, a3, a4, a5, a6, a7] : List Int)[i]? = some v) U (hx : Ext w6 U) => (HOW.out.ext hx).celln (ints_at' hv)
            have y0 := HCL 0 a0 rfl
            have y1 := HCL 1 a1 rfl
            have y2 := HCL 2 a2 rfl
            have y3 := HCL 3 a3 rfl
            have y4 := HCL 4 a4 rfl
            have y5 := HCL 5 a5 rfl
            have y6 := HCL 6 a6 rfl
            have y7 := HCL 7 a7 rfl
            go_upto_region 13 with (fail)
            have HY : Ext w6 w6.drew := (Ext.refl w6).drew
            refine d_region (fun U => Ext w6 U) [] (by kernel_rfl) ?_
            refine d_take (i := 0) (v := ?_) [] (some 55) rfl (by rfl) (by kernel_rfl) (by kernel_rfl) (by kernel_rfl) (by kernel_rfl) (by kernel_rfl) (by kernel_rfl) (fun _ _ _ h => h) (.inl ⟨by rfl, ?_⟩) HY ?_
            rotate_left 1
            · (intro W hW; (try dsimp only at hW); go_simp; try with_reducible rfl)
            try simp only [Act.put, List.setIfInBounds_toArray, List.set_cons_zero, List.set_cons_succ]
            refine d_take (i := 1) (v := ?_) [] (some 56) rfl (by rfl) (by kernel_rfl) (by kernel_rfl) (by kernel_rfl) (by kernel_rfl) (by kernel_rfl) (by kernel_rfl) (fun _ _ _ h => h) (.inl ⟨by rfl, ?_⟩) HY ?_
            rotate_left 1
            · (intro W hW; (try dsimp only at hW); go_simp; try with_reducible rfl)
            try simp only [Act.put, List.setIfInBounds_toArray, List.set_cons_zero, List.set_cons_succ]
            refine d_take (i := 2) (v := ?_) [] (some 57) rfl (by rfl) (by kernel_rfl) (by kernel_rfl) (by kernel_rfl) (by kernel_rfl) (by kernel_rfl) (by kernel_rfl) (fun _ _ _ h => h) (.inl ⟨by rfl, ?_⟩) HY ?_
            rotate_left 1
            · (intro W hW; (try dsimp only at hW); go_simp; try with_reducible rfl)
            try simp only [Act.put, List.setIfInBounds_toArray, List.set_cons_zero, List.set_cons_succ]
            refine d_take (i := 3) (v := ?_) [] (some 58) rfl (by rfl) (by kernel_rfl) (by kernel_rfl) (by kernel_rfl) (by kernel_rfl) (by kernel_rfl) (by kernel_rfl) (fun _ _ _ h => h) (.inl ⟨by rfl, ?_⟩) HY ?_
            rotate_left 1
            · (intro W hW; (try dsimp only at hW); go_simp; try with_reducible rfl)
            try simp only [Act.put, List.setIfInBounds_toArray, List.set_cons_zero, List.set_cons_succ]
            refine d_take (i := 4) (v := ?_) [] (some 59) rfl (by rfl) (by kernel_rfl) (by kernel_rfl) (by kernel_rfl) (by kernel_rfl) (by kernel_rfl) (by kernel_rfl) (fun _ _ _ h => h) (.inl ⟨by rfl, ?_⟩) HY ?_
            rotate_left 1
            · (intro W hW; (try dsimp only at hW); go_simp; try with_reducible rfl)
            try simp only [Act.put, List.setIfInBounds_toArray, List.set_cons_zero, List.set_cons_succ]
            refine d_take (i := 5) (v := ?_) [] (some 60) rfl (by rfl) (by kernel_rfl) (by kernel_rfl) (by kernel_rfl) (by kernel_rfl) (by kernel_rfl) (by kernel_rfl) (fun _ _ _ h => h) (.inl ⟨by rfl, ?_⟩) HY ?_
            rotate_left 1
            · (intro W hW; (try dsimp only at hW); go_simp; try with_reducible rfl)
            try simp only [Act.put, List.setIfInBounds_toArray, List.set_cons_zero, List.set_cons_succ]
            refine d_take (i := 6) (v := ?_) [] (some 61) rfl (by rfl) (by kernel_rfl) (by kernel_rfl) (by kernel_rfl) (by kernel_rfl) (by kernel_rfl) (by kernel_rfl) (fun _ _ _ h => h) (.inl ⟨by rfl, ?_⟩) HY ?_
            rotate_left 1
            · (intro W hW; (try dsimp only at hW); go_simp; try with_reducible rfl)
            try simp only [Act.put, List.setIfInBounds_toArray, List.set_cons_zero, List.set_cons_succ]
            refine d_take (i := 7) (v := ?_) [] (some 62) rfl (by rfl) (by kernel_rfl) (by kernel_rfl) (by kernel_rfl) (by kernel_rfl) (by kernel_rfl) (by kernel_rfl) (fun _ _ _ h => h) (.inl ⟨by rfl, ?_⟩) HY ?_
            rotate_left 1
            · (intro W hW; (try dsimp only at hW); go_simp; try with_reducible rfl)
            try simp only [Act.put, List.setIfInBounds_toArray, List.set_cons_zero, List.set_cons_succ]
            refine d_take (i := 8) (v := ?_) [] (some 63) rfl (by rfl) (by kernel_rfl) (by kernel_rfl) (by kernel_rfl) (by kernel_rfl) (by kernel_rfl) (by kernel_rfl) (fun _ _ _ h => h) (.inl ⟨by rfl, ?_⟩) HY ?_
            rotate_left 1
            · (intro W hW; (try dsimp only at hW); go_simp; try with_reducible rfl)
            try simp only [Act.put, List.setIfInBounds_toArray, List.set_cons_zero, List.set_cons_succ]
            refine d_take (i := 9) (v := ?_) [] (some 64) rfl (by rfl) (by kernel_rfl) (by kernel_rfl) (by kernel_rfl) (by kernel_rfl) (by kernel_rfl) (by kernel_rfl) (fun _ _ _ h => h) (.inl ⟨by rfl, ?_⟩) HY ?_
            rotate_left 1
            · (intro W hW; (try dsimp only at hW); go_simp; try with_reducible rfl)
            try simp only [Act.put, List.setIfInBounds_toArray, List.set_cons_zero, List.set_cons_succ]
            refine d_take (i := 10) (v := ?_) [] (some 65) rfl (by rfl) (by kernel_rfl) (by kernel_rfl) (by kernel_rfl) (by kernel_rfl) (by kernel_rfl) (by kernel_rfl) (fun _ _ _ h => h) (.inl ⟨by rfl, ?_⟩) HY ?_
            rotate_left 1
            · (intro W hW; (try dsimp only at hW); go_simp; try with_reducible rfl)
            try simp only [Act.put, List.setIfInBounds_toArray, List.set_cons_zero, List.set_cons_succ]
            refine d_take (i := 11) (v := ?_) [] (some 66) rfl (by rfl) (by kernel_rfl) (by kernel_rfl) (by kernel_rfl) (by kernel_rfl) (by kernel_rfl) (by kernel_rfl) (fun _ _ _ h => h) (.inl ⟨by rfl, ?_⟩) HY ?_
            rotate_left 1
            · (intro W hW; (try dsimp only at hW); go_simp; try with_reducible rfl)
            try simp only [Act.put, List.setIfInBounds_toArray, List.set_cons_zero, List.set_cons_succ]
            refine d_take (i := 12) (v := ?_) [] (some 67) rfl (by rfl) (by kernel_rfl) (by kernel_rfl) (by kernel_rfl) (by kernel_rfl) (by kernel_rfl) (by kernel_rfl) (fun _ _ _ h => h) (.inl ⟨by rfl, ?_⟩) HY ?_
            rotate_left 1
            · (intro W hW; (try dsimp only at hW); go_simp; try with_reducible rfl)
            try simp only [Act.put, List.setIfInBounds_toArray, List.set_cons_zero, List.set_cons_succ]
            refine d_take (i := 13) (v := ?_) [] (some 68) rfl (by rfl) (by kernel_rfl) (by kernel_rfl) (by kernel_rfl) (by kernel_rfl) (by kernel_rfl) (by kernel_rfl) (fun _ _ _ h => h) (.inl ⟨by rfl, ?_⟩) HY ?_
            rotate_left 1
            · (intro W hW; (try dsimp only at hW); go_simp; try with_reducible rfl)
            try simp only [Act.put, List.setIfInBounds_toArray, List.set_cons_zero, List.set_cons_succ]
            refine d_take (i := 14) (v := ?_) [] (some 69) rfl (by rfl) (by kernel_rfl) (by kernel_rfl) (by kernel_rfl) (by kernel_rfl) (by kernel_rfl) (by kernel_rfl) (fun _ _ _ h => h) (.inl ⟨by rfl, ?_⟩) HY ?_
            rotate_left 1
            · (intro W hW; (try dsimp only at hW); go_simp; try with_reducible rfl)
            try simp only [Act.put, List.setIfInBounds_toArray, List.set_cons_zero, List.set_cons_succ]
            refine d_take (i := 15) (v := ?_) [] (some 70) rfl (by rfl) (by kernel_rfl) (by kernel_rfl) (by kernel_rfl) (by kernel_rfl) (by kernel_rfl) (by kernel_rfl) (fun _ _ _ h => h) (.inl ⟨by rfl, ?_⟩) HY ?_
            rotate_left 1
            · (intro W hW; (try dsimp only at hW); go_simp; try with_reducible rfl)
            try simp only [Act.put, List.setIfInBounds_toArray, List.set_cons_zero, List.set_cons_succ]
            refine d_take (i := 16) (v := ?_) [] (some 71) rfl (by rfl) (by kernel_rfl) (by kernel_rfl) (by kernel_rfl) (by kernel_rfl) (by kernel_rfl) (by kernel_rfl) (fun _ _ _ h => h) (.inl ⟨by rfl, ?_⟩) HY ?_
            rotate_left 1
            · (intro W hW; (try dsimp only at hW); go_simp; try with_reducible rfl)
            try simp only [Act.put, List.setIfInBounds_toArray, List.set_cons_zero, List.set_cons_succ]
            refine d_take (i := 17) (v := ?_) [] (some 72) rfl (by rfl) (by kernel_rfl) (by kernel_rfl) (by kernel_rfl) (by kernel_rfl) (by kernel_rfl) (by kernel_rfl) (fun _ _ _ h => h) (.inl ⟨by rfl, ?_⟩) HY ?_
            rotate_left 1
            · (intro W hW; (try dsimp only at hW); go_simp; try with_reducible rfl)
            try simp only [Act.put, List.setIfInBounds_toArray, List.set_cons_zero, List.set_cons_succ]
            refine d_take (i := 18) (v := ?_) [] (some 73) rfl (by rfl) (by kernel_rfl) (by kernel_rfl) (by kernel_rfl) (by kernel_rfl) (by kernel_rfl) (by kernel_rfl) (fun _ _ _ h => h) (.inl ⟨by rfl, ?_⟩) HY ?_
            rotate_left 1
            · (intro W hW; (try dsimp only at hW); go_simp; try with_reducible rfl)
            try simp only [Act.put, List.setIfInBounds_toArray, List.set_cons_zero, List.set_cons_succ]
            refine d_take (i := 19) (v := ?_) [] (some 74) rfl (by rfl) (by kernel_rfl) (by kernel_rfl) (by kernel_rfl) (by kernel_rfl) (by kernel_rfl) (by kernel_rfl) (fun _ _ _ h => h) (.inl ⟨by rfl, ?_⟩) HY ?_
            rotate_left 1
            · (intro W hW; (try dsimp only at hW); go_simp; try with_reducible rfl)
            try simp only [Act.put, List.setIfInBounds_toArray, List.set_cons_zero, List.set_cons_succ]
            refine d_take (i := 20) (v := ?_) [] (some 75) rfl (by rfl) (by kernel_rfl) (by kernel_rfl) (by kernel_rfl) (by kernel_rfl) (by kernel_rfl) (by kernel_rfl) (fun _ _ _ h => h) (.inl ⟨by rfl, ?_⟩) HY ?_
            rotate_left 1
            · (intro W hW; (try dsimp only at hW); go_simp; try with_reducible rfl)
            try simp only [Act.put, List.setIfInBounds_toArray, List.set_cons_zero, List.set_cons_succ]
            refine d_take (i := 21) (v := ?_) [] (some 76) rfl (by rfl) (by kernel_rfl) (by kernel_rfl) (by kernel_rfl) (by kernel_rfl) (by kernel_rfl) (by kernel_rfl) (fun _ _ _ h => h) (.inl ⟨by rfl, ?_⟩) HY ?_
            rotate_left 1
            · (intro W hW; (try dsimp only at hW); go_simp; try with_reducible rfl)
            try simp only [Act.put, List.setIfInBounds_toArray, List.set_cons_zero, List.set_cons_succ]
            refine d_take (i := 22) (v := ?_) [] (some 77) rfl (by rfl) (by kernel_rfl) (by kernel_rfl) (by kernel_rfl) (by kernel_rfl) (by kernel_rfl) (by kernel_rfl) (fun _ _ _ h => h) (.inl ⟨by rfl, ?_⟩) HY ?_
            rotate_left 1
            · (intro W hW; (try dsimp only at hW); go_simp; try with_reducible rfl)
            try simp only [Act.put, List.setIfInBounds_toArray, List.set_cons_zero, List.set_cons_succ]
            refine d_take (i := 23) (v := ?_) [] (some 78) rfl (by rfl) (by kernel_rfl) (by kernel_rfl) (by kernel_rfl) (by kernel_rfl) (by kernel_rfl) (by kernel_rfl) (fun _ _ _ h => h) (.inl ⟨by rfl, ?_⟩) HY ?_
            rotate_left 1
            · (intro W hW; (try dsimp only at hW); go_simp; try with_reducible rfl)
            try simp only [Act.put, List.setIfInBounds_toArray, List.set_cons_zero, List.set_cons_succ]
            refine d_take (i := 24) (v := ?_) [] (some 79) rfl (by rfl) (by kernel_rfl) (by kernel_rfl) (by kernel_rfl) (by kernel_rfl) (by kernel_rfl) (by kernel_rfl) (fun _ _ _ h => h) (.inl ⟨by rfl, ?_⟩) HY ?_
            rotate_left 1
            · (intro W hW; (try dsimp only at hW); go_simp; try with_reducible rfl)
            try simp only [Act.put, List.setIfInBounds_toArray, List.set_cons_zero, List.set_cons_succ]
            refine d_take (i := 25) (v := ?_) [] (some 80) rfl (by rfl) (by kernel_rfl) (by kernel_rfl) (by kernel_rfl) (by kernel_rfl) (by kernel_rfl) (by kernel_rfl) (fun _ _ _ h => h) (.inl ⟨by rfl, ?_⟩) HY ?_
            rotate_left 1
            · (intro W hW; (try dsimp only at hW); go_simp; try with_reducible rfl)
            try simp only [Act.put, List.setIfInBounds_toArray, List.set_cons_zero, List.set_cons_succ]
            refine d_take (i := 26) (v := ?_) [] (some 81) rfl (by rfl) (by kernel_rfl) (by kernel_rfl) (by kernel_rfl) (by kernel_rfl) (by kernel_rfl) (by kernel_rfl) (fun _ _ _ h => h) (.inl ⟨by rfl, ?_⟩) HY ?_
            rotate_left 1
            · (intro W hW; (try dsimp only at hW); go_simp; try with_reducible rfl)
            try simp only [Act.put, List.setIfInBounds_toArray, List.set_cons_zero, List.set_cons_succ]
            refine d_take (i := 27) (v := ?_) [] (some 82) rfl (by rfl) (by kernel_rfl) (by kernel_rfl) (by kernel_rfl) (by kernel_rfl) (by kernel_rfl) (by kernel_rfl) (fun _ _ _ h => h) (.inl ⟨by rfl, ?_⟩) HY ?_
            rotate_left 1
            · (intro W hW; (try dsimp only at hW); go_simp; try with_reducible rfl)
            try simp only [Act.put, List.setIfInBounds_toArray, List.set_cons_zero, List.set_cons_succ]
            refine d_one (i := 28) (by kernel_rfl) rfl rfl (fun K hK => ?_)
            simp only [List.getElem_toArray, List.getElem_cons_succ, List.getElem_cons_zero]
            go_simp
            refine hK.out _ _ (fun _ => HY.trans ((Ext.refl _).alloc _)) ?_
            clear hK K 
            try simp only [Act.put, List.setIfInBounds_toArray, List.set_cons_zero, List.set_cons_succ]
            refine d_one (i := 29) (by kernel_rfl) rfl rfl (fun K hK => ?_)
            simp only [List.getElem_toArray, List.getElem_cons_succ, List.getElem_cons_zero]
            go_simp
            refine hK.out _ _ (fun _ => HY.trans ((Ext.refl _).alloc _)) ?_
            clear hK K 
            try simp only [Act.put, List.setIfInBounds_toArray, List.set_cons_zero, List.set_cons_succ]
            refine d_done (by kernel_rfl) ?_ _
            clear y0 y1 y2 y3 y4 y5 y6 y7 HCL HY
            have H7 := Lib.hid (And.intro (heap_drew (heap_alloc_new w6 (.cells #[.int .i64 a0, .int .i64 a1, .int .i64 a2, .int .i64 a3, .int .i64 a4, .int .i64 a5, .int .i64 a6, .int .i64 a7, .slice B q d] 76))) (show Ext w6 (w6.alloc (.cells #[.int .i64 a0, .int .i64 a1, .int .i64 a2, .int .i64 a3, .int .i64 a4, .int .i64 a5, .int .i64 a6, .int .i64 a7, .slice B q d] 76)).drew from ((Ext.refl _).alloc _).drew))
            generalize (w6.alloc (.cells #[.int .i64 a0, .int .i64 a1, .int .i64 a2, .int .i64 a3, .int .i64 a4, .int .i64 a5, .int .i64 a6, .int .i64 a7, .slice B q d] 76)).drew = V7 at *
            generalize w6.heap.size = mb at *
            have c1 : V7.cell? ⟨g, 1, none⟩ = some (.int .i64 ((at_ + k' + x : Nat) : Int)) := block_cell (HR6.out.ext H7.out.2).blk 1
            obtain ⟨at2, hat2⟩ : ∃ at2, at_ + k' + x = at2 := ⟨_, rfl⟩
            rw [hat2] at c1
            have HAT := Lib.hid hat2
            clear hat2
            by_cases hend : at2 = n0
            · have HEND := Lib.hid hend
              subst hend
              have HO7 := Lib.hid (HOL.out.2.2.2.1.ext H7.out.2)
              have m0 : V7.cell? ⟨mb, 0, none⟩ = some (.int .i64 a0) := block_cell (H7.out.1) 0
              have m1 : V7.cell? ⟨mb, 1, none⟩ = some (.int .i64 a1) := block_cell (H7.out.1) 1
              have m2 : V7.cell? ⟨mb, 2, none⟩ = some (.int .i64 a2) := block_cell (H7.out.1) 2
              have m3 : V7.cell? ⟨mb, 3, none⟩ = some (.int .i64 a3) := block_cell (H7.out.1) 3
              have m4 : V7.cell? ⟨mb, 4, none⟩ = some (.int .i64 a4) := block_cell (H7.out.1) 4
              have m5 : V7.cell? ⟨mb, 5, none⟩ = some (.int .i64 a5) := block_cell (H7.out.1) 5
              have m6 : V7.cell? ⟨mb, 6, none⟩ = some (.int .i64 a6) := block_cell (H7.out.1) 6
              have m7 : V7.cell? ⟨mb, 7, none⟩ = some (.int .i64 a7) := block_cell (H7.out.1) 7
              have m8 : V7.cell? ⟨mb, 8, none⟩ = some (.slice B q d) := block_cell (H7.out.1) 8
              by_cases hform : Ms.form ⟨a0, a1, a2, a3, a4, a5, a6, a7⟩ (ents ss) = true
              · have CF := Lib.hid (rmform_any ⟨a0, a1, a2, a3, a4, a5, a6, a7⟩ B q d ss V7 HO7.out.led (by omega) true (Lib.hid hform))
                have HF : Hid (l = Ms.put ⟨a0, a1, a2, a3, a4, a5, a6, a7⟩ (ents ss)) := Lib.hid (by
                  rw [opened_good HG0.out, HO.out.1]
                  have h := raw_done HP.out rfl HBY.out HRD.out (by rw [HAT.out, HO.out.2.2]) HOL.out.2.2.1
                  rw [h]
                  rfl)
                have HFO := Lib.hid hform
                clear hform
                go_upto_region 16 with (go_at_call 41; refine CF.out.mono ?_; rintro _ w8 ⟨rfl, x8⟩)
                have HW8 := Lib.hid (HW.out.trans (H7.out.2.trans x8))
                have HMB := Lib.hid ((x8.block mb (block_lt H7.out.1)).trans H7.out.1)
                have HO8 := Lib.hid (HO7.out.ext x8)
                clear m0 m1 m2 m3 m4 m5 m6 m7 m8 c1 CF x8
                have HRS := Lib.hid (And.intro ((HW8.out.block _ HO1.out.2).trans HX1.out.2) (HX1.out.1.trans HW8.out))
                have r0 : w8.cell? ⟨rb, 0, none⟩ = some (.int .i64 0) := block_cell (HRS.out.1) 0
                have r1 : w8.cell? ⟨rb, 1, none⟩ = some (.int .i64 0) := block_cell (HRS.out.1) 1
                have r2 : w8.cell? ⟨rb, 2, none⟩ = some (.int .i64 0) := block_cell (HRS.out.1) 2
                have r3 : w8.cell? ⟨rb, 3, none⟩ = some (.int .i64 0) := block_cell (HRS.out.1) 3
                have r4 : w8.cell? ⟨rb, 4, none⟩ = some (.int .i64 0) := block_cell (HRS.out.1) 4
                have r5 : w8.cell? ⟨rb, 5, none⟩ = some (.int .i64 0) := block_cell (HRS.out.1) 5
                have r6 : w8.cell? ⟨rb, 6, none⟩ = some (.int .i64 0) := block_cell (HRS.out.1) 6
                have r7 : w8.cell? ⟨rb, 7, none⟩ = some (.int .i64 0) := block_cell (HRS.out.1) 7
                have r8 : w8.cell? ⟨rb, 8, none⟩ = some (.slice none 0 0) := block_cell (HRS.out.1) 8
                have q0 := block_fz (HRS.out.1) 0
                have q1 := block_fz (HRS.out.1) 1
                have q2 := block_fz (HRS.out.1) 2
                have q3 := block_fz (HRS.out.1) 3
                have q4 := block_fz (HRS.out.1) 4
                have q5 := block_fz (HRS.out.1) 5
                have q6 := block_fz (HRS.out.1) 6
                have q7 := block_fz (HRS.out.1) 7
                have q8 := block_fz (HRS.out.1) 8
                have e0 : w8.cell? ⟨mb, 0, none⟩ = some (.int .i64 a0) := block_cell (HMB.out) 0
                have e1 : w8.cell? ⟨mb, 1, none⟩ = some (.int .i64 a1) := block_cell (HMB.out) 1
                have e2 : w8.cell? ⟨mb, 2, none⟩ = some (.int .i64 a2) := block_cell (HMB.out) 2
                have e3 : w8.cell? ⟨mb, 3, none⟩ = some (.int .i64 a3) := block_cell (HMB.out) 3
                have e4 : w8.cell? ⟨mb, 4, none⟩ = some (.int .i64 a4) := block_cell (HMB.out) 4
                have e5 : w8.cell? ⟨mb, 5, none⟩ = some (.int .i64 a5) := block_cell (HMB.out) 5
                have e6 : w8.cell? ⟨mb, 6, none⟩ = some (.int .i64 a6) := block_cell (HMB.out) 6
                have e7 : w8.cell? ⟨mb, 7, none⟩ = some (.int .i64 a7) := block_cell (HMB.out) 7
                have e8 : w8.cell? ⟨mb, 8, none⟩ = some (.slice B q d) := block_cell (HMB.out) 8
                go_wp2_with fail
                have hz := st9 (W := w8) (HRS.out.1) (.int .i64 a0) (.int .i64 a1) (.int .i64 a2) (.int .i64 a3) (.int .i64 a4) (.int .i64 a5) (.int .i64 a6) (.int .i64 a7) (.slice B q d)
                have HZ := Lib.hid (And.intro hz.1 (Fr.ext (HRS.out.2) hz.2 (fun i e => by have e : i = rb := e; have := HRB.out; omega)))
                have HOZ := Lib.hid (HO8.out.fr hz.2 HRS.out.1 (by decide) (by decide))
                clear hz r0 q0 r1 q1 r2 q2 r3 q3 r4 q4 r5 q5 r6 q6 r7 q7 r8 q8
                generalize (((((((((w8.setCell ⟨rb, 0, none⟩ (.int .i64 a0)).setCell ⟨rb, 1, none⟩ (.int .i64 a1)).setCell ⟨rb, 2, none⟩ (.int .i64 a2)).setCell ⟨rb, 3, none⟩ (.int .i64 a3)).setCell ⟨rb, 4, none⟩ (.int .i64 a4)).setCell ⟨rb, 5, none⟩ (.int .i64 a5)).setCell ⟨rb, 6, none⟩ (.int .i64 a6)).setCell ⟨rb, 7, none⟩ (.int .i64 a7)).setCell ⟨rb, 8, none⟩ (.slice B q d)) = Z at *
                have z0 : Z.cell? ⟨rb, 0, none⟩ = some (.int .i64 a0) := block_cell (HZ.out.1) 0
                have z1 : Z.cell? ⟨rb, 1, none⟩ = some (.int .i64 a1) := block_cell (HZ.out.1) 1
                have z2 : Z.cell? ⟨rb, 2, none⟩ = some (.int .i64 a2) := block_cell (HZ.out.1) 2
                have z3 : Z.cell? ⟨rb, 3, none⟩ = some (.int .i64 a3) := block_cell (HZ.out.1) 3
                have z4 : Z.cell? ⟨rb, 4, none⟩ = some (.int .i64 a4) := block_cell (HZ.out.1) 4
                have z5 : Z.cell? ⟨rb, 5, none⟩ = some (.int .i64 a5) := block_cell (HZ.out.1) 5
                have z6 : Z.cell? ⟨rb, 6, none⟩ = some (.int .i64 a6) := block_cell (HZ.out.1) 6
                have z7 : Z.cell? ⟨rb, 7, none⟩ = some (.int .i64 a7) := block_cell (HZ.out.1) 7
                have z8 : Z.cell? ⟨rb, 8, none⟩ = some (.slice B q d) := block_cell (HZ.out.1) 8
                refine bodyPost_ret (v := .tuple #[.agg #[.int .i64 a0, .int .i64 a1, .int .i64 a2, .int .i64 a3, .int .i64 a4, .int .i64 a5, .int .i64 a6, .int .i64 a7, .slice B q d], .int .i64 0]) (by simp [results, Tryd.results44, go_sem, z0, z1, z2, z3, z4, z5, z6, z7, z8]) rfl ?_
                exact ⟨.inl ⟨⟨a0, a1, a2, a3, a4, a5, a6, a7⟩, ss, B, q, d, HOL.out.1, HFO.out, HF.out, rfl, HOZ.out.base_mono (Nat.le_trans (by have := HRB.out; have := HO1.out.2; omega) HOL.out.2.2.2.2)⟩, HZ.out.2⟩
              · have hform0 : Ms.form ⟨a0, a1, a2, a3, a4, a5, a6, a7⟩ (ents ss) = false := Bool.eq_false_iff.2 hform
                have CF := Lib.hid (rmform_any ⟨a0, a1, a2, a3, a4, a5, a6, a7⟩ B q d ss V7 HO7.out.led (by omega) false (Lib.hid hform0))
                have HNO := Lib.hid (fun (m : Ms) (es : List En) (hf : m.form es = true) (hle : l = m.put es) => (fun hle2 => by have h1 := raw_eight HP.out rfl hf hle2; have h2 := (raw_rest HP.out rfl HRD.out hf hle2).2; rw [HOL.out.2.2.1] at h2; have h3 := putL_inj HOL.out.2.1 (form_good hf) h2; rw [h1.1, ← h3] at hf; exact hform hf) (HO.out.1.symm.trans (opened_put hle).2))
                clear hform hform0
                go_upto_region 15 with (go_at_call 41; refine CF.out.mono ?_; rintro _ w8 ⟨rfl, x8⟩)
                have HW8 := Lib.hid (HW.out.trans (H7.out.2.trans x8))
                clear m0 m1 m2 m3 m4 m5 m6 m7 m8 c1 CF x8
                have HRS := Lib.hid (And.intro ((HW8.out.block _ HO1.out.2).trans HX1.out.2) (HX1.out.1.trans HW8.out))
                have r0 : w8.cell? ⟨rb, 0, none⟩ = some (.int .i64 0) := block_cell (HRS.out.1) 0
                have r1 : w8.cell? ⟨rb, 1, none⟩ = some (.int .i64 0) := block_cell (HRS.out.1) 1
                have r2 : w8.cell? ⟨rb, 2, none⟩ = some (.int .i64 0) := block_cell (HRS.out.1) 2
                have r3 : w8.cell? ⟨rb, 3, none⟩ = some (.int .i64 0) := block_cell (HRS.out.1) 3
                have r4 : w8.cell? ⟨rb, 4, none⟩ = some (.int .i64 0) := block_cell (HRS.out.1) 4
                have r5 : w8.cell? ⟨rb, 5, none⟩ = some (.int .i64 0) := block_cell (HRS.out.1) 5
                have r6 : w8.cell? ⟨rb, 6, none⟩ = some (.int .i64 0) := block_cell (HRS.out.1) 6
                have r7 : w8.cell? ⟨rb, 7, none⟩ = some (.int .i64 0) := block_cell (HRS.out.1) 7
                have r8 : w8.cell? ⟨rb, 8, none⟩ = some (.slice none 0 0) := block_cell (HRS.out.1) 8
                have q0 := block_fz (HRS.out.1) 0
                have q1 := block_fz (HRS.out.1) 1
                have q2 := block_fz (HRS.out.1) 2
                have q3 := block_fz (HRS.out.1) 3
                have q4 := block_fz (HRS.out.1) 4
                have q5 := block_fz (HRS.out.1) 5
                have q6 := block_fz (HRS.out.1) 6
                have q7 := block_fz (HRS.out.1) 7
                have q8 := block_fz (HRS.out.1) 8
                go_wp2_with fail
                have hz := st9 (W := w8) (HRS.out.1) (.int .i64 0) (.int .i64 0) (.int .i64 0) (.int .i64 0) (.int .i64 0) (.int .i64 0) (.int .i64 0) (.int .i64 0) (.slice none 0 0)
                have HZ := Lib.hid (And.intro hz.1 (Fr.ext (HRS.out.2) hz.2 (fun i e => by have e : i = rb := e; have := HRB.out; omega)))
                clear hz r0 q0 r1 q1 r2 q2 r3 q3 r4 q4 r5 q5 r6 q6 r7 q7 r8 q8
                generalize (((((((((w8.setCell ⟨rb, 0, none⟩ (.int .i64 0)).setCell ⟨rb, 1, none⟩ (.int .i64 0)).setCell ⟨rb, 2, none⟩ (.int .i64 0)).setCell ⟨rb, 3, none⟩ (.int .i64 0)).setCell ⟨rb, 4, none⟩ (.int .i64 0)).setCell ⟨rb, 5, none⟩ (.int .i64 0)).setCell ⟨rb, 6, none⟩ (.int .i64 0)).setCell ⟨rb, 7, none⟩ (.int .i64 0)).setCell ⟨rb, 8, none⟩ (.slice none 0 0)) = Z at *
                have z0 : Z.cell? ⟨rb, 0, none⟩ = some (.int .i64 0) := block_cell (HZ.out.1) 0
                have z1 : Z.cell? ⟨rb, 1, none⟩ = some (.int .i64 0) := block_cell (HZ.out.1) 1
                have z2 : Z.cell? ⟨rb, 2, none⟩ = some (.int .i64 0) := block_cell (HZ.out.1) 2
                have z3 : Z.cell? ⟨rb, 3, none⟩ = some (.int .i64 0) := block_cell (HZ.out.1) 3
                have z4 : Z.cell? ⟨rb, 4, none⟩ = some (.int .i64 0) := block_cell (HZ.out.1) 4
                have z5 : Z.cell? ⟨rb, 5, none⟩ = some (.int .i64 0) := block_cell (HZ.out.1) 5
                have z6 : Z.cell? ⟨rb, 6, none⟩ = some (.int .i64 0) := block_cell (HZ.out.1) 6
                have z7 : Z.cell? ⟨rb, 7, none⟩ = some (.int .i64 0) := block_cell (HZ.out.1) 7
                have z8 : Z.cell? ⟨rb, 8, none⟩ = some (.slice none 0 0) := block_cell (HZ.out.1) 8
                refine bodyPost_ret (v := .tuple #[.agg #[.int .i64 0, .int .i64 0, .int .i64 0, .int .i64 0, .int .i64 0, .int .i64 0, .int .i64 0, .int .i64 0, .slice none 0 0], .int .i64 3]) (by simp [results, Tryd.results44, go_sem, z0, z1, z2, z3, z4, z5, z6, z7, z8]) rfl ?_
                exact ⟨.inr ⟨HNO.out, by rw [HGE.out]; rfl⟩, HZ.out.2⟩
            · have hne : ¬ (at2 : Int) = (n0 : Int) := by omega
              have HNO := Lib.hid (fun (m : Ms) (es : List En) (hf : m.form es = true) (hle : l = m.put es) => (fun hle2 => by have h := (raw_rest HP.out rfl HRD.out hf hle2).1; rw [HO.out.2.2, HAT.out] at h; exact hend h) (HO.out.1.symm.trans (opened_put hle).2))
              clear hend
              have HRS := Lib.hid (And.intro (((HW.out.trans H7.out.2).block _ HO1.out.2).trans HX1.out.2) (HX1.out.1.trans (HW.out.trans H7.out.2)))
              have r0 : V7.cell? ⟨rb, 0, none⟩ = some (.int .i64 0) := block_cell (HRS.out.1) 0
              have r1 : V7.cell? ⟨rb, 1, none⟩ = some (.int .i64 0) := block_cell (HRS.out.1) 1
              have r2 : V7.cell? ⟨rb, 2, none⟩ = some (.int .i64 0) := block_cell (HRS.out.1) 2
              have r3 : V7.cell? ⟨rb, 3, none⟩ = some (.int .i64 0) := block_cell (HRS.out.1) 3
              have r4 : V7.cell? ⟨rb, 4, none⟩ = some (.int .i64 0) := block_cell (HRS.out.1) 4
              have r5 : V7.cell? ⟨rb, 5, none⟩ = some (.int .i64 0) := block_cell (HRS.out.1) 5
              have r6 : V7.cell? ⟨rb, 6, none⟩ = some (.int .i64 0) := block_cell (HRS.out.1) 6
              have r7 : V7.cell? ⟨rb, 7, none⟩ = some (.int .i64 0) := block_cell (HRS.out.1) 7
              have r8 : V7.cell? ⟨rb, 8, none⟩ = some (.slice none 0 0) := block_cell (HRS.out.1) 8
              have q0 := block_fz (HRS.out.1) 0
              have q1 := block_fz (HRS.out.1) 1
              have q2 := block_fz (HRS.out.1) 2
              have q3 := block_fz (HRS.out.1) 3
              have q4 := block_fz (HRS.out.1) 4
              have q5 := block_fz (HRS.out.1) 5
              have q6 := block_fz (HRS.out.1) 6
              have q7 := block_fz (HRS.out.1) 7
              have q8 := block_fz (HRS.out.1) 8
              go_wp2_with fail
              have hz := st9 (W := V7) (HRS.out.1) (.int .i64 0) (.int .i64 0) (.int .i64 0) (.int .i64 0) (.int .i64 0) (.int .i64 0) (.int .i64 0) (.int .i64 0) (.slice none 0 0)
              have HZ := Lib.hid (And.intro hz.1 (Fr.ext (HRS.out.2) hz.2 (fun i e => by have e : i = rb := e; have := HRB.out; omega)))
              clear hz r0 q0 r1 q1 r2 q2 r3 q3 r4 q4 r5 q5 r6 q6 r7 q7 r8 q8
              generalize (((((((((V7.setCell ⟨rb, 0, none⟩ (.int .i64 0)).setCell ⟨rb, 1, none⟩ (.int .i64 0)).setCell ⟨rb, 2, none⟩ (.int .i64 0)).setCell ⟨rb, 3, none⟩ (.int .i64 0)).setCell ⟨rb, 4, none⟩ (.int .i64 0)).setCell ⟨rb, 5, none⟩ (.int .i64 0)).setCell ⟨rb, 6, none⟩ (.int .i64 0)).setCell ⟨rb, 7, none⟩ (.int .i64 0)).setCell ⟨rb, 8, none⟩ (.slice none 0 0)) = Z at *
              have z0 : Z.cell? ⟨rb, 0, none⟩ = some (.int .i64 0) := block_cell (HZ.out.1) 0
              have z1 : Z.cell? ⟨rb, 1, none⟩ = some (.int .i64 0) := block_cell (HZ.out.1) 1
              have z2 : Z.cell? ⟨rb, 2, none⟩ = some (.int .i64 0) := block_cell (HZ.out.1) 2
              have z3 : Z.cell? ⟨rb, 3, none⟩ = some (.int .i64 0) := block_cell (HZ.out.1) 3
              have z4 : Z.cell? ⟨rb, 4, none⟩ = some (.int .i64 0) := block_cell (HZ.out.1) 4
              have z5 : Z.cell? ⟨rb, 5, none⟩ = some (.int .i64 0) := block_cell (HZ.out.1) 5
              have z6 : Z.cell? ⟨rb, 6, none⟩ = some (.int .i64 0) := block_cell (HZ.out.1) 6
              have z7 : Z.cell? ⟨rb, 7, none⟩ = some (.int .i64 0) := block_cell (HZ.out.1) 7
              have z8 : Z.cell? ⟨rb, 8, none⟩ = some (.slice none 0 0) := block_cell (HZ.out.1) 8
              refine bodyPost_ret (v := .tuple #[.agg #[.int .i64 0, .int .i64 0, .int .i64 0, .int .i64 0, .int .i64 0, .int .i64 0, .int .i64 0, .int .i64 0, .slice none 0 0], .int .i64 3]) (by simp [results, Tryd.results44, go_sem, z0, z1, z2, z3, z4, z5, z6, z7, z8]) rfl ?_
              exact ⟨.inr ⟨HNO.out, by rw [HGE.out]; rfl⟩, HZ.out.2⟩
          · have HW := Lib.hid (HX5.out.trans x6)
            have HOW := Lib.hid (HOI.out.ext x6)
            have HNO := Lib.hid (fun (m : Ms) (es : List En) (hf : m.form es = true) (hle : l = m.put es) => (fun hle2 => hnl es (form_good hf) (raw_rest HP.out rfl HRD.out hf hle2).2) (HO.out.1.symm.trans (opened_put hle).2))
            clear hnl CL x6 HOI HR4
            have HCL := fun (i : Nat) (v : Int) (hv : ([a0, a1, a2, a3, a4, a5, a6, a7] : List Int)[i]? = some v) U (hx : Ext w6 U) => (HOW.out.ext hx).celln (ints_at' hv)
            have y0 := HCL 0 a0 rfl
            have y1 := HCL 1 a1 rfl
            have y2 := HCL 2 a2 rfl
            have y3 := HCL 3 a3 rfl
            have y4 := HCL 4 a4 rfl
            have y5 := HCL 5 a5 rfl
            have y6 := HCL 6 a6 rfl
            have y7 := HCL 7 a7 rfl
            go_upto_region 13 with (fail)
            have HY : Ext w6 w6.drew := (Ext.refl w6).drew
            refine d_region (fun U => Ext w6 U) [] (by kernel_rfl) ?_
            refine d_take (i := 0) (v := ?_) [] (some 55) rfl (by rfl) (by kernel_rfl) (by kernel_rfl) (by kernel_rfl) (by kernel_rfl) (by kernel_rfl) (by kernel_rfl) (fun _ _ _ h => h) (.inl ⟨by rfl, ?_⟩) HY ?_
            rotate_left 1
            · (intro W hW; (try dsimp only at hW); go_simp; try with_reducible rfl)
            try simp only [Act.put, List.setIfInBounds_toArray, List.set_cons_zero, List.set_cons_succ]
            refine d_take (i := 1) (v := ?_) [] (some 56) rfl (by rfl) (by kernel_rfl) (by kernel_rfl) (by kernel_rfl) (by kernel_rfl) (by kernel_rfl) (by kernel_rfl) (fun _ _ _ h => h) (.inl ⟨by rfl, ?_⟩) HY ?_
            rotate_left 1
            · (intro W hW; (try dsimp only at hW); go_simp; try with_reducible rfl)
            try simp only [Act.put, List.setIfInBounds_toArray, List.set_cons_zero, List.set_cons_succ]
            refine d_take (i := 2) (v := ?_) [] (some 57) rfl (by rfl) (by kernel_rfl) (by kernel_rfl) (by kernel_rfl) (by kernel_rfl) (by kernel_rfl) (by kernel_rfl) (fun _ _ _ h => h) (.inl ⟨by rfl, ?_⟩) HY ?_
            rotate_left 1
            · (intro W hW; (try dsimp only at hW); go_simp; try with_reducible rfl)
            try simp only [Act.put, List.setIfInBounds_toArray, List.set_cons_zero, List.set_cons_succ]
            refine d_take (i := 3) (v := ?_) [] (some 58) rfl (by rfl) (by kernel_rfl) (by kernel_rfl) (by kernel_rfl) (by kernel_rfl) (by kernel_rfl) (by kernel_rfl) (fun _ _ _ h => h) (.inl ⟨by rfl, ?_⟩) HY ?_
            rotate_left 1
            · (intro W hW; (try dsimp only at hW); go_simp; try with_reducible rfl)
            try simp only [Act.put, List.setIfInBounds_toArray, List.set_cons_zero, List.set_cons_succ]
            refine d_take (i := 4) (v := ?_) [] (some 59) rfl (by rfl) (by kernel_rfl) (by kernel_rfl) (by kernel_rfl) (by kernel_rfl) (by kernel_rfl) (by kernel_rfl) (fun _ _ _ h => h) (.inl ⟨by rfl, ?_⟩) HY ?_
            rotate_left 1
            · (intro W hW; (try dsimp only at hW); go_simp; try with_reducible rfl)
            try simp only [Act.put, List.setIfInBounds_toArray, List.set_cons_zero, List.set_cons_succ]
            refine d_take (i := 5) (v := ?_) [] (some 60) rfl (by rfl) (by kernel_rfl) (by kernel_rfl) (by kernel_rfl) (by kernel_rfl) (by kernel_rfl) (by kernel_rfl) (fun _ _ _ h => h) (.inl ⟨by rfl, ?_⟩) HY ?_
            rotate_left 1
            · (intro W hW; (try dsimp only at hW); go_simp; try with_reducible rfl)
            try simp only [Act.put, List.setIfInBounds_toArray, List.set_cons_zero, List.set_cons_succ]
            refine d_take (i := 6) (v := ?_) [] (some 61) rfl (by rfl) (by kernel_rfl) (by kernel_rfl) (by kernel_rfl) (by kernel_rfl) (by kernel_rfl) (by kernel_rfl) (fun _ _ _ h => h) (.inl ⟨by rfl, ?_⟩) HY ?_
            rotate_left 1
            · (intro W hW; (try dsimp only at hW); go_simp; try with_reducible rfl)
            try simp only [Act.put, List.setIfInBounds_toArray, List.set_cons_zero, List.set_cons_succ]
            refine d_take (i := 7) (v := ?_) [] (some 62) rfl (by rfl) (by kernel_rfl) (by kernel_rfl) (by kernel_rfl) (by kernel_rfl) (by kernel_rfl) (by kernel_rfl) (fun _ _ _ h => h) (.inl ⟨by rfl, ?_⟩) HY ?_
            rotate_left 1
            · (intro W hW; (try dsimp only at hW); go_simp; try with_reducible rfl)
            try simp only [Act.put, List.setIfInBounds_toArray, List.set_cons_zero, List.set_cons_succ]
            refine d_take (i := 8) (v := ?_) [] (some 63) rfl (by rfl) (by kernel_rfl) (by kernel_rfl) (by kernel_rfl) (by kernel_rfl) (by kernel_rfl) (by kernel_rfl) (fun _ _ _ h => h) (.inl ⟨by rfl, ?_⟩) HY ?_
            rotate_left 1
            · (intro W hW; (try dsimp only at hW); go_simp; try with_reducible rfl)
            try simp only [Act.put, List.setIfInBounds_toArray, List.set_cons_zero, List.set_cons_succ]
            refine d_take (i := 9) (v := ?_) [] (some 64) rfl (by rfl) (by kernel_rfl) (by kernel_rfl) (by kernel_rfl) (by kernel_rfl) (by kernel_rfl) (by kernel_rfl) (fun _ _ _ h => h) (.inl ⟨by rfl, ?_⟩) HY ?_
            rotate_left 1
            · (intro W hW; (try dsimp only at hW); go_simp; try with_reducible rfl)
            try simp only [Act.put, List.setIfInBounds_toArray, List.set_cons_zero, List.set_cons_succ]
            refine d_take (i := 10) (v := ?_) [] (some 65) rfl (by rfl) (by kernel_rfl) (by kernel_rfl) (by kernel_rfl) (by kernel_rfl) (by kernel_rfl) (by kernel_rfl) (fun _ _ _ h => h) (.inl ⟨by rfl, ?_⟩) HY ?_
            rotate_left 1
            · (intro W hW; (try dsimp only at hW); go_simp; try with_reducible rfl)
            try simp only [Act.put, List.setIfInBounds_toArray, List.set_cons_zero, List.set_cons_succ]
            refine d_take (i := 11) (v := ?_) [] (some 66) rfl (by rfl) (by kernel_rfl) (by kernel_rfl) (by kernel_rfl) (by kernel_rfl) (by kernel_rfl) (by kernel_rfl) (fun _ _ _ h => h) (.inl ⟨by rfl, ?_⟩) HY ?_
            rotate_left 1
            · (intro W hW; (try dsimp only at hW); go_simp; try with_reducible rfl)
            try simp only [Act.put, List.setIfInBounds_toArray, List.set_cons_zero, List.set_cons_succ]
            refine d_take (i := 12) (v := ?_) [] (some 67) rfl (by rfl) (by kernel_rfl) (by kernel_rfl) (by kernel_rfl) (by kernel_rfl) (by kernel_rfl) (by kernel_rfl) (fun _ _ _ h => h) (.inl ⟨by rfl, ?_⟩) HY ?_
            rotate_left 1
            · (intro W hW; (try dsimp only at hW); go_simp; try with_reducible rfl)
            try simp only [Act.put, List.setIfInBounds_toArray, List.set_cons_zero, List.set_cons_succ]
            refine d_take (i := 13) (v := ?_) [] (some 68) rfl (by rfl) (by kernel_rfl) (by kernel_rfl) (by kernel_rfl) (by kernel_rfl) (by kernel_rfl) (by kernel_rfl) (fun _ _ _ h => h) (.inl ⟨by rfl, ?_⟩) HY ?_
            rotate_left 1
            · (intro W hW; (try dsimp only at hW); go_simp; try with_reducible rfl)
            try simp only [Act.put, List.setIfInBounds_toArray, List.set_cons_zero, List.set_cons_succ]
            refine d_take (i := 14) (v := ?_) [] (some 69) rfl (by rfl) (by kernel_rfl) (by kernel_rfl) (by kernel_rfl) (by kernel_rfl) (by kernel_rfl) (by kernel_rfl) (fun _ _ _ h => h) (.inl ⟨by rfl, ?_⟩) HY ?_
            rotate_left 1
            · (intro W hW; (try dsimp only at hW); go_simp; try with_reducible rfl)
            try simp only [Act.put, List.setIfInBounds_toArray, List.set_cons_zero, List.set_cons_succ]
            refine d_take (i := 15) (v := ?_) [] (some 70) rfl (by rfl) (by kernel_rfl) (by kernel_rfl) (by kernel_rfl) (by kernel_rfl) (by kernel_rfl) (by kernel_rfl) (fun _ _ _ h => h) (.inl ⟨by rfl, ?_⟩) HY ?_
            rotate_left 1
            · (intro W hW; (try dsimp only at hW); go_simp; try with_reducible rfl)
            try simp only [Act.put, List.setIfInBounds_toArray, List.set_cons_zero, List.set_cons_succ]
            refine d_take (i := 16) (v := ?_) [] (some 71) rfl (by rfl) (by kernel_rfl) (by kernel_rfl) (by kernel_rfl) (by kernel_rfl) (by kernel_rfl) (by kernel_rfl) (fun _ _ _ h => h) (.inl ⟨by rfl, ?_⟩) HY ?_
            rotate_left 1
            · (intro W hW; (try dsimp only at hW); go_simp; try with_reducible rfl)
            try simp only [Act.put, List.setIfInBounds_toArray, List.set_cons_zero, List.set_cons_succ]
            refine d_take (i := 17) (v := ?_) [] (some 72) rfl (by rfl) (by kernel_rfl) (by kernel_rfl) (by kernel_rfl) (by kernel_rfl) (by kernel_rfl) (by kernel_rfl) (fun _ _ _ h => h) (.inl ⟨by rfl, ?_⟩) HY ?_
            rotate_left 1
            · (intro W hW; (try dsimp only at hW); go_simp; try with_reducible rfl)
            try simp only [Act.put, List.setIfInBounds_toArray, List.set_cons_zero, List.set_cons_succ]
            refine d_take (i := 18) (v := ?_) [] (some 73) rfl (by rfl) (by kernel_rfl) (by kernel_rfl) (by kernel_rfl) (by kernel_rfl) (by kernel_rfl) (by kernel_rfl) (fun _ _ _ h => h) (.inl ⟨by rfl, ?_⟩) HY ?_
            rotate_left 1
            · (intro W hW; (try dsimp only at hW); go_simp; try with_reducible rfl)
            try simp only [Act.put, List.setIfInBounds_toArray, List.set_cons_zero, List.set_cons_succ]
            refine d_take (i := 19) (v := ?_) [] (some 74) rfl (by rfl) (by kernel_rfl) (by kernel_rfl) (by kernel_rfl) (by kernel_rfl) (by kernel_rfl) (by kernel_rfl) (fun _ _ _ h => h) (.inl ⟨by rfl, ?_⟩) HY ?_
            rotate_left 1
            · (intro W hW; (try dsimp only at hW); go_simp; try with_reducible rfl)
            try simp only [Act.put, List.setIfInBounds_toArray, List.set_cons_zero, List.set_cons_succ]
            refine d_take (i := 20) (v := ?_) [] (some 75) rfl (by rfl) (by kernel_rfl) (by kernel_rfl) (by kernel_rfl) (by kernel_rfl) (by kernel_rfl) (by kernel_rfl) (fun _ _ _ h => h) (.inl ⟨by rfl, ?_⟩) HY ?_
            rotate_left 1
            · (intro W hW; (try dsimp only at hW); go_simp; try with_reducible rfl)
            try simp only [Act.put, List.setIfInBounds_toArray, List.set_cons_zero, List.set_cons_succ]
            refine d_take (i := 21) (v := ?_) [] (some 76) rfl (by rfl) (by kernel_rfl) (by kernel_rfl) (by kernel_rfl) (by kernel_rfl) (by kernel_rfl) (by kernel_rfl) (fun _ _ _ h => h) (.inl ⟨by rfl, ?_⟩) HY ?_
            rotate_left 1
            · (intro W hW; (try dsimp only at hW); go_simp; try with_reducible rfl)
            try simp only [Act.put, List.setIfInBounds_toArray, List.set_cons_zero, List.set_cons_succ]
            refine d_take (i := 22) (v := ?_) [] (some 77) rfl (by rfl) (by kernel_rfl) (by kernel_rfl) (by kernel_rfl) (by kernel_rfl) (by kernel_rfl) (by kernel_rfl) (fun _ _ _ h => h) (.inl ⟨by rfl, ?_⟩) HY ?_
            rotate_left 1
            · (intro W hW; (try dsimp only at hW); go_simp; try with_reducible rfl)
            try simp only [Act.put, List.setIfInBounds_toArray, List.set_cons_zero, List.set_cons_succ]
            refine d_take (i := 23) (v := ?_) [] (some 78) rfl (by rfl) (by kernel_rfl) (by kernel_rfl) (by kernel_rfl) (by kernel_rfl) (by kernel_rfl) (by kernel_rfl) (fun _ _ _ h => h) (.inl ⟨by rfl, ?_⟩) HY ?_
            rotate_left 1
            · (intro W hW; (try dsimp only at hW); go_simp; try with_reducible rfl)
            try simp only [Act.put, List.setIfInBounds_toArray, List.set_cons_zero, List.set_cons_succ]
            refine d_take (i := 24) (v := ?_) [] (some 79) rfl (by rfl) (by kernel_rfl) (by kernel_rfl) (by kernel_rfl) (by kernel_rfl) (by kernel_rfl) (by kernel_rfl) (fun _ _ _ h => h) (.inl ⟨by rfl, ?_⟩) HY ?_
            rotate_left 1
            · (intro W hW; (try dsimp only at hW); go_simp; try with_reducible rfl)
            try simp only [Act.put, List.setIfInBounds_toArray, List.set_cons_zero, List.set_cons_succ]
            refine d_take (i := 25) (v := ?_) [] (some 80) rfl (by rfl) (by kernel_rfl) (by kernel_rfl) (by kernel_rfl) (by kernel_rfl) (by kernel_rfl) (by kernel_rfl) (fun _ _ _ h => h) (.inl ⟨by rfl, ?_⟩) HY ?_
            rotate_left 1
            · (intro W hW; (try dsimp only at hW); go_simp; try with_reducible rfl)
            try simp only [Act.put, List.setIfInBounds_toArray, List.set_cons_zero, List.set_cons_succ]
            refine d_take (i := 26) (v := ?_) [] (some 81) rfl (by rfl) (by kernel_rfl) (by kernel_rfl) (by kernel_rfl) (by kernel_rfl) (by kernel_rfl) (by kernel_rfl) (fun _ _ _ h => h) (.inl ⟨by rfl, ?_⟩) HY ?_
            rotate_left 1
            · (intro W hW; (try dsimp only at hW); go_simp; try with_reducible rfl)
            try simp only [Act.put, List.setIfInBounds_toArray, List.set_cons_zero, List.set_cons_succ]
            refine d_take (i := 27) (v := ?_) [] (some 82) rfl (by rfl) (by kernel_rfl) (by kernel_rfl) (by kernel_rfl) (by kernel_rfl) (by kernel_rfl) (by kernel_rfl) (fun _ _ _ h => h) (.inl ⟨by rfl, ?_⟩) HY ?_
            rotate_left 1
            · (intro W hW; (try dsimp only at hW); go_simp; try with_reducible rfl)
            try simp only [Act.put, List.setIfInBounds_toArray, List.set_cons_zero, List.set_cons_succ]
            refine d_one (i := 28) (by kernel_rfl) rfl rfl (fun K hK => ?_)
            simp only [List.getElem_toArray, List.getElem_cons_succ, List.getElem_cons_zero]
            go_simp
            refine hK.out _ _ (fun _ => HY.trans ((Ext.refl _).alloc _)) ?_
            clear hK K 
            try simp only [Act.put, List.setIfInBounds_toArray, List.set_cons_zero, List.set_cons_succ]
            refine d_one (i := 29) (by kernel_rfl) rfl rfl (fun K hK => ?_)
            simp only [List.getElem_toArray, List.getElem_cons_succ, List.getElem_cons_zero]
            go_simp
            refine hK.out _ _ (fun _ => HY.trans ((Ext.refl _).alloc _)) ?_
            clear hK K 
            try simp only [Act.put, List.setIfInBounds_toArray, List.set_cons_zero, List.set_cons_succ]
            refine d_done (by kernel_rfl) ?_ _
            clear y0 y1 y2 y3 y4 y5 y6 y7 HCL HY
            have H7 := Lib.hid (And.intro (heap_drew (heap_alloc_new w6 (.cells #[.int .i64 a0, .int .i64 a1, .int .i64 a2, .int .i64 a3, .int .i64 a4, .int .i64 a5, .int .i64 a6, .int .i64 a7, .slice none 0 0] 76))) (show Ext w6 (w6.alloc (.cells #[.int .i64 a0, .int .i64 a1, .int .i64 a2, .int .i64 a3, .int .i64 a4, .int .i64 a5, .int .i64 a6, .int .i64 a7, .slice none 0 0] 76)).drew from ((Ext.refl _).alloc _).drew))
            generalize (w6.alloc (.cells #[.int .i64 a0, .int .i64 a1, .int .i64 a2, .int .i64 a3, .int .i64 a4, .int .i64 a5, .int .i64 a6, .int .i64 a7, .slice none 0 0] 76)).drew = V7 at *
            generalize w6.heap.size = mb at *
            have HRS := Lib.hid (And.intro (((HW.out.trans H7.out.2).block _ HO1.out.2).trans HX1.out.2) (HX1.out.1.trans (HW.out.trans H7.out.2)))
            have r0 : V7.cell? ⟨rb, 0, none⟩ = some (.int .i64 0) := block_cell (HRS.out.1) 0
            have r1 : V7.cell? ⟨rb, 1, none⟩ = some (.int .i64 0) := block_cell (HRS.out.1) 1
            have r2 : V7.cell? ⟨rb, 2, none⟩ = some (.int .i64 0) := block_cell (HRS.out.1) 2
            have r3 : V7.cell? ⟨rb, 3, none⟩ = some (.int .i64 0) := block_cell (HRS.out.1) 3
            have r4 : V7.cell? ⟨rb, 4, none⟩ = some (.int .i64 0) := block_cell (HRS.out.1) 4
            have r5 : V7.cell? ⟨rb, 5, none⟩ = some (.int .i64 0) := block_cell (HRS.out.1) 5
            have r6 : V7.cell? ⟨rb, 6, none⟩ = some (.int .i64 0) := block_cell (HRS.out.1) 6
            have r7 : V7.cell? ⟨rb, 7, none⟩ = some (.int .i64 0) := block_cell (HRS.out.1) 7
            have r8 : V7.cell? ⟨rb, 8, none⟩ = some (.slice none 0 0) := block_cell (HRS.out.1) 8
            have q0 := block_fz (HRS.out.1) 0
            have q1 := block_fz (HRS.out.1) 1
            have q2 := block_fz (HRS.out.1) 2
            have q3 := block_fz (HRS.out.1) 3
            have q4 := block_fz (HRS.out.1) 4
            have q5 := block_fz (HRS.out.1) 5
            have q6 := block_fz (HRS.out.1) 6
            have q7 := block_fz (HRS.out.1) 7
            have q8 := block_fz (HRS.out.1) 8
            go_wp2_with fail
            have hz := st9 (W := V7) (HRS.out.1) (.int .i64 0) (.int .i64 0) (.int .i64 0) (.int .i64 0) (.int .i64 0) (.int .i64 0) (.int .i64 0) (.int .i64 0) (.slice none 0 0)
            have HZ := Lib.hid (And.intro hz.1 (Fr.ext (HRS.out.2) hz.2 (fun i e => by have e : i = rb := e; have := HRB.out; omega)))
            clear hz r0 q0 r1 q1 r2 q2 r3 q3 r4 q4 r5 q5 r6 q6 r7 q7 r8 q8
            generalize (((((((((V7.setCell ⟨rb, 0, none⟩ (.int .i64 0)).setCell ⟨rb, 1, none⟩ (.int .i64 0)).setCell ⟨rb, 2, none⟩ (.int .i64 0)).setCell ⟨rb, 3, none⟩ (.int .i64 0)).setCell ⟨rb, 4, none⟩ (.int .i64 0)).setCell ⟨rb, 5, none⟩ (.int .i64 0)).setCell ⟨rb, 6, none⟩ (.int .i64 0)).setCell ⟨rb, 7, none⟩ (.int .i64 0)).setCell ⟨rb, 8, none⟩ (.slice none 0 0)) = Z at *
            have z0 : Z.cell? ⟨rb, 0, none⟩ = some (.int .i64 0) := block_cell (HZ.out.1) 0
            have z1 : Z.cell? ⟨rb, 1, none⟩ = some (.int .i64 0) := block_cell (HZ.out.1) 1
            have z2 : Z.cell? ⟨rb, 2, none⟩ = some (.int .i64 0) := block_cell (HZ.out.1) 2
            have z3 : Z.cell? ⟨rb, 3, none⟩ = some (.int .i64 0) := block_cell (HZ.out.1) 3
            have z4 : Z.cell? ⟨rb, 4, none⟩ = some (.int .i64 0) := block_cell (HZ.out.1) 4
            have z5 : Z.cell? ⟨rb, 5, none⟩ = some (.int .i64 0) := block_cell (HZ.out.1) 5
            have z6 : Z.cell? ⟨rb, 6, none⟩ = some (.int .i64 0) := block_cell (HZ.out.1) 6
            have z7 : Z.cell? ⟨rb, 7, none⟩ = some (.int .i64 0) := block_cell (HZ.out.1) 7
            have z8 : Z.cell? ⟨rb, 8, none⟩ = some (.slice none 0 0) := block_cell (HZ.out.1) 8
            refine bodyPost_ret (v := .tuple #[.agg #[.int .i64 0, .int .i64 0, .int .i64 0, .int .i64 0, .int .i64 0, .int .i64 0, .int .i64 0, .int .i64 0, .slice none 0 0], .int .i64 3]) (by simp [results, Tryd.results44, go_sem, z0, z1, z2, z3, z4, z5, z6, z7, z8]) rfl ?_
            exact ⟨.inr ⟨HNO.out, by rw [HGE.out]; rfl⟩, HZ.out.2⟩
        · have hno : ∀ x k', Wr.rd (l0.drop at_) = some (x, k') → (n0 : Int) < (x : Int) ∨ n0 < at_ + k' + x := fun x k' hr => by
            rcases Nat.lt_or_ge n0 x with h | h
            · exact .inl (by omega)
            · rcases Nat.lt_or_ge n0 (at_ + k' + x) with h2 | h2
              · exact .inr h2
              · exact absurd ⟨x, k', hr, h, h2⟩ hok
          have CB := Lib.hid (mbytes_no HG.out.rs (n0 : Int) hno)
          have HNO := Lib.hid (fun (m : Ms) (es : List En) (hf : m.form es = true) (hle : l = m.put es) => raw_no_bytes HG.out.p rfl (by rw [HO.out.2.2]; exact hno) hf (HO.out.1.symm.trans (opened_put hle).2))
          clear hok hno
          go_upto_region 12 with (go_at_call 63; refine CB.out.mono ?_; rintro _ w5 ⟨rfl, x5⟩)
          have CL := Lib.hid (rread_any none 0 0 [] w5 Rd.nil_ (by simp) (by omega) (by omega))
          go_upto_region 13 with (go_at_call 33; refine CL.out.mono ?_; rintro _ w6 ⟨hro, x6⟩; rcases hro with ⟨ss, B, q, d, hql, hgl, hle, rfl, ol⟩ | ⟨hnl, rfl⟩)
          · exact absurd hle (putL_ne _)
          have HW := Lib.hid (HG.out.x.trans (x5.trans x6))
          have HOW := Lib.hid (HG.out.own.ext (x5.trans x6))
          clear hnl CL x6 x5 CB HG
          have HCL := fun (i : Nat) (v : Int) (hv : ([a0, a1, a2, a3, a4, a5, a6, a7] : List Int)[i]? = some v) U (hx : Ext w6 U) => (HOW.out.ext hx).celln (ints_at' hv)
          have y0 := HCL 0 a0 rfl
          have y1 := HCL 1 a1 rfl
          have y2 := HCL 2 a2 rfl
          have y3 := HCL 3 a3 rfl
          have y4 := HCL 4 a4 rfl
          have y5 := HCL 5 a5 rfl
          have y6 := HCL 6 a6 rfl
          have y7 := HCL 7 a7 rfl
          go_upto_region 13 with (fail)
          have HY : Ext w6 w6.drew := (Ext.refl w6).drew
          refine d_region (fun U => Ext w6 U) [] (by kernel_rfl) ?_
          refine d_take (i := 0) (v := ?_) [] (some 55) rfl (by rfl) (by kernel_rfl) (by kernel_rfl) (by kernel_rfl) (by kernel_rfl) (by kernel_rfl) (by kernel_rfl) (fun _ _ _ h => h) (.inl ⟨by rfl, ?_⟩) HY ?_
          rotate_left 1
          · (intro W hW; (try dsimp only at hW); go_simp; try with_reducible rfl)
          try simp only [Act.put, List.setIfInBounds_toArray, List.set_cons_zero, List.set_cons_succ]
          refine d_take (i := 1) (v := ?_) [] (some 56) rfl (by rfl) (by kernel_rfl) (by kernel_rfl) (by kernel_rfl) (by kernel_rfl) (by kernel_rfl) (by kernel_rfl) (fun _ _ _ h => h) (.inl ⟨by rfl, ?_⟩) HY ?_
          rotate_left 1
          · (intro W hW; (try dsimp only at hW); go_simp; try with_reducible rfl)
          try simp only [Act.put, List.setIfInBounds_toArray, List.set_cons_zero, List.set_cons_succ]
          refine d_take (i := 2) (v := ?_) [] (some 57) rfl (by rfl) (by kernel_rfl) (by kernel_rfl) (by kernel_rfl) (by kernel_rfl) (by kernel_rfl) (by kernel_rfl) (fun _ _ _ h => h) (.inl ⟨by rfl, ?_⟩) HY ?_
          rotate_left 1
          · (intro W hW; (try dsimp only at hW); go_simp; try with_reducible rfl)
          try simp only [Act.put, List.setIfInBounds_toArray, List.set_cons_zero, List.set_cons_succ]
          refine d_take (i := 3) (v := ?_) [] (some 58) rfl (by rfl) (by kernel_rfl) (by kernel_rfl) (by kernel_rfl) (by kernel_rfl) (by kernel_rfl) (by kernel_rfl) (fun _ _ _ h => h) (.inl ⟨by rfl, ?_⟩) HY ?_
          rotate_left 1
          · (intro W hW; (try dsimp only at hW); go_simp; try with_reducible rfl)
          try simp only [Act.put, List.setIfInBounds_toArray, List.set_cons_zero, List.set_cons_succ]
          refine d_take (i := 4) (v := ?_) [] (some 59) rfl (by rfl) (by kernel_rfl) (by kernel_rfl) (by kernel_rfl) (by kernel_rfl) (by kernel_rfl) (by kernel_rfl) (fun _ _ _ h => h) (.inl ⟨by rfl, ?_⟩) HY ?_
          rotate_left 1
          · (intro W hW; (try dsimp only at hW); go_simp; try with_reducible rfl)
          try simp only [Act.put, List.setIfInBounds_toArray, List.set_cons_zero, List.set_cons_succ]
          refine d_take (i := 5) (v := ?_) [] (some 60) rfl (by rfl) (by kernel_rfl) (by kernel_rfl) (by kernel_rfl) (by kernel_rfl) (by kernel_rfl) (by kernel_rfl) (fun _ _ _ h => h) (.inl ⟨by rfl, ?_⟩) HY ?_
          rotate_left 1
          · (intro W hW; (try dsimp only at hW); go_simp; try with_reducible rfl)
          try simp only [Act.put, List.setIfInBounds_toArray, List.set_cons_zero, List.set_cons_succ]
          refine d_take (i := 6) (v := ?_) [] (some 61) rfl (by rfl) (by kernel_rfl) (by kernel_rfl) (by kernel_rfl) (by kernel_rfl) (by kernel_rfl) (by kernel_rfl) (fun _ _ _ h => h) (.inl ⟨by rfl, ?_⟩) HY ?_
          rotate_left 1
          · (intro W hW; (try dsimp only at hW); go_simp; try with_reducible rfl)
          try simp only [Act.put, List.setIfInBounds_toArray, List.set_cons_zero, List.set_cons_succ]
          refine d_take (i := 7) (v := ?_) [] (some 62) rfl (by rfl) (by kernel_rfl) (by kernel_rfl) (by kernel_rfl) (by kernel_rfl) (by kernel_rfl) (by kernel_rfl) (fun _ _ _ h => h) (.inl ⟨by rfl, ?_⟩) HY ?_
          rotate_left 1
          · (intro W hW; (try dsimp only at hW); go_simp; try with_reducible rfl)
          try simp only [Act.put, List.setIfInBounds_toArray, List.set_cons_zero, List.set_cons_succ]
          refine d_take (i := 8) (v := ?_) [] (some 63) rfl (by rfl) (by kernel_rfl) (by kernel_rfl) (by kernel_rfl) (by kernel_rfl) (by kernel_rfl) (by kernel_rfl) (fun _ _ _ h => h) (.inl ⟨by rfl, ?_⟩) HY ?_
          rotate_left 1
          · (intro W hW; (try dsimp only at hW); go_simp; try with_reducible rfl)
          try simp only [Act.put, List.setIfInBounds_toArray, List.set_cons_zero, List.set_cons_succ]
          refine d_take (i := 9) (v := ?_) [] (some 64) rfl (by rfl) (by kernel_rfl) (by kernel_rfl) (by kernel_rfl) (by kernel_rfl) (by kernel_rfl) (by kernel_rfl) (fun _ _ _ h => h) (.inl ⟨by rfl, ?_⟩) HY ?_
          rotate_left 1
          · (intro W hW; (try dsimp only at hW); go_simp; try with_reducible rfl)
          try simp only [Act.put, List.setIfInBounds_toArray, List.set_cons_zero, List.set_cons_succ]
          refine d_take (i := 10) (v := ?_) [] (some 65) rfl (by rfl) (by kernel_rfl) (by kernel_rfl) (by kernel_rfl) (by kernel_rfl) (by kernel_rfl) (by kernel_rfl) (fun _ _ _ h => h) (.inl ⟨by rfl, ?_⟩) HY ?_
          rotate_left 1
          · (intro W hW; (try dsimp only at hW); go_simp; try with_reducible rfl)
          try simp only [Act.put, List.setIfInBounds_toArray, List.set_cons_zero, List.set_cons_succ]
          refine d_take (i := 11) (v := ?_) [] (some 66) rfl (by rfl) (by kernel_rfl) (by kernel_rfl) (by kernel_rfl) (by kernel_rfl) (by kernel_rfl) (by kernel_rfl) (fun _ _ _ h => h) (.inl ⟨by rfl, ?_⟩) HY ?_
          rotate_left 1
          · (intro W hW; (try dsimp only at hW); go_simp; try with_reducible rfl)
          try simp only [Act.put, List.setIfInBounds_toArray, List.set_cons_zero, List.set_cons_succ]
          refine d_take (i := 12) (v := ?_) [] (some 67) rfl (by rfl) (by kernel_rfl) (by kernel_rfl) (by kernel_rfl) (by kernel_rfl) (by kernel_rfl) (by kernel_rfl) (fun _ _ _ h => h) (.inl ⟨by rfl, ?_⟩) HY ?_
          rotate_left 1
          · (intro W hW; (try dsimp only at hW); go_simp; try with_reducible rfl)
          try simp only [Act.put, List.setIfInBounds_toArray, List.set_cons_zero, List.set_cons_succ]
          refine d_take (i := 13) (v := ?_) [] (some 68) rfl (by rfl) (by kernel_rfl) (by kernel_rfl) (by kernel_rfl) (by kernel_rfl) (by kernel_rfl) (by kernel_rfl) (fun _ _ _ h => h) (.inl ⟨by rfl, ?_⟩) HY ?_
          rotate_left 1
          · (intro W hW; (try dsimp only at hW); go_simp; try with_reducible rfl)
          try simp only [Act.put, List.setIfInBounds_toArray, List.set_cons_zero, List.set_cons_succ]
          refine d_take (i := 14) (v := ?_) [] (some 69) rfl (by rfl) (by kernel_rfl) (by kernel_rfl) (by kernel_rfl) (by kernel_rfl) (by kernel_rfl) (by kernel_rfl) (fun _ _ _ h => h) (.inl ⟨by rfl, ?_⟩) HY ?_
          rotate_left 1
          · (intro W hW; (try dsimp only at hW); go_simp; try with_reducible rfl)
          try simp only [Act.put, List.setIfInBounds_toArray, List.set_cons_zero, List.set_cons_succ]
          refine d_take (i := 15) (v := ?_) [] (some 70) rfl (by rfl) (by kernel_rfl) (by kernel_rfl) (by kernel_rfl) (by kernel_rfl) (by kernel_rfl) (by kernel_rfl) (fun _ _ _ h => h) (.inl ⟨by rfl, ?_⟩) HY ?_
          rotate_left 1
          · (intro W hW; (try dsimp only at hW); go_simp; try with_reducible rfl)
          try simp only [Act.put, List.setIfInBounds_toArray, List.set_cons_zero, List.set_cons_succ]
          refine d_take (i := 16) (v := ?_) [] (some 71) rfl (by rfl) (by kernel_rfl) (by kernel_rfl) (by kernel_rfl) (by kernel_rfl) (by kernel_rfl) (by kernel_rfl) (fun _ _ _ h => h) (.inl ⟨by rfl, ?_⟩) HY ?_
          rotate_left 1
          · (intro W hW; (try dsimp only at hW); go_simp; try with_reducible rfl)
          try simp only [Act.put, List.setIfInBounds_toArray, List.set_cons_zero, List.set_cons_succ]
          refine d_take (i := 17) (v := ?_) [] (some 72) rfl (by rfl) (by kernel_rfl) (by kernel_rfl) (by kernel_rfl) (by kernel_rfl) (by kernel_rfl) (by kernel_rfl) (fun _ _ _ h => h) (.inl ⟨by rfl, ?_⟩) HY ?_
          rotate_left 1
          · (intro W hW; (try dsimp only at hW); go_simp; try with_reducible rfl)
          try simp only [Act.put, List.setIfInBounds_toArray, List.set_cons_zero, List.set_cons_succ]
          refine d_take (i := 18) (v := ?_) [] (some 73) rfl (by rfl) (by kernel_rfl) (by kernel_rfl) (by kernel_rfl) (by kernel_rfl) (by kernel_rfl) (by kernel_rfl) (fun _ _ _ h => h) (.inl ⟨by rfl, ?_⟩) HY ?_
          rotate_left 1
          · (intro W hW; (try dsimp only at hW); go_simp; try with_reducible rfl)
          try simp only [Act.put, List.setIfInBounds_toArray, List.set_cons_zero, List.set_cons_succ]
          refine d_take (i := 19) (v := ?_) [] (some 74) rfl (by rfl) (by kernel_rfl) (by kernel_rfl) (by kernel_rfl) (by kernel_rfl) (by kernel_rfl) (by kernel_rfl) (fun _ _ _ h => h) (.inl ⟨by rfl, ?_⟩) HY ?_
          rotate_left 1
          · (intro W hW; (try dsimp only at hW); go_simp; try with_reducible rfl)
          try simp only [Act.put, List.setIfInBounds_toArray, List.set_cons_zero, List.set_cons_succ]
          refine d_take (i := 20) (v := ?_) [] (some 75) rfl (by rfl) (by kernel_rfl) (by kernel_rfl) (by kernel_rfl) (by kernel_rfl) (by kernel_rfl) (by kernel_rfl) (fun _ _ _ h => h) (.inl ⟨by rfl, ?_⟩) HY ?_
          rotate_left 1
          · (intro W hW; (try dsimp only at hW); go_simp; try with_reducible rfl)
          try simp only [Act.put, List.setIfInBounds_toArray, List.set_cons_zero, List.set_cons_succ]
          refine d_take (i := 21) (v := ?_) [] (some 76) rfl (by rfl) (by kernel_rfl) (by kernel_rfl) (by kernel_rfl) (by kernel_rfl) (by kernel_rfl) (by kernel_rfl) (fun _ _ _ h => h) (.inl ⟨by rfl, ?_⟩) HY ?_
          rotate_left 1
          · (intro W hW; (try dsimp only at hW); go_simp; try with_reducible rfl)
          try simp only [Act.put, List.setIfInBounds_toArray, List.set_cons_zero, List.set_cons_succ]
          refine d_take (i := 22) (v := ?_) [] (some 77) rfl (by rfl) (by kernel_rfl) (by kernel_rfl) (by kernel_rfl) (by kernel_rfl) (by kernel_rfl) (by kernel_rfl) (fun _ _ _ h => h) (.inl ⟨by rfl, ?_⟩) HY ?_
          rotate_left 1
          · (intro W hW; (try dsimp only at hW); go_simp; try with_reducible rfl)
          try simp only [Act.put, List.setIfInBounds_toArray, List.set_cons_zero, List.set_cons_succ]
          refine d_take (i := 23) (v := ?_) [] (some 78) rfl (by rfl) (by kernel_rfl) (by kernel_rfl) (by kernel_rfl) (by kernel_rfl) (by kernel_rfl) (by kernel_rfl) (fun _ _ _ h => h) (.inl ⟨by rfl, ?_⟩) HY ?_
          rotate_left 1
          · (intro W hW; (try dsimp only at hW); go_simp; try with_reducible rfl)
          try simp only [Act.put, List.setIfInBounds_toArray, List.set_cons_zero, List.set_cons_succ]
          refine d_take (i := 24) (v := ?_) [] (some 79) rfl (by rfl) (by kernel_rfl) (by kernel_rfl) (by kernel_rfl) (by kernel_rfl) (by kernel_rfl) (by kernel_rfl) (fun _ _ _ h => h) (.inl ⟨by rfl, ?_⟩) HY ?_
          rotate_left 1
          · (intro W hW; (try dsimp only at hW); go_simp; try with_reducible rfl)
          try simp only [Act.put, List.setIfInBounds_toArray, List.set_cons_zero, List.set_cons_succ]
          refine d_take (i := 25) (v := ?_) [] (some 80) rfl (by rfl) (by kernel_rfl) (by kernel_rfl) (by kernel_rfl) (by kernel_rfl) (by kernel_rfl) (by kernel_rfl) (fun _ _ _ h => h) (.inl ⟨by rfl, ?_⟩) HY ?_
          rotate_left 1
          · (intro W hW; (try dsimp only at hW); go_simp; try with_reducible rfl)
          try simp only [Act.put, List.setIfInBounds_toArray, List.set_cons_zero, List.set_cons_succ]
          refine d_take (i := 26) (v := ?_) [] (some 81) rfl (by rfl) (by kernel_rfl) (by kernel_rfl) (by kernel_rfl) (by kernel_rfl) (by kernel_rfl) (by kernel_rfl) (fun _ _ _ h => h) (.inl ⟨by rfl, ?_⟩) HY ?_
          rotate_left 1
          · (intro W hW; (try dsimp only at hW); go_simp; try with_reducible rfl)
          try simp only [Act.put, List.setIfInBounds_toArray, List.set_cons_zero, List.set_cons_succ]
          refine d_take (i := 27) (v := ?_) [] (some 82) rfl (by rfl) (by kernel_rfl) (by kernel_rfl) (by kernel_rfl) (by kernel_rfl) (by kernel_rfl) (by kernel_rfl) (fun _ _ _ h => h) (.inl ⟨by rfl, ?_⟩) HY ?_
          rotate_left 1
          · (intro W hW; (try dsimp only at hW); go_simp; try with_reducible rfl)
          try simp only [Act.put, List.setIfInBounds_toArray, List.set_cons_zero, List.set_cons_succ]
          refine d_one (i := 28) (by kernel_rfl) rfl rfl (fun K hK => ?_)
          simp only [List.getElem_toArray, List.getElem_cons_succ, List.getElem_cons_zero]
          go_simp
          refine hK.out _ _ (fun _ => HY.trans ((Ext.refl _).alloc _)) ?_
          clear hK K 
          try simp only [Act.put, List.setIfInBounds_toArray, List.set_cons_zero, List.set_cons_succ]
          refine d_one (i := 29) (by kernel_rfl) rfl rfl (fun K hK => ?_)
          simp only [List.getElem_toArray, List.getElem_cons_succ, List.getElem_cons_zero]
          go_simp
          refine hK.out _ _ (fun _ => HY.trans ((Ext.refl _).alloc _)) ?_
          clear hK K 
          try simp only [Act.put, List.setIfInBounds_toArray, List.set_cons_zero, List.set_cons_succ]
          refine d_done (by kernel_rfl) ?_ _
          clear y0 y1 y2 y3 y4 y5 y6 y7 HCL HY
          have H7 := Lib.hid (And.intro (heap_drew (heap_alloc_new w6 (.cells #[.int .i64 a0, .int .i64 a1, .int .i64 a2, .int .i64 a3, .int .i64 a4, .int .i64 a5, .int .i64 a6, .int .i64 a7, .slice none 0 0] 76))) (show Ext w6 (w6.alloc (.cells #[.int .i64 a0, .int .i64 a1, .int .i64 a2, .int .i64 a3, .int .i64 a4, .int .i64 a5, .int .i64 a6, .int .i64 a7, .slice none 0 0] 76)).drew from ((Ext.refl _).alloc _).drew))
          generalize (w6.alloc (.cells #[.int .i64 a0, .int .i64 a1, .int .i64 a2, .int .i64 a3, .int .i64 a4, .int .i64 a5, .int .i64 a6, .int .i64 a7, .slice none 0 0] 76)).drew = V7 at *
          generalize w6.heap.size = mb at *
          have HRS := Lib.hid (And.intro (((HW.out.trans H7.out.2).block _ HO1.out.2).trans HX1.out.2) (HX1.out.1.trans (HW.out.trans H7.out.2)))
          have r0 : V7.cell? ⟨rb, 0, none⟩ = some (.int .i64 0) := block_cell (HRS.out.1) 0
          have r1 : V7.cell? ⟨rb, 1, none⟩ = some (.int .i64 0) := block_cell (HRS.out.1) 1
          have r2 : V7.cell? ⟨rb, 2, none⟩ = some (.int .i64 0) := block_cell (HRS.out.1) 2
          have r3 : V7.cell? ⟨rb, 3, none⟩ = some (.int .i64 0) := block_cell (HRS.out.1) 3
          have r4 : V7.cell? ⟨rb, 4, none⟩ = some (.int .i64 0) := block_cell (HRS.out.1) 4
          have r5 : V7.cell? ⟨rb, 5, none⟩ = some (.int .i64 0) := block_cell (HRS.out.1) 5
          have r6 : V7.cell? ⟨rb, 6, none⟩ = some (.int .i64 0) := block_cell (HRS.out.1) 6
          have r7 : V7.cell? ⟨rb, 7, none⟩ = some (.int .i64 0) := block_cell (HRS.out.1) 7
          have r8 : V7.cell? ⟨rb, 8, none⟩ = some (.slice none 0 0) := block_cell (HRS.out.1) 8
          have q0 := block_fz (HRS.out.1) 0
          have q1 := block_fz (HRS.out.1) 1
          have q2 := block_fz (HRS.out.1) 2
          have q3 := block_fz (HRS.out.1) 3
          have q4 := block_fz (HRS.out.1) 4
          have q5 := block_fz (HRS.out.1) 5
          have q6 := block_fz (HRS.out.1) 6
          have q7 := block_fz (HRS.out.1) 7
          have q8 := block_fz (HRS.out.1) 8
          go_wp2_with fail
          have hz := st9 (W := V7) (HRS.out.1) (.int .i64 0) (.int .i64 0) (.int .i64 0) (.int .i64 0) (.int .i64 0) (.int .i64 0) (.int .i64 0) (.int .i64 0) (.slice none 0 0)
          have HZ := Lib.hid (And.intro hz.1 (Fr.ext (HRS.out.2) hz.2 (fun i e => by have e : i = rb := e; have := HRB.out; omega)))
          clear hz r0 q0 r1 q1 r2 q2 r3 q3 r4 q4 r5 q5 r6 q6 r7 q7 r8 q8
          generalize (((((((((V7.setCell ⟨rb, 0, none⟩ (.int .i64 0)).setCell ⟨rb, 1, none⟩ (.int .i64 0)).setCell ⟨rb, 2, none⟩ (.int .i64 0)).setCell ⟨rb, 3, none⟩ (.int .i64 0)).setCell ⟨rb, 4, none⟩ (.int .i64 0)).setCell ⟨rb, 5, none⟩ (.int .i64 0)).setCell ⟨rb, 6, none⟩ (.int .i64 0)).setCell ⟨rb, 7, none⟩ (.int .i64 0)).setCell ⟨rb, 8, none⟩ (.slice none 0 0)) = Z at *
          have z0 : Z.cell? ⟨rb, 0, none⟩ = some (.int .i64 0) := block_cell (HZ.out.1) 0
          have z1 : Z.cell? ⟨rb, 1, none⟩ = some (.int .i64 0) := block_cell (HZ.out.1) 1
          have z2 : Z.cell? ⟨rb, 2, none⟩ = some (.int .i64 0) := block_cell (HZ.out.1) 2
          have z3 : Z.cell? ⟨rb, 3, none⟩ = some (.int .i64 0) := block_cell (HZ.out.1) 3
          have z4 : Z.cell? ⟨rb, 4, none⟩ = some (.int .i64 0) := block_cell (HZ.out.1) 4
          have z5 : Z.cell? ⟨rb, 5, none⟩ = some (.int .i64 0) := block_cell (HZ.out.1) 5
          have z6 : Z.cell? ⟨rb, 6, none⟩ = some (.int .i64 0) := block_cell (HZ.out.1) 6
          have z7 : Z.cell? ⟨rb, 7, none⟩ = some (.int .i64 0) := block_cell (HZ.out.1) 7
          have z8 : Z.cell? ⟨rb, 8, none⟩ = some (.slice none 0 0) := block_cell (HZ.out.1) 8
          refine bodyPost_ret (v := .tuple #[.agg #[.int .i64 0, .int .i64 0, .int .i64 0, .int .i64 0, .int .i64 0, .int .i64 0, .int .i64 0, .int .i64 0, .slice none 0 0], .int .i64 3]) (by simp [results, Tryd.results44, go_sem, z0, z1, z2, z3, z4, z5, z6, z7, z8]) rfl ?_
          exact ⟨.inr ⟨HNO.out, by rw [HGE.out]; rfl⟩, HZ.out.2⟩
  · have HNO : Hid ((∀ (m : Ms) (es : List En), m.form es = true → l ≠ m.put es) ∧ getErr l = e0) := Lib.hid ⟨fun m es hf hle => h0 (HO.out.2.1.symm.trans (opened_put hle).1), by unfold getErr; rw [HO.out.2.1, if_neg h0]⟩
    have h0' : ¬ (e0 : Int) = 0 := by omega
    clear h0
    have r0 : w1.cell? ⟨rb, 0, none⟩ = some (.int .i64 0) := block_cell (HX1.out.2) 0
    have r1 : w1.cell? ⟨rb, 1, none⟩ = some (.int .i64 0) := block_cell (HX1.out.2) 1
    have r2 : w1.cell? ⟨rb, 2, none⟩ = some (.int .i64 0) := block_cell (HX1.out.2) 2
    have r3 : w1.cell? ⟨rb, 3, none⟩ = some (.int .i64 0) := block_cell (HX1.out.2) 3
    have r4 : w1.cell? ⟨rb, 4, none⟩ = some (.int .i64 0) := block_cell (HX1.out.2) 4
    have r5 : w1.cell? ⟨rb, 5, none⟩ = some (.int .i64 0) := block_cell (HX1.out.2) 5
    have r6 : w1.cell? ⟨rb, 6, none⟩ = some (.int .i64 0) := block_cell (HX1.out.2) 6
    have r7 : w1.cell? ⟨rb, 7, none⟩ = some (.int .i64 0) := block_cell (HX1.out.2) 7
    have r8 : w1.cell? ⟨rb, 8, none⟩ = some (.slice none 0 0) := block_cell (HX1.out.2) 8
    have q0 := block_fz (HX1.out.2) 0
    have q1 := block_fz (HX1.out.2) 1
    have q2 := block_fz (HX1.out.2) 2
    have q3 := block_fz (HX1.out.2) 3
    have q4 := block_fz (HX1.out.2) 4
    have q5 := block_fz (HX1.out.2) 5
    have q6 := block_fz (HX1.out.2) 6
    have q7 := block_fz (HX1.out.2) 7
    have q8 := block_fz (HX1.out.2) 8
    go_wp2_with fail
    have hz := st9 (W := w1) (HX1.out.2) (.int .i64 0) (.int .i64 0) (.int .i64 0) (.int .i64 0) (.int .i64 0) (.int .i64 0) (.int .i64 0) (.int .i64 0) (.slice none 0 0)
    have HZ := Lib.hid (And.intro hz.1 (Fr.ext (HX1.out.1) hz.2 (fun i e => by have e : i = rb := e; have := HRB.out; omega)))
    clear hz r0 q0 r1 q1 r2 q2 r3 q3 r4 q4 r5 q5 r6 q6 r7 q7 r8 q8
    generalize (((((((((w1.setCell ⟨rb, 0, none⟩ (.int .i64 0)).setCell ⟨rb, 1, none⟩ (.int .i64 0)).setCell ⟨rb, 2, none⟩ (.int .i64 0)).setCell ⟨rb, 3, none⟩ (.int .i64 0)).setCell ⟨rb, 4, none⟩ (.int .i64 0)).setCell ⟨rb, 5, none⟩ (.int .i64 0)).setCell ⟨rb, 6, none⟩ (.int .i64 0)).setCell ⟨rb, 7, none⟩ (.int .i64 0)).setCell ⟨rb, 8, none⟩ (.slice none 0 0)) = Z at *
    have z0 : Z.cell? ⟨rb, 0, none⟩ = some (.int .i64 0) := block_cell (HZ.out.1) 0
    have z1 : Z.cell? ⟨rb, 1, none⟩ = some (.int .i64 0) := block_cell (HZ.out.1) 1
    have z2 : Z.cell? ⟨rb, 2, none⟩ = some (.int .i64 0) := block_cell (HZ.out.1) 2
    have z3 : Z.cell? ⟨rb, 3, none⟩ = some (.int .i64 0) := block_cell (HZ.out.1) 3
    have z4 : Z.cell? ⟨rb, 4, none⟩ = some (.int .i64 0) := block_cell (HZ.out.1) 4
    have z5 : Z.cell? ⟨rb, 5, none⟩ = some (.int .i64 0) := block_cell (HZ.out.1) 5
    have z6 : Z.cell? ⟨rb, 6, none⟩ = some (.int .i64 0) := block_cell (HZ.out.1) 6
    have z7 : Z.cell? ⟨rb, 7, none⟩ = some (.int .i64 0) := block_cell (HZ.out.1) 7
    have z8 : Z.cell? ⟨rb, 8, none⟩ = some (.slice none 0 0) := block_cell (HZ.out.1) 8
    refine bodyPost_ret (v := .tuple #[.agg #[.int .i64 0, .int .i64 0, .int .i64 0, .int .i64 0, .int .i64 0, .int .i64 0, .int .i64 0, .int .i64 0, .slice none 0 0], .int .i64 (e0 : Int)]) (by simp [results, Tryd.results44, go_sem, z0, z1, z2, z3, z4, z5, z6, z7, z8]) rfl ?_
    exact ⟨.inr ⟨HNO.out.1, by rw [HNO.out.2]⟩, HZ.out.2⟩
end Go.Proofs.YteflnnlihblpgaaDoor
