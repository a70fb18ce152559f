/-
  Package queue: a queue with its blocks; New, Len, Push, Turn, Drop walked.
-/
import Derived.Test.YtocjbllkgbjihaaDoorQuHeap
namespace Go.Proofs.YtocjbllkgbjihaaDoor
set_option maxRecDepth 100000
open Go.RowKit Go.Maps
set_option linter.unusedVariables false
abbrev errQ (p : Addr) : Value := .iface 116 (.pointer (some p))
abbrev tQ : TypeId := 65
/-- A queue at block g, whose blocks are among F. -/
structure QP (w : World) (g : Nat) (F : Nat → Prop) (L : List Th) (Z : Nat) : Prop where
  ex : ∃ b A n c, TS w g b A n c L Z 65 ∧ F b ∧ ∀ a, A = some a → F a.block
  fg : F g
  lt : ∀ b, F b → b < w.heap.size
  hp : HeapN L L.length
  few : L.length ≤ 4096
/-- What a call leaves: the queue, its blocks; all else is as it was. -/
structure QN (w w' : World) (g : Nat) (F F' : Nat → Prop) (L' : List Th) (Z' : Nat) : Prop where
  qp : QP w' g F' L' Z'
  fr : Fr w w' F
  fo : ∀ b, F' b → F b ∨ w.heap.size ≤ b
section
variable {w w' : World} {g Z : Nat} {F : Nat → Prop} {L : List Th}
theorem QP.fr (h : QP w g F L Z) {P : Nat → Prop} (hf : Fr w w' P) (hne : ∀ b, F b → ¬ P b) : QP w' g F L Z := by
  obtain ⟨⟨b, A, n, c, h1, h2, h3⟩, h4, h5, h6, h7⟩ := h
  exact ⟨⟨b, A, n, c, h1.fr hf (hne _ h4) (hne _ h2) (fun a ha => hne _ (h3 a ha)), h2, h3⟩, h4, fun b hb => Nat.lt_of_lt_of_le (h5 b hb) hf.size, h6, h7⟩
theorem QP.ext (h : QP w g F L Z) (hx : Ext w w') : QP w' g F L Z := h.fr (Fr.of_ext hx (fun _ => False)) (fun _ _ h => h)
theorem QP.mono (h : QP w g F L Z) {Z' : Nat} (hz : Z ≤ Z') : QP w g F L Z' := by
  obtain ⟨⟨b, A, n, c, h1, h2, h3⟩, h4, h5, h6, h7⟩ := h
  exact ⟨⟨b, A, n, c, h1.mono hz, h2, h3⟩, h4, h5, h6, h7⟩
theorem QP.ids (h : QP w g F L Z) : Ids L := by
  obtain ⟨b, A, n, c, h1, _⟩ := h.ex
  obtain ⟨f, m, _, _, hix⟩ := h1.map
  refine List.pairwise_iff_getElem.2 fun i j hi hj hij e => ?_
  simp only [List.length_map] at hi hj
  simp only [List.getElem_map] at e
  have := hix.inj (List.getElem?_eq_getElem hi) (List.getElem?_eq_getElem hj) e
  omega
theorem QP.rng (h : QP w g F L Z) : ∀ x ∈ L, i64 x.id := by
  obtain ⟨b, A, n, c, h1, _⟩ := h.ex
  exact h1.rng
theorem QN.blk {F' : Nat → Prop} (h : QN w w' g F F' L Z) {b : Nat} {o : Obj} (hb : w.heap[b]? = some o) (hF : ¬ F b) : w'.heap[b]? = some o := (h.fr.block b (block_lt hb) hF).trans hb
theorem QN.out {F' : Nat → Prop} (h : QN w w' g F F' L Z) {b : Nat} (hb : b < w.heap.size) (hF : ¬ F b) : ¬ F' b := fun e => by rcases h.fo b e with h1 | h1; exact hF h1; omega
theorem QN.same (h : QP w g F L Z) (hx : Ext w w') : QN w w' g F F L Z := ⟨h.ext hx, Fr.of_ext hx F, fun b hb => .inl hb⟩
theorem QN.grow {w1 : World} {F' : Nat → Prop} (h : QN w w1 g F F' L Z) (hx : Ext w1 w') : QN w w' g F F' L Z := ⟨h.qp.ext hx, h.fr.trans (Fr.of_ext hx (fun _ => False)) (fun _ _ h => h.elim), h.fo⟩
theorem QN.mono {F' : Nat → Prop} (h : QN w w' g F F' L Z) {Z' : Nat} (hz : Z ≤ Z') : QN w w' g F F' L Z' := ⟨h.qp.mono hz, h.fr, h.fo⟩
/-- From things to a queue. -/
theorem qn_of {b : Nat} {A : Option Addr} {L' : List Th} {Z' : Nat} (h : QP w g F L Z) (hb : F b) (hA : ∀ a, A = some a → F a.block) (ht : TN w w' g b A L' Z' 65) (hh : HeapN L' L'.length) (hl : L'.length ≤ 4096) : ∃ F', QN w w' g F F' L' Z' := by
  obtain ⟨⟨A', n', c', h1, h2⟩, hf⟩ := ht
  refine ⟨fun k => F k ∨ A'.map (·.block) = some k, ⟨⟨b, A', n', c', h1, .inl hb, fun a ha => .inr (by rw [ha]; rfl)⟩, .inl h.fg, fun k hk => ?_, hh, hl⟩, hf.mono (fun k _ e => ?_), fun k hk => ?_⟩
  · rcases hk with hk | hk
    · exact Nat.lt_of_lt_of_le (h.lt k hk) hf.size
    · obtain ⟨a, ha, rfl⟩ := Option.map_eq_some_iff.1 hk
      exact h1.own.lt_at ha
  · rcases e with rfl | rfl | e
    · exact h.fg
    · exact hb
    · obtain ⟨a, ha, rfl⟩ := Option.map_eq_some_iff.1 e
      exact hA a ha
  · rcases hk with hk | hk
    · exact .inl hk
    · obtain ⟨a, ha, rfl⟩ := Option.map_eq_some_iff.1 hk
      rcases h2 a ha with e | e
      · obtain ⟨a2, ha2, e2⟩ := Option.map_eq_some_iff.1 e
        exact .inl (by rw [← e2]; exact hA a2 ha2)
      · exact .inr e
theorem tn_of {b : Nat} {A : Option Addr} {L' : List Th} {Z' n c : Nat} {ty : TypeId} (h1 : TS w' g b A n c L' Z' ty) (hf : Fr w w' (fun k => k = g ∨ k = b ∨ A.map (·.block) = some k)) : TN w w' g b A L' Z' ty := ⟨⟨A, n, c, h1, fun a ha => .inl (by rw [ha]; rfl)⟩, hf⟩
set_option maxHeartbeats 1600000 in
theorem qnew_any (w : World) : Calls Tryd.prog 9 #[] w fun e w' => ∃ g F, e = .returned (.pointer (some ⟨g, 0, none⟩)) ∧ QP w' g F [] 0 ∧ (∀ b, F b → w.heap.size ≤ b) ∧ Ext w w' := by
  have X1 := (Ext.refl w).alloc (.map #[] 0)
  have m0 := MapI.made Tryd.prog 3 w
  have X2 := X1.alloc (.cells #[.slice none 0 0, .map (some w.heap.size)] 65)
  have hg := heap_alloc_new (w.alloc (.map #[] 0)) (.cells #[.slice none 0 0, .map (some w.heap.size)] 65)
  have HE : Hid (QP ((w.alloc (.map #[] 0)).alloc (.cells #[.slice none 0 0, .map (some w.heap.size)] 65)) (w.alloc (.map #[] 0)).heap.size (fun k => k = w.heap.size ∨ k = (w.alloc (.map #[] 0)).heap.size) [] 0 ∧ Ext w ((w.alloc (.map #[] 0)).alloc (.cells #[.slice none 0 0, .map (some w.heap.size)] 65))) := by
    refine Lib.hid ⟨⟨⟨w.heap.size, none, 0, 0, ⟨hg, ⟨_, 0, m0.ext ((Ext.refl _).alloc _), Nat.le_refl _, Ix.nil_⟩, Own.nil_, fun x hx => (by cases hx), by simp, fun a ha => (by cases ha)⟩, .inl rfl, fun a ha => (by cases ha)⟩, .inr rfl, fun k hk => ?_, fun k h0 hk => (by simp at hk), by simp⟩, X2⟩
    simp only [World.size_alloc] at hk ⊢
    omega
  have hsz : (w.alloc (.map #[] 0)).heap.size = w.heap.size + 1 := World.size_alloc _ _
  have HZ := Lib.hid hsz
  have rm : (Instr.makeMap 61 none).run Tryd.prog w = .ok (.map (some w.heap.size)) (w.alloc (.map #[] 0)) := by kernel_rfl
  clear X1 m0 X2 hg hsz
  go_enter Tryd.func9, Tryd.ntmps9
  go_wp2_with fail
  go_returns
  refine ⟨w.heap.size + 1, _, rfl, by rw [← HZ.out]; exact HE.out.1, fun b hb => ?_, HE.out.2⟩
  have := HZ.out
  rcases hb with hb | hb <;> omega
set_option maxHeartbeats 800000 in
theorem qlen_any (h : QP w g F L Z) : Calls Tryd.prog 15 #[.pointer (some ⟨g, 0, none⟩)] w fun e w' => e = .returned (.int .i64 (L.length : Int)) ∧ w = w' := by
  obtain ⟨b, A, n, c, h1, _⟩ := h.ex
  rw [h1.len]
  have C1 := Lib.hid (tlen_any h1)
  clear h h1
  go_enter Tryd.func15, Tryd.ntmps15
  go_wp2_with (go_at_call 30; refine C1.out.mono ?_; rintro e w0 ⟨rfl, rfl⟩)
  go_returns
  exact ⟨rfl, rfl⟩
/-- The look-up of an id. -/
theorem QP.look (h : QP w g F L Z) {id : Int} (hid : i64 id) : ∃ b A n c f, TS w g b A n c L Z 65 ∧ F b ∧ (∀ a, A = some a → F a.block) ∧ Ix L f ∧ (Instr.lookup 61 (.map (some b)) (.int .i64 id) true).run Tryd.prog w = .ok (.tuple #[(f id).getD (.int .i64 0), .bool (f id).isSome]) w := by
  obtain ⟨b, A, n, c, h1, h2, h3⟩ := h.ex
  obtain ⟨f, m, h4, h5, h6⟩ := h1.map
  exact ⟨b, A, n, c, f, h1, h2, h3, h6, h4.at_ok Tryd.underlying61 Tryd.underlying3 (by kernel_rfl) hid⟩
set_option maxHeartbeats 1600000 in
theorem qpush_there (h : QP w g F L Z) {y : Th} (hy : y ∈ L) (rank : Int) {pt : Addr} (hE : Sen w 1 pt) :
    Calls Tryd.prog 10 #[.pointer (some ⟨g, 0, none⟩), .int .i64 y.id, .int .i64 rank] w fun e w' => e = .returned (.iface 116 (.pointer (some pt))) ∧ Ext w w' := by
  obtain ⟨b, A, n, c, f, h1, h2, h3, h4, h5⟩ := h.look (h.rng y hy)
  obtain ⟨k, hk⟩ := List.getElem?_of_mem hy
  rw [h4.here k y hk] at h5
  obtain ⟨c0, c1⟩ := h1.cells
  have s0 := hE.2.1
  generalize y.id = id at *
  clear h h1 h2 h3 h4 hk hy hE
  simp only [Option.getD_some, Option.isSome_some] at h5
  go_enter Tryd.func10, Tryd.ntmps10
  go_wp2_with fail
  go_returns
  exact ⟨rfl, Ext.refl w⟩
set_option maxHeartbeats 1600000 in
theorem qpush_full (h : QP w g F L Z) {id : Int} (hid : i64 id) (hnew : ∀ y ∈ L, y.id ≠ id) (hl : 4096 ≤ L.length) (rank : Int) {pf : Addr} (hE : Sen w 2 pf) :
    Calls Tryd.prog 10 #[.pointer (some ⟨g, 0, none⟩), .int .i64 id, .int .i64 rank] w fun e w' => e = .returned (.iface 116 (.pointer (some pf))) ∧ Ext w w' := by
  have C1 := Lib.hid (qlen_any h)
  obtain ⟨b, A, n, c, f, h1, h2, h3, h4, h5⟩ := h.look hid
  rw [h4.none_ hnew] at h5
  obtain ⟨c0, c1⟩ := h1.cells
  have s0 := hE.2.1
  have k0 : (4096 : Int) ≤ L.length := by omega
  clear h h1 h2 h3 h4 hnew hid hE
  simp only [Option.getD_none, Option.isSome_none] at h5
  go_enter Tryd.func10, Tryd.ntmps10
  go_wp2_with (go_at_call 15; refine C1.out.mono ?_; rintro e w0 ⟨rfl, rfl⟩)
  go_returns
  exact ⟨rfl, Ext.refl w⟩
set_option maxHeartbeats 1600000 in
theorem qpush_ok (h : QP w g F L Z) (x : Th) (hid : i64 x.id) (hnew : ∀ y ∈ L, y.id ≠ x.id) (hl : L.length < 4096) (hZ : Z < 4611686018427000000) :
    Calls Tryd.prog 10 #[.pointer (some ⟨g, 0, none⟩), .int .i64 x.id, .int .i64 x.rank] w fun e w' => e = .returned .nilIface ∧ ∃ F' L', QN w w' g F F' L' (Z + 20000) ∧ L'.Perm (x :: L) := by
  have C1 := Lib.hid (qlen_any h)
  obtain ⟨b, A, n, c, f, h1, h2, h3, h4, h5⟩ := h.look hid
  rw [h4.none_ hnew] at h5
  obtain ⟨c0, c1⟩ := h1.cells
  have hn := h1.len
  have C2 := Lib.hid (hpush_any h1 x hid hnew (by omega) (by omega))
  have k0 : ¬ (4096 : Int) ≤ L.length := by omega
  have HH := Lib.hid (And.intro h (And.intro h2 (And.intro h3 (And.intro hl hn))))
  clear h h1 h2 h3 h4 hnew hid hn
  simp only [Option.getD_none, Option.isSome_none] at h5
  go_enter Tryd.func10, Tryd.ntmps10
  go_wp2_with (first | (go_at_call 15; refine C1.out.mono ?_; rintro e w0 ⟨rfl, rfl⟩) | (go_at_call 26; refine C2.out.mono ?_; rintro e w1 ⟨rfl, t1⟩))
  go_returns
  have hp := push_perm L x
  have hh := push_heap HH.out.1.hp x
  rw [← pushL_eq HH.out.2.2.2.2] at hp hh
  have hlen := hp.length_eq
  simp only [List.length_cons] at hlen
  obtain ⟨F', hq⟩ := qn_of HH.out.1 HH.out.2.1 HH.out.2.2.1 t1 (by rw [hlen]; exact hh) (by have := HH.out.2.2.2.1; omega)
  exact ⟨rfl, F', _, hq.mono (by have := HH.out.2.2.2; omega), hp⟩
set_option maxHeartbeats 1600000 in
theorem qturn_gone (h : QP w g F L Z) {id : Int} (hid : i64 id) (hnew : ∀ y ∈ L, y.id ≠ id) (rank : Int) {pg : Addr} (hE : Sen w 0 pg) :
    Calls Tryd.prog 12 #[.pointer (some ⟨g, 0, none⟩), .int .i64 id, .int .i64 rank] w fun e w' => e = .returned (.iface 116 (.pointer (some pg))) ∧ Ext w w' := by
  obtain ⟨b, A, n, c, f, h1, h2, h3, h4, h5⟩ := h.look hid
  rw [h4.none_ hnew] at h5
  obtain ⟨c0, c1⟩ := h1.cells
  have s0 := hE.2.1
  clear h h1 h2 h3 h4 hnew hid hE
  simp only [Option.getD_none, Option.isSome_none] at h5
  go_enter Tryd.func12, Tryd.ntmps12
  go_wp2_with fail
  go_returns
  exact ⟨rfl, Ext.refl w⟩
set_option maxHeartbeats 1600000 in
theorem qdrop_gone (h : QP w g F L Z) {id : Int} (hid : i64 id) (hnew : ∀ y ∈ L, y.id ≠ id) {pg : Addr} (hE : Sen w 0 pg) :
    Calls Tryd.prog 11 #[.pointer (some ⟨g, 0, none⟩), .int .i64 id] w fun e w' => e = .returned (.iface 116 (.pointer (some pg))) ∧ Ext w w' := by
  obtain ⟨b, A, n, c, f, h1, h2, h3, h4, h5⟩ := h.look hid
  rw [h4.none_ hnew] at h5
  obtain ⟨c0, c1⟩ := h1.cells
  have s0 := hE.2.1
  clear h h1 h2 h3 h4 hnew hid hE
  simp only [Option.getD_none, Option.isSome_none] at h5
  go_enter Tryd.func11, Tryd.ntmps11
  go_wp2_with fail
  go_returns
  exact ⟨rfl, Ext.refl w⟩
set_option maxHeartbeats 1600000 in
theorem qdrop_ok (h : QP w g F L Z) {y : Th} (hy : y ∈ L) (hZ : Z < 4611686018427000000) :
    Calls Tryd.prog 11 #[.pointer (some ⟨g, 0, none⟩), .int .i64 y.id] w fun e w' => e = .returned .nilIface ∧ ∃ F' L', QN w w' g F F' L' (Z + 20000) ∧ (y :: L').Perm L := by
  obtain ⟨b, A, n, c, f, h1, h2, h3, h4, h5⟩ := h.look (h.rng y hy)
  obtain ⟨k, hk⟩ := List.getElem?_of_mem hy
  rw [h4.here k y hk] at h5
  obtain ⟨c0, c1⟩ := h1.cells
  have hn := h1.len
  have hkl := (List.getElem?_eq_some_iff.1 hk).1
  obtain ⟨m, rfl⟩ : ∃ m, n = m + 1 := ⟨n - 1, by omega⟩
  have hfew := h.few
  have C2 := Lib.hid (hrem_any h1 h.hp (i := k) (by omega) (by omega) (by omega))
  have sp := rem_spec hn (show k < L.length by omega) h.hp
  rw [← remL_eq hn (by omega), at_eq hk] at sp
  have HH := Lib.hid (And.intro h (And.intro h2 (And.intro h3 (And.intro sp (And.intro hfew hn)))))
  generalize hyd : y.id = id at *
  clear h h1 h2 h3 h4 hn hk hkl sp hfew hy
  simp only [Option.getD_some, Option.isSome_some] at h5
  go_enter Tryd.func11, Tryd.ntmps11
  go_wp2_with (go_at_call 27; refine C2.out.mono ?_; rintro e w1 ⟨⟨v, rfl⟩, t1, f1⟩)
  go_returns
  have sp := HH.out.2.2.2.1
  have hlen : ((remL L m k).take m).length = m := by rw [List.length_take, sp.1]; omega
  obtain ⟨F', hq⟩ := qn_of HH.out.1 HH.out.2.1 HH.out.2.2.1 (tn_of t1 f1) (by rw [hlen]; exact sp.2.2.2) (by have := HH.out.2.2.2.2; omega)
  exact ⟨rfl, F', _, hq.mono (by have := HH.out.2.2.2.2; omega), sp.2.2.1⟩
end
end Go.Proofs.YtocjbllkgbjihaaDoor
