/-
  Package wire: a Writer's Text and Bytes, spoilt or not, with all that they leave.
-/
import Derived.Test.YtelnnlfbfbbnaaaDoorRSpoilt
import Derived.Test.YtelnnlfbfbbnaaaDoorWrRef
namespace Go.Proofs.YtelnnlfbfbbnaaaDoor
open Go.RowKit
set_option linter.unusedVariables false
/-- append(own, string...): where the new slice lies. -/
theorem str_lies {P : Program} {w : World} {base : Nat} {t u ty e : TypeId} {i : TypeInfo} (ht : P.underlying t = some (.slice e)) (hu : P.underlying u = some .string) (hi : P.info? e = some i) (hz : i.zero = some (.int .u8 0))
    (hsize : i.size = 1) (hby : i.bytes = 1) {A : Option Addr} {n c : Nat} {xs : List Value} (hown : Own w base e 1 A n c xs) (s : ByteArray) (hb : n + s.size ≤ 1099511627776) {v' : Value} {w' : World}
    (hr : (Builtin.append_ #[t, u] ty #[.slice A n c, .string s]).run P w = .ok v' w') (hnil : v' = .slice none 0 0 ↔ Value.slice A n c = .slice none 0 0 ∧ s.size = 0) :
    ∃ A' c', v' = .slice A' (n + s.size) c' ∧ (A' = A ∨ A' = some ⟨w.heap.size, 0, none⟩) := by
  rcases hown.2 with ⟨h, rfl⟩ | ⟨g, cap, cur, h, hbg, hg, hnc, hcm, hcs, htake⟩
  · injection h with e1 _ e3
    subst e1; subst e3
    by_cases h0 : s.size = 0
    · rw [hnil.2 ⟨rfl, h0⟩]
      exact ⟨none, 0, by rw [h0], .inl rfl⟩
    · have := run_append_nil_string (P := P) w t u ty e i _ ht hu hi hz s (by omega) (by omega) (by rw [hby]; omega)
      rw [this] at hr
      injection hr with h1 _
      exact ⟨_, _, by rw [← h1, Nat.zero_add], .inr rfl⟩
  · injection h with e1 _ e3
    subst e1; subst e3
    by_cases hroom : n + s.size ≤ c
    · have := Lib.run_append_room_string (P := P) w t u ty e i ht hu hi hsize g n c cur hg s hroom (by rw [hcs]; omega)
      rw [this] at hr
      injection hr with h1 _
      exact ⟨_, _, h1.symm, .inl rfl⟩
    · have := Lib.run_append_grow_string (P := P) w t u ty e i _ ht hu hi hz ⟨g, 0, none⟩ n c xs (by rw [hsize]; exact hown.1) (World.ownsRow.cells hown (g := g) rfl) s (by omega) (by omega)
        (by rw [hby]; exact fits_mul (by omega) (by omega) (by omega))
      rw [this] at hr
      injection hr with h1 _
      exact ⟨_, _, h1.symm, .inr rfl⟩
/-- .. at the operation. -/
theorem wp_apps {P : Program} {w : World} {ops : Array Oper} {rest : List Oper} {o : Oper} {a : Act} {Q : Exit → Act → World → Prop} (hgd : o.guard = none) (sl x : Operand) (t u : TypeId)
    (ho : o.op = .call { callee := .builtin .append, args := #[sl, x], argTypes := #[t, u] })
    {base : Nat} {e : TypeId} {i : TypeInfo} (ht : P.underlying t = some (.slice e)) (hu : P.underlying u = some .string) (hi : P.info? e = some i) (hz : i.zero = some (.int .u8 0))
    (hsize : i.size = 1) (hby : i.bytes = 1)
    {A : Option Addr} {n c : Nat} {xs : List Value} (hown : Own w base e 1 A n c xs) (s : ByteArray) (hs : a.eval sl = .slice A n c) (hx : a.eval x = .string s)
    (hb : n + s.size ≤ 1099511627776) (hbase : base ≤ w.heap.size)
    (h : ∀ A' c' w', Own w' base e 1 A' (n + s.size) c' (xs ++ Lib.strCells s) → Grows w w' A → (A' = A ∨ A' = some ⟨w.heap.size, 0, none⟩) → wpList P ops Q rest (a.put o.dst (.slice A' (n + s.size) c')) w') : wpList P ops Q (o :: rest) a w := by
  refine wpList_plain hgd fun K hK => ?_
  obtain ⟨v', w', hr, h2, h3, h4⟩ := Lib.run_append_own_string (P := P) w base t u o.type e i ht hu hi hz hsize hby (.slice A n c) n xs hown s (by simp [maxLen]; omega) (by omega) hbase
  obtain ⟨A', c', rfl, hl⟩ := str_lies ht hu hi hz hsize hby hown s hb hr h4
  unfold Oper.wp execOp
  simp only [ho, resolve, invoke, builtin, Sem.run_bind, Sem.run_pure, Result.andThen_ok, List.map_toArray, List.map_cons, List.map_nil, hs, hx, hr]
  refine hK _ _ (h A' c' w' h2 ?_ hl)
  unfold Grows
  rw [← ownBlock_slice A n c]
  exact h3
/-- What two writes leave, one behind the other: the number's and the bytes'. -/
theorem wr_two {w w1 w2 : World} {g n c n1 c1 m c2 : Nat} {A A1 A2 : Option Addr} {bs bs1 bs2 : List Nat} {sp : Bool} (h : WrS w g A n c bs sp) (h1 : WrS w1 g A1 n1 c1 bs1 sp)
    (hf1 : Fr w w1 (fun b => b = g ∨ A.map (·.block) = some b)) (hA1 : ∀ a, A1 = some a → A.map (·.block) = some a.block ∨ w.heap.size ≤ a.block)
    (ho : Own w2 (g + 1) 5 1 A2 m c2 (u8s bs2)) (hg2 : Grows w1 w2 A1) (hA2 : A2 = A1 ∨ A2 = some ⟨w1.heap.size, 0, none⟩) :
    WrS (w2.setCell ⟨g, 0, none⟩ (.slice A2 m c2)) g A2 m c2 bs2 sp ∧ Fr w (w2.setCell ⟨g, 0, none⟩ (.slice A2 m c2)) (fun b => b = g ∨ A.map (·.block) = some b) ∧
    (∀ a, A2 = some a → A.map (·.block) = some a.block ∨ w.heap.size ≤ a.block) ∧ w2.cell? ⟨g, 0, none⟩ = some (.slice A1 n1 c1) ∧ w2.frozen? ⟨g, 0, none⟩ = false := by
  have glt := h1.lt
  have hk2 : w2.heap[g]? = w1.heap[g]? := hg2.block g glt (fun e => by
    have := h1.own.base_le g e.symm
    omega)
  have hb2 := hk2.trans h1.blk
  refine ⟨h1.put ho hk2, ?_, ?_, by rw [cell_of_row w2 g 0 _ _ _ hb2]; rfl, by simp only [World.frozen?, hb2]; simp⟩
  · refine (hf1.trans (Fr.grows hg2) (fun i hi hm => ?_)).trans (Fr.store w2 _ _) (fun i _ e => .inl e)
    obtain ⟨a, ha, hab⟩ := Option.map_eq_some_iff.1 hm
    rcases hA1 a ha with h | h
    · exact .inr (h.trans (by rw [hab]))
    · omega
  · intro a ea
    rcases hA2 with e | e
    · exact hA1 a (e.symm.trans ea)
    · rw [e] at ea
      injection ea with ea
      subst ea
      right
      exact hf1.size
set_option maxHeartbeats 800000 in
theorem gtext_any (l : List Nat) (w : World) {g n c : Nat} {A : Option Addr} {bs : List Nat} {sp : Bool} (h : WrS w g A n c bs sp) (hl : ∀ x ∈ l, x < 256) (hm : l.length ≤ 1048576) (hn : n ≤ 549755813888) :
    Calls Tryd.prog 16 #[.pointer (some ⟨g, 0, none⟩), .string (str l)] w (WrOut w g A (bs ++ (Wr.num l.length ++ l)) sp) := by
  have N1 := Lib.hid (wnum_any l.length w h (by omega) (by omega))
  obtain ⟨i0, hi0, hz0, hz1, hz2⟩ := info_parts infoU8
  have hsz := str_size l
  have hln := numlen9 (x := l.length) (by omega)
  have hbl := h.len
  have H0 := Lib.hid h
  have US := Lib.hid (u8s_str l hl)
  generalize hS : str l = s at *
  clear hS hl h
  go_enter Tryd.func16, Tryd.ntmps16
  go_wp2_with fail
  refine N1.out.mono ?_
  rintro e w1 ⟨rfl, A1, n1, c1, h1, hf1, hA1⟩
  have c0 := h1.c0
  have f0 := h1.fr 0
  have hl1 := h1.len
  rw [List.length_append] at hl1
  have hn1 : n1 ≤ n + 9 := by omega
  have glt := h1.lt
  have H1 := Lib.hid (And.intro h1 (And.intro hf1 hA1))
  clear hl1 N1 hf1 hA1 h1
  go_wp2_with (at_builtin; refine held ?_)
  refine Held.go (wp_apps rfl _ _ 26 9 rfl Tryd.underlying26 Tryd.underlying9 hi0 hz0 hz1 hz2 H1.out.1.own s rfl rfl (by omega) (by omega) ?_)
  intro A2 c2 w2 o2 g2 hA2
  rw [US.out, ← u8s_append, List.append_assoc] at o2
  obtain ⟨q1, q2, q3, d0, d1⟩ := wr_two H0.out H1.out.1 H1.out.2.1 H1.out.2.2 o2 g2 hA2
  have HF := Lib.hid (And.intro q1 (And.intro q2 q3))
  clear q1 q2 q3 o2 g2 hA2 c0 f0
  go_wp2_with fail
  go_returns
  rw [hsz] at HF
  exact ⟨rfl, A2, n1 + l.length, c2, HF.out.1, HF.out.2.1, HF.out.2.2⟩
set_option maxHeartbeats 800000 in
theorem gbytes_any (B : Option Addr) (m d : Nat) (l : List Nat) (w : World) {g n c : Nat} {A : Option Addr} {bs : List Nat} {sp : Bool} (h : WrS w g A n c bs sp) (hr : Rd w 1 B m (u8s l)) (hm : m ≤ 1048576) (hn : n ≤ 549755813888)
    (hB : ∀ b, B = some b → b.block ≠ g ∧ ∀ a, A = some a → a.block ≠ b.block) :
    Calls Tryd.prog 19 #[.pointer (some ⟨g, 0, none⟩), .slice B m d] w (WrOut w g A (bs ++ (Wr.num m ++ l)) sp) := by
  have N1 := Lib.hid (wnum_any m w h (by omega) (by omega))
  have hln := numlen9 (x := m) (by omega)
  have hbl := h.len
  have H0 := Lib.hid h
  have HR := Lib.hid (And.intro hr hB)
  clear h hr hB
  go_enter Tryd.func19, Tryd.ntmps19
  go_wp2_with fail
  refine N1.out.mono ?_
  rintro e w1 ⟨rfl, A1, n1, c1, h1, hf1, hA1⟩
  have hr1 := hf1.rd HR.out.1 (fun b hb hh => by
    rcases hh with hh | hh
    · exact (HR.out.2 b hb).1 hh
    · obtain ⟨a, ha, hab⟩ := Option.map_eq_some_iff.1 hh
      exact (HR.out.2 b hb).2 a ha hab)
  have c0 := h1.c0
  have f0 := h1.fr 0
  have hl1 := h1.len
  rw [List.length_append, hbl] at hl1
  have hn1 : n1 ≤ n + 9 := by omega
  have glt := h1.lt
  have H1 := Lib.hid (And.intro h1 (And.intro hf1 hA1))
  clear hl1 N1 hf1 hA1 h1
  go_wp2_with (at_builtin; refine held ?_)
  refine Held.go (wp_app (m := m) (news := u8s l) eltU8 H1.out.1.own hr1 (u8s_one _) (by omega) (.inr ⟨by omega, by omega⟩) (by omega) _ _ rfl rfl rfl rfl ?_)
  intro A2 c2 w2 o2 g2 hA2 _
  rw [← u8s_append, List.append_assoc] at o2
  obtain ⟨q1, q2, q3, d0, d1⟩ := wr_two H0.out H1.out.1 H1.out.2.1 H1.out.2.2 o2 g2 hA2
  have HF := Lib.hid (And.intro q1 (And.intro q2 q3))
  clear q1 q2 q3 o2 g2 hA2 c0 f0 hr1
  go_wp2_with fail
  go_returns
  exact ⟨rfl, A2, n1 + m, c2, HF.out.1, HF.out.2.1, HF.out.2.2⟩
end Go.Proofs.YtelnnlfbfbbnaaaDoor
